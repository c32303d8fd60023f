/- Merged from the working texts PwD PwDm. -/
import Derived.Test.YtkflegdaeienlaaGreatDoorKc03
import Derived.MapKept
set_option linter.all false
set_option maxHeartbeats 400000
set_option linter.unusedVariables false
set_option linter.unusedSimpArgs false
namespace Go.Pw
open Go.RowKit
section
variable {E : Env} {w0 : Base} {A0 : Nat → Prop} {σ : St} {a : Act} {w : World} {loc : Nat → Value} {o : Oper} {K : SV → Prop} {Q : Exit → Act → World → Prop}
theorem R.sl_inv {w : World} {A : Nat → Prop} {v : Value} {rows : List (List PV)} (h : R w A v (.sl rows)) : (rows = [] ∧ ∃ a c, v = .slice a 0 c ∧ (a = none → c = 0)) ∨
   ∃ (b o c sz : Nat) (f : Nat → Nat → Value), v = .slice (some ⟨b, o, none⟩) rows.length c ∧ 0 < rows.length ∧ 0 < sz ∧ rows.length ≤ c ∧ rows.length ≤ maxN ∧ ¬ A b ∧ (∀ r ∈ rows, r.length = sz) ∧
     (∀ i j, i < rows.length → j < sz → w.cell? ⟨b, o + (i * sz + j), none⟩ = some (f i j)) ∧ (∀ i j, i < rows.length → j < sz → (f i j).oneCell' = true) ∧
     (∀ i j r d, rows[i]? = some r → r[j]? = some d → R w A (f i j) d) := by
 cases h with
 | nilsl a c hc => exact .inl ⟨rfl, a, c, rfl, hc⟩
 | sl f hn h0 hsz hc hm hA hz hcell hone hr => subst hn; exact .inr ⟨_, _, _, _, f, rfl, h0, hsz, hc, hm, hA, hz, hcell, hone, hr⟩
theorem R.agg_inv {w : World} {A : Nat → Prop} {v : Value} {ds : List PV} (h : R w A v (.agg ds)) : ∃ cs : Array Value, v = .agg cs ∧ cs.size = ds.length ∧ (∀ j, j < cs.size → (cs.getD j undef).oneCell' = true) ∧ (∀ j d, ds[j]? = some d → R w A (cs.getD j undef) d) := by
 cases h with
 | agg hn h1 hr => exact ⟨_, rfl, hn, h1, hr⟩
theorem R.tup_inv {w : World} {A : Nat → Prop} {v : Value} {ds : List PV} (h : R w A v (.tup ds)) : ∃ cs : Array Value, v = .tuple cs ∧ cs.size = ds.length ∧ (∀ j d, ds[j]? = some d → R w A (cs.getD j undef) d) := by
 cases h with
 | tup hn hr => exact ⟨_, rfl, hn, hr⟩
theorem R.fn_inv {w : World} {A : Nat → Prop} {v : Value} {g : FuncId} {ds : List PV} (h : R w A v (.fn g ds)) : ∃ cs : Array Value, v = .func (.func g) #[] cs ∧ cs.size = ds.length ∧ (∀ j d, ds[j]? = some d → R w A (cs.getD j undef) d) := by
 cases h with
 | fn hn hr => exact ⟨_, rfl, hn, hr⟩
theorem R.e0_inv {w : World} {A : Nat → Prop} {v : Value} (h : R w A v .e0) : ∃ a, v = .slice a 0 0 := by
 cases h with
 | e0 a => exact ⟨a, rfl⟩
theorem R.one_cell {w : World} {A : Nat → Prop} {v : Value} {d : PV} (h : R w A v d) (h1 : d.one = true) : v.oneCell' = true := by
 cases h <;> simp_all [PV.one, Value.oneCell']
theorem RS.one_cell {w : World} {A : Nat → Prop} {v : Value} {x : SV} (h : RS w A loc v x) (h1 : x.one = true) : v.oneCell' = true := by
 cases h with
 | sh h => exact h.one_cell h1
 | mg => simp [SV.one] at h1
 | _ => rfl
theorem run_binI {P : Program} {op : BinOp} {T : Nat} {k : IntKind} {m n : Int} {K : Value → Prop} (hs : isShift op = false) (h : binP op k m n K) (w : World) : ∃ v, (binOp op T (.int k m) (.int k n)).run P w = .ok v w ∧ K v := by
 cases op <;> simp [isShift] at hs <;> simp only [binP] at h
 all_goals first
   | exact h.elim
   | exact ⟨_, by simp [binOp, Op.intDiv, h.1], h.2⟩
   | exact ⟨_, by simp only [binOp, ne_eq, not_true_eq_false, if_false]; rfl, h⟩
theorem run_binS {P : Program} {op : BinOp} {T : Nat} {k k' : IntKind} {m n : Int} {K : Value → Prop} (hs : isShift op = true) (h : binS op k m n K) (w : World) : ∃ v, (binOp op T (.int k m) (.int k' n)).run P w = .ok v w ∧ K v := by
 cases op <;> simp [isShift] at hs <;> simp only [binS] at h
 all_goals exact ⟨_, by simp [binOp, Op.shift, Int.not_lt.2 h.1], h.2⟩
theorem run_eqGuard_int {P : Program} {op : BinOp} {T : Nat} {x y : Operand} {k k' : IntKind} {m n : Int} (w : World) : (eqGuard op T x y (.int k m) (.int k' n)).run P w = .ok () w := by
 cases op <;> simp [eqGuard]
theorem run_eqGuard_bool {P : Program} {op : BinOp} {T : Nat} {x y : Operand} {m n : Bool} (w : World) : (eqGuard op T x y (.bool m) (.bool n)).run P w = .ok () w := by
 cases op <;> simp [eqGuard]
theorem und_bool {T : Nat} (h : (E.tt T).map (·.kind) = some .bo) : E.P.underlying T = some .bool := by
 obtain ⟨i, hi, hk⟩ := Option.map_eq_some_iff.1 h
 have := (E.ok T i hi).kind
 rw [hk] at this
 exact this
theorem run_eq_bool {P : Program} {T : Nat} (hT : P.underlying T = some .bool) (m n : Bool) (w : World) : (Op.equal T (.bool m) (.bool n)).run P w = .ok (m == n) w := by
 have h : ∀ d, (Op.equalIn (d + 1) T (.bool m) (.bool n)).run P w = .ok (m == n) w := fun d => by simp only [Op.equalIn, Sem.run_bind, run_underlying hT, Result.andThen_ok, Sem.run_pure]
 exact h 9999
theorem bin_sound (h : Inv E.gpv w0 A0 σ a w loc) {op : BinOp} {T T2 : Nat} {x y : Operand} (ho : o.op = .binOp op T x y T2) (hp : ppop E (.binOp op T x y T2) σ K) : Val E w0 A0 σ w loc o a K := by
 simp only [ppop] at hp
 have hx := ev_ok h x
 have hy := ev_ok h y
 split at hp
 · rename_i k m k' n ex ey
   rw [ex] at hx
   rw [ey] at hy
   have e1 := hx.val_eq
   have e2 := hy.val_eq
   split at hp
   · rename_i hs
     obtain ⟨v, hr, hK⟩ := run_binS (P := E.P) (T := T) (k' := k') hs hp w
     refine Val.run (v := v) ?_ (.sh (.val v)) hK
     simp only [execOp, ho, e1, e2, Sem.run_bind, run_eqGuard_int, Result.andThen_ok, hr, Sem.run_pure]
   · rename_i hs
     obtain ⟨rfl, hp⟩ := hp
     obtain ⟨v, hr, hK⟩ := run_binI (P := E.P) (T := T) (by simpa using hs) hp w
     refine Val.run (v := v) ?_ (.sh (.val v)) hK
     simp only [execOp, ho, e1, e2, Sem.run_bind, run_eqGuard_int, Result.andThen_ok, hr, Sem.run_pure]
 · rename_i m n ex ey
   rw [ex] at hx
   rw [ey] at hy
   have e1 := hx.val_eq
   have e2 := hy.val_eq
   obtain ⟨hT, hp⟩ := hp
   have hr := fun m n => run_eq_bool (und_bool hT) m n w
   split at hp
   · refine Val.run ?_ (.sh (.val _)) hp
     simp only [execOp, ho, e1, e2, Sem.run_bind, run_eqGuard_bool, Result.andThen_ok, binOp, hr, Sem.run_pure]
   · refine Val.run ?_ (.sh (.val _)) hp
     simp only [execOp, ho, e1, e2, Sem.run_bind, run_eqGuard_bool, Result.andThen_ok, binOp, hr, Sem.run_pure]
   · exact hp.elim
 · exact hp.elim
theorem un_sound (h : Inv E.gpv w0 A0 σ a w loc) {op : UnOp} {T : Nat} {x : Operand} (ho : o.op = .unOp op T x) (hp : ppop E (.unOp op T x) σ K) : Val E w0 A0 σ w loc o a K := by
 simp only [ppop] at hp
 have hx := ev_ok h x
 split at hp
 · rename_i b ex
   rw [ex] at hx
   have e1 := hx.val_eq
   exact Val.run (by simp [execOp, ho, e1, Op.unary]) (.sh (.val _)) hp
 · rename_i k n ex
   rw [ex] at hx
   have e1 := hx.val_eq
   exact Val.run (by simp [execOp, ho, e1, Op.unary, Op.intArith]) (.sh (.val _)) hp
 · exact hp.elim
theorem conv_sound (h : Inv E.gpv w0 A0 σ a w loc) {s d : Nat} {x : Operand} (ho : o.op = .convert s d x) (hp : ppop E (.convert s d x) σ K) : Val E w0 A0 σ w loc o a K := by
 simp only [ppop] at hp
 have hx := ev_ok h x
 split at hp
 · rename_i k n ex
   rw [ex] at hx
   have e1 := hx.val_eq
   obtain ⟨k', hd, hs, hK⟩ := hp
   obtain ⟨ds, hs⟩ := Option.isSome_iff_exists.1 hs
   refine Val.run ?_ (.sh (.val _)) hK
   simp only [execOp, ho, e1, Sem.run_bind, convert, run_underlying hs, run_underlying hd, Result.andThen_ok, Conv.intToInt, Sem.run_pure]
 · exact hp.elim
theorem pick_sound (h : Inv E.gpv w0 A0 σ a w loc) {c x y : Operand} (ho : o.op = .pick c x y) (hp : ppop E (.pick c x y) σ K) : Val E w0 A0 σ w loc o a K := by
 simp only [ppop] at hp
 have hc := ev_ok h c
 split at hp
 · rename_i t ec
   rw [ec] at hc
   have e1 := hc.val_eq
   cases t with
   | true => exact Val.run (by simp [execOp, ho, e1, asBool]) (ev_ok h x) (hp.1 rfl)
   | false => exact Val.run (by simp [execOp, ho, e1, asBool]) (ev_ok h y) (hp.2 rfl)
 · exact hp.elim
theorem nilCheck_sound (h : Inv E.gpv w0 A0 σ a w loc) {x : Operand} (ho : o.op = .nilCheck x) (hp : ppop E (.nilCheck x) σ K) : Val E w0 A0 σ w loc o a K := by
 simp only [ppop] at hp
 have hx := ev_ok h x
 split at hp
 · rename_i ex
   rw [ex] at hx
   obtain ⟨b, _, hv⟩ := hx.bp_eq
   exact Val.run (v := a.eval x) (by simp [execOp, ho, hv]) hx hp
 · rename_i ex
   rw [ex] at hx
   obtain ⟨b, _, _, _, hv⟩ := hx.rp_eq
   exact Val.run (v := a.eval x) (by simp [execOp, ho, hv]) hx hp
 · rename_i ex
   rw [ex] at hx
   obtain ⟨b, _, _, hv, _⟩ := hx.sh_inv.ea_inv
   exact Val.run (v := a.eval x) (by simp [execOp, ho, hv]) hx hp
 · rename_i ex
   rw [ex] at hx
   obtain ⟨cs, hv, _⟩ := hx.sh_inv.fn_inv
   exact Val.run (v := a.eval x) (by simp [execOp, ho, hv]) hx hp
 · exact hp.elim
theorem extract_sound (h : Inv E.gpv w0 A0 σ a w loc) {x : Operand} {j : Nat} (ho : o.op = .extract x j) (hp : ppop E (.extract x j) σ K) : Val E w0 A0 σ w loc o a K := by
 simp only [ppop] at hp
 have hx := ev_ok h x
 split at hp
 · rename_i vs ex
   rw [ex] at hx
   obtain ⟨cs, hv, hn, hr⟩ := hx.sh_inv.tup_inv
   split at hp
   · rename_i d hd
     have hlt : j < cs.size := by rw [hn]; exact (List.getElem?_eq_some_iff.1 hd).1
     refine Val.run (v := cs.getD j undef) ?_ (.sh (hr j d hd)) hp
     simp [execOp, ho, hv, Instr.extract, Array.getElem?_eq_getElem hlt, Array.getD, hlt]
   · exact hp.elim
 · exact hp.elim
theorem struct_field {T : Nat} {i : TI} (hi : E.tt T = some i) {fs : List (Nat × Nat)} (hk : i.kind = .st fs) {f off ft : Nat} (hf : fs[f]? = some (off, ft)) :
   ∃ (F : Array Field) (fd : Field), E.P.underlying T = some (.struct F) ∧ F[f]? = some fd ∧ fd.offset = off ∧ fd.type = ft := by
 have := (E.ok T i hi).kind
 rw [hk] at this
 obtain ⟨F, hF, hm⟩ := this
 rw [← hm, List.getElem?_map] at hf
 obtain ⟨fd, hfd, he⟩ := Option.map_eq_some_iff.1 hf
 injection he with h1 h2
 exact ⟨F, fd, hF, by simpa using hfd, h1, h2⟩
theorem run_fieldAt {T : Nat} {i : TI} (hi : E.tt T = some i) {fs : List (Nat × Nat)} (hk : i.kind = .st fs) {f off ft : Nat} (hf : fs[f]? = some (off, ft)) (hft : (E.tt ft).isSome = true) (p : Addr) (w : World) :
   (Instr.fieldAt T (.pointer (some p)) f).run E.P w = .ok (.pointer (some (p.add off))) w := by
 obtain ⟨F, fd, hF, hfd, rfl, rfl⟩ := struct_field hi hk hf
 obtain ⟨j, hj⟩ := Option.isSome_iff_exists.1 hft
 have tk := E.ok _ _ hj
 have hz : j.size ≠ 0 := by have := tk.pos; omega
 simp only [Instr.fieldAt, Sem.run_bind, run_underlying hF, Result.andThen_ok, hfd, Instr.sureAddr, Sem.run_pure, fieldPlace, tk.run_sizeOf, hz, if_false]
theorem add_mk (b o j : Nat) : (⟨b, o, none⟩ : Addr).add j = ⟨b, o + j, none⟩ := by unfold Addr.add; split <;> simp_all
theorem R.ea_drop {w : World} {A : Nat → Prop} {b off : Nat} {ds : List PV} (h : R w A (.pointer (some ⟨b, off, none⟩)) (.ea ds)) {n : Nat} (hn : n < ds.length) : R w A (.pointer (some ⟨b, off + n, none⟩)) (.ea (ds.drop n)) := by
 obtain ⟨b', o', f, hv, h0, hA, hc, h1, hr⟩ := h.ea_inv
 injection hv with hv; injection hv with hv; injection hv with e1 e2; subst e1; subst e2
 refine .ea (fun j => f (n + j)) (by simp; omega) hA (fun j hj => ?_) (fun j hj => ?_) (fun j d hd => ?_)
 · rw [Nat.add_assoc]; exact hc _ (by simp at hj; omega)
 · exact h1 _ (by simp at hj; omega)
 · rw [List.getElem?_drop] at hd; exact hr _ _ hd
theorem fieldAddr_sound (h : Inv E.gpv w0 A0 σ a w loc) {T : Nat} {x : Operand} {f : Nat} (ho : o.op = .fieldAddr T x f) (hp : ppop E (.fieldAddr T x f) σ K) : Val E w0 A0 σ w loc o a K := by
 simp only [ppop] at hp
 have hx := ev_ok h x
 split at hp
 · rename_i i hi
   split at hp
   · rename_i fs hk
     split at hp
     · rename_i off ft hf
       obtain ⟨hft, hp⟩ := hp
       have hrun := fun p => run_fieldAt (E := E) hi hk hf hft p w
       split at hp
       · rename_i k o1 ex
         rw [ex] at hx
         obtain ⟨b, hl, hv⟩ := hx.bp_eq
         exact Val.run (v := .pointer (some ⟨b, o1 + off, none⟩)) (by simp only [execOp, ho, hv, Sem.run_bind, hrun, Result.andThen_ok, Sem.run_pure, add_mk]) (.bp hl) hp
       · rename_i k sz n j ex
         rw [ex] at hx
         obtain ⟨b, n1, c1, hl, hv⟩ := hx.rp_eq
         exact Val.run (v := .pointer (some ⟨b, n * sz + (j + off), none⟩)) (by simp only [execOp, ho, hv, Sem.run_bind, hrun, Result.andThen_ok, Sem.run_pure, add_mk, Nat.add_assoc]) (.rp hl) hp
       · rename_i ds ex
         rw [ex] at hx
         obtain ⟨b, o1, _, hv, _⟩ := hx.sh_inv.ea_inv
         obtain ⟨hlt, hK⟩ := hp
         have hx' := hx.sh_inv
         rw [hv] at hx'
         exact Val.run (v := .pointer (some ⟨b, o1 + off, none⟩)) (by simp only [execOp, ho, hv, Sem.run_bind, hrun, Result.andThen_ok, Sem.run_pure, add_mk]) (.sh (hx'.ea_drop hlt)) hK
       · exact hp.elim
     · exact hp.elim
   · exact hp.elim
 · exact hp.elim
theorem elem_of {P : Program} {T e : Nat} (h : P.underlying T = some (.slice e)) : P.elem T = e := by simp [Program.elem, h]
theorem elem_arr {P : Program} {T n e : Nat} (h : P.underlying T = some (.array n e)) : P.elem T = e ∧ P.arrayLen T = n := by simp [Program.elem, Program.arrayLen, h]
theorem run_indexAt_sl {T e : Nat} {i ie : TI} (hi : E.tt T = some i) (hk : i.kind = .sl e) (he : E.tt e = some ie) (b off len c : Nat) (k : IntKind) (n : Int) (h0 : 0 ≤ n) (h1 : n.toNat < len) (w : World) :
   (Instr.indexAt T (.slice (some ⟨b, off, none⟩) len c) (.int k n)).run E.P w = .ok (.pointer (some ⟨b, off + n.toNat * ie.size, none⟩)) w := by
 have hu := (E.ok T i hi).kind
 rw [hk] at hu
 have hel := elem_of hu
 rw [run_indexAt_slice (P := E.P) w T ⟨b, off, none⟩ len c k n (by rw [hel]; exact hu), if_pos ⟨h0, by omega⟩, hel, (E.ok e ie he).run_sizeOf]
 simp only [Result.andThen_ok, add_mk]
theorem run_indexAt_ar {T n e : Nat} {i ie : TI} (hi : E.tt T = some i) (hk : i.kind = .ar n e) (he : E.tt e = some ie) (b off : Nat) (k : IntKind) (m : Int) (h0 : 0 ≤ m) (h1 : m < (n : Int)) (w : World) :
   (Instr.indexAt T (.pointer (some ⟨b, off, none⟩)) (.int k m)).run E.P w = .ok (.pointer (some ⟨b, off + m.toNat * ie.size, none⟩)) w := by
 have hu := (E.ok T i hi).kind
 rw [hk] at hu
 obtain ⟨hel, hle⟩ := elem_arr hu
 rw [run_indexAt_array (P := E.P) w T ⟨b, off, none⟩ k m (by rw [hel, hle]; exact hu), hle, if_pos ⟨h0, h1⟩, hel, (E.ok e ie he).run_sizeOf]
 simp only [Result.andThen_ok, add_mk]
theorem R.elem {w : World} {A : Nat → Prop} {b off c sz : Nat} {rows : List (List PV)} {f : Nat → Nat → Value} (hsz : 0 < sz) (hA : ¬ A b) (hz : ∀ r ∈ rows, r.length = sz)
   (hcell : ∀ i j, i < rows.length → j < sz → w.cell? ⟨b, off + (i * sz + j), none⟩ = some (f i j)) (hone : ∀ i j, i < rows.length → j < sz → (f i j).oneCell' = true)
   (hr : ∀ i j r d, rows[i]? = some r → r[j]? = some d → R w A (f i j) d) {n : Nat} {r : List PV} (hn : rows[n]? = some r) : R w A (.pointer (some ⟨b, off + n * sz, none⟩)) (.ea r) := by
 have hlt := (List.getElem?_eq_some_iff.1 hn).1
 have hl := hz r (List.mem_of_getElem? hn)
 exact .ea (fun j => f n j) (by omega) hA (fun j hj => by rw [Nat.add_assoc]; exact hcell n j hlt (by omega)) (fun j hj => hone n j hlt (by omega)) (fun j d hd => hr n j r d hn hd)
theorem indexAddr_sound (h : Inv E.gpv w0 A0 σ a w loc) {T : Nat} {x ix : Operand} (ho : o.op = .indexAddr T x ix) (hp : ppop E (.indexAddr T x ix) σ K) : Val E w0 A0 σ w loc o a K := by
 simp only [ppop] at hp
 have hx := ev_ok h x
 have hix := ev_ok h ix
 split at hp
 · rename_i i hi
   split at hp
   · rename_i k n en
     rw [en] at hix
     have e2 := hix.val_eq
     split at hp
     · rename_i e hk
       split at hp
       · rename_i ie hie
         split at hp
         · rename_i rows ex
           rw [ex] at hx
           obtain ⟨h0, r, hr, hl, hK⟩ := hp
           rcases hx.sh_inv.sl_inv with ⟨rfl, _⟩ | ⟨b, off, c, sz, f, hv, hpos, hsz, hc, hm, hA, hz, hcell, hone, hrr⟩
           · simp at hr
           · have hlt := (List.getElem?_eq_some_iff.1 hr).1
             have hs : sz = ie.size := by rw [← hl]; exact (hz r (List.mem_of_getElem? hr)).symm
             subst hs
             refine Val.run (v := .pointer (some ⟨b, off + n.toNat * ie.size, none⟩)) ?_ (.sh (R.elem (c := c) hsz hA hz hcell hone hrr hr)) hK
             simp only [execOp, ho, hv, e2, Sem.run_bind, run_indexAt_sl hi hk hie _ _ _ _ _ _ h0 hlt, Result.andThen_ok, Sem.run_pure]
         · rename_i kr ex
           rw [ex] at hx
           obtain ⟨a1, n1, c1, hl, hv⟩ := hx.row_eq
           split at hp
           · rename_i e' sz rows hob
             obtain ⟨h0, hlt, rfl, hK⟩ := hp
             obtain ⟨xs, hz, hown, hsz, hm, h1, hr⟩ := rw_inv (h.iO kr _ hob)
             rcases hown.2 with ⟨hv', hn0⟩ | ⟨g, cap, cur, hv', hB, hh, hc, hm', hs, ht⟩
             · omega
             · rw [hl] at hv'
               injection hv' with q1 q2 q3
               subst q1; subst q2
               refine Val.run (v := .pointer (some ⟨g, n.toNat * ie.size + 0, none⟩)) ?_ (.rp hl) hK
               simp only [execOp, ho, hv, e2, Sem.run_bind, run_indexAt_sl hi hk hie _ _ _ _ _ _ h0 hlt, Result.andThen_ok, Sem.run_pure, Nat.zero_add, Nat.add_zero]
           · exact hp.elim
         · rename_i kr sz i0 m0 ex
           rw [ex] at hx
           obtain ⟨b, m1, c1, c2, hl, hv, hcc⟩ := hx.sub_eq
           obtain ⟨h0, hlt, rfl, hK⟩ := hp
           refine Val.run (v := .pointer (some ⟨b, (i0 + n.toNat) * ie.size + 0, none⟩)) ?_ (.rp hl) hK
           simp only [execOp, ho, hv, e2, Sem.run_bind, run_indexAt_sl hi hk hie _ _ _ _ _ _ h0 hlt, Result.andThen_ok, Sem.run_pure, Nat.add_zero, Nat.add_mul]
         · exact hp.elim
       · exact hp.elim
     · rename_i len e hk
       split at hp
       · rename_i ie hie
         obtain ⟨h0, h1, hp⟩ := hp
         split at hp
         · rename_i kb off ex
           rw [ex] at hx
           obtain ⟨b, hl, hv⟩ := hx.bp_eq
           refine Val.run (v := .pointer (some ⟨b, off + n.toNat * ie.size, none⟩)) ?_ (.bp hl) hp
           simp only [execOp, ho, hv, e2, Sem.run_bind, run_indexAt_ar hi hk hie _ _ _ _ h0 h1, Result.andThen_ok, Sem.run_pure]
         · rename_i ds ex
           rw [ex] at hx
           obtain ⟨b, off, _, hv, _⟩ := hx.sh_inv.ea_inv
           obtain ⟨hlt, hK⟩ := hp
           have hx' := hx.sh_inv
           rw [hv] at hx'
           refine Val.run (v := .pointer (some ⟨b, off + n.toNat * ie.size, none⟩)) ?_ (.sh (hx'.ea_drop hlt)) hK
           simp only [execOp, ho, hv, e2, Sem.run_bind, run_indexAt_ar hi hk hie _ _ _ _ h0 h1, Result.andThen_ok, Sem.run_pure]
         · exact hp.elim
       · exact hp.elim
     · exact hp.elim
   · exact hp.elim
 · exact hp.elim
theorem run_part {T : Nat} {i : TI} (tk : TOk E.P T i) (cs : Array Value) (off : Nat) (hle : off + i.size ≤ cs.size) (w : World) :
   (part T cs off).run E.P w = .ok (if i.kind.agg then .agg (cs.extract off (off + i.size)) else cs.getD off undef) w := by
 have hp := tk.pos
 have hlt : off < cs.size := by omega
 simp only [part, Sem.run_bind, tk.run_isAgg, Result.andThen_ok]
 split
 · simp only [Sem.run_bind, tk.run_sizeOf, Result.andThen_ok, Sem.run_pure]
 · simp [Array.getElem?_eq_getElem hlt, Array.getD, hlt]
theorem index_sound (h : Inv E.gpv w0 A0 σ a w loc) {T : Nat} {x ix : Operand} (ho : o.op = .index T x ix) (hp : ppop E (.index T x ix) σ K) : Val E w0 A0 σ w loc o a K := by
 simp only [ppop] at hp
 have hx := ev_ok h x
 have hix := ev_ok h ix
 split at hp
 · rename_i i hi
   split at hp
   · rename_i k n len e ds en hk ex
     rw [en] at hix
     have e2 := hix.val_eq
     rw [ex] at hx
     obtain ⟨cs, hv, hn, h1, hr⟩ := hx.sh_inv.agg_inv
     split at hp
     · rename_i ie hie
       obtain ⟨h0, hlen, hle, hp⟩ := hp
       have tk := E.ok e ie hie
       have hu := (E.ok T i hi).kind
       rw [hk] at hu
       have hrun : (execOp a.eval o).run E.P w = .ok (.value (if ie.kind.agg then .agg (cs.extract (n.toNat * ie.size) (n.toNat * ie.size + ie.size)) else cs.getD (n.toNat * ie.size) undef)) w := by
         simp only [execOp, ho, hv, e2, Sem.run_bind, Instr.index, asIntOf, run_underlying hu, Result.andThen_ok, Sem.run_pure]
         rw [if_pos ⟨h0, hlen⟩]
         simp only [Sem.run_bind, tk.run_sizeOf, Result.andThen_ok, run_part tk cs (n.toNat * ie.size) (by omega)]
       split at hp
       · rename_i hag
         rw [if_pos hag] at hrun
         refine Val.run hrun (.sh (.agg (by simp; omega) (fun j hj => ?_) (fun j d hd => ?_))) hp
         · have hj' : j < ie.size := by simp at hj; omega
           have hq : n.toNat * ie.size + j < cs.size := by omega
           have := h1 (n.toNat * ie.size + j) hq
           simpa [Array.getD, hq, hj', show j < min (n.toNat * ie.size + ie.size) cs.size - n.toNat * ie.size by omega] using this
         · rw [List.getElem?_take] at hd
           split at hd
           · rename_i hj'
             rw [List.getElem?_drop] at hd
             have hq : n.toNat * ie.size + j < cs.size := by omega
             have := hr _ _ hd
             simpa [Array.getD, hq, hj', show j < min (n.toNat * ie.size + ie.size) cs.size - n.toNat * ie.size by omega] using this
           · cases hd
       · rename_i hag
         rw [if_neg hag] at hrun
         split at hp
         · rename_i d hd
           exact Val.run hrun (.sh (hr _ _ hd)) hp
         · exact hp.elim
     · exact hp.elim
   · rename_i k n s en hk ex
     obtain ⟨hT, h0, b, hb, hK⟩ := hp
     rw [en] at hix
     rw [ex] at hx
     refine Val.run (v := .int .u8 b.toNat) ?_ (.sh (.val _)) hK
     simp only [execOp, ho, hx.val_eq, hix.val_eq, Sem.run_bind, Instr.index, asIntOf, run_underlying hT, Result.andThen_ok, Sem.run_pure, if_pos h0, hb]
   · exact hp.elim
 · exact hp.elim
theorem part_reads {A : Nat → Prop} {j : TI} {cs : Array Value} {ds : List PV} {off : Nat} (hn : cs.size = ds.length) (h1 : ∀ q, q < cs.size → (cs.getD q undef).oneCell' = true) (hr : ∀ q d, ds[q]? = some d → R w A (cs.getD q undef) d) (hle : off + j.size ≤ ds.length) :
   R w A (.agg (cs.extract off (off + j.size))) (.agg ((ds.drop off).take j.size)) := by
 refine .agg (by simp; omega) (fun q hj => ?_) (fun q d hd => ?_)
 · have hj' : q < j.size := by simp at hj; omega
   have hq : off + q < cs.size := by omega
   have := h1 (off + q) hq
   simpa [Array.getD, hq, hj', show q < min (off + j.size) cs.size - off by omega] using this
 · rw [List.getElem?_take] at hd
   split at hd
   · rename_i hj'
     rw [List.getElem?_drop] at hd
     have hq : off + q < cs.size := by omega
     have := hr _ _ hd
     simpa [Array.getD, hq, hj', show q < min (off + j.size) cs.size - off by omega] using this
   · cases hd
theorem field_sound (h : Inv E.gpv w0 A0 σ a w loc) {T : Nat} {x : Operand} {f : Nat} (ho : o.op = .field T x f) (hp : ppop E (.field T x f) σ K) : Val E w0 A0 σ w loc o a K := by
 simp only [ppop] at hp
 have hx := ev_ok h x
 split at hp
 · rename_i i hi
   split at hp
   · rename_i fs hk
     split at hp
     · rename_i off ft hf
       split at hp
       · rename_i j hj
         have tk := E.ok ft j hj
         obtain ⟨F, fd, hF, hfd, rfl, rfl⟩ := struct_field hi hk hf
         have hpos := tk.pos
         have hrun : ∀ cs : Array Value, a.eval x = .agg cs → fd.offset + j.size ≤ cs.size → (execOp a.eval o).run E.P w = .ok (.value (if j.kind.agg then .agg (cs.extract fd.offset (fd.offset + j.size)) else cs.getD fd.offset undef)) w := fun cs hv hle => by
           simp only [execOp, ho, hv, Sem.run_bind, Instr.field, run_underlying hF, Result.andThen_ok, hfd, asAgg, Sem.run_pure, run_part tk cs fd.offset hle]
         split at hp
         · rename_i ds ex
           rw [ex] at hx
           obtain ⟨cs, hv, hn, h1, hr⟩ := hx.sh_inv.agg_inv
           obtain ⟨hle, hp⟩ := hp
           have hrun := hrun cs hv (by omega)
           split at hp
           · rename_i hag
             rw [if_pos hag] at hrun
             exact Val.run hrun (.sh (part_reads hn h1 hr hle)) hp
           · rename_i hag
             rw [if_neg hag] at hrun
             split at hp
             · rename_i d hd
               exact Val.run hrun (.sh (hr _ _ hd)) hp
             · exact hp.elim
         · rename_i pre k ex
           rw [ex] at hx
           obtain ⟨b, cs, hl, hv, hn, hlast, h1, hr⟩ := hx.mg_eq
           obtain ⟨hag, hs1, hp⟩ := hp
           have hag' : ¬ j.kind.agg = true := by simp [hag]
           split at hp
           · rename_i he
             have hrun := hrun cs hv (by omega)
             rw [if_neg hag', he, hlast] at hrun
             exact Val.run hrun (.mr hl) hp
           · rename_i he
             split at hp
             · rename_i d hd
               have hlt := (List.getElem?_eq_some_iff.1 hd).1
               have hrun := hrun cs hv (by omega)
               rw [if_neg hag'] at hrun
               exact Val.run hrun (.sh (hr _ _ hd)) hp
             · exact hp.elim
         · exact hp.elim
       · exact hp.elim
     · exact hp.elim
   · exact hp.elim
 · exact hp.elim
end
end Go.Pw
set_option linter.unusedVariables false
set_option linter.unusedSimpArgs false
namespace Go.Pw
open Go.RowKit Go.MapKept
section
variable {E : Env} {w0 : Base} {A0 : Nat → Prop} {σ : St} {a : Act} {w : World} {loc : Nat → Value} {o : Oper} {K : SV → Prop} {Q : Exit → Act → World → Prop}
structure MapIs (w : World) (A : Nat → Prop) (b : Nat) (ds : List (ByteArray × PV)) (es : Array MapEntry) (clock : Nat) (es' : List MapEntry) : Prop where
 hg : w.heap[b]? = some (.map es clock)
 hp : es.toList.Perm es'
 hn : es'.length = ds.length
 hd : (ds.map (·.1)).Nodup
 hb : (es.toList.map (·.born)).Nodup
 hc : ∀ x ∈ es.toList, x.born < clock
 hk : ∀ (j : Nat) (e : MapEntry) (k : ByteArray) (d : PV), es'[j]? = some e → ds[j]? = some (k, d) → e.key = .string k
 hr : ∀ (j : Nat) (e : MapEntry) (k : ByteArray) (d : PV), es'[j]? = some e → ds[j]? = some (k, d) → R w A e.val d
theorem mapOf_is (h : Inv E.gpv w0 A0 σ a w loc) {v : Value} {x : SV} (hx : RS w (fun b => A0 b ∨ act σ loc b) loc v x) {ds : List (ByteArray × PV)} (hm : mapOf σ x = some ds) :
   ∃ b es clock es', v = .map (some b) ∧ MapIs w (fun b => A0 b ∨ act σ loc b) b ds es clock es' := by
 unfold mapOf at hm
 split at hm
 · injection hm with hm; subst hm
   obtain ⟨b, clock, es, es', rfl, hA, h1, h2, h3, h4, h5, h6, h7, h8⟩ := hx.sh_inv.mp_inv
   exact ⟨b, es, clock, es', rfl, h1, h2, h3, h4, h5, h6, h7, h8⟩
 · rename_i k
   split at hm
   · rename_i ds' hob
     injection hm with hm; subst hm
     obtain ⟨b, hl, rfl⟩ := hx.mr_eq
     obtain ⟨b', clock, es, es', hv, h1, h2, h3, h4, h5, h6, h7, h8⟩ := mp_inv (h.iO k _ hob)
     rw [hl] at hv
     injection hv with hv; injection hv with hv
     subst hv
     exact ⟨b, es, clock, es', rfl, h1, h2, h3, h4, h5, h6, h7, h8⟩
   · cases hm
 · cases hm
theorem MapIs.keys {A : Nat → Prop} {b : Nat} {ds : List (ByteArray × PV)} {es : Array MapEntry} {clock : Nat} {es' : List MapEntry} (m : MapIs w A b ds es clock es') {e : MapEntry} (he : e ∈ es.toList) :
   ∃ (j : Nat) (k : ByteArray) (d : PV), es'[j]? = some e ∧ ds[j]? = some (k, d) ∧ e.key = .string k ∧ R w A e.val d := by
 obtain ⟨j, hj⟩ := List.mem_iff_getElem?.1 (m.hp.mem_iff.1 he)
 have hlt : j < ds.length := by rw [← m.hn]; exact (List.getElem?_eq_some_iff.1 hj).1
 have hd : ds[j]? = some (ds[j].1, ds[j].2) := List.getElem?_eq_getElem hlt
 exact ⟨j, _, _, hj, hd, m.hk _ _ _ _ hj hd, m.hr _ _ _ _ hj hd⟩
theorem mget_mem {z : PV} {s : ByteArray} : ∀ {ds : List (ByteArray × PV)} {j : Nat} {d : PV}, (ds.map (·.1)).Nodup → ds[j]? = some (s, d) → mget z s ds = d
 | [], j, d, _, h => by simp at h
 | (k, x) :: ds, 0, d, _, h => by simp at h; obtain ⟨rfl, rfl⟩ := h; simp [mget]
 | (k, x) :: ds, j + 1, d, hn, h => by
   simp only [List.map_cons, List.nodup_cons] at hn
   have hm : (s, d) ∈ ds := List.mem_of_getElem? (by simpa using h)
   have hne : k ≠ s := fun e => hn.1 (by rw [e]; exact List.mem_map.2 ⟨_, hm, rfl⟩)
   simp only [mget, if_neg hne]
   exact mget_mem hn.2 (by simpa using h)
theorem mget_none {z : PV} {s : ByteArray} : ∀ {ds : List (ByteArray × PV)}, (∀ p ∈ ds, p.1 ≠ s) → mget z s ds = z
 | [], _ => rfl
 | (k, x) :: ds, h => by
   simp only [mget, if_neg (h (k, x) (by simp))]
   exact mget_none (fun p hp => h p (by simp [hp]))
theorem zeroPV_R {A : Nat → Prop} {t : Nat} {i : TI} (tk : TOk E.P t i) (h2 : 2 ≤ i.size) (w : World) : ∃ z, (zeroValue t).run E.P w = .ok z w ∧ R w A z (zeroPV i) := by
 obtain ⟨z, hz, hc⟩ := tk.run_zero w
 refine ⟨z, hz, ?_⟩
 have hl : z.cells.size = i.size := by rw [← tk.zsz, ← hc]; simp
 have hz1 : ∃ cs, z = .agg cs := by
   cases z with
   | agg cs => exact ⟨cs, rfl⟩
   | _ => simp [Value.cells] at hl; omega
 obtain ⟨cs, rfl⟩ := hz1
 simp only [Value.cells] at hc hl
 refine .agg (by rw [List.length_map, ← hc]; simp) (fun j hj => ?_) (fun j d hd => ?_)
 · have : cs[j] ∈ i.zero := by rw [← hc]; simp
   simpa [Array.getD, hj] using List.all_eq_true.1 tk.zone _ this
 · rw [List.getElem?_map] at hd
   obtain ⟨u, hu, rfl⟩ := Option.map_eq_some_iff.1 hd
   rw [← hc, Array.getElem?_toList] at hu
   rw [getD_of_getElem? hu]
   exact .val u
theorem lookup_sound (h : Inv E.gpv w0 A0 σ a w loc) {T : Nat} {x ix : Operand} {c : Bool} (ho : o.op = .lookup T x ix c) (hp : ppop E (.lookup T x ix c) σ K) : Val E w0 A0 σ w loc o a K := by
 simp only [ppop] at hp
 obtain ⟨rfl, kt, et, ie, hT, hkt, het, h2s, hp⟩ := hp
 split at hp
 · rename_i ds s hm ei
   have hx := ev_ok h x
   have hix := ev_ok h ix
   rw [ei] at hix
   obtain ⟨b, es, clock, es', hv, m⟩ := mapOf_is h hx hm
   obtain ⟨z, hz, hzR⟩ := zeroPV_R (A := fun b => A0 b ∨ act σ loc b) (E.ok et ie het) h2s w
   have hks : ∀ e ∈ es.toList, IsKey .string e.key := fun e he => by obtain ⟨j, k, d, _, _, h3, _⟩ := m.keys he; rw [h3]; trivial
   have hk : IsKey .string (.string s) := trivial
   rcases findNow_spec hk es.toList 0 hks with ⟨h1, h2⟩ | ⟨j, e, h1, h2, h3⟩
   · refine Val.run (v := z) ?_ (.sh ?_) hp
     · simp [execOp, ho, hv, hix.val_eq, Sem.run_bind, Instr.lookup, run_underlying hT, Go.MapKept.run_getObj_map m.hg, Result.andThen, run_checkKey hkt hk, run_findKey hkt h1, hz]
     · rw [mget_none]
       · exact hzR
       · intro p hp he
         obtain ⟨j, hj⟩ := List.mem_iff_getElem?.1 hp
         have hlt : j < es'.length := by rw [m.hn]; exact (List.getElem?_eq_some_iff.1 hj).1
         have := m.hk j es'[j] p.1 p.2 (List.getElem?_eq_getElem hlt) hj
         exact h2 es'[j] (m.hp.mem_iff.2 (List.getElem_mem _)) (by rw [this, he])
   · refine Val.run (v := e.val) ?_ (.sh ?_) hp
     · simp [execOp, ho, hv, hix.val_eq, Sem.run_bind, Instr.lookup, run_underlying hT, Go.MapKept.run_getObj_map m.hg, Result.andThen, run_checkKey hkt hk, run_findKey hkt h1]
     · obtain ⟨q, k, d, h4, h5, h6, h7⟩ := m.keys (List.mem_of_getElem? h2)
       rw [h3] at h6
       injection h6 with h6
       subst h6
       rw [mget_mem m.hd h5]
       exact h7
 · exact hp.elim
end
end Go.Pw
