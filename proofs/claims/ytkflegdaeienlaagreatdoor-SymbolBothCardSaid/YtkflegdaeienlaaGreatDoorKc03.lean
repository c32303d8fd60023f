/- Merged from the working texts PwC. -/
import Derived.Test.YtkflegdaeienlaaGreatDoorKc02
set_option linter.all false
set_option maxHeartbeats 400000
set_option linter.unusedVariables false
set_option linter.unusedSimpArgs false
namespace Go.Pw
open Go.RowKit
section types
variable {P : Program} {t : Nat} {i : TI} (h : TOk P t i) (w : World)
include h
theorem TOk.info : ∃ I, P.info? t = some I ∧ I.size = i.size ∧ I.bytes = i.bytes := by
 have h1 := h.size
 have h2 := h.bytes
 cases hq : P.info? t with
 | none => simp [hq] at h1
 | some I => exact ⟨I, rfl, by simpa [hq] using h1, by simpa [hq] using h2⟩
theorem TOk.run_sizeOf : (sizeOf t).run P w = .ok i.size w := by
 obtain ⟨I, hI, hs, _⟩ := h.info
 simp [sizeOf, typeInfo, hI, hs]
theorem TOk.und : ∃ d, P.underlying t = some d ∧ (match d with | .struct _ | .array _ _ => true | _ => false) = i.kind.agg := by
 have hk := h.kind
 cases e : i.kind with
 | sl e' => rw [e] at hk; exact ⟨_, hk, rfl⟩
 | ar n e' => rw [e] at hk; exact ⟨_, hk, rfl⟩
 | st fs => rw [e] at hk; obtain ⟨F, hF, _⟩ := hk; exact ⟨_, hF, rfl⟩
 | bo => rw [e] at hk; exact ⟨_, hk, rfl⟩
 | ot =>
   rw [e] at hk
   obtain ⟨d, hd, hb⟩ := Option.map_eq_some_iff.1 hk
   refine ⟨d, hd, ?_⟩
   cases d <;> simp_all [TK.agg]
theorem TOk.run_isAgg : (isAgg t).run P w = .ok i.kind.agg w := by
 obtain ⟨d, hd, hb⟩ := h.und
 rw [← hb]
 simp only [isAgg, Sem.run_bind, run_underlying hd, Result.andThen_ok]
 cases d <;> rfl
theorem TOk.run_zero : ∃ z, (zeroValue t).run P w = .ok z w ∧ z.cells.toList = i.zero := by
 have h1 := h.zero
 cases hq : P.info? t with
 | none => simp [hq] at h1
 | some I =>
   simp only [hq, Option.bind_some] at h1
   obtain ⟨z, hz, hc⟩ := Option.map_eq_some_iff.1 h1
   exact ⟨z, by simp [zeroValue, typeInfo, hq, hz], hc⟩
theorem TOk.run_loadVar_agg (hk : i.kind.agg = true) (b o : Nat) (f : Nat → Value) (hc : ∀ j, j < i.size → w.cell? ⟨b, o + j, none⟩ = some (f j)) :
   (loadVar t ⟨b, o, none⟩).run P w = .ok (.agg ((List.range i.size).map f).toArray) w := by
 have hadd : ∀ j, (⟨b, o, none⟩ : Addr).add j = ⟨b, o + j, none⟩ := fun j => by unfold Addr.add; split <;> simp_all
 simp only [loadVar, Sem.run_bind, h.run_isAgg, Result.andThen_ok, hk, if_true, h.run_sizeOf]
 rw [run_loadCells w _ _ f (fun j hj => by rw [hadd]; exact hc j hj)]
 rfl
theorem TOk.run_loadVar_one (hk : i.kind.agg = false) (a : Addr) (v : Value) (hc : w.cell? a = some v) : (loadVar t a).run P w = .ok v w := by
 simp only [loadVar, Sem.run_bind, h.run_isAgg, Result.andThen_ok, hk, Bool.false_eq_true, if_false, run_load, hc]
end types
section
variable {E : Env} {w0 : Base} {A0 : Nat → Prop} {σ : St} {a : Act} {w : World} {loc : Nat → Value}
theorem wp_of_run {P : Program} {o : Oper} {a : Act} {w w' : World} {v : Value} {next : Act → World → Prop} {Q : Exit → Act → World → Prop}
   (h : (execOp a.eval o).run P w = .ok (.value v) w') (hk : next (a.put o.dst v) w') : o.wp P a w next Q := by
 unfold Oper.wp; rw [h]; exact hk
theorem ev_ok (h : Inv E.gpv w0 A0 σ a w loc) (x : Operand) : RS w (fun b => A0 b ∨ act σ loc b) loc (a.eval x) (σ.ev E x) := by
 cases x with
 | tmp t => exact h.iS t
 | const v =>
   cases v
   case agg cs =>
     simp only [St.ev, constSV, Act.eval]
     split
     · rename_i hc
       refine .sh (.agg (by simp) (fun j hj => ?_) (fun j d hd => ?_))
       · have := Array.all_eq_true.1 hc j hj
         simpa [Array.getD, hj] using this
       · simp only [List.getElem?_map, Option.map_eq_some_iff] at hd
         obtain ⟨v, hv, rfl⟩ := hd
         have : cs[j]? = some v := by simpa using hv
         rw [Array.getD_eq_getD_getElem?, this]
         exact .val v
     · exact .sh (.any _)
   all_goals exact .sh (.val _)
 | global g => exact .sh (h.iG g)
 | func f => exact .sh (.fn rfl (fun j d hd => by simp at hd))
theorem RS.val_eq {w : World} {A : Nat → Prop} {v x : Value} (h : RS w A loc v (.sh (.val x))) : v = x := by
 cases h with
 | sh h => cases h; rfl
theorem RS.bp_eq {w : World} {A : Nat → Prop} {v : Value} {k off : Nat} (h : RS w A loc v (.bp k off)) : ∃ b, loc k = .pointer (some ⟨b, 0, none⟩) ∧ v = .pointer (some ⟨b, off, none⟩) := by
 cases h with
 | bp h => exact ⟨_, h, rfl⟩
theorem RS.rp_eq {w : World} {A : Nat → Prop} {v : Value} {k sz i j : Nat} (h : RS w A loc v (.rp k sz i j)) : ∃ b n c, loc k = .slice (some ⟨b, 0, none⟩) n c ∧ v = .pointer (some ⟨b, i * sz + j, none⟩) := by
 cases h with
 | rp h => exact ⟨_, _, _, h, rfl⟩
theorem RS.row_eq {w : World} {A : Nat → Prop} {v : Value} {k : Nat} (h : RS w A loc v (.row k)) : ∃ a n c, loc k = .slice a n c ∧ v = .slice a n c := by
 cases h with
 | row h => exact ⟨_, _, _, h, rfl⟩
theorem RS.sub_eq {w : World} {A : Nat → Prop} {v : Value} {k sz i n : Nat} (h : RS w A loc v (.sub k sz i n)) : ∃ b m c c', loc k = .slice (some ⟨b, 0, none⟩) m c ∧ v = .slice (some ⟨b, i * sz, none⟩) n c' ∧ n ≤ c' := by
 cases h with
 | sub h hn => exact ⟨_, _, _, _, h, rfl, hn⟩
theorem RS.mr_eq {w : World} {A : Nat → Prop} {v : Value} {k : Nat} (h : RS w A loc v (.mr k)) : ∃ b, loc k = .map (some b) ∧ v = .map (some b) := by
 cases h with
 | mr h => exact ⟨_, h, rfl⟩
theorem RS.mg_eq {w : World} {A : Nat → Prop} {v : Value} {pre : List PV} {k : Nat} (h : RS w A loc v (.mg pre k)) : ∃ (b : Nat) (cs : Array Value), loc k = .map (some b) ∧ v = .agg cs ∧ cs.size = pre.length + 1 ∧ cs.getD pre.length undef = .map (some b) ∧
   (∀ j, j < cs.size → (cs.getD j undef).oneCell' = true) ∧ (∀ j d, pre[j]? = some d → R w A (cs.getD j undef) d) := by
 cases h with
 | mg h hn hl h1 hr => exact ⟨_, _, h, rfl, hn, hl, h1, hr⟩
theorem RS.sh_inv {w : World} {A : Nat → Prop} {v : Value} {d : PV} (h : RS w A loc v (.sh d)) : R w A v d := by
 cases h with
 | sh h => exact h
theorem RS.ofSh {w : World} {A : Nat → Prop} {v : Value} {x : SV} (h : RS w A loc v x) (hs : x.isSh = true) : R w A v x.unsh := by
 cases h with
 | sh h => exact h
 | _ => simp [SV.isSh] at hs
theorem R.ea_inv {w : World} {A : Nat → Prop} {v : Value} {ds : List PV} (h : R w A v (.ea ds)) : ∃ (b o : Nat) (f : Nat → Value), v = .pointer (some ⟨b, o, none⟩) ∧ 0 < ds.length ∧ ¬ A b ∧
   (∀ j, j < ds.length → w.cell? ⟨b, o + j, none⟩ = some (f j)) ∧ (∀ j, j < ds.length → (f j).oneCell' = true) ∧ (∀ j d, ds[j]? = some d → R w A (f j) d) := by
 cases h with
 | ea f h0 hA hc h1 hr => exact ⟨_, _, f, rfl, h0, hA, hc, h1, hr⟩
theorem getD_of_getElem? {α : Type} {xs : Array α} {j : Nat} {x d : α} (h : xs[j]? = some x) : xs.getD j d = x := by
 rw [Array.getD_eq_getD_getElem?, h]; rfl
theorem R.agg_of {w : World} {A : Nat → Prop} {n : Nat} {f : Nat → Value} {ds : List PV} (hn : ds.length = n) (h1 : ∀ j, j < n → (f j).oneCell' = true) (hr : ∀ j d, ds[j]? = some d → R w A (f j) d) :
   R w A (.agg ((List.range n).map f).toArray) (.agg ds) := by
 refine .agg (by simp [hn]) (fun j hj => ?_) (fun j d hd => ?_)
 · have hj' : j < n := by simpa using hj
   simp [Array.getD, hj', h1 j hj']
 · have hj' : j < n := by rw [← hn]; exact (List.getElem?_eq_some_iff.1 hd).1
   simpa [Array.getD, hj'] using hr j d hd
theorem cell_of_heap {w : World} {b : Nat} {xs : Array Value} {e : TypeId} {fr : Nat × Nat} (hg : w.heap[b]? = some (.cells xs e fr)) {j : Nat} (hj : j < xs.size) : w.cell? ⟨b, j, none⟩ = some (xs.getD j undef) := by
 simp [World.cell?, hg, hj, Array.getD]
def Gives (E : Env) (w0 : Base) (A0 : Nat → Prop) (σ : St) (w : World) (loc : Nat → Value) (o : Oper) (a : Act) (K : SV → Prop) (Q : Exit → Act → World → Prop) : Prop :=
 ∀ next : Act → World → Prop, (∀ x v w', K x → RS w' (fun b => A0 b ∨ act σ loc b) loc v x → Below w.heap.size w w' → next (a.put o.dst v) w') → o.wp E.P a w next Q
def Val (E : Env) (w0 : Base) (A0 : Nat → Prop) (σ : St) (w : World) (loc : Nat → Value) (o : Oper) (a : Act) (K : SV → Prop) : Prop :=
 ∃ v x, (execOp a.eval o).run E.P w = .ok (.value v) w ∧ RS w (fun b => A0 b ∨ act σ loc b) loc v x ∧ K x
theorem Val.run {o : Oper} {K : SV → Prop} {v : Value} {x : SV} (hr : (execOp a.eval o).run E.P w = .ok (.value v) w) (hx : RS w (fun b => A0 b ∨ act σ loc b) loc v x) (hK : K x) : Val E w0 A0 σ w loc o a K := ⟨v, x, hr, hx, hK⟩
theorem Val.gives {o : Oper} {K : SV → Prop} {Q : Exit → Act → World → Prop} (h : Val E w0 A0 σ w loc o a K) : Gives E w0 A0 σ w loc o a K Q := fun next hn => by
 obtain ⟨v, x, hr, hx, hK⟩ := h
 exact wp_of_run hr (hn x v w hK hx (Below.refl _ _))
theorem Gives.run {o : Oper} {K : SV → Prop} {Q : Exit → Act → World → Prop} {v : Value} {x : SV} (hr : (execOp a.eval o).run E.P w = .ok (.value v) w) (hx : RS w (fun b => A0 b ∨ act σ loc b) loc v x) (hK : K x) :
   Gives E w0 A0 σ w loc o a K Q := fun next hn => wp_of_run hr (hn x v w hK hx (Below.refl _ _))
theorem run_load_of {o : Oper} {T : Nat} {x : Operand} (ho : o.op = .load T x) {p : Addr} (hx : a.eval x = .pointer (some p)) {v : Value} (h : (loadVar T p).run E.P w = .ok v w) :
   (execOp a.eval o).run E.P w = .ok (.value v) w := by
 simp only [execOp, ho, Instr.loadAt, hx, Instr.sureAddr, Sem.run_bind, Sem.run_pure, Result.andThen_ok, h]
theorem box_inv {B : Nat} {v : Value} {cs : List SV} {A : Nat → Prop} (h : ObAt w A loc B v (.box cs)) : ∃ b e xs, v = .pointer (some ⟨b, 0, none⟩) ∧ w.heap[b]? = some (.cells xs e (0, 0)) ∧ xs.size = cs.length ∧
   (∀ j, j < xs.size → (xs.getD j undef).oneCell' = true) ∧ (∀ j x, cs[j]? = some x → RS w A loc (xs.getD j undef) x) := by
 cases h with
 | box hg hn h1 hr => exact ⟨_, _, _, rfl, hg, hn, h1, hr⟩
theorem rw_inv {B : Nat} {v : Value} {e sz : Nat} {rows : List (List SV)} {A : Nat → Prop} (h : ObAt w A loc B v (.rw e sz rows)) : ∃ xs : List Value, (∀ r ∈ rows, r.length = sz) ∧ w.ownsRow B e sz v rows.length xs ∧ 0 < sz ∧ rows.length ≤ maxN ∧
   (∀ x ∈ xs, x.oneCell' = true) ∧ (∀ i j r x, rows[i]? = some r → r[j]? = some x → RS w A loc (xs.getD (i * sz + j) undef) x) := by
 cases h with
 | rw xs hz hown hsz hm h1 hr => exact ⟨xs, hz, hown, hsz, hm, h1, hr⟩
theorem mp_inv {B : Nat} {v : Value} {ds : List (ByteArray × PV)} {A : Nat → Prop} (h : ObAt w A loc B v (.mp ds)) : ∃ (b clock : Nat) (es : Array MapEntry) (es' : List MapEntry), v = .map (some b) ∧ w.heap[b]? = some (.map es clock) ∧ es.toList.Perm es' ∧ es'.length = ds.length ∧
   (ds.map (·.1)).Nodup ∧ (es.toList.map (·.born)).Nodup ∧ (∀ x ∈ es.toList, x.born < clock) ∧ (∀ (j : Nat) (e : MapEntry) (k : ByteArray) (d : PV), es'[j]? = some e → ds[j]? = some (k, d) → e.key = .string k) ∧ (∀ (j : Nat) (e : MapEntry) (k : ByteArray) (d : PV), es'[j]? = some e → ds[j]? = some (k, d) → R w A e.val d) := by
 cases h with
 | mp es' hg hp hn hd hb hc hk hr => exact ⟨_, _, _, es', rfl, hg, hp, hn, hd, hb, hc, hk, hr⟩
theorem it_inv {B : Nat} {v : Value} {cur : Option (ByteArray × PV)} {rem : List (ByteArray × PV)} {A : Nat → Prop} (h : ObAt w A loc B v (.it cur rem)) : ∃ (b m clock : Nat) (seen : Array Nat) (es : Array MapEntry) (rem' : List MapEntry), v = .pointer (some ⟨b, 0, none⟩) ∧ w.heap[b]? = some (.mapIter (some m) clock seen clock) ∧ ¬ A m ∧
   w.heap[m]? = some (.map es clock) ∧ (es.toList.map (·.born)).Nodup ∧ (∀ x ∈ es.toList, x.born < clock) ∧ (es.toList.filter fun e => !seen.contains e.born).Perm rem' ∧ rem'.length = rem.length ∧
   (∀ (j : Nat) (e : MapEntry) (k : ByteArray) (d : PV), rem'[j]? = some e → rem[j]? = some (k, d) → e.key = .string k) ∧ (∀ (j : Nat) (e : MapEntry) (k : ByteArray) (d : PV), rem'[j]? = some e → rem[j]? = some (k, d) → R w A e.val d) ∧
   (∀ k d, cur = some (k, d) → ∃ (seen' : Array Nat) (e : MapEntry), seen = seen'.push e.born ∧ e ∈ es.toList ∧ e.key = .string k ∧ R w A e.val d) := by
 cases h with
 | it rem' hg hA hm hb hc hp hn hk hr hcur => exact ⟨_, _, _, _, _, rem', rfl, hg, hA, hm, hb, hc, hp, hn, hk, hr, hcur⟩
theorem R.mp_inv {w : World} {A : Nat → Prop} {v : Value} {ds : List (ByteArray × PV)} (h : R w A v (.mp ds)) : ∃ (b clock : Nat) (es : Array MapEntry) (es' : List MapEntry), v = .map (some b) ∧ ¬ A b ∧ w.heap[b]? = some (.map es clock) ∧ es.toList.Perm es' ∧ es'.length = ds.length ∧
   (ds.map (·.1)).Nodup ∧ (es.toList.map (·.born)).Nodup ∧ (∀ x ∈ es.toList, x.born < clock) ∧ (∀ (j : Nat) (e : MapEntry) (k : ByteArray) (d : PV), es'[j]? = some e → ds[j]? = some (k, d) → e.key = .string k) ∧ (∀ (j : Nat) (e : MapEntry) (k : ByteArray) (d : PV), es'[j]? = some e → ds[j]? = some (k, d) → R w A e.val d) := by
 cases h with
 | mp es' hA hg hp hn hd hb hc hk hr => exact ⟨_, _, _, es', rfl, hA, hg, hp, hn, hd, hb, hc, hk, hr⟩
theorem idx_lt {i j n sz : Nat} (hi : i < n) (hj : j < sz) : i * sz + j < n * sz := by
 have : (i + 1) * sz ≤ n * sz := Nat.mul_le_mul_right _ hi
 rw [Nat.add_mul] at this
 omega
theorem ownsRow_cell {B e sz n : Nat} {v : Value} {xs : List Value} {b m c : Nat} (h : w.ownsRow B e sz v n xs) (hv : v = .slice (some ⟨b, 0, none⟩) m c) {j : Nat} (hj : j < n * sz) :
   w.cell? ⟨b, j, none⟩ = some (xs.getD j undef) ∧ xs.getD j undef ∈ xs := by
 obtain ⟨hl, h2⟩ := h
 have hjx : j < xs.length := by omega
 have hmem : xs.getD j undef ∈ xs := by simp [List.getD, List.getElem?_eq_getElem hjx]
 refine ⟨?_, hmem⟩
 rcases h2 with ⟨hv', _⟩ | ⟨g, cap, cur, hv', hB, hh, hc, hm, hs, ht⟩
 · rw [hv] at hv'; cases hv'
 · rw [hv] at hv'
   injection hv' with e1 e2 e3
   injection e1 with e1
   injection e1 with e1
   subst e1
   have hjc : j < cur.size := by
     have : n * sz ≤ cap * sz := Nat.mul_le_mul_right _ hc
     omega
   rw [cell_of_heap hh hjc]
   congr 1
   rw [← ht]
   simp [List.getD, Array.getD, hjc, List.getElem?_take, hj, Array.getElem?_toList]
theorem aggSV_reads {A : Nat → Prop} {n : Nat} {f : Nat → Value} {cs : List SV} {x : SV} (hx : aggSV cs = some x) (hn : cs.length = n) (h1 : ∀ j, j < n → (f j).oneCell' = true) (hr : ∀ j y, cs[j]? = some y → RS w A loc (f j) y) :
   RS w A loc (.agg ((List.range n).map f).toArray) x := by
 unfold aggSV at hx
 split at hx
 · rename_i hsh
   injection hx with hx; subst hx
   refine .sh (R.agg_of (by simpa using hn) h1 (fun j d hd => ?_))
   rw [List.getElem?_map] at hd
   obtain ⟨y, hy, rfl⟩ := Option.map_eq_some_iff.1 hd
   exact (hr _ _ hy).ofSh (List.all_eq_true.1 hsh y (List.mem_of_getElem? hy))
 · split at hx
   · rename_i k hlast
     split at hx
     · rename_i hsh
       injection hx with hx; subst hx
       have hne : cs ≠ [] := fun e => by rw [e] at hlast; cases hlast
       have hl : cs.dropLast.length + 1 = cs.length := by
         have := List.length_pos_iff.2 hne
         simp; omega
       have hlt : cs[cs.dropLast.length]? = some (.mr k) := by
         rw [List.getLast?_eq_getElem?] at hlast
         rw [← hlast]; congr 1; omega
       obtain ⟨b, hb, hv⟩ := (hr _ _ hlt).mr_eq
       have hget : ∀ j, j < n → ((List.range n).map f).toArray.getD j undef = f j := fun j hj => by simp [Array.getD, hj]
       have hsz : cs.dropLast.length < n := by omega
       refine .mg hb (by simp only [List.length_map, List.size_toArray, List.length_range]; omega) ?_ (fun j hj => ?_) (fun j d hd => ?_)
       · rw [List.length_map, hget _ hsz]; exact hv
       · have hj' : j < n := by simpa using hj
         rw [hget _ hj']; exact h1 j hj'
       · rw [List.getElem?_map] at hd
         obtain ⟨y, hy, rfl⟩ := Option.map_eq_some_iff.1 hd
         have hjl := (List.getElem?_eq_some_iff.1 hy).1
         rw [hget _ (by omega)]
         have hy' : cs[j]? = some y := by
           rw [List.getElem?_dropLast] at hy
           split at hy
           · exact hy
           · cases hy
         exact (hr j y hy').ofSh (List.all_eq_true.1 hsh y (List.mem_of_getElem? hy))
     · cases hx
   · cases hx
theorem load_core (h : Inv E.gpv w0 A0 σ a w loc) {T : Nat} {x : Operand} {K : SV → Prop} (hp : ppop E (.load T x) σ K) :
   ∃ (p : Addr) (v : Value) (y : SV), a.eval x = .pointer (some p) ∧ (loadVar T p).run E.P w = .ok v w ∧ RS w (fun b => A0 b ∨ act σ loc b) loc v y ∧ K y := by
 simp only [ppop] at hp
 split at hp
 · rename_i i hi
   have tk := E.ok T i hi
   have hx := ev_ok h x
   split at hp
   ·
     rename_i k off he
     rw [he] at hx
     obtain ⟨b, hl, hv⟩ := hx.bp_eq
     split at hp
     · rename_i cs hob
       obtain ⟨b', e, xs, hv', hg, hn, h1, hr⟩ := box_inv (h.iO k _ hob)
       rw [hl] at hv'
       cases hv'
       split at hp
       · rename_i hag
         obtain ⟨hle, hp⟩ := hp
         split at hp
         · rename_i x hx
           refine ⟨_, _, _, hv, (tk.run_loadVar_agg w hag b off (fun j => xs.getD (off + j) undef) (fun j hj => cell_of_heap hg (by omega))), ?_, hp⟩
           refine aggSV_reads hx (by simp; omega) (fun j hj => h1 _ (by omega)) (fun j y hy => ?_)
           rw [List.getElem?_take] at hy
           split at hy
           · rw [List.getElem?_drop] at hy
             exact hr _ _ hy
           · cases hy
         · exact hp.elim
       · rename_i hag
         have hag' : i.kind.agg = false := by simpa using hag
         split at hp
         · rename_i y hy
           have hlt : off < xs.size := by rw [hn]; exact (List.getElem?_eq_some_iff.1 hy).1
           exact ⟨_, _, _, hv, (tk.run_loadVar_one w hag' _ _ (cell_of_heap hg hlt)), (hr _ _ hy), hp⟩
         · exact hp.elim
     · exact hp.elim
   ·
     rename_i k sz n j he
     rw [he] at hx
     obtain ⟨b, m, c, hl, hv⟩ := hx.rp_eq
     split at hp
     · rename_i e' sz' rows hob
       obtain ⟨rfl, hp⟩ := hp
       obtain ⟨xs, hz, hown, hsz, hm, h1, hr⟩ := rw_inv (h.iO k _ hob)
       split at hp
       · rename_i r hrow
         have hnlt := (List.getElem?_eq_some_iff.1 hrow).1
         have hrl := hz r (List.mem_of_getElem? hrow)
         split at hp
         · rename_i hag
           obtain ⟨hle, hsh, hK⟩ := hp
           have hc : ∀ q, q < i.size → w.cell? ⟨b, n * sz' + j + q, none⟩ = some (xs.getD (n * sz' + j + q) undef) ∧ xs.getD (n * sz' + j + q) undef ∈ xs := fun q hq => by
             have := ownsRow_cell hown hl (idx_lt hnlt (show j + q < sz' by omega))
             rwa [← Nat.add_assoc] at this
           refine ⟨_, _, _, hv, (tk.run_loadVar_agg w hag b (n * sz' + j) (fun q => xs.getD (n * sz' + j + q) undef) (fun q hq => (hc q hq).1)), ?_, hK⟩
           refine .sh (R.agg_of ?_ (fun q hq => h1 _ (hc q hq).2) (fun q d hd => ?_))
           · simp; omega
           · simp only [List.getElem?_map, Option.map_eq_some_iff] at hd
             obtain ⟨y, hy, rfl⟩ := hd
             have hmem := List.mem_of_getElem? hy
             rw [List.getElem?_take] at hy
             split at hy
             · rw [List.getElem?_drop] at hy
               have := (hr n (j + q) r y hrow hy).ofSh (List.all_eq_true.1 hsh y hmem)
               rwa [← Nat.add_assoc] at this
             · cases hy
         · rename_i hag
           have hag' : i.kind.agg = false := by simpa using hag
           split at hp
           · rename_i y hy
             have hlt : j < sz' := by rw [← hrl]; exact (List.getElem?_eq_some_iff.1 hy).1
             exact ⟨_, _, _, hv, (tk.run_loadVar_one w hag' _ _ (ownsRow_cell hown hl (idx_lt hnlt hlt)).1), (hr n j r y hrow hy), hp⟩
           · exact hp.elim
       · exact hp.elim
     · exact hp.elim
   ·
     rename_i ds he
     rw [he] at hx
     obtain ⟨b, off, f, hv, h0, hA, hc, h1, hr⟩ := hx.sh_inv.ea_inv
     split at hp
     · rename_i hag
       obtain ⟨hle, hK⟩ := hp
       refine ⟨_, _, _, hv, (tk.run_loadVar_agg w hag b off f (fun j hj => hc j (by omega))), ?_, hK⟩
       refine .sh (R.agg_of (by simp; omega) (fun j hj => h1 _ (by omega)) (fun j d hd => ?_))
       rw [List.getElem?_take] at hd
       split at hd
       · exact hr _ _ hd
       · cases hd
     · rename_i hag
       have hag' : i.kind.agg = false := by simpa using hag
       split at hp
       · rename_i d hd
         exact ⟨_, _, _, hv, (tk.run_loadVar_one w hag' _ _ (by simpa using hc 0 h0)), (.sh (hr _ _ hd)), hp⟩
       · exact hp.elim
   · exact hp.elim
 · exact hp.elim
theorem load_sound (h : Inv E.gpv w0 A0 σ a w loc) {o : Oper} {T : Nat} {x : Operand} (ho : o.op = .load T x) {K : SV → Prop} (hp : ppop E (.load T x) σ K) : Val E w0 A0 σ w loc o a K := by
 obtain ⟨p, v, y, hv, hr, hx, hK⟩ := load_core h hp
 exact Val.run (run_load_of ho hv hr) hx hK
end
end Go.Pw
