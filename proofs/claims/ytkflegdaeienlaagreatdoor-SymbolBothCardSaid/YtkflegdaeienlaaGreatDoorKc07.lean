/- Merged from the working texts PwG. -/
import Derived.Test.YtkflegdaeienlaaGreatDoorKc06
set_option linter.all false
set_option maxHeartbeats 400000
set_option linter.unusedVariables false
set_option linter.unusedSimpArgs false
namespace Go.Pw
open Go.RowKit
section
variable {E : Env} {w0 : Base} {A0 : Nat → Prop} {σ : St} {a : Act} {w : World} {loc : Nat → Value} {o : Oper} {Q : Exit → Act → World → Prop}
theorem bound_of (h : Inv E.gpv w0 A0 σ a w loc) {x : Operand} {k : IntKind} {n : Int} (hx : σ.ev E x = .sh (.val (.int k n))) : a.eval x = .int k n := by
 have := ev_ok h x
 rw [hx] at this
 exact this.val_eq
theorem slice_sound (h : Inv E.gpv w0 A0 σ a w loc) {q : Bool} {T : Nat} {x : Operand} {lo hi : Option Operand} (ho : o.op = .slice T x lo hi none) {K : PV → St → Prop} (hp0 : sliceP E q σ T x lo hi K) :
   ∃ v d τ, (execOp a.eval o).run E.P w = .ok (.value v) w ∧ K d τ ∧ Inv E.gpv w0 A0 τ a w loc ∧ R w (fun b => A0 b ∨ act τ loc b) v d ∧ (∀ b, act τ loc b → act σ loc b) ∧ (q = true → τ = σ) := by
 unfold sliceP at hp0
 split at hp0
 · rename_i i hi'
   split at hp0
   · rename_i e hk
     obtain ⟨d, τ, hp, h1, hd, hsub, hq⟩ := withSh_sound h hp0
     clear hp0
     split at hp
     · rename_i rows
       obtain ⟨⟨ie, he, hz⟩, hp⟩ := hp
       have fin : ∀ (l u : Nat), ((lo.map a.eval = none ∧ l = 0) ∨ ∃ k n, lo.map a.eval = some (.int k n) ∧ 0 ≤ n ∧ l = n.toNat) → ((hi.map a.eval = none ∧ u = rows.length) ∨ ∃ k n, hi.map a.eval = some (.int k n) ∧ 0 ≤ n ∧ u = n.toNat) → l ≤ u → u ≤ rows.length →
           K (.sl ((rows.take u).drop l)) τ → ∃ v d τ, (execOp a.eval o).run E.P w = .ok (.value v) w ∧ K d τ ∧ Inv E.gpv w0 A0 τ a w loc ∧ R w (fun b => A0 b ∨ act τ loc b) v d ∧ (∀ b, act τ loc b → act σ loc b) ∧ (q = true → τ = σ) := by
         intro l u hl hu h2 h3 hK
         obtain ⟨v', hr, hv'⟩ := run_sliceAt hi' hk he hd hz hl hu h2 h3
         refine ⟨v', _, τ, ?_, hK, h1, hv', hsub, hq⟩
         simp only [execOp, ho, Sem.run_bind, Option.map_none, hr, Result.andThen_ok, Sem.run_pure]
       split at hp
       · rename_i elo ehi
         simp only [Option.map_eq_none_iff] at elo ehi
         subst elo; subst ehi
         exact fin 0 rows.length (.inl ⟨rfl, rfl⟩) (.inl ⟨rfl, rfl⟩) (Nat.zero_le _) (Nat.le_refl _) (by simpa using hp)
       · rename_i k l elo ehi
         simp only [Option.map_eq_none_iff] at ehi
         subst ehi
         obtain ⟨xl, rfl, exl⟩ := Option.map_eq_some_iff.1 elo
         obtain ⟨h2, h3, hK⟩ := hp
         exact fin l.toNat rows.length (.inr ⟨k, l, by simp [bound_of h1 exl], h2, rfl⟩) (.inl ⟨rfl, rfl⟩) h3 (Nat.le_refl _) (by simpa using hK)
       · rename_i k u elo ehi
         simp only [Option.map_eq_none_iff] at elo
         subst elo
         obtain ⟨xu, rfl, exu⟩ := Option.map_eq_some_iff.1 ehi
         obtain ⟨h2, h3, hK⟩ := hp
         exact fin 0 u.toNat (.inl ⟨rfl, rfl⟩) (.inr ⟨k, u, by simp [bound_of h1 exu], h2, rfl⟩) (Nat.zero_le _) h3 (by simpa using hK)
       · rename_i k l k' u elo ehi
         obtain ⟨xl, rfl, exl⟩ := Option.map_eq_some_iff.1 elo
         obtain ⟨xu, rfl, exu⟩ := Option.map_eq_some_iff.1 ehi
         obtain ⟨h2, h3, h4, hK⟩ := hp
         exact fin l.toNat u.toNat (.inr ⟨k, l, by simp [bound_of h1 exl], h2, rfl⟩) (.inr ⟨k', u, by simp [bound_of h1 exu], by omega, rfl⟩) (by omega) h4 hK
       · exact hp.elim
     · exact hp.elim
   · exact hp0.elim
 · exact hp0.elim
theorem call_sound (h : Inv E.gpv w0 A0 σ a w loc) {q : Bool} {c : Call} {f : Operand} (ho : o.op = .call c) (hc : c.callee = .value f) {g : FuncId} {caps : List PV} (hf : σ.ev E f = .sh (.fn g caps)) {K : PV → St → Prop}
   (hp : withShs E q σ c.args.toList fun ds τ => ∃ d, Con E g (ds ++ caps) d ∧ K d τ) {next : Act → World → Prop}
   (hn : ∀ d τ v w', K d τ → (q = true → τ = σ) → Inv E.gpv w0 A0 τ a w loc → Below w.heap.size w w' → R w' (fun b => A0 b ∨ act τ loc b) v d → next (a.put o.dst v) w') : o.wp E.P a w next Q := by
 obtain ⟨ds, τ, ⟨d, hcon, hK⟩, h1, hl, hR, hsub, hq⟩ := withShs_sound _ _ _ h hp
 have hfv := ev_ok h f
 rw [hf] at hfv
 obtain ⟨cs, hcv, hcn, hcr⟩ := hfv.sh_inv.fn_inv
 have hrun : (execOp a.eval o).run E.P w = .ok (.enter g (#[] ++ c.args.map a.eval ++ cs)) w := by
   simp only [execOp, ho, resolve, hc, hcv, Deferred.ofValue, Sem.run_bind, Sem.run_pure, Result.andThen_ok, invoke]
   exact hcon.1 _ _
 unfold Oper.wp
 rw [hrun]
 refine Calls.mono (hcon.2 w (fun b => A0 b ∨ act τ loc b) (#[] ++ c.args.map a.eval ++ cs) (by simp at hl ⊢; omega) (fun j x hj => ?_) (fun b hb => ?_) (fun g' => h1.iG g')) ?_
 · by_cases hlt : j < ds.length
   · rw [List.getElem?_append_left hlt] at hj
     have hja : j < c.args.size := by simp at hl; omega
     have := hR j x c.args[j] hj (by simp [hja])
     simpa [Array.getD_eq_getD_getElem?, Array.getElem?_append, hja] using this
   · rw [List.getElem?_append_right (by omega)] at hj
     have hsz : c.args.size = ds.length := by simpa using hl.symm
     have hlt2 := (List.getElem?_eq_some_iff.1 hj).1
     have := (hcr _ x hj).step (w' := w) (A' := fun b => A0 b ∨ act τ loc b) (fun _ _ _ => rfl) (fun b _ => Or.imp_right (hsub b))
     simpa [Array.getD_eq_getD_getElem?, Array.getElem?_append, hsz, show ¬ j < ds.length by omega] using this
 · rcases hb with hb | ⟨k, ob, hk, hkb⟩
   · exact h1.iA b hb
   · exact (h1.iF k ob b hk hkb).2
 · rintro e w' ⟨v, rfl, hv, hb⟩
   exact hn d τ v w' hK hq h1 hb hv
theorem len_sound (h : Inv E.gpv w0 A0 σ a w loc) {c : Call} (ho : o.op = .call c) (hc : c.callee = .builtin .len) {K : SV → Prop} (hp : ppop E (.call c) σ K) : Val E w0 A0 σ w loc o a K := by
 simp only [ppop, hc] at hp
 split at hp
 · rename_i t x ht hx
   split at hp
   · rename_i i hi
     have hu := (E.ok t i hi).kind
     have key : ∀ n : Int, (Builtin.len_ c.argTypes o.type (c.args.map a.eval)).run E.P w = .ok (.int .i64 n) w → K (.sh (.val (.int .i64 n))) → Val E w0 A0 σ w loc o a K := fun n hr hK =>
       Val.run (run_builtin ho hc w (fun consts => by simp only [builtin, Sem.run_bind, hr, Result.andThen_ok, Sem.run_pure])) (.sh (.val _)) hK
     have hax : (c.args.map a.eval)[0]? = some (a.eval x) := by simp [hx]
     have hev := ev_ok h x
     split at hp
     · rename_i e hk
       rw [hk] at hu
       have sl : ∀ (p : Option Addr) (n cp : Nat), a.eval x = .slice p n cp → (Builtin.len_ c.argTypes o.type (c.args.map a.eval)).run E.P w = .ok (.int .i64 n) w := fun p n cp he => by
         simp only [Builtin.len_, ht, hax, he, Sem.run_bind, run_underlying hu, Result.andThen_ok, goInt, Sem.run_pure]
       split at hp
       · rename_i rows ex
         rw [ex] at hev
         rcases hev.sh_inv.sl_inv with ⟨rfl, p, cp, hv, _⟩ | ⟨b, off, cp, sz, f, hv, _⟩
         · exact key _ (sl _ _ _ hv) hp
         · exact key _ (sl _ _ _ hv) hp
       · rename_i ex
         rw [ex] at hev
         exact key _ (sl _ _ _ hev.val_eq) hp
       · rename_i k ex
         rw [ex] at hev
         obtain ⟨p, n, cp, hl, hv⟩ := hev.row_eq
         split at hp
         · rename_i e' sz rows hob
           obtain ⟨xs, hz, hown, _⟩ := rw_inv (h.iO k _ hob)
           obtain ⟨p', cp', hf⟩ := ownsRow_form hown
           rw [hl] at hf
           injection hf with q1 q2 q3
           subst q2
           exact key _ (sl _ _ _ hv) hp
         · exact hp.elim
       · rename_i kr sz i0 m0 ex
         rw [ex] at hev
         obtain ⟨b, m1, c1, c2, hl, hv, hcc⟩ := hev.sub_eq
         exact key _ (sl _ _ _ hv) hp
       · rename_i ex
         rw [ex] at hev
         obtain ⟨p, hv⟩ := hev.sh_inv.e0_inv
         exact key _ (sl _ _ _ hv) hp
       · exact hp.elim
     · rename_i n e hk
       rw [hk] at hu
       refine key n ?_ hp
       simp only [Builtin.len_, ht, hax, Sem.run_bind, run_underlying hu, Result.andThen_ok, goInt, Sem.run_pure]
     · rename_i hk
       split at hp
       · rename_i s ex
         obtain ⟨hT, hK⟩ := hp
         rw [ex] at hev
         refine key _ ?_ hK
         simp only [Builtin.len_, ht, hax, hev.val_eq, Sem.run_bind, run_underlying hT, Result.andThen_ok, goInt, Sem.run_pure]
       · split at hp
         · rename_i ds hm
           obtain ⟨⟨kt, et, hT⟩, hK⟩ := hp
           obtain ⟨b, es, clock, es', hv, m⟩ := mapOf_is h hev hm
           have hl : es.size = ds.length := by rw [← m.hn, ← m.hp.length_eq]; simp
           refine key _ ?_ hK
           simp only [Builtin.len_, ht, hax, hv, Sem.run_bind, run_underlying hT, Go.MapKept.run_getObj_map m.hg, Result.andThen_ok, goInt, Sem.run_pure, hl]
         · exact hp.elim
     · exact hp.elim
   · exact hp.elim
 · exact hp.elim
theorem evs_two (h : Inv E.gpv w0 A0 σ a w loc) {c : Call} {k k' : IntKind} {m n : Int} (hx : c.args.toList.map (σ.ev E) = [.sh (.val (.int k m)), .sh (.val (.int k' n))]) : c.args.map a.eval = #[.int k m, .int k' n] := by
 have hl : c.args.size = 2 := by have := congrArg List.length hx; simpa using this
 have e0 : c.args.toList[0]?.map (σ.ev E) = some (.sh (.val (.int k m))) := by rw [← List.getElem?_map, hx]; rfl
 have e1 : c.args.toList[1]?.map (σ.ev E) = some (.sh (.val (.int k' n))) := by rw [← List.getElem?_map, hx]; rfl
 obtain ⟨x0, h0, h0'⟩ := Option.map_eq_some_iff.1 e0
 obtain ⟨x1, h1, h1'⟩ := Option.map_eq_some_iff.1 e1
 have b0 := bound_of h h0'
 have b1 := bound_of h h1'
 apply Array.ext
 · simp [hl]
 · intro j hj hj'
   simp at hj'
   match j, hj' with
   | 0, _ => simp only [Array.getElem?_toList] at h0; simp [(Array.getElem?_eq_some_iff.1 h0).2, b0]
   | 1, _ => simp only [Array.getElem?_toList] at h1; simp [(Array.getElem?_eq_some_iff.1 h1).2, b1]
theorem minmax_sound (h : Inv E.gpv w0 A0 σ a w loc) {c : Call} (ho : o.op = .call c) {b : Builtin} (hb : b = .max ∨ b = .min) (hc : c.callee = .builtin b) {K : SV → Prop} (hp : ppop E (.call c) σ K) : Val E w0 A0 σ w loc o a K := by
 rcases hb with rfl | rfl
 · simp only [ppop, hc] at hp
   split at hp
   · rename_i k m k' n hx
     obtain ⟨rfl, hK⟩ := hp
     refine Val.run (run_builtin ho hc w (fun consts => ?_)) (.sh (.val _)) hK
     rw [evs_two h hx]
     simp only [builtin, Builtin.max_, Builtin.max2, List.foldlM_cons, List.foldlM_nil, Sem.run_bind, Result.andThen_ok, Sem.run_pure]
     congr 3
     omega
   · exact hp.elim
 · simp only [ppop, hc] at hp
   split at hp
   · rename_i k m k' n hx
     obtain ⟨rfl, hK⟩ := hp
     refine Val.run (run_builtin ho hc w (fun consts => ?_)) (.sh (.val _)) hK
     rw [evs_two h hx]
     simp only [builtin, Builtin.min_, Builtin.min2, List.foldlM_cons, List.foldlM_nil, Sem.run_bind, Result.andThen_ok, Sem.run_pure]
     congr 3
     omega
   · exact hp.elim
theorem capsQ_sound {A : Nat → Prop} : ∀ (l : List SV) (vs : List Value) (K : List PV → Prop), l.length = vs.length → (∀ (j : Nat) (x : SV) (v : Value), l[j]? = some x → vs[j]? = some v → RS w A loc v x) → capsQ l K →
   ∃ ds, K ds ∧ ds.length = vs.length ∧ ∀ (j : Nat) (d : PV) (v : Value), ds[j]? = some d → vs[j]? = some v → R w A v d
 | [], vs, K, hl, _, hp => ⟨[], hp, by simpa using hl, fun j d v h => by simp at h⟩
 | x :: xs, [], K, hl, _, _ => by simp at hl
 | x :: xs, v :: vs, K, hl, hr, hp => by
   simp only [capsQ] at hp
   split at hp
   · rename_i ds
     obtain ⟨l, hK, hll, hlr⟩ := capsQ_sound xs vs _ (by simpa using hl) (fun j x' v' h1 h2 => hr (j + 1) x' v' (by simpa using h1) (by simpa using h2)) hp
     refine ⟨_, hK, by simp [hll], fun j d v' h1 h2 => ?_⟩
     cases j with
     | zero => simp at h1 h2; subst h1; subst h2; exact (hr 0 _ _ rfl rfl).sh_inv
     | succ j => exact hlr j d v' (by simpa using h1) (by simpa using h2)
   · exact hp.elim
theorem mkf_sound (h : Inv E.gpv w0 A0 σ a w loc) {g : FuncId} {first caps : Array Operand} (ho : o.op = .makeFunc (.func g) first caps) {K : SV → Prop} (hp : ppop E (.makeFunc (.func g) first caps) σ K) : Val E w0 A0 σ w loc o a K := by
 simp only [ppop] at hp
 obtain ⟨hf0, hp⟩ := hp
 obtain rfl : first = #[] := Array.size_eq_zero_iff.1 hf0
 obtain ⟨ds, hK, hl, hr⟩ := capsQ_sound (w := w) (loc := loc) (A := fun b => A0 b ∨ act σ loc b) _ (caps.toList.map a.eval) _ (by simp) (fun j x v h1 h2 => by
   rw [List.getElem?_map] at h1 h2
   obtain ⟨y, hy, rfl⟩ := Option.map_eq_some_iff.1 h1
   rw [hy] at h2
   injection h2 with h2
   subst h2
   exact ev_ok h y) hp
 refine Val.run (v := .func (.func g) #[] (caps.map a.eval)) (by simp [execOp, ho, Instr.makeFunc]) (.sh (.fn (by simpa using hl.symm) (fun j d hj => ?_))) hK
 have hlt := (List.getElem?_eq_some_iff.1 hj).1
 have hc : (caps.toList.map a.eval)[j]? = some ((caps.map a.eval).getD j undef) := by
   have : j < caps.size := by simp at hl; omega
   simp [Array.getD, this]
 exact hr j d _ hj hc
def noW : Op → Bool
 | .makeFunc (.func _) .. => true
 | .move _ | .assign _ | .pick .. | .load .. | .nilCheck _ | .binOp .. | .unOp .. | .convert .. | .fieldAddr .. | .indexAddr .. | .index .. | .field .. | .lookup .. | .extract .. | .build .. | .slice .. => true
 | .call c => match c.callee with
   | .builtin .len | .builtin .max | .builtin .min => true
   | _ => false
 | _ => false
theorem ppop_val (h : Inv E.gpv w0 A0 σ a w loc) {K : SV → Prop} (hw : noW o.op = true) (hp : ppop E o.op σ K) : Val E w0 A0 σ w loc o a K := by
 generalize ho : o.op = op at hp hw
 cases op with
 | move x => exact Val.run (v := a.eval x) (by simp [execOp, ho]) (ev_ok h x) hp
 | assign x => exact Val.run (v := a.eval x) (by simp [execOp, ho]) (ev_ok h x) hp
 | pick c x y => exact pick_sound h ho hp
 | load T x => exact load_sound h ho hp
 | nilCheck x => exact nilCheck_sound h ho hp
 | binOp op T x y T2 => exact bin_sound h ho hp
 | unOp op T x => exact un_sound h ho hp
 | convert s d x => exact conv_sound h ho hp
 | fieldAddr T x f => exact fieldAddr_sound h ho hp
 | indexAddr T x i => exact indexAddr_sound h ho hp
 | index T x i => exact index_sound h ho hp
 | field T x f => exact field_sound h ho hp
 | lookup T x i c => exact lookup_sound h ho hp
 | extract x i => exact extract_sound h ho hp
 | build T parts =>
   simp only [ppop] at hp
   obtain ⟨v, d, τ, hr, hK, h1, hv, hsub, hq⟩ := build_sound h ho hp
   obtain rfl := hq rfl
   exact Val.run hr (.sh hv) hK
 | makeFunc fn first caps =>
   cases fn with
   | func g => exact mkf_sound h ho hp
   | _ => simp [noW] at hw
 | slice T x lo hi mx =>
   cases mx with
   | none =>
     simp only [ppop] at hp
     obtain ⟨v, d, τ, hr, hK, h1, hv, hsub, hq⟩ := slice_sound h ho hp
     obtain rfl := hq rfl
     exact Val.run hr (.sh hv) hK
   | some m => simp only [ppop] at hp
 | call c =>
   cases hc : c.callee with
   | value f => simp [noW, hc] at hw
   | invoke r m => simp [noW, hc] at hw
   | builtin b =>
     cases b with
     | len => exact len_sound h ho hc hp
     | max => exact minmax_sound h ho (.inl rfl) hc hp
     | min => exact minmax_sound h ho (.inr rfl) hc hp
     | _ => simp [noW, hc] at hw
 | _ => simp [noW] at hw
theorem ppop_sound (h : Inv E.gpv w0 A0 σ a w loc) {K : SV → Prop} (hp : ppop E o.op σ K) : Gives E w0 A0 σ w loc o a K Q := by
 by_cases hw : noW o.op = true
 · exact (ppop_val h hw hp).gives
 generalize ho : o.op = op at hp hw
 cases op with
 | buildSlice T len parts => exact lit_sound h ho hp
 | makeSlice T x y => exact mk_sound h ho hp
 | makeFunc fn first caps =>
   cases fn with
   | func g => exact absurd rfl hw
   | _ => simp only [ppop] at hp
 | call c =>
   cases hc : c.callee with
   | value f =>
     simp only [ppop, hc] at hp
     split at hp
     · rename_i g caps hf
       intro next hn
       refine call_sound (q := true) (K := fun d _ => K (.sh d)) h ho hc hf hp (fun d τ v w' hK hq h1 hb hv => ?_)
       obtain rfl := hq rfl
       exact hn (.sh d) v w' hK (.sh hv) hb
     · exact hp.elim
   | invoke r m => simp only [ppop, hc] at hp
   | builtin b =>
     cases b with
     | append =>
       simp only [ppop, hc] at hp
       exact add_sound h ho hc hp
     | len => simp [noW, hc] at hw
     | max => simp [noW, hc] at hw
     | min => simp [noW, hc] at hw
     | _ => simp only [ppop, hc] at hp
 | _ => first | exact absurd rfl hw | simp only [ppop] at hp
end
end Go.Pw
