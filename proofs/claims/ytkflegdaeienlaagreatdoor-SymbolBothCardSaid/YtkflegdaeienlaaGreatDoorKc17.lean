/- Merged from the working texts PwN PwO. -/
import Derived.Test.YtkflegdaeienlaaGreatDoorKc16
set_option linter.all false
set_option maxHeartbeats 400000
set_option linter.unusedVariables false
set_option linter.unusedSimpArgs false
namespace Go.Pw
open Go.RowKit
section
variable {E : Env} {w0 : Base} {A0 : Nat → Prop} {σ : St} {a : Act} {w : World} {loc : Nat → Value}
theorem Inv.rewrite2 (h : Inv E.gpv w0 A0 σ a w loc) (k : Nat) {ob : Ob} (hk : σ.o k = some ob) {w' : World} (hB : Fr w0 w') (hsz : w.heap.size ≤ w'.heap.size)
   (hs : ∀ b, b < w.heap.size → blk (loc k) ≠ some b → w'.heap[b]? = w.heap[b]?) (ob' : Ob)
   (ho : ∀ A' : Nat → Prop, (∀ b, A' b → b < w.heap.size ∧ (A0 b ∨ act σ loc b)) → ObAt w' A' loc 0 (loc k) ob') : Inv E.gpv w0 A0 (σ.setO k ob') a w' loc := by
 have hact : ∀ b, act (σ.setO k ob') loc b → act σ loc b := by
   rintro b ⟨j, ob1, hj, hb⟩
   by_cases e : j = k
   · subst e; exact ⟨j, ob, hk, hb⟩
   · simp only [St.setO, if_neg e] at hj; exact ⟨j, ob1, hj, hb⟩
 have hact' : ∀ b, b < w.heap.size → (A0 b ∨ act (σ.setO k ob') loc b) → (A0 b ∨ act σ loc b) := fun b _ => Or.imp_right (hact b)
 have hs' : ∀ b, b < w.heap.size → ¬ (A0 b ∨ act σ loc b) → w'.heap[b]? = w.heap[b]? := fun b hlt hn => hs b hlt (fun h2 => hn (.inr ⟨k, ob, hk, h2⟩))
 have hlt : ∀ b, (A0 b ∨ act σ loc b) → b < w.heap.size := by
   rintro b (hb | ⟨j, ob1, hj, hb⟩)
   · exact h.iA b hb
   · exact (h.iF j ob1 b hj hb).2
 have hget : ∀ j ob1, (σ.setO k ob').o j = some ob1 → ∃ ob2, σ.o j = some ob2 := by
   intro j ob1 hj
   by_cases e : j = k
   · exact ⟨ob, e ▸ hk⟩
   · simp only [St.setO, if_neg e] at hj; exact ⟨ob1, hj⟩
 refine { iB := hB, iA := fun b h9 => Nat.lt_of_lt_of_le (h.iA b h9) hsz, iD := h.iD, iS := fun t => (h.iS t).step hs' hact' (fun _ _ => rfl), iO := ?_, iJ := ?_, iF := ?_, iG := fun g => (h.iG g).step hs' hact' }
 · intro j ob1 hj
   by_cases e : j = k
   · subst e
     simp only [St.setO, if_true, Option.some.injEq] at hj
     subst hj
     exact ho _ fun b hb => ⟨hlt b (Or.imp_right (hact b) hb), Or.imp_right (hact b) hb⟩
   · simp only [St.setO, if_neg e] at hj
     exact (h.iO j ob1 hj).step hs' hact' (fun _ _ => rfl) (fun b hb => hs b (h.iF j ob1 b hj hb).2 (fun h3 => e (h.iJ j k ob1 ob b hj hk hb h3)))
 · intro j j' ob1 ob2 b h1 h2 hb hb'
   obtain ⟨_, h3⟩ := hget j ob1 h1
   obtain ⟨_, h4⟩ := hget j' ob2 h2
   exact h.iJ j j' _ _ b h3 h4 hb hb'
 · intro j ob1 b hj hb
   obtain ⟨_, h3⟩ := hget j ob1 hj
   exact ⟨(h.iF j _ b h3 hb).1, Nat.lt_of_lt_of_le (h.iF j _ b h3 hb).2 hsz⟩
end
def SV.to (k : Nat) : SV → SV
 | .bp _ off => .bp k off
 | .rp _ sz i j => .rp k sz i j
 | .row _ => .row k
 | .sub _ sz i n => .sub k sz i n
 | .mr _ => .mr k
 | .mg pre _ => .mg pre k
 | x => x
theorem RS.to {w : World} {A : Nat → Prop} {loc loc' : Nat → Value} {v : Value} {k k' : Nat} {x : SV} (hl : loc' k' = loc k) (h : RS w A loc v (x.to k)) : RS w A loc' v (x.to k') := by
 cases x with
 | sh d => cases h with | sh h => exact .sh h
 | bp q off => cases h with | bp h => exact .bp (hl.trans h)
 | rp q sz i j => cases h with | rp h => exact .rp (hl.trans h)
 | row q => cases h with | row h => exact .row (hl.trans h)
 | sub q sz i n => cases h with | sub h hn => exact .sub (hl.trans h) hn
 | mr q => cases h with | mr h => exact .mr (hl.trans h)
 | mg pre q => cases h with | mg h hn h2 h1 hr => exact .mg (hl.trans h) hn h2 h1 hr
def Ob.plain : Ob → Bool
 | .box cs => cs.all SV.isSh
 | .rw _ _ rows => allSh rows
 | .mp _ => true
 | .it .. => false
theorem Ob.plain_ment {ob : Ob} (h : ob.plain = true) (k : Nat) : ¬ ob.ment k := by
 cases ob with
 | box cs =>
   rintro ⟨x, hx, hm⟩
   have := List.all_eq_true.1 h x hx
   cases x <;> simp [SV.isSh, SV.ment] at this hm
 | rw e sz rows =>
   rintro ⟨r, hr, x, hx, hm⟩
   have := List.all_eq_true.1 (List.all_eq_true.1 h r hr) x hx
   cases x <;> simp [SV.isSh, SV.ment] at this hm
 | mp ds => exact fun h => h
 | it cur rem => exact fun h => h
def ConIO (E : Env) (f : FuncId) (x0 : SV) (args : List PV) (ob ob' : Ob) (d : PV) : Prop :=
 (∀ vs w, (callFunc f vs).run E.P w = .ok (.enter f vs) w) ∧ ∀ (w : World) (A : Nat → Prop) (loc : Nat → Value) (v0 : Value) (vs : Array Value), vs.size = args.length → RS w A loc v0 (x0.to 1000000) → ObAt w A loc 0 (loc 1000000) ob →
   (∀ b, blk (loc 1000000) = some b → b < w.heap.size ∧ A b) → (∀ j x, args[j]? = some x → R w A (vs.getD j undef) x) → (∀ b, A b → b < w.heap.size) → (∀ g, R w A (.pointer (some ⟨g, 0, none⟩)) (E.gpv g)) →
   Calls E.P f (#[v0] ++ vs) w fun e w' => ∃ v, e = .returned v ∧ R w' A v d ∧ ObAt w' A loc 0 (loc 1000000) ob' ∧ w'.os = w.os ∧ w'.tape = w.tape ∧ w'.output = w.output ∧ w.heap.size ≤ w'.heap.size ∧ ∀ b, b < w.heap.size → blk (loc 1000000) ≠ some b → w'.heap[b]? = w.heap[b]?
def resT : List Nat → St → (List PV → St → Prop) → Prop
 | [], σ, K => K [] σ
 | t :: rest, σ, K => withSh false σ (σ.s t) fun d τ => resT rest τ fun ds υ => K (d :: ds) υ
section
variable {E : Env} {w0 : Base} {A0 : Nat → Prop}
theorem resT_sound : ∀ (ts : List Nat) (σ : St) (a : Act) (w : World) (loc : Nat → Value) (K : List PV → St → Prop), Inv E.gpv w0 A0 σ a w loc → resT ts σ K →
   ∃ ds υ, K ds υ ∧ ds.length = ts.length ∧ Inv E.gpv w0 A0 υ a w loc ∧ (∀ b, act υ loc b → act σ loc b) ∧ ∀ (j : Nat) (d : PV) (t : Nat), ds[j]? = some d → ts[j]? = some t → R w (fun b => A0 b ∨ act υ loc b) (a.tmps.getD t undef) d
 | [], σ, a, w, loc, K, h, hp => ⟨[], σ, hp, rfl, h, fun _ hb => hb, fun j d t hj => by simp at hj⟩
 | t :: rest, σ, a, w, loc, K, h, hp => by
   simp only [resT] at hp
   have e : σ.s t = σ.ev E (.tmp t) := rfl
   rw [e] at hp
   obtain ⟨d, τ, h1, h2, h3, h4, _⟩ := withSh_sound h hp
   obtain ⟨ds, υ, k1, k2, k3, k4, k5⟩ := resT_sound rest τ a w loc _ h2 h1
   refine ⟨d :: ds, υ, k1, by simp [k2], k3, fun b hb => h4 b (k4 b hb), fun j d' t' hj ht => ?_⟩
   cases j with
   | zero =>
     simp at hj ht
     subst hj; subst ht
     exact h3.step (fun _ _ _ => rfl) (fun b _ => Or.imp_right (k4 b))
   | succ j => exact k5 j d' t' (by simpa using hj) (by simpa using ht)
theorem results_tmps {fn : Func} {ts : List Nat} (hrs : fn.results.toList = ts.map .tmp) (tm : Array Value) (P : Program) (w : World) :
   (results fn tm).run P w = .ok (if h : (ts.map fun t => tm.getD t undef).toArray.size = 1 then (ts.map fun t => tm.getD t undef).toArray[0] else .tuple (ts.map fun t => tm.getD t undef).toArray) w := by
 have hm : (fn.results.mapM fun (r : ResultVar) => match r with | .tmp t => (pure (tm.getD t undef) : Sem Value) | .cell t T => do loadVar T (← asAddr (tm.getD t undef))).run P w = .ok (ts.map fun t => tm.getD t undef).toArray w := by
   rw [Array.mapM_eq_mapM_toList, hrs]
   have : ∀ l : List Nat, ((l.map ResultVar.tmp).mapM fun (r : ResultVar) => match r with | .tmp t => (pure (tm.getD t undef) : Sem Value) | .cell t T => do loadVar T (← asAddr (tm.getD t undef))).run P w = .ok (l.map fun t => tm.getD t undef) w := by
     intro l
     induction l with
     | nil => simp
     | cons t l ih => simp only [List.map_cons, List.mapM_cons, Sem.run_bind, Sem.run_pure, Result.andThen_ok, ih]
   simp only [Sem.run_map, this, Result.andThen_ok]
 unfold results
 simp only [Sem.run_bind]
 refine Eq.trans (congrArg (fun q => Result.andThen q _) hm) ?_
 simp only [Result.andThen_ok, Sem.run_pure]
theorem one_R {w : World} {A : Nat → Prop} {vs : List Value} {ds : List PV} (hl : ds.length = vs.length) (h : ∀ j d, ds[j]? = some d → R w A (vs.getD j undef) d) :
   R w A (if h : vs.toArray.size = 1 then vs.toArray[0] else .tuple vs.toArray) (one? ds) := by
 rcases vs with _ | ⟨v, _ | ⟨v2, vs⟩⟩
 · obtain rfl : ds = [] := List.eq_nil_of_length_eq_zero hl
   exact .tup rfl (fun j d hd => by simp at hd)
 · obtain ⟨x, rfl⟩ : ∃ x, ds = [x] := by
     rcases ds with _ | ⟨x, _ | ⟨y, ds⟩⟩
     · simp at hl
     · exact ⟨x, rfl⟩
     · simp at hl
   exact h 0 x rfl
 · rcases ds with _ | ⟨x, _ | ⟨y, ds⟩⟩
   · simp at hl
   · simp at hl
   · have hne : ¬ ((v :: v2 :: vs).toArray.size = 1) := by simp
     rw [dif_neg hne]
     refine .tup (by simpa using hl.symm) (fun j d hd => ?_)
     have hjl : j < (v :: v2 :: vs).length := by rw [← hl]; exact (List.getElem?_eq_some_iff.1 hd).1
     have := h j d hd
     rw [List.getD_eq_getElem?_getD, List.getElem?_eq_getElem hjl] at this
     rw [Array.getD_eq_getD_getElem?, List.getElem?_toArray, List.getElem?_eq_getElem hjl]
     exact this
end
def rqo (ts : List Nat) (d : PV) (ob' : Ob) : Exit → St → Prop := fun e σ => match e with
 | .normal | .ret => resT ts σ fun ds υ => one? ds = d ∧ υ.o 1000000 = some ob'
 | _ => False
theorem conIO_of {E : Env} (hmix : E.P.follows .mixedOrders = true) {f : FuncId} {fn : Func} {c : Code} {x0 : SV} {args : List PV} {ob ob' : Ob} {d : PV} {ts : List Nat} (hf : E.P.funcs[f]? = some fn) (hname : (fn.name == "runtime.NumGoroutine") = false) (hb : fn.body = some c) (hok : codeOk fn.ntmps c = true)
    (hargs : decide (args.length + 1 ≤ fn.ntmps ∧ fn.ntmps ≤ 1000000) = true) (hrs : fn.results.toList = ts.map .tmp) (hpl : ob'.plain = true)
    (hp : pwp E c (rqo ts d ob') (mkS ((0, x0.to 1000000) :: argE 1 args) [(1000000, some ob)])) : ConIO E f x0 args ob ob' d := by
  simp only [decide_eq_true_eq] at hargs
  refine ⟨fun vs w => ?_, fun w A loc v0 vs hn hx0 hob hblk hR hA hG => ?_⟩
  · have h1 : fn.name ≠ "runtime.NumGoroutine" := by simpa using hname
    simp [callFunc, hf, h1, hb]
  · refine calls_of_wp hf hb ?_
    have hsz : (#[v0] ++ vs ++ Array.replicate (fn.ntmps - (#[v0] ++ vs).size) undef).size = fn.ntmps := by simp; omega
    have hact0 : ∀ b, act (mkS ((0, x0.to 1000000) :: argE 1 args) [(1000000, some ob)]) loc b ↔ blk (loc 1000000) = some b := by
      intro b
      constructor
      · rintro ⟨k, ob1, hk, hb⟩
        simp only [mkS, getO] at hk
        split at hk
        · rename_i e; subst e; exact hb
        · cases hk
      · intro hb
        exact ⟨1000000, ob, by simp [mkS, getO], hb⟩
    have hAA : ∀ b, ((A b ∧ blk (loc 1000000) ≠ some b) ∨ act (mkS ((0, x0.to 1000000) :: argE 1 args) [(1000000, some ob)]) loc b) → A b := by
      rintro b (⟨hb, _⟩ | hb)
      · exact hb
      · exact (hblk b ((hact0 b).1 hb)).2
    have hinv : Inv E.gpv ⟨w, fun b => b < w.heap.size ∧ blk (loc 1000000) ≠ some b, fun _ h => h.1⟩ (fun b => A b ∧ blk (loc 1000000) ≠ some b) (mkS ((0, x0.to 1000000) :: argE 1 args) [(1000000, some ob)])
        { tmps := #[v0] ++ vs ++ Array.replicate (fn.ntmps - (#[v0] ++ vs).size) undef, defers := [] } w loc := by
      refine { iB := ⟨rfl, rfl, rfl, Nat.le_refl _, fun _ _ => rfl⟩, iA := fun b hb => hA b hb.1, iD := rfl, iS := fun t => ?_, iO := fun k ob1 hk => ?_, iJ := fun k k' ob1 ob2 b hk hk' _ _ => ?_, iF := fun k ob1 b hk hb => ?_, iG := fun g => (hG g).step (fun _ _ _ => rfl) (fun b _ => hAA b) }
      · rw [mkS_s]
        simp only [getS]
        by_cases h0 : t = 0
        · subst h0
          simp only [if_true]
          have : (#[v0] ++ vs ++ Array.replicate (fn.ntmps - (#[v0] ++ vs).size) undef).getD 0 undef = v0 := by simp [Array.getD_eq_getD_getElem?, Array.getElem?_append]
          rw [this]
          exact hx0.step (fun _ _ _ => rfl) (fun b _ => hAA b) (fun _ _ => rfl)
        · rw [if_neg h0, getS_argE]
          by_cases h1 : t < 1
          · omega
          rw [if_neg h1]
          cases hq : args[t - 1]? with
          | none => exact .sh (.any _)
          | some x =>
            have hlt : t - 1 < vs.size := by rw [hn]; exact (List.getElem?_eq_some_iff.1 hq).1
            have := (hR (t - 1) x hq).step (w' := w) (A' := fun b => (A b ∧ blk (loc 1000000) ≠ some b) ∨ act (mkS ((0, x0.to 1000000) :: argE 1 args) [(1000000, some ob)]) loc b) (fun _ _ _ => rfl) (fun b _ => hAA b)
            refine .sh ?_
            have e : (#[v0] ++ vs ++ Array.replicate (fn.ntmps - (#[v0] ++ vs).size) undef).getD t undef = vs.getD (t - 1) undef := by
              simp only [Array.getD_eq_getD_getElem?, Array.getElem?_append]
              rw [if_pos (by simp; omega), if_neg (by simp; omega)]
              simp
            rw [e]; exact this
      · simp only [mkS, getO] at hk
        split at hk
        · rename_i e
          subst e
          injection hk with hk
          subst hk
          exact hob.step (fun _ _ _ => rfl) (fun b _ => hAA b) (fun _ _ => rfl) (fun _ _ => rfl)
        · cases hk
      · simp only [mkS, getO] at hk hk'
        split at hk
        · split at hk'
          · rename_i e e'; rw [e, e']
          · cases hk'
        · cases hk
      · simp only [mkS, getO] at hk
        split at hk
        · rename_i e
          subst e
          exact ⟨⟨fun hx => hx.2 hb, fun hx => hx.2 hb⟩, (hblk b hb).1⟩
        · cases hk
    refine pwp_sound hmix c _ _ _ _ w loc hok hsz hinv hp (fun e τ a' w' loc' hq h3 h4 htr => ?_)
    have hl : loc' 1000000 = loc 1000000 := htr (by omega) 1000000 (Nat.le_refl _)
    have fin : (resT ts τ fun ds υ => one? ds = d ∧ υ.o 1000000 = some ob') → a'.defers = [] ∧ ∃ v, (results fn a'.tmps).run E.P w' = .ok v w' ∧ ∃ u, Ending.returned v = .returned u ∧ R w' A u d ∧ ObAt w' A loc 0 (loc 1000000) ob' ∧ w'.os = w.os ∧ w'.tape = w.tape ∧ w'.output = w.output ∧ w.heap.size ≤ w'.heap.size ∧
        ∀ b, b < w.heap.size → blk (loc 1000000) ≠ some b → w'.heap[b]? = w.heap[b]? := by
      intro hq
      obtain ⟨ds, υ, ⟨h5, h6⟩, h7, h8, _, h9⟩ := resT_sound _ τ a' w' loc' _ h3 hq
      have hA' : ∀ b, A b → ((A b ∧ blk (loc 1000000) ≠ some b) ∨ act υ loc' b) := by
        intro b hb
        by_cases hbk : blk (loc 1000000) = some b
        · exact .inr ⟨1000000, ob', h6, by rw [hl]; exact hbk⟩
        · exact .inl ⟨hb, hbk⟩
      refine ⟨h3.iD, _, results_tmps hrs _ _ _, _, rfl, ?_, ?_, h8.iB.os, h8.iB.tape, h8.iB.output, h8.iB.size, fun b hb hne => h8.iB.block b ⟨hb, hne⟩⟩
      · rw [← h5]
        refine one_R (by simpa using h7) (fun j d' hj => ?_)
        have hjl : j < ts.length := by rw [← h7]; exact (List.getElem?_eq_some_iff.1 hj).1
        have := (h9 j d' _ hj (List.getElem?_eq_getElem hjl)).step (w' := w') (A' := A) (fun _ _ _ => rfl) (fun b _ => hA' b)
        rw [List.getD_eq_getElem?_getD, List.getElem?_map, List.getElem?_eq_getElem hjl]
        exact this
      · have := (h8.iO 1000000 ob' h6).step (w' := w') (A' := A) (loc' := loc) (fun _ _ _ => rfl) (fun b _ => hA' b) (fun k hk => (Ob.plain_ment hpl k hk).elim) (fun _ _ => rfl)
        rw [hl] at this
        exact this
    cases e with
    | normal => exact fin hq
    | ret => exact fin hq
    | _ => exact hq.elim
theorem io_call {E : Env} {o : Oper} {σ : St} {K : SV → St → Prop} {c : Call} {f x : Operand} {xs : List Operand} {g k : Nat} {y0 : SV} (ho : o.op = .call c) (hc : c.callee = .value f) (hf : σ.ev E f = .sh (.fn g [])) (hargs : c.args.toList = x :: xs) (hx : σ.ev E x = y0) (hy : y0.to k = y0)
   (hp : withShs E true σ xs fun ds τ => ∃ ob ob' d, σ.o k = some ob ∧ ConIO E g y0 ds ob ob' d ∧ ob.plain = true ∧ ob'.plain = true ∧ K (.sh d) (σ.setO k ob')) : SemOp E o σ K := by
 intro w0 A0 a w loc Q h hd next hn
 obtain ⟨ds, τ, ⟨ob, ob', d, hk, hcon, hpl0, hpl, hK⟩, h1, hl, hR, hsub, hq⟩ := withShs_sound _ _ _ h hp
 obtain rfl : τ = σ := hq rfl
 have hfv := ev_ok h1 f
 rw [hf] at hfv
 obtain ⟨cs, hcv, hcn, hcr⟩ := hfv.sh_inv.fn_inv
 obtain rfl : cs = #[] := by simpa using hcn
 have hsize : c.args.size = xs.length + 1 := by rw [← Array.length_toList, hargs]; simp
 have hargv : c.args.map a.eval = #[a.eval x] ++ (xs.map a.eval).toArray := by
   apply Array.toList_inj.1
   rw [Array.toList_map, hargs]
   simp
 have hrun : (execOp a.eval o).run E.P w = .ok (.enter g (#[a.eval x] ++ (xs.map a.eval).toArray)) w := by
   simp only [execOp, ho, resolve, hc, hcv, Deferred.ofValue, Sem.run_bind, Sem.run_pure, Result.andThen_ok, invoke, hargv]
   have := hcon.1 (#[a.eval x] ++ (xs.map a.eval).toArray) w
   simpa using this
 unfold Oper.wp
 rw [hrun]
 have hxv := ev_ok h1 x
 rw [hx, ← hy] at hxv
 have hlt : ∀ b, (A0 b ∨ act τ loc b) → b < w.heap.size := by
   rintro b (hb | ⟨j, ob1, hj, hb⟩)
   · exact h1.iA b hb
   · exact (h1.iF j ob1 b hj hb).2
 have hlk : (fun j => if j = 1000000 then loc k else loc j) 1000000 = loc k := by simp
 refine Calls.mono (hcon.2 w (fun b => A0 b ∨ act τ loc b) (fun j => if j = 1000000 then loc k else loc j) (a.eval x) (xs.map a.eval).toArray (by simpa using hl.symm) (RS.to hlk hxv) ?_ (fun b hb => ?_) (fun j y hj => ?_) hlt (fun g' => h1.iG g')) ?_
 · simp only [if_true]
   exact (h1.iO k ob hk).step (fun _ _ _ => rfl) (fun b _ hb => hb) (fun j hj => (Ob.plain_ment hpl0 j hj).elim) (fun _ _ => rfl)
 · simp only [if_true] at hb
   exact ⟨(h1.iF k ob b hk hb).2, .inr ⟨k, ob, hk, hb⟩⟩
 · have hjl : j < xs.length := by rw [← hl]; exact (List.getElem?_eq_some_iff.1 hj).1
   have := hR j y xs[j] hj (by simp [hjl])
   simpa [Array.getD_eq_getD_getElem?, hjl] using this
 · rintro e w' ⟨v, rfl, hv, hob', e1, e2, e3, e4, e5⟩
   simp only [if_true] at hob' e5
   have hinv : Inv E.gpv w0 A0 (τ.setO k ob') a w' loc := by
     refine h1.rewrite2 k hk (h1.iB.next e1 e2 e3 e4 (fun b hb hX => e5 b hb (fun hbk => (h1.iF k ob b hk hbk).1.1 hX))) e4 e5 ob' (fun A' hA' => ?_)
     exact hob'.step (fun _ _ _ => rfl) (fun b _ hb => (hA' b hb).2) (fun j hj => (Ob.plain_ment hpl j hj).elim) (fun _ _ => rfl)
   refine hn (.sh d) _ _ w' loc hK (hinv.put hd (.sh ?_)) (put_size _ _ _) (Trk.refl _ _)
   refine hv.step (fun _ _ _ => rfl) (fun b _ => ?_)
   rintro (hb | ⟨j, ob1, hj, hb⟩)
   · exact .inl hb
   · by_cases e : j = k
     · subst e; exact .inr ⟨j, ob, hk, hb⟩
     · simp only [St.setO, if_neg e] at hj; exact .inr ⟨j, ob1, hj, hb⟩
end Go.Pw
set_option linter.unusedVariables false
set_option linter.unusedSimpArgs false
namespace Go.Pw
open Go.RowKit
theorem sub_slice {E : Env} {o : Oper} {σ : St} {K : SV → St → Prop} {T e e' k sz : Nat} {x lo hi : Operand} {i ie : TI} {kl kh : IntKind} {l u : Int} {rows : List (List SV)} (ho : o.op = .slice T x (some lo) (some hi) none)
   (hT : E.tt T = some i) (hi' : i.kind = .sl e) (he : E.tt e = some ie) (hx : σ.ev E x = .row k) (hk : σ.o k = some (.rw e' sz rows)) (hsz : sz = ie.size) (hl : σ.ev E lo = .sh (.val (.int kl l))) (hu : σ.ev E hi = .sh (.val (.int kh u)))
   (h0 : 0 ≤ l) (h1 : l < u) (h2 : u.toNat ≤ rows.length) (h3 : 0 < rows.length) (hK : K (.sub k sz l.toNat (u.toNat - l.toNat)) σ) : SemOp E o σ K := by
 intro w0 A0 a w loc Q h hd
 have hxv := ev_ok h x
 rw [hx] at hxv
 obtain ⟨a1, n1, c1, hlk, hv⟩ := hxv.row_eq
 obtain ⟨xs, hz, hown, hsz1, hm, hx1, hr⟩ := rw_inv (h.iO k _ hk)
 have hlv := bound_of h hl
 have huv := bound_of h hu
 rcases hown.2 with ⟨hv', hn0⟩ | ⟨g, cap, cur, hv', hB, hh, hc, hm', hs, ht⟩
 · omega
 · rw [hlk] at hv'
   injection hv' with q1 q2 q3
   subst q1; subst q2; subst q3
   have hty := (E.ok T i hT).kind
   rw [hi'] at hty
   have hsize := (E.ok e ie he).run_sizeOf w
   have hb := run_bounds (P := E.P) (w := w) (lo := some (a.eval lo)) (hi := some (a.eval hi)) (l := l.toNat) (u := u.toNat) (len := rows.length) (cap := c1) (.inr ⟨kl, l, by rw [hlv], h0, rfl⟩) (.inr ⟨kh, u, by rw [huv], by omega, rfl⟩) (by omega) h2 (by omega)
   refine EGives.run (v := .slice (some ⟨g, l.toNat * sz, none⟩) (u.toNat - l.toNat) (c1 - l.toNat)) hd (Trk.refl _ _) ?_ h (.sub hlk (by omega)) hK
   simp only [execOp, ho, Sem.run_bind, Option.map_some, Option.map_none, hv, Instr.sliceAt, run_underlying hty, Result.andThen_ok, Instr.slice, hb, hsize, Sem.run_pure, hsz, add_mk, Nat.zero_add]
   rw [if_neg (by omega)]
def ConO (E : Env) (f : FuncId) (args : List PV) (e sz : Nat) (rows : List (List PV)) : Prop :=
 (∀ vs w, (callFunc f vs).run E.P w = .ok (.enter f vs) w) ∧ ∀ (w : World) (A : Nat → Prop) (vs : Array Value), vs.size = args.length → (∀ j x, args[j]? = some x → R w A (vs.getD j undef) x) → (∀ b, A b → b < w.heap.size) →
   (∀ g, R w A (.pointer (some ⟨g, 0, none⟩)) (E.gpv g)) →
   Calls E.P f vs w fun ex w' => ∃ v, ex = .returned v ∧ (∀ A' loc', ObAt w' A' loc' 0 v (.rw e sz (SR rows))) ∧ (∀ b, blk v = some b → w.heap.size ≤ b ∧ b < w'.heap.size) ∧ Below w.heap.size w w'
def PV.isVal : PV → Bool
 | .val _ => true
 | _ => false
theorem ObAt.vals {w : World} {A A' : Nat → Prop} {loc loc' : Nat → Value} {v : Value} {e sz : Nat} {rows : List (List PV)} (hp : (rows.all fun r => r.all PV.isVal) = true) (h : ObAt w A loc 0 v (.rw e sz (SR rows))) : ObAt w A' loc' 0 v (.rw e sz (SR rows)) := by
 obtain ⟨xs, hz, hown, hsz, hm, h1, hr⟩ := rw_inv h
 refine .rw xs hz hown hsz hm h1 (fun i j r x hi hx => ?_)
 have h2 := hr i j r x hi hx
 rw [SR_get] at hi
 obtain ⟨r0, hi0, rfl⟩ := Option.map_eq_some_iff.1 hi
 rw [List.getElem?_map] at hx
 obtain ⟨d, hd, rfl⟩ := Option.map_eq_some_iff.1 hx
 have h3 := List.all_eq_true.1 (List.all_eq_true.1 hp r0 (List.mem_of_getElem? hi0)) d (List.mem_of_getElem? hd)
 cases d with
 | val u => rw [h2.val_eq]; exact .sh (.val u)
 | _ => cases h3
def rqn (t k e sz : Nat) (rows : List (List PV)) : Exit → St → Prop := fun ex σ => match ex with
 | .normal | .ret => σ.s t = .row k ∧ σ.o k = some (.rw e sz (SR rows))
 | _ => False
theorem conO_of {E : Env} (hmix : E.P.follows .mixedOrders = true) {f : FuncId} {fn : Func} {c : Code} {args : List PV} {t k e sz : Nat} {rows : List (List PV)} (hf : E.P.funcs[f]? = some fn) (hname : (fn.name == "runtime.NumGoroutine") = false) (hb : fn.body = some c) (hok : codeOk fn.ntmps c = true)
    (hargs : decide (args.length ≤ fn.ntmps) = true) (hrs : fn.results.toList = [t].map .tmp) (hv : (rows.all fun r => r.all PV.isVal) = true) (hp : pwp E c (rqn t k e sz rows) (mkS (argE 0 args) [])) : ConO E f args e sz rows := by
  simp only [decide_eq_true_eq] at hargs
  refine ⟨fun vs w => ?_, fun w A vs hn hR hA hG => ?_⟩
  · have h1 : fn.name ≠ "runtime.NumGoroutine" := by simpa using hname
    simp [callFunc, hf, h1, hb]
  · refine calls_of_wp hf hb ?_
    have hsz : (vs ++ Array.replicate (fn.ntmps - vs.size) undef).size = fn.ntmps := by simp; omega
    have hact : ∀ b, (A b ∨ act (initS args) (fun _ => undef) b) → A b := by
      rintro b (hb | ⟨k, ob, hk, _⟩)
      · exact hb
      · simp [initS] at hk
    have hinv : Inv E.gpv ⟨w, fun b => b < w.heap.size, fun _ h => h⟩ A (initS args) { tmps := vs ++ Array.replicate (fn.ntmps - vs.size) undef, defers := [] } w (fun _ => undef) := by
      refine { iB := ⟨rfl, rfl, rfl, Nat.le_refl _, fun _ _ => rfl⟩, iA := hA, iD := rfl, iS := fun t => ?_, iO := fun k ob hk => by simp [initS] at hk, iJ := fun k k' ob ob' b hk => by simp [initS] at hk, iF := fun k ob b hk => by simp [initS] at hk, iG := fun g => (hG g).step (fun _ _ _ => rfl) (fun b _ => hact b) }
      cases hq : args[t]? with
      | none =>
        have : (initS args).s t = .sh .any := by simp only [initS, hq]
        rw [this]; exact .sh (.any _)
      | some x =>
        have hst : (initS args).s t = .sh x := by simp only [initS, hq]
        rw [hst]
        have hlt : t < vs.size := by rw [hn]; exact (List.getElem?_eq_some_iff.1 hq).1
        have := (hR t x hq).step (w' := w) (A' := fun b => A b ∨ act (initS args) (fun _ => undef) b) (fun _ _ _ => rfl) (fun b _ => hact b)
        refine .sh ?_
        simpa [Array.getD_eq_getD_getElem?, Array.getElem?_append, hlt] using this
    refine pwp_sound hmix c _ _ (initS args) _ w _ hok hsz hinv (by rw [initS_mk]; exact hp) (fun ex τ a' w' loc' hq h3 h4 _ => ?_)
    have fin : (τ.s t = .row k ∧ τ.o k = some (.rw e sz (SR rows))) → a'.defers = [] ∧ ∃ v, (results fn a'.tmps).run E.P w' = .ok v w' ∧ ∃ u, Ending.returned v = .returned u ∧ (∀ A' loc', ObAt w' A' loc' 0 u (.rw e sz (SR rows))) ∧ (∀ b, blk u = some b → w.heap.size ≤ b ∧ b < w'.heap.size) ∧ Below w.heap.size w w' := by
      rintro ⟨h5, h6⟩
      have h7 := h3.iS t
      rw [h5] at h7
      obtain ⟨p, n, cp, hl, hv1⟩ := h7.row_eq
      have h8 := h3.iO k _ h6
      have hloc : a'.tmps.getD t undef = loc' k := by rw [hv1, hl]
      refine ⟨h3.iD, _, results_tmps hrs _ _ _, _, rfl, fun A' loc2 => ?_, fun b hb => ?_, ⟨h3.iB.os, h3.iB.tape, h3.iB.output, h3.iB.size, h3.iB.block⟩⟩
      · have := h8.vals (A' := A') (loc' := loc2) hv
        rw [← hloc] at this
        exact this
      · have hb' : blk (loc' k) = some b := by rw [← hloc]; exact hb
        have := h3.iF k _ b h6 hb'
        exact ⟨Nat.le_of_not_lt this.1.1, this.2⟩
    cases ex with
    | normal => exact fin hq
    | ret => exact fin hq
    | _ => exact hq.elim
theorem adopt_call {E : Env} {o : Oper} {σ : St} {K : SV → St → Prop} {c : Call} {f : Operand} {g d e sz : Nat} {rows : List (List PV)} (ho : o.op = .call c) (hc : c.callee = .value f) (hf : σ.ev E f = .sh (.fn g [])) (hdst : o.dst = some d)
   (hp : withShs E true σ c.args.toList fun ds τ => ConO E g ds e sz rows ∧ K (.row d) (σ.make d (.rw e sz (SR rows)))) : SemOp E o σ K := by
 intro w0 A0 a w loc Q h hd next hn
 obtain ⟨ds, τ, ⟨hcon, hK⟩, h1, hl, hR, hsub, hq⟩ := withShs_sound _ _ _ h hp
 obtain rfl : τ = σ := hq rfl
 have hfv := ev_ok h1 f
 rw [hf] at hfv
 obtain ⟨cs, hcv, hcn, hcr⟩ := hfv.sh_inv.fn_inv
 obtain rfl : cs = #[] := by simpa using hcn
 have hrun : (execOp a.eval o).run E.P w = .ok (.enter g (c.args.map a.eval)) w := by
   simp only [execOp, ho, resolve, hc, hcv, Deferred.ofValue, Sem.run_bind, Sem.run_pure, Result.andThen_ok, invoke]
   have := hcon.1 (c.args.map a.eval) w
   simpa using this
 unfold Oper.wp
 rw [hrun]
 have hlt : ∀ b, (A0 b ∨ act τ loc b) → b < w.heap.size := by
   rintro b (hb | ⟨j, ob1, hj, hb⟩)
   · exact h1.iA b hb
   · exact (h1.iF j ob1 b hj hb).2
 refine Calls.mono (hcon.2 w (fun b => A0 b ∨ act τ loc b) (c.args.map a.eval) (by simpa using hl.symm) (fun j y hj => ?_) hlt (fun g' => h1.iG g')) ?_
 · have hjl : j < c.args.size := by have := (List.getElem?_eq_some_iff.1 hj).1; simp at hl; omega
   have := hR j y c.args[j] hj (by simp [hjl])
   simpa [Array.getD_eq_getD_getElem?, hjl] using this
 · rintro ex w' ⟨v, rfl, hob, hbv, hbel⟩
   have hinv := h1.remake d (h1.iB.below hbel) hbel.size (fun b hb _ => hbel.block b hb) v (.rw e sz (SR rows)) (fun b hb => ⟨h1.fresh (hbv b hb).1, (hbv b hb).2, .inl (hbv b hb).1⟩) (fun A' loc' _ _ _ => hob A' loc')
   refine hn (.row d) _ _ w' _ hK (hinv.put hd ?_) (put_size _ _ _) (Trk.dst hd hdst _ _)
   obtain ⟨xs, hz, hown, _⟩ := rw_inv (hob (fun _ => False) (fun _ => undef))
   obtain ⟨p, cp, hv⟩ := ownsRow_form hown
   rw [hv]
   exact .row (by simp [hv])
end Go.Pw
