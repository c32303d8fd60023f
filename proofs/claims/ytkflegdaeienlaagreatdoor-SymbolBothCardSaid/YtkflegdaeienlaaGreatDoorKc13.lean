/- Merged from the working texts PwLd. -/
import Derived.Test.YtkflegdaeienlaaGreatDoorKc12
set_option linter.all false
set_option maxHeartbeats 400000
set_option linter.unusedVariables false
set_option linter.unusedSimpArgs false
namespace Go.Pw
open Go.RowKit
section
variable {gpv : Nat → PV} {w0 : Base} {A0 : Nat → Prop} {σ : St} {a : Act} {w : World} {loc : Nat → Value}
theorem Inv.congrA (h : Inv gpv w0 A0 σ a w loc) {A1 : Nat → Prop} (he : ∀ b, A0 b ↔ A1 b) : Inv gpv w0 A1 σ a w loc := by
 have : A0 = A1 := funext fun b => propext (he b)
 exact this ▸ h
theorem Inv.moreA (h : Inv gpv w0 A0 σ a w loc) {w' : World} (hb : Below w.heap.size w w') {b : Nat} (h1 : w.heap.size ≤ b) (h2 : b < w'.heap.size) : Inv gpv w0 (fun c => A0 c ∨ c = b) σ a w' loc := by
 have hs : ∀ c, c < w.heap.size → ¬ (A0 c ∨ act σ loc c) → w'.heap[c]? = w.heap[c]? := fun c hc _ => hb.block c hc
 have hA : ∀ c, c < w.heap.size → ((A0 c ∨ c = b) ∨ act σ loc c) → (A0 c ∨ act σ loc c) := fun c hc h => by
   rcases h with (h | h) | h
   · exact .inl h
   · omega
   · exact .inr h
 exact {
   iB := h.iB.below hb
   iA := fun c hc => by
     rcases hc with hc | hc
     · exact Nat.lt_of_lt_of_le (h.iA c hc) hb.size
     · omega
   iD := h.iD
   iS := fun t => (h.iS t).step hs hA (fun _ _ => rfl)
   iO := fun k ob ho => (h.iO k ob ho).step hs hA (fun _ _ => rfl) (fun c hc => hb.block c (h.iF k ob c ho hc).2)
   iJ := h.iJ
   iF := fun k ob c ho hc => ⟨⟨(h.iF k ob c ho hc).1.1, fun h' => by
     rcases h' with h' | h'
     · exact (h.iF k ob c ho hc).1.2 h'
     · have := (h.iF k ob c ho hc).2; omega⟩, Nat.lt_of_lt_of_le (h.iF k ob c ho hc).2 hb.size⟩
   iG := fun g => (h.iG g).step hs hA }
def recS (τ : St) (p : Nat × List Value) : St := (τ.make p.1 (.box (p.2.map fun v => .sh (.val v)))).put (some p.1) (.bp p.1 0)
theorem Inv.record {b d : Nat} {vs : List Value} {T : TypeId} (h : Inv gpv w0 (fun c => A0 c ∨ c = b) σ a w loc) (hv : a.tmps.getD d undef = .pointer (some ⟨b, 0, none⟩)) (hg : w.heap[b]? = some (.cells vs.toArray T (0, 0))) (h1 : ∀ v ∈ vs, v.oneCell' = true) (hX : ¬ w0.X b) (hA : ¬ A0 b) :
   Inv gpv w0 A0 (recS σ (d, vs)) a w (fun j => if j = d then .pointer (some ⟨b, 0, none⟩) else loc j) := by
 have hlt : b < w.heap.size := h.iA b (.inr rfl)
 have hmap : ∀ j ob, j ≠ d → (recS σ (d, vs)).o j = some ob → ∃ ob1, σ.o j = some ob1 ∧ ob = ob1.kill d := by
   intro j ob e hj
   simp only [recS, St.put, St.make, St.setO, St.kill, if_neg e, Option.map_eq_some_iff] at hj
   obtain ⟨ob1, h1, h2⟩ := hj
   exact ⟨ob1, h1, h2.symm⟩
 have hobd : (recS σ (d, vs)).o d = some (.box (vs.map fun v => .sh (.val v))) := by simp [recS, St.put, St.make, St.setO]
 have hact : ∀ c, c < w.heap.size → (A0 c ∨ act (recS σ (d, vs)) (fun j => if j = d then .pointer (some ⟨b, 0, none⟩) else loc j) c) → ((A0 c ∨ c = b) ∨ act σ loc c) := by
   rintro c _ (hc | ⟨j, ob, hj, hjc⟩)
   · exact .inl (.inl hc)
   · by_cases e : j = d
     · subst e
       simp only [if_true, blk, Option.some.injEq] at hjc
       exact .inl (.inr hjc.symm)
     · simp only [if_neg e] at hjc
       obtain ⟨ob1, h2, _⟩ := hmap j ob e hj
       exact .inr ⟨j, ob1, h2, hjc⟩
 have hs : ∀ c, c < w.heap.size → ¬ ((A0 c ∨ c = b) ∨ act σ loc c) → w.heap[c]? = w.heap[c]? := fun _ _ _ => rfl
 refine { iB := h.iB, iA := fun c hc => h.iA c (.inl hc), iD := h.iD, iS := fun t => ?_, iO := fun j ob hj => ?_, iJ := fun j j' ob ob' c hj hj' hc hc' => ?_, iF := fun j ob c hj hc => ?_, iG := fun g => (h.iG g).step hs hact }
 · by_cases e : t = d
   · subst e
     have : (recS σ (t, vs)).s t = .bp t 0 := by simp [recS, St.put]
     rw [this, hv]
     exact .bp (by simp)
   · have : (recS σ (d, vs)).s t = (σ.s t).kill d := by simp [recS, St.put, e, St.make, St.setO, St.kill]
     rw [this]
     refine ((h.iS t).kill d).step hs hact (fun j hj => ?_)
     simp only [if_neg (SV.kill_ment hj)]
 · by_cases e : j = d
   · subst e
     rw [hobd] at hj
     injection hj with hj
     subst hj
     simp only [if_true]
     refine .box hg (by simp) (fun q hq => ?_) (fun q x hx => ?_)
     · have hq' : q < vs.length := by simpa using hq
       simpa [Array.getD, hq'] using h1 vs[q] (List.getElem_mem _)
     · rw [List.getElem?_map] at hx
       obtain ⟨u, hu, rfl⟩ := Option.map_eq_some_iff.1 hx
       have : vs.toArray.getD q undef = u := by rw [Array.getD_eq_getD_getElem?, List.getElem?_toArray, hu]; rfl
       rw [this]
       exact .sh (.val u)
   · obtain ⟨ob1, h2, rfl⟩ := hmap j ob e hj
     simp only [if_neg e]
     exact ((h.iO j ob1 h2).kill d).step hs hact (fun i hi => by simp only [if_neg (Ob.kill_ment hi)]) (fun _ _ => rfl)
 · by_cases e : j = d
   · by_cases e' : j' = d
     · rw [e, e']
     · subst e
       obtain ⟨ob3, h3, _⟩ := hmap j' ob' e' hj'
       simp only [if_true, blk, Option.some.injEq] at hc
       simp only [if_neg e'] at hc'
       exact absurd (.inr hc.symm) (h.iF j' ob3 c h3 hc').1.2
   · by_cases e' : j' = d
     · subst e'
       obtain ⟨ob3, h3, _⟩ := hmap j ob e hj
       simp only [if_true, blk, Option.some.injEq] at hc'
       simp only [if_neg e] at hc
       exact absurd (.inr hc'.symm) (h.iF j ob3 c h3 hc).1.2
     · obtain ⟨ob3, h3, _⟩ := hmap j ob e hj
       obtain ⟨ob4, h4, _⟩ := hmap j' ob' e' hj'
       simp only [if_neg e] at hc
       simp only [if_neg e'] at hc'
       exact h.iJ j j' ob3 ob4 c h3 h4 hc hc'
 · by_cases e : j = d
   · subst e
     simp only [if_true, blk, Option.some.injEq] at hc
     subst hc
     exact ⟨⟨hX, hA⟩, hlt⟩
   · obtain ⟨ob3, h3, _⟩ := hmap j ob e hj
     simp only [if_neg e] at hc
     have := h.iF j ob3 c h3 hc
     exact ⟨⟨this.1.1, fun h' => this.1.2 (.inl h')⟩, this.2⟩
end
def isA (ops : Array Oper) (i : Nat) : Bool := match ops[i]? with
 | some o => match o.op with
   | .alloc _ | .box .. => o.guard.isNone && o.dst.isSome
   | _ => false
 | none => false
def AStp (E : Env) (o : Oper) (σ : St) (vs : List Value) : Prop := match o.op with
 | .alloc T => ∃ i, E.tt T = some i ∧ vs = i.zero
 | .box _ x => (σ.ev E x).cells = some (vs.map fun v => .sh (.val v)) ∧ vs.all (·.oneCell') = true
 | _ => False
section
variable {E : Env} {w0 : Base} {A0 : Nat → Prop} {σ : St} {a : Act} {w : World} {loc : Nat → Value}
theorem A_run (h : Inv E.gpv w0 A0 σ a w loc) {o : Oper} {vs : List Value} (hs : AStp E o σ vs) :
   (∀ v ∈ vs, v.oneCell' = true) ∧ ∃ T, (execOp a.eval o).run E.P w = .ok (.value (.pointer (some ⟨w.heap.size, 0, none⟩))) (w.alloc (.cells vs.toArray T)) := by
 unfold AStp at hs
 split at hs
 · rename_i T ho
   obtain ⟨i, hi, rfl⟩ := hs
   have tk := E.ok T i hi
   obtain ⟨z, hz, hzc⟩ := tk.run_zero w
   refine ⟨fun v hv => List.all_eq_true.1 tk.zone v hv, T, ?_⟩
   have : z.cells = i.zero.toArray := Array.ext' (by simpa using hzc)
   simp only [execOp, ho, Instr.alloc, Sem.run_bind, hz, Result.andThen_ok, newVar, newRow, run_newObj, Sem.run_pure, this]
   rfl
 · rename_i T x ho
   obtain ⟨hcs, hone⟩ := hs
   have h1 : (vs.map fun v => SV.sh (.val v)).all SV.one = true := by
     rw [List.all_eq_true]
     intro y hy
     obtain ⟨v, hv, rfl⟩ := List.mem_map.1 hy
     exact List.all_eq_true.1 hone v hv
   obtain ⟨hn, hc⟩ := RS.cells_of (ev_ok h x) hcs h1
   refine ⟨fun v hv => List.all_eq_true.1 hone v hv, T, ?_⟩
   have : (a.eval x).cells = vs.toArray := by
     apply Array.ext
     · simpa using hn
     · intro q hq hq'
       have hql : q < vs.length := by simpa using hq'
       have := (hc q (.sh (.val vs[q])) (by simp [hql])).1.val_eq
       simpa [Array.getD, hq] using this
   simp only [execOp, ho, Instr.box, Sem.run_bind, Result.andThen_ok, newVar, newRow, run_newObj, Sem.run_pure, this]
   rfl
 · exact hs.elim
theorem AStp.local {σ τ : St} {o : Oper} {vs : List Value} (hs : ∀ t, Operand.tmp t ∈ o.op.operands → σ.s t = τ.s t) (h : AStp E o σ vs) : AStp E o τ vs := by
 unfold AStp at h ⊢
 split at h
 · exact h
 · rename_i T x ho
   have : σ.ev E x = τ.ev E x := by
     cases x with
     | tmp t => exact hs t (by rw [ho]; simp [Op.operands])
     | _ => rfl
   rw [← this]; exact h
 · exact h.elim
end
def chk (E : Env) (ops : Array Oper) (i : Nat) (τ : St) : Prop := ∃ o d, ops[i]? = some o ∧ o.dst = some d ∧ ppop E o.op τ fun x => x = τ.s d
def chks (E : Env) (ops : Array Oper) : List Nat → St → Prop
 | [], _ => True
 | i :: l, τ => chk E ops i τ ∧ chks E ops l τ
theorem chks_mem {E : Env} {ops : Array Oper} {τ : St} : ∀ {l : List Nat} {i : Nat}, chks E ops l τ → i ∈ l → chk E ops i τ
 | [], _, _, h => by cases h
 | j :: l, i, h, hi => by
   rcases List.mem_cons.1 hi with rfl | hi
   · exact h.1
   · exact chks_mem h.2 hi
def ptl (E : Env) (ops : Array Oper) : List (List Nat) → List Oper → (St → Prop) → St → Prop
 | _, [], K, σ => K σ
 | R, o :: rest, K, σ => match o.guard with
   | none => (epop E o.dst o.op σ fun x τ => chks E ops (R.headD []) (τ.put o.dst x) ∧ ptl E ops R.tail rest K (τ.put o.dst x)) ∨ SemOp E o σ fun x τ => chks E ops (R.headD []) (τ.put o.dst x) ∧ ptl E ops R.tail rest K (τ.put o.dst x)
   | some (j, want) => match gslot ops j with
     | some t => match σ.s t with
       | .sh (.val (.bool b)) => (b = want → epop E o.dst o.op σ fun x τ => chks E ops (R.headD []) (τ.put o.dst x) ∧ ptl E ops R.tail rest K (τ.put o.dst x)) ∧ (b = !want → chks E ops (R.headD []) (σ.put o.dst (.sh (.val undef))) ∧ ptl E ops R.tail rest K (σ.put o.dst (.sh (.val undef))))
       | _ => False
     | none => False
def pfr (E : Env) (ops : Array Oper) (fls : List Nat) (R : List (List Nat)) : Nat → Nat → List Oper → List (Nat × List Value) → (St → Prop) → St → Prop
 | 0, _, l, as, K, σ => chks E ops fls (as.foldl recS σ) ∧ ptl E ops R l K (as.foldl recS σ)
 | _ + 1, _, [], as, K, σ => False
 | m + 1, k, o :: rest, as, K, σ => if isA ops k = true then ∃ d vs, o.dst = some d ∧ AStp E o σ vs ∧ pfr E ops fls R m (k + 1) rest (as ++ [(d, vs)]) K (σ.put o.dst (.sh .any)) else match o.guard with
   | none => ppop E o.op σ fun x => pfr E ops fls R m (k + 1) rest as K (σ.put o.dst x)
   | some (j, want) => match gslot ops j with
     | some t => match σ.s t with
       | .sh (.val (.bool b)) => (b = want → ppop E o.op σ fun x => pfr E ops fls R m (k + 1) rest as K (σ.put o.dst x)) ∧ (b = !want → pfr E ops fls R m (k + 1) rest as K (σ.put o.dst (.sh (.val undef))))
       | .sh (.val (.tuple _)) => pfr E ops fls R m (k + 1) rest as K (σ.put o.dst (.sh (.val undef)))
       | _ => False
     | none => False
def asOf (ops : Array Oper) (V : Nat → List Value) (k : Nat) : List (Nat × List Value) := (List.range k).filterMap fun i => if isA ops i = true then (gslot ops i).map fun d => (d, V i) else none
theorem asOf_succ (ops : Array Oper) (V : Nat → List Value) (k : Nat) : asOf ops V (k + 1) = asOf ops V k ++ (if isA ops k = true then ((gslot ops k).map fun d => (d, V k)).toList else []) := by
 unfold asOf
 rw [List.range_succ, List.filterMap_append]
 congr 1
 simp only [List.filterMap_cons, List.filterMap_nil]
 by_cases h : isA ops k = true
 · rw [if_pos h]
   cases gslot ops k <;> simp [h]
 · rw [if_neg h]; simp [h]
theorem asOf_congr {ops : Array Oper} {V V' : Nat → List Value} {k : Nat} (h : ∀ i, i < k → V i = V' i) : asOf ops V k = asOf ops V' k := by
 unfold asOf
 have : ∀ l : List Nat, (∀ i ∈ l, i < k) → l.filterMap (fun i => if isA ops i = true then (gslot ops i).map fun d => (d, V i) else none) = l.filterMap (fun i => if isA ops i = true then (gslot ops i).map fun d => (d, V' i) else none) := by
   intro l
   induction l with
   | nil => intro _; rfl
   | cons i l ih =>
     intro hl
     simp only [List.filterMap_cons, h i (hl i (by simp)), ih (fun j hj => hl j (by simp [hj]))]
 exact this _ (fun i hi => by simpa using hi)
def FStp (E : Env) (ops : Array Oper) (i : Nat) (o : Oper) (σ : St) (x : SV) (vs : List Value) : Prop := if isA ops i = true then x = .sh .any ∧ AStp E o σ vs else Stp E ops o σ x
theorem pfr_ex {E : Env} {ops : Array Oper} {fls : List Nat} {R : List (List Nat)} {σ : St} : ∀ (m k : Nat) (l : List Oper) (K : St → Prop) (X0 : Nat → SV) (V0 : Nat → List Value), (∀ j, l[j]? = ops[k + j]?) → pfr E ops fls R m k l (asOf ops V0 k) K (seqS ops σ X0 k) →
   ∃ (X : Nat → SV) (V : Nat → List Value), (∀ i, i < k → X i = X0 i) ∧ (∀ i, i < k → V i = V0 i) ∧ (∀ i o, k ≤ i → i < k + m → ops[i]? = some o → FStp E ops i o (seqS ops σ X i) (X i) (V i)) ∧ m ≤ l.length ∧ chks E ops fls ((asOf ops V (k + m)).foldl recS (seqS ops σ X (k + m))) ∧ ptl E ops R (l.drop m) K ((asOf ops V (k + m)).foldl recS (seqS ops σ X (k + m)))
 | 0, k, l, K, X0, V0, hl, h => ⟨X0, V0, fun _ _ => rfl, fun _ _ => rfl, fun i o h1 h2 => by omega, Nat.zero_le _, by simpa [pfr] using h⟩
 | m + 1, k, [], K, X0, V0, hl, h => by simp [pfr] at h
 | m + 1, k, o :: l, K, X0, V0, hl, h => by
   have ho : ops[k]? = some o := by have := hl 0; simpa using this.symm
   have hg : gslot ops k = o.dst := by simp [gslot, ho]
   have fin : ∀ x vs, FStp E ops k o (seqS ops σ X0 k) x vs → pfr E ops fls R m (k + 1) l (asOf ops (fun i => if i = k then vs else V0 i) (k + 1)) K ((seqS ops σ X0 k).put o.dst x) →
       ∃ (X : Nat → SV) (V : Nat → List Value), (∀ i, i < k → X i = X0 i) ∧ (∀ i, i < k → V i = V0 i) ∧ (∀ i o, k ≤ i → i < k + (m + 1) → ops[i]? = some o → FStp E ops i o (seqS ops σ X i) (X i) (V i)) ∧ m + 1 ≤ (o :: l).length ∧
         chks E ops fls ((asOf ops V (k + (m + 1))).foldl recS (seqS ops σ X (k + (m + 1)))) ∧ ptl E ops R ((o :: l).drop (m + 1)) K ((asOf ops V (k + (m + 1))).foldl recS (seqS ops σ X (k + (m + 1)))) := by
     intro x vs hx hp
     have hX1 : ∀ i, i < k → (fun i => if i = k then x else X0 i) i = X0 i := fun i hi => by simp [show i ≠ k by omega]
     have hs1 : seqS ops σ (fun i => if i = k then x else X0 i) k = seqS ops σ X0 k := seqS_congr k hX1
     obtain ⟨X, V, h1, h1v, h2, h3, h4⟩ := pfr_ex m (k + 1) l K (fun i => if i = k then x else X0 i) (fun i => if i = k then vs else V0 i) (fun j => by have := hl (j + 1); simpa [Nat.add_assoc, Nat.add_comm 1 j] using this) (by
       simp only [seqS, if_true]; rw [hs1, hg]; exact hp)
     have hXk : X k = x := by rw [h1 k (by omega)]; simp
     have hVk : V k = vs := by rw [h1v k (by omega)]; simp
     have hXs : seqS ops σ X k = seqS ops σ X0 k := by rw [← hs1]; exact seqS_congr k (fun i hi => h1 i (by omega))
     refine ⟨X, V, fun i hi => by rw [h1 i (by omega)]; exact hX1 i hi, fun i hi => by rw [h1v i (by omega)]; simp [show i ≠ k by omega], fun i o' hi1 hi2 ho' => ?_, by simp; omega, ?_⟩
     · by_cases e : i = k
       · subst e
         rw [ho] at ho'
         injection ho' with ho'
         subst ho'
         rw [hXs, hXk, hVk]; exact hx
       · exact h2 i o' (by omega) (by omega) ho'
     · rw [show k + (m + 1) = k + 1 + m by omega]; simpa using h4
   have hV1 : ∀ vs, asOf ops (fun i => if i = k then vs else V0 i) k = asOf ops V0 k := fun vs => asOf_congr (fun i hi => by simp [show i ≠ k by omega])
   simp only [pfr] at h
   by_cases hA : isA ops k = true
   · rw [if_pos hA] at h
     obtain ⟨d, vs, hdst, hst, hp⟩ := h
     refine fin (.sh .any) vs (by unfold FStp; rw [if_pos hA]; exact ⟨rfl, hst⟩) ?_
     rw [asOf_succ, hV1, if_pos hA, hg, hdst]
     simpa [hdst] using hp
   · rw [if_neg hA] at h
     have has : ∀ vs, asOf ops (fun i => if i = k then vs else V0 i) (k + 1) = asOf ops V0 k := fun vs => by rw [asOf_succ, hV1, if_neg hA]; simp
     have fin' : ∀ x, Stp E ops o (seqS ops σ X0 k) x → pfr E ops fls R m (k + 1) l (asOf ops V0 k) K ((seqS ops σ X0 k).put o.dst x) → _ := fun x hx hp => fin x [] (by unfold FStp; rw [if_neg hA]; exact hx) (by rw [has]; exact hp)
     split at h
     · rename_i hgd
       obtain ⟨x, hK, hall⟩ := ppop_ex h
       exact fin' x (by simp only [Stp, hgd]; exact hall) hK
     · rename_i j want hgd
       split at h
       · rename_i t ht
         split at h
         · rename_i b hs
           by_cases e : b = want
           · obtain ⟨x, hK, hall⟩ := ppop_ex (h.1 e)
             exact fin' x (by simp only [Stp, hgd]; exact .inr ⟨t, b, ht, hs, .inl ⟨e, hall⟩⟩) hK
           · have e' : b = !want := by cases b <;> cases want <;> simp at e ⊢
             exact fin' (.sh (.val undef)) (by simp only [Stp, hgd]; exact .inr ⟨t, b, ht, hs, .inr ⟨e', trivial⟩⟩) (h.2 e')
         · rename_i vs hs
           exact fin' (.sh (.val undef)) (by simp only [Stp, hgd]; exact .inl ⟨t, vs, ht, hs, trivial⟩) h
         · exact h.elim
       · exact h.elim
def drawOk2 (ops : Array Oper) (m : Nat) (fls : List Nat) (R : List (List Nat)) : Bool :=
 decide (m ≤ ops.size) &&
 ((List.range m).all fun i => (List.range ops.size).all fun j => i == j || match gslot ops i with
   | none => true
   | some d => match ops[j]? with
     | none => true
     | some o => !(Oper.names ops o).contains d || (if i < j then pre ops j i else pre ops i j && !(j < m && o.dst == some d))) &&
 ((List.range m).all fun i => (List.range m).all fun j => i == j || match gslot ops i with
   | none => true
   | some d => gslot ops j != some d) &&
 ((List.range m).all fun i => !isA ops i || (List.range m).all fun j => i == j || match gslot ops i with
   | none => true
   | some d => match ops[j]? with
     | none => true
     | some o => !(Oper.names ops o).contains d) &&
 ((List.range ops.size).all fun j => j < m || (List.range j).all fun i => pre ops j i || fls.contains i) &&
 (fls.all fun i => decide (i < m) && !isA ops i && match ops[i]? with
   | some o => noW o.op && o.guard.isNone && (match o.dst with | some d => !(o.op.operands.toList.any fun x => match x with | .tmp t => t == d | _ => false) | none => false)
   | none => false) &&
 (fls.all fun k => fls.all fun i => i == k || match gslot ops k, ops[i]? with
   | some d, some o => !(Oper.names ops o).contains d || pre ops i k
   | _, _ => true) &&
 ((List.range (ops.size - m)).all fun q => fls.all fun i => pre ops (m + q) i || (R.getD q []).contains i) &&
 ((List.range ops.size).all fun j => match ops[j]? with
   | none => true
   | some o => o.after.toList.all fun e => !Region.binds .any e || e.on < j) &&
 (ops.toList.all fun o => match o.op with | .select .. => false | _ => true)
structure D2 (ops : Array Oper) (m : Nat) (fls : List Nat) (R : List (List Nat)) : Prop where
 hm : m ≤ ops.size
 names : ∀ i j d o, i < m → i ≠ j → gslot ops i = some d → ops[j]? = some o → d ∈ Oper.names ops o → (i < j ∧ pre ops j i = true) ∨ (j < i ∧ pre ops i j = true)
 uniq : ∀ i j d, i < m → j < m → gslot ops i = some d → gslot ops j = some d → i = j
 aslot : ∀ i j d o, i < m → j < m → i ≠ j → isA ops i = true → gslot ops i = some d → ops[j]? = some o → d ∉ Oper.names ops o
 tail : ∀ j i, m ≤ j → j < ops.size → i < j → pre ops j i = true ∨ i ∈ fls
 flo : ∀ i, i ∈ fls → i < m ∧ isA ops i = false ∧ ∃ o, ops[i]? = some o ∧ noW o.op = true ∧ o.guard = none ∧ ∀ d, o.dst = some d → Operand.tmp d ∉ o.op.operands
 ff : ∀ i k d o, i ∈ fls → k ∈ fls → i ≠ k → gslot ops k = some d → ops[i]? = some o → d ∈ Oper.names ops o → pre ops i k = true
 re : ∀ q i, q < ops.size - m → i ∈ fls → pre ops (m + q) i = true ∨ i ∈ R.getD q []
 low : ∀ (j : Nat) (o : Oper), ops[j]? = some o → ∀ e ∈ o.after, Region.binds .any e = true → e.on < j
 nosel : ∀ (j : Nat) (o : Oper), ops[j]? = some o → ∀ cs b, o.op ≠ .select cs b
theorem drawOk2_spec {ops : Array Oper} {m : Nat} {fls : List Nat} {R : List (List Nat)} (h : drawOk2 ops m fls R = true) : D2 ops m fls R := by
 simp only [drawOk2, Bool.and_eq_true] at h
 obtain ⟨⟨⟨⟨⟨⟨⟨⟨⟨h0, h1⟩, h2⟩, hA⟩, h3⟩, hF⟩, hFF⟩, hR⟩, h4⟩, h5⟩ := h
 refine ⟨by simpa using h0, ?_, ?_, ?_, ?_, ?_, ?_, ?_, ?_, ?_⟩
 · intro i j d o hi hij hd ho hn
   have hj := (Array.getElem?_eq_some_iff.1 ho).1
   have := List.all_eq_true.1 (List.all_eq_true.1 h1 i (by simpa using hi)) j (by simpa using hj)
   simp only [hd, ho, Bool.or_eq_true, beq_iff_eq] at this
   rcases this with this | this
   · exact absurd this hij
   · rcases this with this | this
     · simp only [Bool.not_eq_true', List.contains_eq_mem, decide_eq_false_iff_not] at this
       exact absurd hn this
     · split at this
       · rename_i hlt; exact .inl ⟨hlt, this⟩
       · rename_i hlt
         simp only [Bool.and_eq_true] at this
         exact .inr ⟨by omega, this.1⟩
 · intro i j d hi hj hd hd'
   have := List.all_eq_true.1 (List.all_eq_true.1 h2 i (by simpa using hi)) j (by simpa using hj)
   simp only [hd, hd', Bool.or_eq_true, beq_iff_eq, bne_self_eq_false, or_false] at this
   simpa using this
 · intro i j d o hi hj hij hAi hd ho hn
   have := List.all_eq_true.1 hA i (by simpa using hi)
   rw [hAi] at this
   simp only [Bool.not_true, Bool.false_or] at this
   have := List.all_eq_true.1 this j (by simpa using hj)
   simp only [hd, ho, Bool.or_eq_true, beq_iff_eq, Bool.not_eq_true', List.contains_eq_mem, decide_eq_false_iff_not] at this
   rcases this with this | this
   · exact hij this
   · exact this hn
 · intro j i hmj hj hij
   have := List.all_eq_true.1 h3 j (by simpa using hj)
   simp only [Bool.or_eq_true, decide_eq_true_eq] at this
   rcases this with this | this
   · omega
   · have := List.all_eq_true.1 this i (by simpa using hij)
     simpa using this
 · intro i hi
   have := List.all_eq_true.1 hF i hi
   simp only [Bool.and_eq_true, decide_eq_true_eq, Bool.not_eq_true'] at this
   obtain ⟨⟨h6, h7⟩, h8⟩ := this
   refine ⟨h6, h7, ?_⟩
   cases ho : ops[i]? with
   | none => rw [ho] at h8; cases h8
   | some o =>
     rw [ho] at h8
     simp only [Bool.and_eq_true, Option.isNone_iff_eq_none] at h8
     refine ⟨o, rfl, h8.1.1, h8.1.2, fun d hd hmem => ?_⟩
     rw [hd] at h8
     have h9 := h8.2
     simp only [Bool.not_eq_true', List.any_eq_false] at h9
     exact h9 (.tmp d) (by simpa using hmem) (by simp)
 · intro i k d o hi hk hne hd ho hn
   have := List.all_eq_true.1 (List.all_eq_true.1 hFF k hk) i hi
   simp only [hd, ho, Bool.or_eq_true, beq_iff_eq, Bool.not_eq_true', List.contains_eq_mem, decide_eq_false_iff_not] at this
   rcases this with this | this | this
   · exact absurd this hne
   · exact absurd hn this
   · exact this
 · intro q i hq hi
   have := List.all_eq_true.1 (List.all_eq_true.1 hR q (by simpa using hq)) i hi
   simpa using this
 · intro j o ho e he hb
   have hj := (Array.getElem?_eq_some_iff.1 ho).1
   have := List.all_eq_true.1 h4 j (by simpa using hj)
   simp only [ho] at this
   have := List.all_eq_true.1 this e (by simpa using he)
   simpa [hb] using this
 · intro j o ho cs b e
   have := List.all_eq_true.1 h5 o (by rw [Array.mem_toList_iff]; exact Array.mem_of_getElem? ho)
   rw [e] at this
   simp at this
section
variable {E : Env} {w0 : Base} {A0 : Nat → Prop} {ops : Array Oper} {m : Nat} {fls : List Nat} {R : List (List Nat)} {σ : St} {X : Nat → SV} {V : Nat → List Value}
theorem D2.same (D : D2 ops m fls R) {S : Nat → Bool} {i : Nat} {o : Oper} (hi : i < m) (ho : ops[i]? = some o) (hSi : S i = false) (h1 : ∀ q, q < i → pre ops i q = true → S q = true) (h2 : ∀ q, q < m → i < q → pre ops q i = true → S q = false) :
   ∀ t, t ∈ Oper.names ops o → (seqS ops σ X i).s t = (tau ops m σ X S).s t := by
 intro t ht
 rw [seqS_tau D.uniq i (by omega)]
 by_cases hex : ∃ q, q < m ∧ gslot ops q = some t
 · obtain ⟨q, h3, h4⟩ := hex
   by_cases hqi : q = i
   · subst hqi
     rw [tau_miss (fun j h5 h6 h7 => ?_), tau_miss (fun j h5 h6 h7 => ?_)]
     · have := D.uniq j q t h5 h3 h7 h4; subst this; rw [hSi] at h6; cases h6
     · have := D.uniq j q t h5 h3 h7 h4; subst this; simp at h6
   · rcases D.names q i t o h3 hqi h4 ho ht with ⟨h5, h6⟩ | ⟨h5, h6⟩
     · rw [tau_hit D.uniq h3 (by simpa using h5) h4, tau_hit D.uniq h3 (h1 q h5 h6) h4]
     · have h7 := h2 q h3 h5 h6
       rw [tau_miss (fun j h8 h9 h10 => ?_), tau_miss (fun j h8 h9 h10 => ?_)]
       · have := D.uniq j q t h8 h3 h10 h4; subst this; rw [h7] at h9; cases h9
       · have := D.uniq j q t h8 h3 h10 h4; subst this; simp at h9; omega
 · rw [tau_miss (fun j h3 _ h5 => hex ⟨j, h3, h5⟩), tau_miss (fun j h3 _ h5 => hex ⟨j, h3, h5⟩)]
structure P1 (E : Env) (w0 : Base) (A0 : Nat → Prop) (ops : Array Oper) (m : Nat) (σ : St) (X : Nat → SV) (V : Nat → List Value) (S : Nat → Bool) (a : Act) (w : World) (loc : Nat → Value) (bl : Nat → Nat) : Prop where
 inv : Inv E.gpv w0 (fun c => A0 c ∨ ∃ i, i < m ∧ isA ops i = true ∧ S i = true ∧ bl i = c) (tau ops m σ X S) a w loc
 made : ∀ i, i < m → isA ops i = true → S i = true → ∃ d T, gslot ops i = some d ∧ a.tmps.getD d undef = .pointer (some ⟨bl i, 0, none⟩) ∧ w.heap[bl i]? = some (.cells (V i).toArray T (0, 0)) ∧ (∀ v ∈ V i, v.oneCell' = true) ∧ ¬ w0.X (bl i) ∧ ¬ A0 (bl i)
 inj : ∀ i j, i < m → j < m → isA ops i = true → isA ops j = true → S i = true → S j = true → bl i = bl j → i = j
theorem P1.lt {S : Nat → Bool} {a : Act} {w : World} {loc : Nat → Value} {bl : Nat → Nat} (p : P1 E w0 A0 ops m σ X V S a w loc bl) {i : Nat} (hi : i < m) (hA : isA ops i = true) (hS : S i = true) : bl i < w.heap.size :=
 p.inv.iA _ (.inr ⟨i, hi, hA, hS, rfl⟩)
theorem P1.pure (D : D2 ops m fls R) {S S' : Nat → Bool} {a : Act} {w : World} {loc : Nat → Value} {bl : Nat → Nat} (p : P1 E w0 A0 ops m σ X V S a w loc bl) {i : Nat} (hi : i < m) (hA : isA ops i = false) (hS' : ∀ j, j < m → S' j = (S j || j == i)) {v : Value} {w' : World}
   (hd : ∀ t, gslot ops i = some t → t < a.tmps.size) (hb : Below w.heap.size w w') (hx : RS w' (fun b => (A0 b ∨ ∃ i, i < m ∧ isA ops i = true ∧ S i = true ∧ bl i = b) ∨ act (tau ops m σ X S) loc b) loc v (X i)) : P1 E w0 A0 ops m σ X V S' (a.put (gslot ops i) v) w' loc bl := by
 have hne : ∀ j, j < m → isA ops j = true → S' j = true → j ≠ i ∧ S j = true := fun j hj hAj hSj => by
   have hji : j ≠ i := fun e => by rw [e, hA] at hAj; cases hAj
   rw [hS' j hj] at hSj
   exact ⟨hji, by simpa [hji] using hSj⟩
 have hset : (fun c => A0 c ∨ ∃ j, j < m ∧ isA ops j = true ∧ S' j = true ∧ bl j = c) = fun c => A0 c ∨ ∃ j, j < m ∧ isA ops j = true ∧ S j = true ∧ bl j = c := by
   funext c
   refine propext (or_congr_right ⟨?_, ?_⟩)
   · rintro ⟨j, h1, h2, h3, h4⟩
     exact ⟨j, h1, h2, (hne j h1 h2 h3).2, h4⟩
   · rintro ⟨j, h1, h2, h3, h4⟩
     exact ⟨j, h1, h2, by rw [hS' j h1, h3]; rfl, h4⟩
 refine ⟨?_, fun j hj hAj hSj => ?_, fun j j' hj hj' hAj hAj' hSj hSj' => p.inj j j' hj hj' hAj hAj' (hne j hj hAj hSj).2 (hne j' hj' hAj' hSj').2⟩
 · rw [hset, tau_put D.uniq hi hS']
   exact (p.inv.grow hb).put hd hx
 · obtain ⟨hji, hSj⟩ := hne j hj hAj hSj
   obtain ⟨d, T, h1, h2, h3, h4, h5, h6⟩ := p.made j hj hAj hSj
   refine ⟨d, T, h1, ?_, by rw [hb.block _ (p.lt hj hAj hSj)]; exact h3, h4, h5, h6⟩
   rw [Act.put_get a _ v hd d, if_neg (fun e => hji (D.uniq j i d hj hi h1 e))]
   exact h2
theorem P1.make (D : D2 ops m fls R) {S S' : Nat → Bool} {a : Act} {w : World} {loc : Nat → Value} {bl : Nat → Nat} (p : P1 E w0 A0 ops m σ X V S a w loc bl) {i d : Nat} (hi : i < m) (hA : isA ops i = true) (hSi : S i = false) (hS' : ∀ j, j < m → S' j = (S j || j == i)) {T : TypeId}
   (hg : gslot ops i = some d) (hX : X i = .sh .any) (hd : d < a.tmps.size) (h1 : ∀ v ∈ V i, v.oneCell' = true) : P1 E w0 A0 ops m σ X V S' (a.put (some d) (.pointer (some ⟨w.heap.size, 0, none⟩))) (w.alloc (.cells (V i).toArray T)) loc (fun j => if j = i then w.heap.size else bl j) := by
 have hbel : Below w.heap.size w (w.alloc (.cells (V i).toArray T)) := Below.alloc (Below.refl _ _) (Nat.le_refl _) _
 have hd' : ∀ t, (some d : Option Nat) = some t → t < a.tmps.size := fun t e => by injection e with e; omega
 have hset : (fun c => A0 c ∨ ∃ j, j < m ∧ isA ops j = true ∧ S' j = true ∧ (if j = i then w.heap.size else bl j) = c) = fun c => (A0 c ∨ ∃ j, j < m ∧ isA ops j = true ∧ S j = true ∧ bl j = c) ∨ c = w.heap.size := by
   funext c
   refine propext ⟨?_, ?_⟩
   · rintro (h | ⟨j, h2, h3, h4, h5⟩)
     · exact .inl (.inl h)
     · by_cases e : j = i
       · subst e; simp only [if_true] at h5; exact .inr h5.symm
       · rw [if_neg e] at h5
         rw [hS' j h2] at h4
         exact .inl (.inr ⟨j, h2, h3, by simpa [e] using h4, h5⟩)
   · rintro ((h | ⟨j, h2, h3, h4, h5⟩) | h)
     · exact .inl h
     · have e : j ≠ i := fun e => by rw [e, hSi] at h4; cases h4
       exact .inr ⟨j, h2, h3, by rw [hS' j h2, h4]; rfl, by rw [if_neg e]; exact h5⟩
     · exact .inr ⟨i, hi, hA, by rw [hS' i hi]; simp, by simp [h]⟩
 refine ⟨?_, fun j hj hAj hSj => ?_, fun j j' hj hj' hAj hAj' hSj hSj' e => ?_⟩
 · rw [hset, tau_put D.uniq hi hS', hg, hX]
   exact (p.inv.moreA hbel (Nat.le_refl _) (by rw [size_alloc]; omega)).put hd' (.sh (.any _))
 · by_cases e : j = i
   · subst e
     refine ⟨d, T, hg, ?_, by simp only [if_true]; exact heap_new w _, h1, ?_, ?_⟩
     · rw [Act.put_get a _ _ hd' d]; simp
     · simp only [if_true]; exact p.inv.iB.new (Nat.le_refl _)
     · simp only [if_true]; exact fun hc => by have := p.inv.iA _ (.inl hc); omega
   · rw [hS' j hj] at hSj
     have hSj' : S j = true := by simpa [e] using hSj
     obtain ⟨d', T', h2, h3, h4, h5, h6, h7⟩ := p.made j hj hAj hSj'
     simp only [if_neg e]
     refine ⟨d', T', h2, ?_, by rw [hbel.block _ (p.lt hj hAj hSj')]; exact h4, h5, h6, h7⟩
     rw [Act.put_get a _ _ hd' d', if_neg (fun e2 => e (D.uniq j i d' hj hi h2 (by rw [hg]; exact e2)))]
     exact h3
 · rw [hS' j hj] at hSj
   rw [hS' j' hj'] at hSj'
   by_cases e1 : j = i
   · by_cases e2 : j' = i
     · rw [e1, e2]
     · have h2 : S j' = true := by simpa [e2] using hSj'
       have := p.lt hj' hAj' h2
       simp only [e1, if_true, if_neg e2] at e
       omega
   · by_cases e2 : j' = i
     · have h2 : S j = true := by simpa [e1] using hSj
       have := p.lt hj hAj h2
       simp only [e2, if_true, if_neg e1] at e
       omega
     · simp only [if_neg e1, if_neg e2] at e
       exact p.inj j j' hj hj' hAj hAj' (by simpa [e1] using hSj) (by simpa [e2] using hSj') e
theorem P1.done (D : D2 ops m fls R) {a : Act} {w : World} {loc : Nat → Value} {bl : Nat → Nat} (hd : ∀ i t, i < m → gslot ops i = some t → t < a.tmps.size) (p : P1 E w0 A0 ops m σ X V (fun _ => true) a w loc bl) :
   ∃ loc', Inv E.gpv w0 A0 ((asOf ops V m).foldl recS (seqS ops σ X m)) a w loc' ∧ Trk a loc loc' := by
 have key : ∀ k, k ≤ m → ∃ loc', Inv E.gpv w0 (fun c => A0 c ∨ ∃ i, k ≤ i ∧ i < m ∧ isA ops i = true ∧ bl i = c) ((asOf ops V k).foldl recS (seqS ops σ X m)) a w loc' ∧ Trk a loc loc' := by
   intro k
   induction k with
   | zero =>
     intro _
     refine ⟨loc, ?_, Trk.refl _ _⟩
     have h1 : tau ops m σ X (fun _ => true) = seqS ops σ X m := by
       rw [seqS_tau D.uniq m (Nat.le_refl _)]
       have : ∀ t, (tau ops m σ X fun _ => true).s t = (tau ops m σ X fun i => decide (i < m)).s t := by
         intro t
         by_cases hex : ∃ i, i < m ∧ gslot ops i = some t
         · obtain ⟨i, h1, h2⟩ := hex
           rw [tau_hit D.uniq h1 rfl h2, tau_hit D.uniq h1 (by simpa using h1) h2]
         · rw [tau_miss (fun i h1 _ h3 => hex ⟨i, h1, h3⟩), tau_miss (fun i h1 _ h3 => hex ⟨i, h1, h3⟩)]
       simp only [tau] at this ⊢
       congr 1
       exact funext this
     have := p.inv
     rw [h1] at this
     refine this.congrA (fun c => or_congr_right ⟨?_, ?_⟩)
     · rintro ⟨i, h2, h3, _, h4⟩; exact ⟨i, Nat.zero_le _, h2, h3, h4⟩
     · rintro ⟨i, _, h2, h3, h4⟩; exact ⟨i, h2, h3, rfl, h4⟩
   | succ k ih =>
     intro hk
     obtain ⟨loc', h1, ht⟩ := ih (by omega)
     rw [asOf_succ, List.foldl_append]
     by_cases hA : isA ops k = true
     · obtain ⟨d, T, h2, h3, h4, h5, h6, h7⟩ := p.made k (by omega) hA rfl
       rw [if_pos hA, h2]
       refine ⟨_, Inv.record (b := bl k) (T := T) (h1.congrA (fun c => ⟨?_, ?_⟩)) h3 h4 h5 h6 ?_, ht.trans rfl (Trk.set a loc' _ (fun hn => Nat.lt_of_lt_of_le (hd k d (by omega) h2) hn))⟩
       · rintro (hc | ⟨i, h8, h9, h10, h11⟩)
         · exact .inl (.inl hc)
         · by_cases e : i = k
           · subst e; exact .inr h11.symm
           · exact .inl (.inr ⟨i, by omega, h9, h10, h11⟩)
       · rintro ((hc | ⟨i, h8, h9, h10, h11⟩) | hc)
         · exact .inl hc
         · exact .inr ⟨i, by omega, h9, h10, h11⟩
         · exact .inr ⟨k, Nat.le_refl _, by omega, hA, hc.symm⟩
       · rintro (hc | ⟨i, h8, h9, h10, h11⟩)
         · exact h7 hc
         · have := p.inj i k h9 (by omega) h10 hA rfl rfl h11
           omega
     · rw [if_neg hA]
       refine ⟨loc', h1.congrA (fun c => or_congr_right ⟨?_, ?_⟩), ht⟩
       · rintro ⟨i, h8, h9, h10, h11⟩
         have : i ≠ k := fun e => hA (e ▸ h10)
         exact ⟨i, by omega, h9, h10, h11⟩
       · rintro ⟨i, h8, h9, h10, h11⟩
         exact ⟨i, by omega, h9, h10, h11⟩
 obtain ⟨loc', h1, h2⟩ := key m (Nat.le_refl _)
 refine ⟨loc', h1.congrA (fun c => ⟨?_, .inl⟩), h2⟩
 rintro (hc | ⟨i, h3, h4, _⟩)
 · exact hc
 · omega
end
end Go.Pw
