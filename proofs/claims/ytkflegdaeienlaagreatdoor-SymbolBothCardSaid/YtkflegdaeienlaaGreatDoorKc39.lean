/- Merged from the working texts PxG. -/
import Derived.Test.YtkflegdaeienlaaGreatDoorKc18
set_option linter.all false
set_option maxHeartbeats 400000
set_option maxRecDepth 100000
set_option linter.unusedVariables false
set_option linter.unusedSimpArgs false
namespace Go.Pw
open Go.RowKit
def drawOk3 (ops : Array Oper) (m : Nat) (fls : List Nat) (R : List (List Nat)) : Bool :=
 decide (m ≤ ops.size) &&
 ((List.range m).all fun i => (List.range ops.size).all fun j => i == j || match gslot ops i with
   | none => true
   | some d => match ops[j]? with
     | none => true
     | some o => !(Oper.names ops o).contains d || (if i < j then pre ops j i else pre ops i j && !(j < m && o.dst == some d))) &&
 ((List.range m).all fun i => (List.range m).all fun j => i == j || match gslot ops i with
   | none => true
   | some d => gslot ops j != some d) &&
 ((List.range m).all fun i => !isA ops i || (List.range m).all fun j => i == j || match gslot ops i with
   | none => true
   | some d => match ops[j]? with
     | none => true
     | some o => !(Oper.names ops o).contains d) &&
 ((List.range ops.size).all fun j => j < m || (List.range m).all fun i => pre ops j i || fls.contains i) &&
 (fls.all fun i => decide (i < m) && !isA ops i && match ops[i]? with
   | some o => noW o.op && o.guard.isNone && (match o.dst with | some d => !(o.op.operands.toList.any fun x => match x with | .tmp t => t == d | _ => false) | none => false)
   | none => false) &&
 (fls.all fun k => fls.all fun i => i == k || match gslot ops k, ops[i]? with
   | some d, some o => !(Oper.names ops o).contains d || pre ops i k
   | _, _ => true) &&
 ((List.range (ops.size - m)).all fun q => fls.all fun i => pre ops (m + q) i || (R.getD q []).contains i) &&
 ((List.range ops.size).all fun j => match ops[j]? with
   | none => true
   | some o => o.after.toList.all fun e => !Region.binds .any e || e.on < j) &&
 (ops.toList.all fun o => match o.op with | .select .. => false | _ => true)
structure D3 (ops : Array Oper) (m : Nat) (fls : List Nat) (R : List (List Nat)) : Prop where
 hm : m ≤ ops.size
 names : ∀ i j d o, i < m → i ≠ j → gslot ops i = some d → ops[j]? = some o → d ∈ Oper.names ops o → (i < j ∧ pre ops j i = true) ∨ (j < i ∧ pre ops i j = true)
 uniq : ∀ i j d, i < m → j < m → gslot ops i = some d → gslot ops j = some d → i = j
 aslot : ∀ i j d o, i < m → j < m → i ≠ j → isA ops i = true → gslot ops i = some d → ops[j]? = some o → d ∉ Oper.names ops o
 tail : ∀ j i, m ≤ j → j < ops.size → i < m → pre ops j i = true ∨ i ∈ fls
 flo : ∀ i, i ∈ fls → i < m ∧ isA ops i = false ∧ ∃ o, ops[i]? = some o ∧ noW o.op = true ∧ o.guard = none ∧ ∀ d, o.dst = some d → Operand.tmp d ∉ o.op.operands
 ff : ∀ i k d o, i ∈ fls → k ∈ fls → i ≠ k → gslot ops k = some d → ops[i]? = some o → d ∈ Oper.names ops o → pre ops i k = true
 re : ∀ q i, q < ops.size - m → i ∈ fls → pre ops (m + q) i = true ∨ i ∈ R.getD q []
 low : ∀ (j : Nat) (o : Oper), ops[j]? = some o → ∀ e ∈ o.after, Region.binds .any e = true → e.on < j
 nosel : ∀ (j : Nat) (o : Oper), ops[j]? = some o → ∀ cs b, o.op ≠ .select cs b
theorem drawOk3_spec {ops : Array Oper} {m : Nat} {fls : List Nat} {R : List (List Nat)} (h : drawOk3 ops m fls R = true) : D3 ops m fls R := by
 simp only [drawOk3, Bool.and_eq_true] at h
 obtain ⟨⟨⟨⟨⟨⟨⟨⟨⟨h0, h1⟩, h2⟩, hA⟩, h3⟩, hF⟩, hFF⟩, hR⟩, h4⟩, h5⟩ := h
 refine ⟨by simpa using h0, ?_, ?_, ?_, ?_, ?_, ?_, ?_, ?_, ?_⟩
 · intro i j d o hi hij hd ho hn
   have hj := (Array.getElem?_eq_some_iff.1 ho).1
   have := List.all_eq_true.1 (List.all_eq_true.1 h1 i (by simpa using hi)) j (by simpa using hj)
   simp only [hd, ho, Bool.or_eq_true, beq_iff_eq] at this
   rcases this with this | this
   · exact absurd this hij
   · rcases this with this | this
     · simp only [Bool.not_eq_true', List.contains_eq_mem, decide_eq_false_iff_not] at this
       exact absurd hn this
     · split at this
       · rename_i hlt; exact .inl ⟨hlt, this⟩
       · rename_i hlt
         simp only [Bool.and_eq_true] at this
         exact .inr ⟨by omega, this.1⟩
 · intro i j d hi hj hd hd'
   have := List.all_eq_true.1 (List.all_eq_true.1 h2 i (by simpa using hi)) j (by simpa using hj)
   simp only [hd, hd', Bool.or_eq_true, beq_iff_eq, bne_self_eq_false, or_false] at this
   simpa using this
 · intro i j d o hi hj hij hAi hd ho hn
   have := List.all_eq_true.1 hA i (by simpa using hi)
   rw [hAi] at this
   simp only [Bool.not_true, Bool.false_or] at this
   have := List.all_eq_true.1 this j (by simpa using hj)
   simp only [hd, ho, Bool.or_eq_true, beq_iff_eq, Bool.not_eq_true', List.contains_eq_mem, decide_eq_false_iff_not] at this
   rcases this with this | this
   · exact hij this
   · exact this hn
 · intro j i hmj hj hij
   have := List.all_eq_true.1 h3 j (by simpa using hj)
   simp only [Bool.or_eq_true, decide_eq_true_eq] at this
   rcases this with this | this
   · omega
   · have := List.all_eq_true.1 this i (by simpa using hij)
     simpa using this
 · intro i hi
   have := List.all_eq_true.1 hF i hi
   simp only [Bool.and_eq_true, decide_eq_true_eq, Bool.not_eq_true'] at this
   obtain ⟨⟨h6, h7⟩, h8⟩ := this
   refine ⟨h6, h7, ?_⟩
   cases ho : ops[i]? with
   | none => rw [ho] at h8; cases h8
   | some o =>
     rw [ho] at h8
     simp only [Bool.and_eq_true, Option.isNone_iff_eq_none] at h8
     refine ⟨o, rfl, h8.1.1, h8.1.2, fun d hd hmem => ?_⟩
     rw [hd] at h8
     have h9 := h8.2
     simp only [Bool.not_eq_true', List.any_eq_false] at h9
     exact h9 (.tmp d) (by simpa using hmem) (by simp)
 · intro i k d o hi hk hne hd ho hn
   have := List.all_eq_true.1 (List.all_eq_true.1 hFF k hk) i hi
   simp only [hd, ho, Bool.or_eq_true, beq_iff_eq, Bool.not_eq_true', List.contains_eq_mem, decide_eq_false_iff_not] at this
   rcases this with this | this | this
   · exact absurd this hne
   · exact absurd hn this
   · exact this
 · intro q i hq hi
   have := List.all_eq_true.1 (List.all_eq_true.1 hR q (by simpa using hq)) i hi
   simpa using this
 · intro j o ho e he hb
   have hj := (Array.getElem?_eq_some_iff.1 ho).1
   have := List.all_eq_true.1 h4 j (by simpa using hj)
   simp only [ho] at this
   have := List.all_eq_true.1 this e (by simpa using he)
   simpa [hb] using this
 · intro j o ho cs b e
   have := List.all_eq_true.1 h5 o (by rw [Array.mem_toList_iff]; exact Array.mem_of_getElem? ho)
   rw [e] at this
   simp at this
section
variable {E : Env} {w0 : Base} {A0 : Nat → Prop} {ops : Array Oper} {m : Nat} {fls : List Nat} {R : List (List Nat)} {σ : St} {X : Nat → SV} {V : Nat → List Value}
theorem D3.same (D : D3 ops m fls R) {S : Nat → Bool} {i : Nat} {o : Oper} (hi : i < m) (ho : ops[i]? = some o) (hSi : S i = false) (h1 : ∀ q, q < i → pre ops i q = true → S q = true) (h2 : ∀ q, q < m → i < q → pre ops q i = true → S q = false) :
   ∀ t, t ∈ Oper.names ops o → (seqS ops σ X i).s t = (tau ops m σ X S).s t := by
 intro t ht
 rw [seqS_tau D.uniq i (by omega)]
 by_cases hex : ∃ q, q < m ∧ gslot ops q = some t
 · obtain ⟨q, h3, h4⟩ := hex
   by_cases hqi : q = i
   · subst hqi
     rw [tau_miss (fun j h5 h6 h7 => ?_), tau_miss (fun j h5 h6 h7 => ?_)]
     · have := D.uniq j q t h5 h3 h7 h4; subst this; rw [hSi] at h6; cases h6
     · have := D.uniq j q t h5 h3 h7 h4; subst this; simp at h6
   · rcases D.names q i t o h3 hqi h4 ho ht with ⟨h5, h6⟩ | ⟨h5, h6⟩
     · rw [tau_hit D.uniq h3 (by simpa using h5) h4, tau_hit D.uniq h3 (h1 q h5 h6) h4]
     · have h7 := h2 q h3 h5 h6
       rw [tau_miss (fun j h8 h9 h10 => ?_), tau_miss (fun j h8 h9 h10 => ?_)]
       · have := D.uniq j q t h8 h3 h10 h4; subst this; rw [h7] at h9; cases h9
       · have := D.uniq j q t h8 h3 h10 h4; subst this; simp at h9; omega
 · rw [tau_miss (fun j h3 _ h5 => hex ⟨j, h3, h5⟩), tau_miss (fun j h3 _ h5 => hex ⟨j, h3, h5⟩)]
theorem P1.pure3 (D : D3 ops m fls R) {S S' : Nat → Bool} {a : Act} {w : World} {loc : Nat → Value} {bl : Nat → Nat} (p : P1 E w0 A0 ops m σ X V S a w loc bl) {i : Nat} (hi : i < m) (hA : isA ops i = false) (hS' : ∀ j, j < m → S' j = (S j || j == i)) {v : Value} {w' : World}
   (hd : ∀ t, gslot ops i = some t → t < a.tmps.size) (hb : Below w.heap.size w w') (hx : RS w' (fun b => (A0 b ∨ ∃ i, i < m ∧ isA ops i = true ∧ S i = true ∧ bl i = b) ∨ act (tau ops m σ X S) loc b) loc v (X i)) : P1 E w0 A0 ops m σ X V S' (a.put (gslot ops i) v) w' loc bl := by
 have hne : ∀ j, j < m → isA ops j = true → S' j = true → j ≠ i ∧ S j = true := fun j hj hAj hSj => by
   have hji : j ≠ i := fun e => by rw [e, hA] at hAj; cases hAj
   rw [hS' j hj] at hSj
   exact ⟨hji, by simpa [hji] using hSj⟩
 have hset : (fun c => A0 c ∨ ∃ j, j < m ∧ isA ops j = true ∧ S' j = true ∧ bl j = c) = fun c => A0 c ∨ ∃ j, j < m ∧ isA ops j = true ∧ S j = true ∧ bl j = c := by
   funext c
   refine propext (or_congr_right ⟨?_, ?_⟩)
   · rintro ⟨j, h1, h2, h3, h4⟩
     exact ⟨j, h1, h2, (hne j h1 h2 h3).2, h4⟩
   · rintro ⟨j, h1, h2, h3, h4⟩
     exact ⟨j, h1, h2, by rw [hS' j h1, h3]; rfl, h4⟩
 refine ⟨?_, fun j hj hAj hSj => ?_, fun j j' hj hj' hAj hAj' hSj hSj' => p.inj j j' hj hj' hAj hAj' (hne j hj hAj hSj).2 (hne j' hj' hAj' hSj').2⟩
 · rw [hset, tau_put D.uniq hi hS']
   exact (p.inv.grow hb).put hd hx
 · obtain ⟨hji, hSj⟩ := hne j hj hAj hSj
   obtain ⟨d, T, h1, h2, h3, h4, h5, h6⟩ := p.made j hj hAj hSj
   refine ⟨d, T, h1, ?_, by rw [hb.block _ (p.lt hj hAj hSj)]; exact h3, h4, h5, h6⟩
   rw [Act.put_get a _ v hd d, if_neg (fun e => hji (D.uniq j i d hj hi h1 e))]
   exact h2
theorem P1.make3 (D : D3 ops m fls R) {S S' : Nat → Bool} {a : Act} {w : World} {loc : Nat → Value} {bl : Nat → Nat} (p : P1 E w0 A0 ops m σ X V S a w loc bl) {i d : Nat} (hi : i < m) (hA : isA ops i = true) (hSi : S i = false) (hS' : ∀ j, j < m → S' j = (S j || j == i)) {T : TypeId}
   (hg : gslot ops i = some d) (hX : X i = .sh .any) (hd : d < a.tmps.size) (h1 : ∀ v ∈ V i, v.oneCell' = true) : P1 E w0 A0 ops m σ X V S' (a.put (some d) (.pointer (some ⟨w.heap.size, 0, none⟩))) (w.alloc (.cells (V i).toArray T)) loc (fun j => if j = i then w.heap.size else bl j) := by
 have hbel : Below w.heap.size w (w.alloc (.cells (V i).toArray T)) := Below.alloc (Below.refl _ _) (Nat.le_refl _) _
 have hd' : ∀ t, (some d : Option Nat) = some t → t < a.tmps.size := fun t e => by injection e with e; omega
 have hset : (fun c => A0 c ∨ ∃ j, j < m ∧ isA ops j = true ∧ S' j = true ∧ (if j = i then w.heap.size else bl j) = c) = fun c => (A0 c ∨ ∃ j, j < m ∧ isA ops j = true ∧ S j = true ∧ bl j = c) ∨ c = w.heap.size := by
   funext c
   refine propext ⟨?_, ?_⟩
   · rintro (h | ⟨j, h2, h3, h4, h5⟩)
     · exact .inl (.inl h)
     · by_cases e : j = i
       · subst e; simp only [if_true] at h5; exact .inr h5.symm
       · rw [if_neg e] at h5
         rw [hS' j h2] at h4
         exact .inl (.inr ⟨j, h2, h3, by simpa [e] using h4, h5⟩)
   · rintro ((h | ⟨j, h2, h3, h4, h5⟩) | h)
     · exact .inl h
     · have e : j ≠ i := fun e => by rw [e, hSi] at h4; cases h4
       exact .inr ⟨j, h2, h3, by rw [hS' j h2, h4]; rfl, by rw [if_neg e]; exact h5⟩
     · exact .inr ⟨i, hi, hA, by rw [hS' i hi]; simp, by simp [h]⟩
 refine ⟨?_, fun j hj hAj hSj => ?_, fun j j' hj hj' hAj hAj' hSj hSj' e => ?_⟩
 · rw [hset, tau_put D.uniq hi hS', hg, hX]
   exact (p.inv.moreA hbel (Nat.le_refl _) (by rw [size_alloc]; omega)).put hd' (.sh (.any _))
 · by_cases e : j = i
   · subst e
     refine ⟨d, T, hg, ?_, by simp only [if_true]; exact heap_new w _, h1, ?_, ?_⟩
     · rw [Act.put_get a _ _ hd' d]; simp
     · simp only [if_true]; exact p.inv.iB.new (Nat.le_refl _)
     · simp only [if_true]; exact fun hc => by have := p.inv.iA _ (.inl hc); omega
   · rw [hS' j hj] at hSj
     have hSj' : S j = true := by simpa [e] using hSj
     obtain ⟨d', T', h2, h3, h4, h5, h6, h7⟩ := p.made j hj hAj hSj'
     simp only [if_neg e]
     refine ⟨d', T', h2, ?_, by rw [hbel.block _ (p.lt hj hAj hSj')]; exact h4, h5, h6, h7⟩
     rw [Act.put_get a _ _ hd' d', if_neg (fun e2 => e (D.uniq j i d' hj hi h2 (by rw [hg]; exact e2)))]
     exact h3
 · rw [hS' j hj] at hSj
   rw [hS' j' hj'] at hSj'
   by_cases e1 : j = i
   · by_cases e2 : j' = i
     · rw [e1, e2]
     · have h2 : S j' = true := by simpa [e2] using hSj'
       have := p.lt hj' hAj' h2
       simp only [e1, if_true, if_neg e2] at e
       omega
   · by_cases e2 : j' = i
     · have h2 : S j = true := by simpa [e1] using hSj
       have := p.lt hj hAj h2
       simp only [e2, if_true, if_neg e1] at e
       omega
     · simp only [if_neg e1, if_neg e2] at e
       exact p.inj j j' hj hj' hAj hAj' (by simpa [e1] using hSj) (by simpa [e2] using hSj') e
theorem P1.done3 (D : D3 ops m fls R) {a : Act} {w : World} {loc : Nat → Value} {bl : Nat → Nat} (hd : ∀ i t, i < m → gslot ops i = some t → t < a.tmps.size) (p : P1 E w0 A0 ops m σ X V (fun _ => true) a w loc bl) :
   ∃ loc', Inv E.gpv w0 A0 ((asOf ops V m).foldl recS (seqS ops σ X m)) a w loc' ∧ Trk a loc loc' := by
 have key : ∀ k, k ≤ m → ∃ loc', Inv E.gpv w0 (fun c => A0 c ∨ ∃ i, k ≤ i ∧ i < m ∧ isA ops i = true ∧ bl i = c) ((asOf ops V k).foldl recS (seqS ops σ X m)) a w loc' ∧ Trk a loc loc' := by
   intro k
   induction k with
   | zero =>
     intro _
     refine ⟨loc, ?_, Trk.refl _ _⟩
     have h1 : tau ops m σ X (fun _ => true) = seqS ops σ X m := by
       rw [seqS_tau D.uniq m (Nat.le_refl _)]
       have : ∀ t, (tau ops m σ X fun _ => true).s t = (tau ops m σ X fun i => decide (i < m)).s t := by
         intro t
         by_cases hex : ∃ i, i < m ∧ gslot ops i = some t
         · obtain ⟨i, h1, h2⟩ := hex
           rw [tau_hit D.uniq h1 rfl h2, tau_hit D.uniq h1 (by simpa using h1) h2]
         · rw [tau_miss (fun i h1 _ h3 => hex ⟨i, h1, h3⟩), tau_miss (fun i h1 _ h3 => hex ⟨i, h1, h3⟩)]
       simp only [tau] at this ⊢
       congr 1
       exact funext this
     have := p.inv
     rw [h1] at this
     refine this.congrA (fun c => or_congr_right ⟨?_, ?_⟩)
     · rintro ⟨i, h2, h3, _, h4⟩; exact ⟨i, Nat.zero_le _, h2, h3, h4⟩
     · rintro ⟨i, _, h2, h3, h4⟩; exact ⟨i, h2, h3, rfl, h4⟩
   | succ k ih =>
     intro hk
     obtain ⟨loc', h1, ht⟩ := ih (by omega)
     rw [asOf_succ, List.foldl_append]
     by_cases hA : isA ops k = true
     · obtain ⟨d, T, h2, h3, h4, h5, h6, h7⟩ := p.made k (by omega) hA rfl
       rw [if_pos hA, h2]
       refine ⟨_, Inv.record (b := bl k) (T := T) (h1.congrA (fun c => ⟨?_, ?_⟩)) h3 h4 h5 h6 ?_, ht.trans rfl (Trk.set a loc' _ (fun hn => Nat.lt_of_lt_of_le (hd k d (by omega) h2) hn))⟩
       · rintro (hc | ⟨i, h8, h9, h10, h11⟩)
         · exact .inl (.inl hc)
         · by_cases e : i = k
           · subst e; exact .inr h11.symm
           · exact .inl (.inr ⟨i, by omega, h9, h10, h11⟩)
       · rintro ((hc | ⟨i, h8, h9, h10, h11⟩) | hc)
         · exact .inl hc
         · exact .inr ⟨i, by omega, h9, h10, h11⟩
         · exact .inr ⟨k, Nat.le_refl _, by omega, hA, hc.symm⟩
       · rintro (hc | ⟨i, h8, h9, h10, h11⟩)
         · exact h7 hc
         · have := p.inj i k h9 (by omega) h10 hA rfl rfl h11
           omega
     · rw [if_neg hA]
       refine ⟨loc', h1.congrA (fun c => or_congr_right ⟨?_, ?_⟩), ht⟩
       · rintro ⟨i, h8, h9, h10, h11⟩
         have : i ≠ k := fun e => hA (e ▸ h10)
         exact ⟨i, by omega, h9, h10, h11⟩
       · rintro ⟨i, h8, h9, h10, h11⟩
         exact ⟨i, by omega, h9, h10, h11⟩
 obtain ⟨loc', h1, h2⟩ := key m (Nat.le_refl _)
 refine ⟨loc', h1.congrA (fun c => ⟨?_, .inl⟩), h2⟩
 rintro (hc | ⟨i, h3, h4, _⟩)
 · exact hc
 · omega
end
section
variable {E : Env} {w0 : Base} {A0 : Nat → Prop} {ops : Array Oper} {m : Nat} {fls : List Nat} {R : List (List Nat)} {Q : Exit → Act → World → Prop} {K : St → Prop}
theorem ghost_all3 (D : D3 ops m fls R) {σ : St} {X : Nat → SV} {V : Nat → List Value} {a : Act} {w : World} {loc : Nat → Value} {bl : Nat → Nat} {U : List Nat} (hst : ∀ i o, i < m → ops[i]? = some o → FStp E ops i o (seqS ops σ X i) (X i) (V i)) (hd : ∀ i t, gslot ops i = some t → t < a.tmps.size) :
   ∀ (k : Nat) (S : Nat → Bool) (a' : Act), ((List.range m).filter fun i => !S i).length = k → (∀ q, q < m → S q = false → q ∈ fls ∧ q ∈ U) → (∀ q i, q < m → i < m → S q = true → pre ops q i = true → S i = true) → GH ops U a a' → P1 E w0 A0 ops m σ X V S a' w loc bl →
     ∃ a'', GH ops U a a'' ∧ P1 E w0 A0 ops m σ X V (fun _ => true) a'' w loc bl := by
 intro k
 induction k with
 | zero =>
   intro S a' hk _ _ hG p
   refine ⟨a', hG, p.congr (fun i hi => ?_)⟩
   cases e : S i with
   | true => rfl
   | false =>
     have hmem : i ∈ (List.range m).filter fun i => !S i := List.mem_filter.2 ⟨by simpa using hi, by rw [e]; rfl⟩
     rw [List.eq_nil_of_length_eq_zero hk] at hmem; cases hmem
 | succ k ih =>
   intro S a' hk hU hcl hG p
   have hne : ((List.range m).filter fun i => !S i) ≠ [] := fun e => by rw [e] at hk; cases hk
   obtain ⟨q0, hq0⟩ := List.exists_mem_of_ne_nil _ hne
   obtain ⟨q, hqm, hqS, hmin⟩ : ∃ q, q < m ∧ S q = false ∧ ∀ j, j < q → S j = true := by
     have h1 := List.mem_filter.1 hq0
     have h2 : q0 < m := by simpa using h1.1
     have h3 : S q0 = false := by simpa using h1.2
     clear hk ih hq0 h1
     induction q0 using Nat.strongRecOn with
     | _ q0 ih2 =>
       by_cases hh : ∀ j, j < q0 → S j = true
       · exact ⟨q0, h2, h3, hh⟩
       · obtain ⟨j, hj⟩ := Classical.not_forall.1 hh
         obtain ⟨hj1, hj2⟩ := Classical.not_imp.1 hj
         exact ih2 j hj1 (by omega) (by simpa using hj2)
   obtain ⟨hqf, hqU⟩ := hU q hqm hqS
   obtain ⟨_, hqA, o, ho, hnw, hgd, _⟩ := D.flo q hqf
   have hgi : gslot ops q = o.dst := by simp [gslot, ho]
   have hsame := D.same (σ := σ) (X := X) hqm ho hqS (fun j hj _ => hmin j hj) (fun j hj _ hp => by
     cases e : S j with
     | false => rfl
     | true => have := hcl j q hj hqm e hp; rw [hqS] at this; cases this)
   have hs := hst q o hqm ho
   unfold FStp at hs
   rw [if_neg (by rw [hqA]; simp)] at hs
   simp only [Stp, hgd] at hs
   have hos : (seqS ops σ X q).o = (tau ops m σ X S).o := by rw [seqS_tau D.uniq q (by omega)]; rfl
   have hpp : ppop E o.op (tau ops m σ X S) fun x => x = X q := ppop_local hos (fun t ht => hsame t (by simp only [Oper.names, List.mem_append, List.mem_filterMap]; exact .inl (.inr ⟨.tmp t, by simpa using ht, rfl⟩))) (hs (fun x => x = X q) rfl)
   obtain ⟨v, x, hr, hx, rfl⟩ := ppop_val p.inv hnw hpp
   have hdn : ∀ t, gslot ops q = some t → t < a'.tmps.size := fun t ht => by rw [← hG.size]; exact hd q t ht
   have hS' : ∀ j, j < m → (fun j => S j || j == q) j = (S j || j == q) := fun _ _ => rfl
   have p' := p.pure3 D hqm hqA hS' hdn (Below.refl _ _) hx
   refine ih _ _ ?_ (fun j hj hSj => ?_) (fun j i hj hi hSj hp => ?_) (hG.add hqU v) p'
   · have h1 : ((List.range m).filter fun j => !(S j || j == q)) = ((List.range m).filter fun j => !S j).filter fun j => !(j == q) := by
       rw [List.filter_filter]
       apply List.filter_congr
       intro j _
       cases S j <;> cases (j == q) <;> rfl
     have hnd : ((List.range m).filter fun j => !S j).Nodup := List.nodup_range.filter _
     have hmem : q ∈ ((List.range m).filter fun j => !S j) := List.mem_filter.2 ⟨by simpa using hqm, by rw [hqS]; rfl⟩
     have h2 : ((List.range m).filter fun j => !S j).erase q = ((List.range m).filter fun j => !S j).filter fun j => !(j == q) := by
       rw [hnd.erase_eq_filter]; rfl
     rw [h1, ← h2, List.length_erase_of_mem hmem, hk]
     rfl
   · simp only [Bool.or_eq_false_iff] at hSj
     exact hU j hj hSj.1
   · simp only [Bool.or_eq_true, beq_iff_eq] at hSj ⊢
     rcases hSj with hSj | rfl
     · exact .inl (hcl j i hj hi hSj hp)
     · by_cases e : i = j
       · exact .inr e
       · have hlt : i < j := by
           rcases Nat.lt_or_ge i j with h1 | h1
           · exact h1
           · exfalso
             obtain ⟨g1, _, g3⟩ := masks_spec ops.toList []
             have h4 := g3 j o (by simpa using ho)
             simp only [List.length_nil, Nat.zero_add] at h4
             have hp' := hp
             simp only [pre, List.getD_eq_getElem?_getD, h4, Option.getD_some] at hp'
             have : ∀ (n : Nat) (acc : List Nat) (o : Oper), acc.length ≤ n → (∀ q, q < acc.length → ∀ i, (acc.getD q 0).testBit i = true → i < q) → (∀ e ∈ o.after, Region.binds .any e = true → e.on < n) → ∀ i, (mask acc o).testBit i = true → i < n := by
               intro n acc o hn hacc hlow i hi
               rcases testBit_mask _ _ hi with h | ⟨e, he, hb, h⟩
               · simp at h
               · have h5 := hlow e (by simpa using he) hb
                 rcases h with rfl | h
                 · exact h5
                 · by_cases h6 : e.on < acc.length
                   · have := hacc e.on h6 i h; omega
                   · rw [List.getD_eq_getElem?_getD, List.getElem?_eq_none (by omega)] at h; simp at h
             have hall : ∀ n, n ≤ ops.size → ∀ q, q < n → ∀ i, ((masks ops.toList []).getD q 0).testBit i = true → i < q := by
               intro n
               induction n with
               | zero => intro _ q hq; omega
               | succ n ihn =>
                 intro hn q hq i hi
                 by_cases hqn : q < n
                 · exact ihn (by omega) q hqn i hi
                 · have hqn' : q = n := by omega
                   subst hqn'
                   have hoq : ops[q]? = some ops[q] := Array.getElem?_eq_getElem (by omega)
                   have h7 := g3 q ops[q] (by rw [Array.getElem?_toList]; exact hoq)
                   simp only [List.length_nil, Nat.zero_add] at h7
                   rw [List.getD_eq_getElem?_getD, h7, Option.getD_some] at hi
                   refine this q _ _ (by rw [List.length_take]; omega) (fun r hr i' hi' => ?_) (fun e he hb => D.low q _ hoq e he hb) i hi
                   have hr' : r < q := by simp at hr; omega
                   rw [List.getD_eq_getElem?_getD, List.getElem?_take, if_pos hr', ← List.getD_eq_getElem?_getD] at hi'
                   exact ihn (by omega) r hr' i' hi'
             have hjs : j < ops.size := (Array.getElem?_eq_some_iff.1 ho).1
             have := hall (j + 1) (by omega) j (by omega) i hp
             omega
         exact .inl (hmin i hlt)
def rdyT (ops : Array Oper) (m : Nat) (W : List Nat) (i : Nat) : Bool := match ops[i]? with
 | some o => o.after.toList.all fun e => !Region.binds .any e || decide (e.on < m) || !W.contains e.on
 | none => false
def stepx (E : Env) (ops : Array Oper) (i : Nat) (N : St → Prop) (σ : St) : Prop := ∃ o, ops[i]? = some o ∧ match o.guard with
 | none => (epop E o.dst o.op σ fun x τ => N (τ.put o.dst x)) ∨ SemOp E o σ fun x τ => N (τ.put o.dst x)
 | some (j, want) => match gslot ops j with
   | some t => match σ.s t with
     | .sh (.val (.bool b)) => (b = want → epop E o.dst o.op σ fun x τ => N (τ.put o.dst x)) ∧ (b = !want → N (σ.put o.dst (.sh (.val undef))))
     | _ => False
   | none => False
def ptx (E : Env) (ops : Array Oper) (m : Nat) (R : List (List Nat)) : Nat → List Nat → (St → Prop) → St → Prop
 | 0, _, K, σ => K σ
 | k + 1, W, K, σ => ∀ i ∈ W, rdyT ops m W i = true → stepx E ops i (fun τ => chks E ops (R.getD (i - m) []) τ ∧ ptx E ops m R k (W.filter fun q => decide (q ≠ i)) K τ) σ
theorem tail_run3 (D : D3 ops m fls R) {n : Nat} {loc0 : Nat → Value} (hd : ∀ i t, gslot ops i = some t → t < n)
   (hQ : ∀ τ a w loc, K τ → Inv E.gpv w0 A0 τ a w loc → a.tmps.size = n → (n ≤ 1000000 → ∀ j, 1000000 ≤ j → loc j = loc0 j) → Q .normal a w) :
   ∀ (k : Nat) (W : List Nat) (U : List Nat) (L : Array Bool) (a a' : Act) (w : World) (τ : St) (loc : Nat → Value), k = U.length + W.length → L.size = ops.size → (∀ i, i < m → (L.getD i true = true ↔ i ∉ U)) → (∀ i, m ≤ i → i < ops.size → (L.getD i true = true ↔ i ∉ W)) → (∀ i ∈ W, m ≤ i ∧ i < ops.size) → W.Nodup → U.Nodup → (∀ i ∈ U, i ∈ fls) →
     Closed ops L → GH ops U a a' → Inv E.gpv w0 A0 τ a' w loc → a.tmps.size = n → (n ≤ 1000000 → ∀ j, 1000000 ≤ j → loc j = loc0 j) → (∀ i ∈ U, chk E ops i τ) → ptx E ops m R W.length W K τ → wpAny E.P .any ops Q k L a w := by
 intro k
 induction k with
 | zero =>
   intro W U L a a' w τ loc hk hL hLf hLt hWb hWn hU hUf hc hG h hsz htr hch hp
   have hU0 : U = [] := List.eq_nil_of_length_eq_zero (by omega)
   have hW0 : W = [] := List.eq_nil_of_length_eq_zero (by omega)
   subst hU0; subst hW0
   refine ⟨?_, ?_⟩
   · cases hr : Region.ready .any ops L with
     | nil => rfl
     | cons i t =>
       have : i ∈ Region.ready .any ops L := by rw [hr]; simp
       obtain ⟨hiL, o, ho, _⟩ := mem_ready.1 this
       have hin := (Array.getElem?_eq_some_iff.1 ho).1
       by_cases him : i < m
       · have := (hLf i him).2 (by simp)
         rw [hiL] at this; cases this
       · have := (hLt i (by omega) hin).2 (by simp)
         rw [hiL] at this; cases this
   · have := hG.nil
     subst this
     exact hQ τ a w loc hp h hsz htr
 | succ k ih =>
   intro W U L a a' w τ loc hk hL hLf hLt hWb hWn hU hUf hc hG h hsz htr hch hp
   have hne : Region.ready .any ops L ≠ [] := by
     rcases U with _ | ⟨i, U⟩
     · rcases W with _ | ⟨i, W⟩
       · simp at hk
       · obtain ⟨h1, h2⟩ := hWb i (by simp)
         exact ready_min D.low hL (i := i) h2 (by
           cases e : L.getD i true with
           | false => rfl
           | true => exact absurd (by simp) ((hLt i h1 h2).1 e))
     · have him := (D.flo i (hUf i (by simp))).1
       have := D.hm
       exact ready_min D.low hL (i := i) (by omega) (by
         cases e : L.getD i true with
         | false => rfl
         | true => exact absurd (by simp) ((hLf i him).1 e))
   refine ⟨fun h0 => absurd h0 hne, fun i hi => ?_⟩
   obtain ⟨hiL, o, ho, hall⟩ := mem_ready.1 hi
   have hin := (Array.getElem?_eq_some_iff.1 ho).1
   have hgi : gslot ops i = o.dst := by simp [gslot, ho]
   have hUF : ∀ q ∈ U, L.getD q true = false := fun q hq => by
     have hqm := (D.flo q (hUf q hq)).1
     cases e : L.getD q true with
     | false => rfl
     | true => exact absurd hq ((hLf q hqm).1 e)
   have hpreU : ∀ q ∈ U, pre ops i q = false := fun q hq => by
     cases e : pre ops i q with
     | false => rfl
     | true =>
       have hqm := (D.flo q (hUf q hq)).1
       have := D.hm
       have h1 := pre_listed hc i o ho hall q e
       rw [getF hL (by omega), hUF q hq] at h1; cases h1
   by_cases hiU : i ∈ U
   ·
     obtain ⟨him, hiA, o', ho', hnw, hgd, hself⟩ := D.flo i (hUf i hiU)
     rw [ho] at ho'; injection ho' with ho'; subst ho'
     obtain ⟨o2, d, ho2, hdst, hpp⟩ := hch i hiU
     rw [ho] at ho2; injection ho2 with ho2; subst ho2
     have hnames : ∀ q ∈ U, ∀ d, gslot ops q = some d → q = i ∨ d ∉ Oper.names ops o := fun q hq d' hd' => by
       by_cases e : q = i
       · exact .inl e
       · refine .inr (fun hn => ?_)
         have := D.ff i q d' o (hUf i hiU) (hUf q hq) (Ne.symm e) hd' ho hn
         rw [hpreU q hq] at this; cases this
     obtain ⟨v, x, hr, hx, hxe⟩ := ppop_val h hnw hpp
     subst hxe
     have hev : ∀ y ∈ o.op.operands, a.eval y = a'.eval y := by
       intro y hy
       cases y with
       | tmp t =>
         have hnt : t ∈ Oper.names ops o := by simp only [Oper.names, List.mem_append, List.mem_filterMap]; exact .inl (.inr ⟨.tmp t, by simpa using hy, rfl⟩)
         have hget := hG.get t (fun q hq e => by
           rcases hnames q hq t e with h1 | h1
           · subst h1
             rw [hgi, hdst] at e
             injection e with e
             subst e
             exact hself d hdst hy
           · exact h1 hnt)
         simp only [Act.eval, Array.getD_eq_getD_getElem?, hget]
       | _ => rfl
     have hrun : (execOp a.eval o).run E.P w = .ok (.value v) w := by rw [execOp_congr o (D.nosel i o ho) hev]; exact hr
     unfold wpOp
     simp only [ho]
     rw [if_pos (by simp [Region.wanted, hgd])]
     refine .inl (wp_of_run hrun ?_)
     have hdn : ∀ t, o.dst = some t → t < a'.tmps.size := fun t ht => by rw [← hG.size, hsz]; exact hd i t (by rw [hgi]; exact ht)
     have hinv := h.put hdn hx
     have hτ : τ.put o.dst (τ.s d) = τ := by
       rw [hdst]
       cases τ with
       | mk s o3 =>
         simp only [St.put, St.mk.injEq, and_true]
         funext t
         split
         · rename_i e; rw [e]
         · rfl
     rw [hτ] at hinv
     have hlen : (U.filter fun q => decide (q ≠ i)).length + 1 = U.length := by
       have h1 := hU.erase_eq_filter i
       have h2 : (U.filter fun q => decide (q ≠ i)) = U.erase i := by
         rw [h1]; apply List.filter_congr; intro q _; rw [bne, beq_nat_dec, decide_not]
       rw [h2, List.length_erase_of_mem hiU]
       have := List.length_pos_of_mem hiU
       omega
     have hG' := hG.fill i v
     rw [hgi] at hG'
     refine ih W _ (L.setIfInBounds i true) _ _ w τ loc (by omega) (by simpa using hL) (fun q hq => ?_) (fun q hq1 hq2 => ?_) hWb hWn (hU.filter _) (fun q hq => hUf q (List.mem_filter.1 hq).1) (hc.set ho hall) hG' hinv (by rw [put_size]; exact hsz) htr (fun q hq => hch q (List.mem_filter.1 hq).1) hp
     · rw [setL hL hin q (by have := D.hm; omega)]
       simp only [Bool.or_eq_true, beq_iff_eq, List.mem_filter, decide_eq_true_eq, not_and, Decidable.not_not]
       rw [hLf q hq]
       constructor
       · rintro (h2 | h1)
         · exact fun h3 => absurd h3 h2
         · subst h1; exact fun _ => rfl
       · intro h2
         by_cases e : q = i
         · exact .inr e
         · exact .inl fun h3 => e (h2 h3)
     · rw [setL hL hin q hq2, ← hLt q hq1 hq2]
       have : (q == i) = false := by simp; omega
       rw [this, Bool.or_false]
   ·
     have him : m ≤ i := by
       rcases Nat.lt_or_ge i m with h1 | h1
       · have := (hLf i h1).2 hiU
         rw [hiL] at this; cases this
       · exact h1
     have hiW : i ∈ W := Classical.byContradiction fun hn => by
       have := (hLt i him hin).2 hn
       rw [hiL] at this; cases this
     have hrdy : rdyT ops m W i = true := by
       unfold rdyT
       simp only [ho]
       refine List.all_eq_true.2 fun e he => ?_
       simp only [Bool.or_eq_true, Bool.not_eq_true', decide_eq_true_eq, List.contains_eq_mem, decide_eq_false_iff_not]
       cases hb : Region.binds .any e with
       | false => exact .inl (.inl rfl)
       | true =>
         rcases Nat.lt_or_ge e.on m with h1 | h1
         · exact .inl (.inr h1)
         · refine .inr ?_
           have h2 := hall e (by simpa using he) hb
           have h3 : e.on < ops.size := Nat.lt_trans (D.low i o ho e (by simpa using he) hb) hin
           rw [getF hL h3] at h2
           exact (hLt _ h1 h3).1 h2
     obtain ⟨k', hk'⟩ : ∃ k', W.length = k' + 1 := ⟨W.length - 1, by have := List.length_pos_of_mem hiW; omega⟩
     rw [hk'] at hp
     obtain ⟨o', ho', hp⟩ := hp i hiW hrdy
     rw [ho] at ho'; injection ho' with ho'; subst ho'
     have hlen : (W.filter fun q => decide (q ≠ i)).length = k' := by
       have h1 := hWn.erase_eq_filter i
       have h2 : (W.filter fun q => decide (q ≠ i)) = W.erase i := by
         rw [h1]; apply List.filter_congr; intro q _; rw [bne, beq_nat_dec, decide_not]
       rw [h2, List.length_erase_of_mem hiW, hk']; rfl
     have hnames : ∀ q ∈ U, ∀ d, gslot ops q = some d → d ∉ Oper.names ops o := fun q hq d' hd' hn => by
       have hqm := (D.flo q (hUf q hq)).1
       rcases D.names q i d' o hqm (by omega) hd' ho hn with ⟨_, h2⟩ | ⟨h1, _⟩
       · rw [hpreU q hq] at h2; cases h2
       · omega
     have hdn : ∀ t, o.dst = some t → t < a'.tmps.size := fun t ht => by rw [← hG.size, hsz]; exact hd i t (by rw [hgi]; exact ht)
     have next : ∀ τ1 (a1 a1' : Act) w1 loc1, GH ops U a1 a1' → Inv E.gpv w0 A0 τ1 a1' w1 loc1 → a1.tmps.size = n → (n ≤ 1000000 → ∀ j, 1000000 ≤ j → loc1 j = loc0 j) → (chks E ops (R.getD (i - m) []) τ1 ∧ ptx E ops m R k' (W.filter fun q => decide (q ≠ i)) K τ1) →
         wpAny E.P .any ops Q k (L.setIfInBounds i true) a1 w1 := by
       intro τ1 a1 a1' w1 loc1 g1 g2 g3 g4 g5
       refine ih (W.filter fun q => decide (q ≠ i)) U (L.setIfInBounds i true) a1 a1' w1 τ1 loc1 (by omega) (by simpa using hL) (fun q hq => ?_) (fun q hq1 hq2 => ?_) (fun q hq => hWb q (List.mem_filter.1 hq).1) (hWn.filter _) hU hUf (hc.set ho hall) g1 g2 g3 g4 (fun q hq => ?_) (by rw [hlen]; exact g5.2)
       · rw [setL hL hin q (by have := D.hm; omega), ← hLf q hq]
         have : (q == i) = false := by simp; omega
         rw [this, Bool.or_false]
       · rw [setL hL hin q hq2]
         simp only [Bool.or_eq_true, beq_iff_eq, List.mem_filter, decide_eq_true_eq, not_and, Decidable.not_not]
         rw [hLt q hq1 hq2]
         constructor
         · rintro (h2 | h1)
           · exact fun h3 => absurd h3 h2
           · subst h1; exact fun _ => rfl
         · intro h2
           by_cases e : q = i
           · exact .inr e
           · exact .inl fun h3 => e (h2 h3)
       · rcases D.re (i - m) q (by omega) (hUf q hq) with h1 | h1
         · rw [show m + (i - m) = i by omega, hpreU q hq] at h1; cases h1
         · exact chks_mem g5.1 h1
     have runE : EGives E w0 A0 w loc o a' (fun x τ1 => chks E ops (R.getD (i - m) []) (τ1.put o.dst x) ∧ ptx E ops m R k' (W.filter fun q => decide (q ≠ i)) K (τ1.put o.dst x)) (fun _ _ _ => False) → o.wp E.P a w (wpAny E.P .any ops Q k (L.setIfInBounds i true)) Q := fun hg => by
       refine wp_ghost (N' := fun a1 w1 => ∃ τ1 loc1, (chks E ops (R.getD (i - m) []) τ1 ∧ ptx E ops m R k' (W.filter fun q => decide (q ≠ i)) K τ1) ∧ Inv E.gpv w0 A0 τ1 a1 w1 loc1 ∧ a1.tmps.size = n ∧ (n ≤ 1000000 → ∀ j, 1000000 ≤ j → loc1 j = loc0 j)) (D.nosel i o ho) (hG.eval hnames) hG.dfr ?_ (hg _ ?_)
       · rintro v w1 ds ⟨τ1, loc1, h1, h2, h3, h4⟩
         refine next τ1 _ _ w1 loc1 ?_ h2 ?_ h4 h1
         · exact GH.put (a := { a with defers := ds }) (a' := { a' with defers := ds }) ⟨hG.size, rfl, hG.get⟩ _ _
         · rw [put_size]; exact hsz
       · intro x τ1 a1 w1 loc1 h1 h2 h3 h4
         exact ⟨_, loc1, h1, h2, by rw [h3, ← hG.size]; exact hsz, fun hn j hj => (h4 (by rw [← hG.size, hsz]; exact hn) j hj).trans (htr hn j hj)⟩
     unfold wpOp
     simp only [ho]
     rw [hG.wanted hnames]
     split at hp
     · rename_i hgd
       rw [if_pos (by simp [Region.wanted, hgd])]
       rcases hp with hp | hp
       · exact .inl (runE (epop_sound h hdn hp))
       · exact .inl (runE (hp w0 A0 a' w loc _ h hdn))
     · rename_i jj want hgd
       split at hp
       · rename_i t ht
         split at hp
         · rename_i b hs
           rw [wanted_of h hgd ht hs]
           by_cases e : b = want
           · rw [if_pos (by simp [e])]
             exact .inl (runE (epop_sound h hdn (hp.1 e)))
           · rw [if_neg (by simp [e])]
             refine next _ _ _ w loc (hG.put _ _) (h.put hdn (.sh (.val undef))) (by rw [put_size]; exact hsz) htr (hp.2 (by cases b <;> cases want <;> simp at e ⊢))
         · exact hp.elim
       · exact hp.elim
theorem front_run3 (D : D3 ops m fls R) {n : Nat} {loc : Nat → Value} (hd : ∀ i t, gslot ops i = some t → t < n) {σ : St} {X : Nat → SV} {V : Nat → List Value} (hst : ∀ i o, i < m → ops[i]? = some o → FStp E ops i o (seqS ops σ X i) (X i) (V i))
   (hch : chks E ops fls ((asOf ops V m).foldl recS (seqS ops σ X m))) (hlast : ptx E ops m R (ops.size - m) (List.range' m (ops.size - m)) K ((asOf ops V m).foldl recS (seqS ops σ X m)))
   (hQ : ∀ τ a w loc', K τ → Inv E.gpv w0 A0 τ a w loc' → a.tmps.size = n → (n ≤ 1000000 → ∀ j, 1000000 ≤ j → loc' j = loc j) → Q .normal a w) :
   ∀ (k : Nat) (L : Array Bool) (a : Act) (w : World) (bl : Nat → Nat), left m L = k → L.size = ops.size → (∀ i, m ≤ i → i < ops.size → L.getD i true = false) → Closed ops L → a.tmps.size = n → P1 E w0 A0 ops m σ X V (fun i => L.getD i true) a w loc bl →
     wpAny E.P .any ops Q (k + (ops.size - m)) L a w := by
 intro k
 induction k with
 | zero =>
   intro L a w bl hk hL hhi hc hsz p
   have hall : ∀ i, i < m → L.getD i true = true := by
     intro i hi
     cases e : L.getD i true with
     | true => rfl
     | false =>
       have hmem : i ∈ (List.range m).filter fun i => !L.getD i true := List.mem_filter.2 ⟨by simpa using hi, by rw [e]; rfl⟩
       have := List.eq_nil_of_length_eq_zero hk
       rw [this] at hmem; cases hmem
   have hd' : ∀ i t, i < m → gslot ops i = some t → t < a.tmps.size := fun i t _ h => by rw [hsz]; exact hd i t h
   obtain ⟨loc', h1, h2⟩ := (p.congr (S' := fun _ => true) hall).done3 D hd'
   have hlen : (List.range' m (ops.size - m)).length = ops.size - m := by simp
   have := D.hm
   rw [Nat.zero_add]
   refine tail_run3 (loc0 := loc) D hd hQ _ (List.range' m (ops.size - m)) [] L a a w _ loc' (by simp) hL (fun i hi => ⟨fun _ => by simp, fun _ => hall i hi⟩) (fun i hi1 hi2 => ?_) (fun i hi => by have := List.mem_range'_1.1 hi; omega) (List.nodup_range' 1) .nil (fun i hi => by cases hi) hc (GH.refl _ _ _) h1 hsz (fun hn => h2 (by rw [hsz]; exact hn)) (fun i hi => by cases hi) (by rw [hlen]; exact hlast)
   rw [hhi i hi1 hi2]
   exact ⟨fun e => (by cases e), fun hn => absurd (List.mem_range'_1.2 (by omega)) hn⟩
 | succ k ih =>
   intro L a w bl hk hL hhi hc hsz p
   have := D.hm
   by_cases hfl : ∀ q, q < m → L.getD q true = false → q ∈ fls
   ·
     let U := (List.range m).filter fun q => !L.getD q true
     have hUm : ∀ q, q ∈ U ↔ q < m ∧ L.getD q true = false := fun q => by simp [U, List.mem_filter]
     obtain ⟨a', hG, p'⟩ := ghost_all3 (U := U) D hst (fun i t h => by rw [hsz]; exact hd i t h) _ (fun i => L.getD i true) a rfl (fun q hq hS => ⟨hfl q hq hS, (hUm q).2 ⟨hq, hS⟩⟩) (fun q i hq hi hS hp => by
       have hoq : ops[q]? = some ops[q] := Array.getElem?_eq_getElem (by omega)
       have h1 := pre_listed hc q _ hoq (fun e he hb => hc q _ hoq (by rw [getF hL (by omega)]; exact hS) e he hb) i hp
       rwa [getF hL (by omega)] at h1) (GH.refl _ _ _) p
     obtain ⟨loc', h1, h2⟩ := p'.done3 D (fun i t _ h => by rw [← hG.size, hsz]; exact hd i t h)
     have hUl : U.length = k + 1 := hk
     have hlen : (List.range' m (ops.size - m)).length = ops.size - m := by simp
     rw [← hUl]
     refine tail_run3 (loc0 := loc) D hd hQ _ (List.range' m (ops.size - m)) U L a a' w _ loc' (by rw [hlen]) hL (fun i hi => ?_) (fun i hi1 hi2 => ?_) (fun i hi => by have := List.mem_range'_1.1 hi; omega) (List.nodup_range' 1) (List.nodup_range.filter _) (fun i hi => hfl i ((hUm i).1 hi).1 ((hUm i).1 hi).2) hc hG h1 hsz (fun hn => h2 (by rw [← hG.size, hsz]; exact hn)) (fun i hi => chks_mem hch (hfl i ((hUm i).1 hi).1 ((hUm i).1 hi).2)) (by rw [hlen]; exact hlast)
     · constructor
       · exact fun h3 h5 => by rw [((hUm i).1 h5).2] at h3; cases h3
       · intro h4
         cases e : L.getD i true with
         | true => rfl
         | false => exact absurd ((hUm i).2 ⟨hi, e⟩) h4
     · rw [hhi i hi1 hi2]
       exact ⟨fun e => (by cases e), fun hn => absurd (List.mem_range'_1.2 (by omega)) hn⟩
   · obtain ⟨q0, hq0⟩ := Classical.not_forall.1 hfl
     obtain ⟨hq0m, hq0⟩ := Classical.not_imp.1 hq0
     obtain ⟨hq0L, hq0f⟩ := Classical.not_imp.1 hq0
     have hrs : k + 1 + (ops.size - m) = (k + (ops.size - m)) + 1 := by omega
     rw [hrs]
     refine ⟨fun h0 => absurd h0 (ready_min D.low hL (i := q0) (by omega) hq0L), fun i hi => ?_⟩
     obtain ⟨hiL, o, ho, hall⟩ := mem_ready.1 hi
     have hin := (Array.getElem?_eq_some_iff.1 ho).1
     have him : i < m := by
       rcases Nat.lt_or_ge i m with h1 | h1
       · exact h1
       · rcases D.tail i q0 h1 hin hq0m with h2 | h2
         · have h3 := pre_listed hc i o ho hall q0 h2
           rw [getF hL (by omega), hq0L] at h3; cases h3
         · exact absurd h2 hq0f
     have hgi : gslot ops i = o.dst := by simp [gslot, ho]
     have hsame := D.same (σ := σ) (X := X) (S := fun i => L.getD i true) him ho hiL (fun q hq hp => by
       have h1 := pre_listed hc i o ho hall q hp
       rwa [getF hL (by omega)] at h1) (fun q hq hiq hp => by
       cases e : L.getD q true with
       | false => rfl
       | true =>
         have hoq : ops[q]? = some ops[q] := Array.getElem?_eq_getElem (by omega)
         have h1 := pre_listed hc q _ hoq (fun e' he' hb' => hc q _ hoq (by rw [getF hL (by omega)]; exact e) e' he' hb') i hp
         rw [getF hL hin, hiL] at h1; cases h1)
     have hos : (seqS ops σ X i).o = (tau ops m σ X fun i => L.getD i true).o := by rw [seqS_tau D.uniq i (by omega)]; rfl
     have hL' : ∀ j, j < m → (L.setIfInBounds i true).getD j true = (L.getD j true || j == i) := fun j hj => setL hL hin j (by omega)
     have hdo : ∀ t, gslot ops i = some t → t < a.tmps.size := fun t ht => by rw [hsz]; exact hd i t ht
     have next : ∀ (a' : Act) (w' : World) (bl' : Nat → Nat), a'.tmps.size = n → P1 E w0 A0 ops m σ X V (fun i' => (L.setIfInBounds i true).getD i' true) a' w' loc bl' → wpAny E.P .any ops Q (k + (ops.size - m)) (L.setIfInBounds i true) a' w' := by
       intro a' w' bl' hsz' p'
       refine ih (L.setIfInBounds i true) a' w' bl' ?_ (by simpa using hL) (fun j h1 h2 => ?_) (hc.set ho hall) hsz' p'
       · have h1 : ((List.range m).filter fun j => !(L.setIfInBounds i true).getD j true) = ((List.range m).filter fun j => !L.getD j true).filter fun j => !(j == i) := by
           rw [List.filter_filter]
           apply List.filter_congr
           intro j hj
           rw [hL' j (by simpa using hj)]
           cases L.getD j true <;> cases (j == i) <;> rfl
         have hnd : ((List.range m).filter fun j => !L.getD j true).Nodup := List.nodup_range.filter _
         have hmem : i ∈ ((List.range m).filter fun j => !L.getD j true) := List.mem_filter.2 ⟨by simpa using him, by rw [hiL]; rfl⟩
         have h2 : ((List.range m).filter fun j => !L.getD j true).erase i = ((List.range m).filter fun j => !L.getD j true).filter fun j => !(j == i) := by
           rw [hnd.erase_eq_filter]; rfl
         simp only [left] at hk ⊢
         rw [h1, ← h2, List.length_erase_of_mem hmem, hk]
         rfl
       · rw [getD_set_ne true (by omega)]; exact hhi j h1 h2
     have hf := hst i o him ho
     unfold FStp at hf
     unfold wpOp
     simp only [ho]
     by_cases hA : isA ops i = true
     · rw [if_pos hA] at hf
       obtain ⟨hX, hA2⟩ := hf
       have hgd : o.guard = none ∧ ∃ d, o.dst = some d := by
         unfold isA at hA
         rw [ho] at hA
         simp only at hA
         split at hA
         · simp only [Bool.and_eq_true, Option.isNone_iff_eq_none] at hA
           exact ⟨hA.1, Option.isSome_iff_exists.1 hA.2⟩
         · simp only [Bool.and_eq_true, Option.isNone_iff_eq_none] at hA
           exact ⟨hA.1, Option.isSome_iff_exists.1 hA.2⟩
         · cases hA
       obtain ⟨hgd, d, hdst⟩ := hgd
       obtain ⟨h1, T, hrun⟩ := A_run p.inv (hA2.local (fun t ht => hsame t (by simp only [Oper.names, List.mem_append, List.mem_filterMap]; exact .inl (.inr ⟨.tmp t, by simpa using ht, rfl⟩))))
       rw [if_pos (by simp [Region.wanted, hgd])]
       refine .inl (wp_of_run hrun ?_)
       rw [hdst]
       exact next _ _ _ (by rw [put_size]; exact hsz) (p.make3 D him hA hiL hL' (by rw [hgi, hdst]) hX (hdo d (by rw [hgi, hdst])) h1)
     · rw [if_neg hA] at hf
       have hA' : isA ops i = false := by simpa using hA
       have hop : ∀ K' : SV → Prop, ppop E o.op (seqS ops σ X i) K' → ppop E o.op (tau ops m σ X fun i => L.getD i true) K' := fun K' h' =>
         ppop_local hos (fun t ht => hsame t (by simp only [Oper.names, List.mem_append, List.mem_filterMap]; exact .inl (.inr ⟨.tmp t, by simpa using ht, rfl⟩))) h'
       have run : (∀ K' : SV → Prop, K' (X i) → ppop E o.op (seqS ops σ X i) K') → o.wp E.P a w (wpAny E.P .any ops Q (k + (ops.size - m)) (L.setIfInBounds i true)) Q := fun hall' =>
         ppop_sound p.inv (hop (fun x => x = X i) (hall' _ rfl)) _ fun x v w' hx hRS hb => by
           subst hx
           rw [← hgi]
           exact next _ w' _ (by rw [put_size]; exact hsz) (p.pure3 D him hA' hL' hdo hb hRS)
       have skip : X i = .sh (.val undef) → wpAny E.P .any ops Q (k + (ops.size - m)) (L.setIfInBounds i true) (a.put o.dst undef) w := fun hx => by
         rw [← hgi]
         exact next _ w _ (by rw [put_size]; exact hsz) (p.pure3 D him hA' hL' hdo (Below.refl _ _) (by rw [hx]; exact .sh (.val _)))
       cases hgd : o.guard with
       | none =>
         simp only [Stp, hgd] at hf
         rw [if_pos (by simp [Region.wanted, hgd])]
         exact .inl (run hf)
       | some g =>
         obtain ⟨j, want⟩ := g
         simp only [Stp, hgd] at hf
         rcases hf with ⟨t, vs, ht, hs, hx⟩ | ⟨t, b, ht, hs, hcase⟩
         · have hs' : (tau ops m σ X fun i => L.getD i true).s t = .sh (.val (.tuple vs)) := by
             rw [← hsame t (by simp [Oper.names, hgd, ht]), hs]
           rw [unwanted_of p.inv hgd ht hs', if_neg (by simp)]
           exact skip hx
         have hs' : (tau ops m σ X fun i => L.getD i true).s t = .sh (.val (.bool b)) := by
           rw [← hsame t (by simp [Oper.names, hgd, ht]), hs]
         rw [wanted_of p.inv hgd ht hs']
         rcases hcase with ⟨rfl, hall'⟩ | ⟨hb', hx⟩
         · rw [if_pos (by simp)]
           exact .inl (run hall')
         · rw [if_neg (by rw [hb']; cases want <;> simp)]
           exact skip hx
def pfx (E : Env) (ops : Array Oper) (fls : List Nat) (R : List (List Nat)) (m0 : Nat) : Nat → Nat → List Oper → List (Nat × List Value) → (St → Prop) → St → Prop
 | 0, _, l, av, K, σ => chks E ops fls (av.foldl recS σ) ∧ ptx E ops m0 R (ops.size - m0) (List.range' m0 (ops.size - m0)) K (av.foldl recS σ)
 | _ + 1, _, [], av, K, σ => False
 | m + 1, k, o :: rest, av, K, σ => if isA ops k = true then ∃ d vs, o.dst = some d ∧ AStp E o σ vs ∧ pfx E ops fls R m0 m (k + 1) rest (av ++ [(d, vs)]) K (σ.put o.dst (.sh .any)) else match o.guard with
   | none => ppop E o.op σ fun x => pfx E ops fls R m0 m (k + 1) rest av K (σ.put o.dst x)
   | some (j, want) => match gslot ops j with
     | some t => match σ.s t with
       | .sh (.val (.bool b)) => (b = want → ppop E o.op σ fun x => pfx E ops fls R m0 m (k + 1) rest av K (σ.put o.dst x)) ∧ (b = !want → pfx E ops fls R m0 m (k + 1) rest av K (σ.put o.dst (.sh (.val undef))))
       | .sh (.val (.tuple _)) => pfx E ops fls R m0 m (k + 1) rest av K (σ.put o.dst (.sh (.val undef)))
       | _ => False
     | none => False
theorem pfx_ex {E : Env} {ops : Array Oper} {fls : List Nat} {R : List (List Nat)} {m0 : Nat} {σ : St} : ∀ (m k : Nat) (l : List Oper) (K : St → Prop) (X0 : Nat → SV) (V0 : Nat → List Value), (∀ j, l[j]? = ops[k + j]?) → pfx E ops fls R m0 m k l (asOf ops V0 k) K (seqS ops σ X0 k) →
   ∃ (X : Nat → SV) (V : Nat → List Value), (∀ i, i < k → X i = X0 i) ∧ (∀ i, i < k → V i = V0 i) ∧ (∀ i o, k ≤ i → i < k + m → ops[i]? = some o → FStp E ops i o (seqS ops σ X i) (X i) (V i)) ∧ m ≤ l.length ∧ chks E ops fls ((asOf ops V (k + m)).foldl recS (seqS ops σ X (k + m))) ∧ ptx E ops m0 R (ops.size - m0) (List.range' m0 (ops.size - m0)) K ((asOf ops V (k + m)).foldl recS (seqS ops σ X (k + m)))
 | 0, k, l, K, X0, V0, hl, h => ⟨X0, V0, fun _ _ => rfl, fun _ _ => rfl, fun i o h1 h2 => by omega, Nat.zero_le _, by simpa [pfx] using h⟩
 | m + 1, k, [], K, X0, V0, hl, h => by simp [pfx] at h
 | m + 1, k, o :: l, K, X0, V0, hl, h => by
   have ho : ops[k]? = some o := by have := hl 0; simpa using this.symm
   have hg : gslot ops k = o.dst := by simp [gslot, ho]
   have fin : ∀ x vs, FStp E ops k o (seqS ops σ X0 k) x vs → pfx E ops fls R m0 m (k + 1) l (asOf ops (fun i => if i = k then vs else V0 i) (k + 1)) K ((seqS ops σ X0 k).put o.dst x) →
       ∃ (X : Nat → SV) (V : Nat → List Value), (∀ i, i < k → X i = X0 i) ∧ (∀ i, i < k → V i = V0 i) ∧ (∀ i o, k ≤ i → i < k + (m + 1) → ops[i]? = some o → FStp E ops i o (seqS ops σ X i) (X i) (V i)) ∧ m + 1 ≤ (o :: l).length ∧
         chks E ops fls ((asOf ops V (k + (m + 1))).foldl recS (seqS ops σ X (k + (m + 1)))) ∧ ptx E ops m0 R (ops.size - m0) (List.range' m0 (ops.size - m0)) K ((asOf ops V (k + (m + 1))).foldl recS (seqS ops σ X (k + (m + 1)))) := by
     intro x vs hx hp
     have hX1 : ∀ i, i < k → (fun i => if i = k then x else X0 i) i = X0 i := fun i hi => by simp [show i ≠ k by omega]
     have hs1 : seqS ops σ (fun i => if i = k then x else X0 i) k = seqS ops σ X0 k := seqS_congr k hX1
     obtain ⟨X, V, h1, h1v, h2, h3, h4⟩ := pfx_ex m (k + 1) l K (fun i => if i = k then x else X0 i) (fun i => if i = k then vs else V0 i) (fun j => by have := hl (j + 1); simpa [Nat.add_assoc, Nat.add_comm 1 j] using this) (by
       simp only [seqS, if_true]; rw [hs1, hg]; exact hp)
     have hXk : X k = x := by rw [h1 k (by omega)]; simp
     have hVk : V k = vs := by rw [h1v k (by omega)]; simp
     have hXs : seqS ops σ X k = seqS ops σ X0 k := by rw [← hs1]; exact seqS_congr k (fun i hi => h1 i (by omega))
     refine ⟨X, V, fun i hi => by rw [h1 i (by omega)]; exact hX1 i hi, fun i hi => by rw [h1v i (by omega)]; simp [show i ≠ k by omega], fun i o' hi1 hi2 ho' => ?_, by simp; omega, ?_⟩
     · by_cases e : i = k
       · subst e
         rw [ho] at ho'
         injection ho' with ho'
         subst ho'
         rw [hXs, hXk, hVk]; exact hx
       · exact h2 i o' (by omega) (by omega) ho'
     · rw [show k + (m + 1) = k + 1 + m by omega]; simpa using h4
   have hV1 : ∀ vs, asOf ops (fun i => if i = k then vs else V0 i) k = asOf ops V0 k := fun vs => asOf_congr (fun i hi => by simp [show i ≠ k by omega])
   simp only [pfx] at h
   by_cases hA : isA ops k = true
   · rw [if_pos hA] at h
     obtain ⟨d, vs, hdst, hst, hp⟩ := h
     refine fin (.sh .any) vs (by unfold FStp; rw [if_pos hA]; exact ⟨rfl, hst⟩) ?_
     rw [asOf_succ, hV1, if_pos hA, hg, hdst]
     simpa [hdst] using hp
   · rw [if_neg hA] at h
     have has : ∀ vs, asOf ops (fun i => if i = k then vs else V0 i) (k + 1) = asOf ops V0 k := fun vs => by rw [asOf_succ, hV1, if_neg hA]; simp
     have fin' : ∀ x, Stp E ops o (seqS ops σ X0 k) x → pfx E ops fls R m0 m (k + 1) l (asOf ops V0 k) K ((seqS ops σ X0 k).put o.dst x) → _ := fun x hx hp => fin x [] (by unfold FStp; rw [if_neg hA]; exact hx) (by rw [has]; exact hp)
     split at h
     · rename_i hgd
       obtain ⟨x, hK, hall⟩ := ppop_ex h
       exact fin' x (by simp only [Stp, hgd]; exact hall) hK
     · rename_i j want hgd
       split at h
       · rename_i t ht
         split at h
         · rename_i b hs
           by_cases e : b = want
           · obtain ⟨x, hK, hall⟩ := ppop_ex (h.1 e)
             exact fin' x (by simp only [Stp, hgd]; exact .inr ⟨t, b, ht, hs, .inl ⟨e, hall⟩⟩) hK
           · have e' : b = !want := by cases b <;> cases want <;> simp at e ⊢
             exact fin' (.sh (.val undef)) (by simp only [Stp, hgd]; exact .inr ⟨t, b, ht, hs, .inr ⟨e', trivial⟩⟩) (h.2 e')
         · rename_i vs hs
           exact fin' (.sh (.val undef)) (by simp only [Stp, hgd]; exact .inl ⟨t, vs, ht, hs, trivial⟩) h
         · exact h.elim
       · exact h.elim
theorem draw3_sound {id : Nat} (hmix : E.P.follows .mixedOrders = true) (hok : drawOk3 ops m fls R = true) {σ : St} {a : Act} {w : World} {loc : Nat → Value} (h : Inv E.gpv w0 A0 σ a w loc) (hd : ∀ o ∈ ops.toList, ∀ t, o.dst = some t → t < a.tmps.size)
   (hp : pfx E ops fls R m m 0 ops.toList [] K σ) (hQ : ∀ τ a' w' loc', K τ → Inv E.gpv w0 A0 τ a' w' loc' → a'.tmps.size = a.tmps.size → Trk a loc loc' → Q .normal a' w') : (Code.region id ops true).wp E.P Q a w := by
 have D := drawOk3_spec hok
 have hm := D.hm
 obtain ⟨X, V, _, _, h2, _, h3, h4⟩ := pfx_ex (m0 := m) (ops := ops) (R := R) (fls := fls) (σ := σ) m 0 ops.toList K (fun _ => .sh .any) (fun _ => []) (fun j => by simp) (by simpa [asOf, seqS] using hp)
 rw [Nat.zero_add] at h3 h4
 refine wp_region_any hmix ?_
 have hl : left m (Array.replicate ops.size false) = m := by
   simp only [left]
   rw [List.filter_eq_self.2 (fun i hi => by simp at hi; simp [Array.getD, show i < ops.size by omega])]
   simp
 have hS : ∀ i, i < m → (Array.replicate ops.size false).getD i true = false := fun i hi => by simp [Array.getD, show i < ops.size by omega]
 have := front_run3 (w0 := w0) (A0 := A0) (Q := Q) (n := a.tmps.size) (loc := loc) D (fun i t ht => by
   unfold gslot at ht
   cases ho : ops[i]? with
   | none => rw [ho] at ht; cases ht
   | some o => rw [ho] at ht; exact hd o (by rw [Array.mem_toList_iff]; exact Array.mem_of_getElem? ho) t ht) (fun i o hi ho => h2 i o (Nat.zero_le _) (by omega) ho) h3 h4 hQ m (Array.replicate ops.size false) a { w with drawn := w.drawn + 1 } (fun _ => 0) hl (by simp) (fun i _ hi => by simp [Array.getD, hi]) (fun j o ho hj => by
   by_cases hjl : j < ops.size
   · simp [Array.getD, hjl] at hj
   · simp [Array.getD, hjl] at hj) rfl (by
   refine ⟨?_, fun i hi hA hSi => ?_, fun i j hi hj hA hA' hSi => ?_⟩
   · have ht : tau ops m σ X (fun i => (Array.replicate ops.size false).getD i true) = σ := by
       have hs : ∀ t, (tau ops m σ X (fun i => (Array.replicate ops.size false).getD i true)).s t = σ.s t := fun t => tau_miss (fun i hi hS' => by rw [hS i hi] at hS'; cases hS')
       cases σ with
       | mk s o => simp only [tau] at hs ⊢; congr 1; exact funext hs
     rw [ht]
     refine (h.grow (Below.drew (Below.refl _ _))).congrA (fun c => ⟨.inl, ?_⟩)
     rintro (hc | ⟨i, h5, _, h6, _⟩)
     · exact hc
     · rw [hS i h5] at h6; cases h6
   · rw [hS i hi] at hSi; cases hSi
   · rw [hS i hi] at hSi; cases hSi)
 rwa [show m + (ops.size - m) = ops.size by omega] at this
end
end Go.Pw
