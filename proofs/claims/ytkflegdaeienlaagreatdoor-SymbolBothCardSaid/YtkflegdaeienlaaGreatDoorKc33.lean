/- Merged from the working texts Ps2 Ps3 Mt1 Mt2 Ma5 Mb3 Mb4 Mb5. -/
import Derived.Test.YtkflegdaeienlaaGreatDoorKc25
import Derived.Test.YtkflegdaeienlaaGreatDoorKc32
import Derived.Test.YtkflegdaeienlaaGreatDoorKc23
import Derived.Test.YtkflegdaeienlaaGreatDoorKc24
import Derived.Test.YtkflegdaeienlaaGreatDoorKc31
set_option linter.all false
set_option maxHeartbeats 400000
set_option maxHeartbeats 2000000
set_option maxRecDepth 100000
set_option linter.unusedVariables false
set_option linter.unusedSimpArgs false
namespace Go.Pw
open Go Go.Proofs
theorem con_rOf (n d : Int) (h1 : -9223372036854775808 ≤ n) (h2 : n ≤ 9223372036854775807) (h3 : -9223372036854775808 ≤ d) (h4 : d ≤ 9223372036854775807) : Con E 54 [vI n, vI d] (.agg (cR (rof n d))) := by
 refine con_of2 mixed (fn := Tryz.f54) (rs := [.cell 4 80]) Tryz.func54 (by kernel_rfl) rfl (by kernel_rfl) rfl rfl ?_
 simp only [argE, Nat.reduceAdd, cN, vI, vB]
 have ln : ∀ m : Nat, m < 18446744073709551616 → (dg m).length ≤ 2 := fun m hm => len_dg_le.2 (by omega)
 have hn := ln n.natAbs (by omega)
 have hd := ln d.natAbs (by omega)
 unfold rof
 (refine SD ?_;intros;rename_i K1 hK1)
 (refine ⟨_,con_rsize n h1 h2,hK1 _ ?_⟩;clear hK1 K1;try simp only [put_some,cN,vI,vB,cR])
 (refine SD ?_;intros;rename_i K1 hK1)
 (refine ⟨_,con_Of n.natAbs (by omega),hK1 _ ?_⟩;clear hK1 K1;try simp only [put_some,cN,vI,vB,cR])
 (refine SD ?_;intros;rename_i K1 hK1)
 (refine ⟨_,con_rsize d h3 h4,hK1 _ ?_⟩;clear hK1 K1;try simp only [put_some,cN,vI,vB,cR])
 (refine SD ?_;intros;rename_i K1 hK1)
 (refine ⟨_,con_Of d.natAbs (by omega),hK1 _ ?_⟩;clear hK1 K1;try simp only [put_some,cN,vI,vB,cR])
 (refine SD ?_;intros;rename_i K1 hK1)
 (refine ⟨_,con_rRatio (decide (n < 0) != decide (d < 0)) n.natAbs d.natAbs (by omega) (by omega),hK1 _ ?_⟩;clear hK1 K1;try simp only [put_some,cN,vI,vB,cR])
 (refine SD ?_;intros)
 simp (disch := omega) only [resc1,resc2,rescc,rest1c,AB,AD,Nat.reduceEqDiff,↓reduceIte,Nat.reduceAdd,Nat.reduceMul,Nat.reducePow,Nat.reduceLeDiff,Nat.reduceLT]
 all_goals rfl
theorem con_rdigits (x y : List Nat) (h : x.length < 2 ^ 40) (h' : y.length < 2 ^ 40) : Con E 93 [cN x, cN y] (vB (decide (x = y))) := by
 refine con_of2 mixed (fn := Tryz.f93) (rs := [.tmp 4]) Tryz.func93 (by kernel_rfl) rfl (by kernel_rfl) rfl rfl ?_
 simp only [argE, Nat.reduceAdd, cN, vI, vB]
 (refine WD ?_ ?_<;>intros<;>rename_i hb)
 · simp only [res1,res2,res3,AB,AD,Nat.reduceEqDiff,↓reduceIte,Nat.reduceAdd,Nat.reduceMul,Nat.reducePow,Nat.reduceLeDiff,Nat.reduceLT]
   rw [decide_eq_false (fun e => hb (by subst e; rfl))]
 · refine p_loopx (fun (i : Nat) => [(5, .sh (vI i)), (0, .sh (cN x)), (1, .sh (cN y))]) (fun _ => []) (fun i => x.length - i) (fun i => i ≤ x.length ∧ x.take i = y.take i) 0 (Weak.list ⟨rfl, rfl, rfl, trivial⟩ trivial) ⟨Nat.zero_le _, rfl⟩ ?_
   rintro i ⟨hi, hI⟩
   simp only [cN, vI] at *
   (refine VD ?_ ?_ ?_<;>intros<;>rename_i hb)
   · simp only [res1,res2,res3,AB,AD,Nat.reduceEqDiff,↓reduceIte,Nat.reduceAdd,Nat.reduceMul,Nat.reducePow,Nat.reduceLeDiff,Nat.reduceLT]
     rw [decide_eq_false (fun e => hb (by subst e; rfl))]
   · refine p_lx _ _ _ _ (i + 1) ?_ ⟨?_, ?_⟩ (Weak.list ⟨int_eq ?_, rfl, rfl, trivial⟩ trivial)
     · omega
     · omega
     · rw [List.take_succ_eq_append_getElem (by omega), List.take_succ_eq_append_getElem (by omega), hI]
       congr 2
       rw [List.getD_eq_getElem?_getD, List.getD_eq_getElem?_getD, List.getElem?_eq_getElem (by omega), List.getElem?_eq_getElem (by omega)] at hb
       exact Int.ofNat.inj hb
     · omega
   · simp only [res1,res2,res3,AB,AD,Nat.reduceEqDiff,↓reduceIte,Nat.reduceAdd,Nat.reduceMul,Nat.reducePow,Nat.reduceLeDiff,Nat.reduceLT]
     have e : x = y := by
       rw [List.take_of_length_le (by omega), List.take_of_length_le (by omega)] at hI
       exact hI
     rw [decide_eq_true e]
def reqB (a b : Rt) : Bool := decide (a.fault = b.fault) && (a.neg == b.neg) && decide (a.num = b.num) && decide (a.den = b.den)
theorem con_rEqual (a b : Rt) (ha : Fit a) (hb : Fit b) : Con E 48 [.agg (cR a), .agg (cR b)] (vB (reqB a b)) := by
 refine con_of2 mixed (fn := Tryz.f48) (rs := [.tmp 4]) Tryz.func48 (by kernel_rfl) rfl (by kernel_rfl) rfl rfl ?_
 simp only [argE, Nat.reduceAdd, cN, vI, vB, cR]
 unfold reqB
 have c1 := con_rdigits a.num b.num (by have := ha.nl; omega) (by have := hb.nl; omega)
 have c2 := con_rdigits a.den b.den (by have := ha.dl; omega) (by have := hb.dl; omega)
 by_cases h1 : a.fault = b.fault
 rotate_left
 · rw [decide_eq_false h1]
   (refine SD ?_;intros;rename_i hb)
   simp only [res1,res2,res3,AB,AD,Nat.reduceEqDiff,↓reduceIte,Nat.reduceAdd,Nat.reduceMul,Nat.reducePow,Nat.reduceLeDiff,Nat.reduceLT]
   all_goals rfl
 rw [decide_eq_true h1]
 by_cases h2 : a.neg = b.neg
 rotate_left
 · rw [show (a.neg == b.neg) = false by simpa using h2]
   (refine SD ?_;intros;rename_i hb)
   simp only [res1,res2,res3,AB,AD,Nat.reduceEqDiff,↓reduceIte,Nat.reduceAdd,Nat.reduceMul,Nat.reducePow,Nat.reduceLeDiff,Nat.reduceLT]
   all_goals rfl
 rw [show (a.neg == b.neg) = true by simpa using h2]
 by_cases h3 : a.num = b.num
 rotate_left
 · rw [decide_eq_false h3]
   rw [decide_eq_false h3] at c1
   (refine SD ?_;intros;rename_i hb K1 hK1)
   (refine ⟨_,c1,hK1 _ ?_⟩;clear hK1 K1;try simp only [put_some,cN,vI,vB,cR])
   (refine SD ?_;intros;rename_i hb)
   simp only [res1,res2,res3,AB,AD,Nat.reduceEqDiff,↓reduceIte,Nat.reduceAdd,Nat.reduceMul,Nat.reducePow,Nat.reduceLeDiff,Nat.reduceLT]
   all_goals rfl
 rw [decide_eq_true h3]
 rw [decide_eq_true h3] at c1
 (refine SD ?_;intros;rename_i hb K1 hK1)
 (refine ⟨_,c1,hK1 _ ?_⟩;clear hK1 K1;try simp only [put_some,cN,vI,vB,cR])
 (refine SD ?_;intros;rename_i hb K1 hK1)
 (refine ⟨_,c2,hK1 _ ?_⟩;clear hK1 K1;try simp only [put_some,cN,vI,vB,cR])
 (refine SD ?_;intros)
 simp only [res1,res2,res3,AB,AD,Nat.reduceEqDiff,↓reduceIte,Nat.reduceAdd,Nat.reduceMul,Nat.reducePow,Nat.reduceLeDiff,Nat.reduceLT]
 all_goals rfl
end Go.Pw
set_option maxRecDepth 100000
set_option linter.unusedVariables false
set_option linter.unusedSimpArgs false
namespace Go.Pw
open Go Go.Proofs
end Go.Pw
set_option maxRecDepth 100000
set_option linter.unusedVariables false
set_option linter.unusedSimpArgs false
namespace Go.Pw
open Go Go.Proofs
def numsB (a b : List Rt) : Bool := decide (a.length = b.length) && (List.range a.length).all fun i => reqB (a.getD i default) (b.getD i default)
theorem con_Numbers (a b : List Rt) (h : a.length < 2 ^ 40) (h' : b.length < 2 ^ 40) (ha : ∀ i, Fit (a.getD i default)) (hbf : ∀ i, Fit (b.getD i default)) : Con E 42 [cRs a, cRs b] (vB (numsB a b)) := by
 refine con_of2 mixed (fn := Tryz.f42) (rs := [.tmp 4]) Tryz.func42 (by kernel_rfl) rfl (by kernel_rfl) rfl rfl ?_
 simp only [argE, Nat.reduceAdd, cRs, vI, vB]
 (refine WD ?_ ?_<;>intros<;>rename_i hb)
 · simp only [res1,res2,res3,AB,AD,Nat.reduceEqDiff,↓reduceIte,Nat.reduceAdd,Nat.reduceMul,Nat.reducePow,Nat.reduceLeDiff,Nat.reduceLT]
   have : ¬ a.length = b.length := by omega
   rw [numsB, decide_eq_false this, Bool.false_and]
 · refine p_loopx (fun (i : Nat) => [(5, .sh (vI i)), (0, .sh (cRs a)), (1, .sh (cRs b))]) (fun _ => []) (fun i => a.length - i) (fun i => i ≤ a.length ∧ ∀ k, k < i → reqB (a.getD k default) (b.getD k default) = true) 0 (Weak.list ⟨rfl, rfl, rfl, trivial⟩ trivial) ⟨Nat.zero_le _, fun k hk => by omega⟩ ?_
   rintro i ⟨hi, hI⟩
   simp only [cRs, cN, vI, vB] at *
   have c1 := con_rEqual (a.getD i default) (b.getD i default) (ha i) (hbf i)
   have hab : a.length = b.length := by omega
   by_cases hq : reqB (a.getD i default) (b.getD i default) = true
   · rw [hq] at c1
     (refine UD ?_ ?_ ?_ ?_<;>intros;rename_i hb K1 hK1;rotate_left;rename_i hb K1 hK1;rotate_left;rename_i hb K1 hK1;rotate_left;rename_i hb;rotate_right 3)
     all_goals first | exact Nat.le_refl 4 | skip
     · (refine ⟨_,c1,hK1 _ ?_⟩;clear hK1 K1;try simp only [put_some,cN,vI,vB,cR])
       (refine SD ?_;intros)
       refine p_lx _ _ _ _ (i + 1) ?_ ⟨?_, ?_⟩ (Weak.list ⟨int_eq ?_, rfl, rfl, trivial⟩ trivial)
       · omega
       · omega
       · intro k hk
         rcases Nat.lt_or_ge k i with h1 | h1
         · exact hI k h1
         · rw [show k = i by omega]; exact hq
       · omega
     · simp only [res1,res2,res3,AB,AD,Nat.reduceEqDiff,↓reduceIte,Nat.reduceAdd,Nat.reduceMul,Nat.reducePow,Nat.reduceLeDiff,Nat.reduceLT]
       have : numsB a b = true := by
         unfold numsB
         rw [decide_eq_true hab, Bool.true_and, List.all_eq_true]
         intro k hk
         exact hI k (by have := List.mem_range.1 hk; omega)
       rw [this]
   · have hq' : reqB (a.getD i default) (b.getD i default) = false := by simpa using hq
     rw [hq'] at c1
     (refine UD ?_ ?_ ?_ ?_<;>intros;rename_i hb K1 hK1;rotate_left;rename_i hb K1 hK1;rotate_left;rename_i hb K1 hK1;rotate_left;rename_i hb;rotate_right 3)
     all_goals first | exact Nat.le_refl 4 | skip
     · (refine ⟨_,c1,hK1 _ ?_⟩;clear hK1 K1;try simp only [put_some,cN,vI,vB,cR])
       (refine SD ?_;intros)
       simp only [res1,res2,res3,AB,AD,Nat.reduceEqDiff,↓reduceIte,Nat.reduceAdd,Nat.reduceMul,Nat.reducePow,Nat.reduceLeDiff,Nat.reduceLT]
       have : numsB a b = false := by
         unfold numsB
         rw [decide_eq_true hab, Bool.true_and, List.all_eq_false]
         exact ⟨i, List.mem_range.2 (by omega), hq⟩
       rw [this]
     · simp only [res1,res2,res3,AB,AD,Nat.reduceEqDiff,↓reduceIte,Nat.reduceAdd,Nat.reduceMul,Nat.reducePow,Nat.reduceLeDiff,Nat.reduceLT]
       have : numsB a b = true := by
         unfold numsB
         rw [decide_eq_true hab, Bool.true_and, List.all_eq_true]
         intro k hk
         exact hI k (by have := List.mem_range.1 hk; omega)
       rw [this]
end Go.Pw
set_option maxRecDepth 100000
set_option linter.unusedVariables false
set_option linter.unusedSimpArgs false
namespace Go.Pw
open Go Go.Proofs
theorem con_rSame (a b : List (List Rt)) (h : a.length < 2 ^ 30) (hb : b.length < 2 ^ 30) (ha : ∀ i, (a.getD i []).length < 2 ^ 30) (hbl : ∀ i, (b.getD i []).length < 2 ^ 30) (hf : ∀ i k, Fit ((a.getD i []).getD k default)) (hg : ∀ i k, Fit ((b.getD i []).getD k default)) :
   Con E 21 [cRss a, cRss b] (vB (decide (a.length = b.length) && (List.range a.length).all fun i => numsB (a.getD i []) (b.getD i []))) := by
 refine con_of2 mixed (fn := Tryz.f21) (rs := [.tmp 4]) Tryz.func21 (by kernel_rfl) rfl (by kernel_rfl) rfl rfl ?_
 simp only [argE, Nat.reduceAdd, cRss, vI, vB]
 (refine WD ?_ ?_<;>intros<;>rename_i hb)
 · simp only [res1,res2,res3,AB,AD,Nat.reduceEqDiff,↓reduceIte,Nat.reduceAdd,Nat.reduceMul,Nat.reducePow,Nat.reduceLeDiff,Nat.reduceLT]
   have : ¬ a.length = b.length := by omega
   rw [decide_eq_false this, Bool.false_and]
 · have hab : a.length = b.length := by omega
   rw [decide_eq_true hab, Bool.true_and]
   refine p_loopx (fun (i : Nat) => [(5, .sh (vI i)), (0, .sh (cRss a)), (1, .sh (cRss b))]) (fun _ => []) (fun i => a.length - i) (fun i => i ≤ a.length ∧ ∀ k, k < i → numsB (a.getD k []) (b.getD k []) = true) 0 (Weak.list ⟨rfl, rfl, rfl, trivial⟩ trivial) ⟨Nat.zero_le _, fun k hk => by omega⟩ ?_
   rintro i ⟨hi, hI⟩
   simp only [cRss, cN, vI, vB] at *
   have c1 := con_Numbers (a.getD i []) (b.getD i []) (by have := ha i; omega) (by have := hbl i; omega) (hf i) (hg i)
   have fin : i = a.length → ((List.range a.length).all fun i => numsB (a.getD i []) (b.getD i [])) = true := fun e => by
     rw [List.all_eq_true]
     intro k hk
     exact hI k (by have := List.mem_range.1 hk; omega)
   by_cases hq : numsB (a.getD i []) (b.getD i []) = true
   · rw [hq] at c1
     (refine WD ?_ ?_<;>intros;rename_i hb K1 hK1;rotate_left;rename_i hb;rotate_right)
     · (refine ⟨_,c1,hK1 _ ?_⟩;clear hK1 K1;try simp only [put_some,cN,vI,vB,cR])
       (refine SD ?_;intros)
       refine p_lx _ _ _ _ (i + 1) ?_ ⟨?_, ?_⟩ (Weak.list ⟨int_eq ?_, rfl, rfl, trivial⟩ trivial)
       · omega
       · omega
       · intro k hk
         rcases Nat.lt_or_ge k i with h1 | h1
         · exact hI k h1
         · rw [show k = i by omega]; exact hq
       · omega
     · simp only [res1,res2,res3,AB,AD,Nat.reduceEqDiff,↓reduceIte,Nat.reduceAdd,Nat.reduceMul,Nat.reducePow,Nat.reduceLeDiff,Nat.reduceLT]
       rw [fin (by omega)]
   · have hq' : numsB (a.getD i []) (b.getD i []) = false := by simpa using hq
     rw [hq'] at c1
     (refine WD ?_ ?_<;>intros;rename_i hb K1 hK1;rotate_left;rename_i hb;rotate_right)
     · (refine ⟨_,c1,hK1 _ ?_⟩;clear hK1 K1;try simp only [put_some,cN,vI,vB,cR])
       (refine SD ?_;intros)
       simp only [res1,res2,res3,AB,AD,Nat.reduceEqDiff,↓reduceIte,Nat.reduceAdd,Nat.reduceMul,Nat.reducePow,Nat.reduceLeDiff,Nat.reduceLT]
       have : ((List.range a.length).all fun i => numsB (a.getD i []) (b.getD i [])) = false := by
         rw [List.all_eq_false]
         exact ⟨i, List.mem_range.2 (by omega), hq⟩
       rw [this]
     · simp only [res1,res2,res3,AB,AD,Nat.reduceEqDiff,↓reduceIte,Nat.reduceAdd,Nat.reduceMul,Nat.reducePow,Nat.reduceLeDiff,Nat.reduceLT]
       rw [fin (by omega)]
end Go.Pw
set_option maxRecDepth 100000
set_option linter.unusedVariables false
set_option linter.unusedSimpArgs false
namespace Go.Pw
open Go Go.Proofs
noncomputable def okX (f : Bool) (x : Rt) : Bool := isRatB x && (f || decide (x.fault = 0))
noncomputable def givenE (n : Int) (l : List Rt) (f : Bool) : Int := if (l.length : Int) ≠ n then 2 else if l.all (okX f) then 0 else 5
theorem all_getD {α : Type} {p : α → Bool} {l : List α} {d : α} : l.all p = true ↔ ∀ i, i < l.length → p (l.getD i d) = true := by
 rw [List.all_eq_true]
 constructor
 · intro h i hi
   rw [List.getD_eq_getElem?_getD, List.getElem?_eq_getElem hi]
   exact h _ (List.getElem_mem hi)
 · intro h x hx
   obtain ⟨i, hi, rfl⟩ := List.getElem_of_mem hx
   have := h i hi
   rwa [List.getD_eq_getElem?_getD, List.getElem?_eq_getElem hi] at this
end Go.Pw
set_option maxRecDepth 100000
set_option linter.unusedVariables false
set_option linter.unusedSimpArgs false
namespace Go.Pw
open Go Go.Proofs
theorem con_143 (x : Rt) (f : Bool) (hf : Fit x) : Con E 143 [.agg (cR x), .ea [vB f]] (vB (!okX f x)) := by
 have c1 := con_IsRat x hf.n hf.d hf.nl hf.dl
 unfold okX
 simp only [cR, vB] at c1
 cases hr : isRatB x <;> rw [hr] at c1 <;> cases f
 all_goals
   refine con_of2 mixed (fn := Tryz.f143) (rs := [.tmp 3]) Tryz.func143 (by kernel_rfl) rfl (by kernel_rfl) rfl rfl ?_
   simp only [argE, Nat.reduceAdd, cR, vI, vB]
   (refine SZ ?_;intros;rename_i K1 hK1)
   (refine ⟨_,c1,hK1 _ ?_⟩;clear hK1 K1;try simp only [put_some,cN,vI,vB,cR])
   (refine SZ ?_;intros)
   simp only [res1,res2,res3,AB,AD,AZ,Nat.reduceEqDiff,↓reduceIte,Nat.reduceAdd,Nat.reduceMul,Nat.reducePow,Nat.reduceLeDiff,Nat.reduceLT]
 all_goals first | rfl | (by_cases h0 : x.fault = 0 <;> simp [h0, bne])
theorem any_not_all {α : Type} (p : α → Bool) (l : List α) (d : α) : (List.range l.length).any (fun i => !p (l.getD i d)) = !l.all p := by
 rw [Bool.eq_iff_iff, List.any_eq_true, Bool.not_eq_true', ← Bool.not_eq_true, all_getD (d := d)]
 simp
theorem con_tNumbers (n : Int) (l : List Rt) (f : Bool) (h1 : -9223372036854775808 ≤ n) (h2 : n ≤ 9223372036854775807) (h : l.length < 2 ^ 40) (hf : ∀ i, Fit (l.getD i default)) :
   Con E 81 [cRs l, vI n, vB f] (vI (givenE n l f)) := by
 have c1 := con_Contains121 l (fun i => !okX f (l.getD i default)) 143 [.ea [vB f]] h (fun i _ => con_143 _ f (hf i))
 rw [any_not_all] at c1
 unfold givenE
 by_cases hn : (l.length : Int) ≠ n
 · rw [if_pos hn]
   refine con_of2 mixed (fn := Tryz.f81) (rs := [.tmp 6]) Tryz.func81 (by kernel_rfl) rfl (by kernel_rfl) rfl rfl ?_
   simp only [argE, Nat.reduceAdd, cRs, vI, vB]
   (refine SZ ?_;intros)
   simp only [res1,res2,res3,AB,AD,AZ,Nat.reduceEqDiff,↓reduceIte,Nat.reduceAdd,Nat.reduceMul,Nat.reducePow,Nat.reduceLeDiff,Nat.reduceLT]
 · rw [if_neg hn]
   have hn' : n = (l.length : Int) := by omega
   subst hn'
   cases ha : l.all (okX f) <;> rw [ha] at c1
   all_goals
     refine con_of2 mixed (fn := Tryz.f81) (rs := [.tmp 6]) Tryz.func81 (by kernel_rfl) rfl (by kernel_rfl) rfl rfl ?_
     simp only [argE, Nat.reduceAdd, cRs, vI, vB] at *
     (refine SZ ?_;intros;rename_i K1 hK1)
     (refine ⟨_,c1,hK1 _ ?_⟩;clear hK1 K1;try simp only [put_some,cN,vI,vB,cR])
     (refine SZ ?_;intros)
     simp only [res1,res2,res3,AB,AD,AZ,Nat.reduceEqDiff,↓reduceIte,Nat.reduceAdd,Nat.reduceMul,Nat.reducePow,Nat.reduceLeDiff,Nat.reduceLT]
   all_goals rfl
end Go.Pw
set_option maxRecDepth 100000
set_option linter.unusedVariables false
set_option linter.unusedSimpArgs false
namespace Go.Pw
open Go Go.Proofs
def badW (j : List (List Rt)) (c : Int) : Bool := (List.range j.length).any fun i => decide (((j.getD i []).length : Int) ≠ c)
noncomputable def formE (j : List (List Rt)) (c : Int) : Int := if c < 0 ∨ 4096 < c ∨ 4096 < j.length then 2 else if badW j c = true then 2 else if (List.range j.length).all (fun i => (j.getD i []).all isRatB) = true then 0 else 5
theorem con_120 (r : List Rt) (c : Int) (h : r.length < 2 ^ 40) : Con E 120 [cRs r, .ea [vI c]] (vB (decide ((r.length : Int) ≠ c))) := by
 refine con_of2 mixed (fn := Tryz.f120) (rs := [.tmp 3]) Tryz.func120 (by kernel_rfl) rfl (by kernel_rfl) rfl rfl ?_
 simp only [argE, Nat.reduceAdd, cRs, vI, vB]
 (refine SZ ?_;intros)
 simp only [res1,res2,res3,AB,AD,AZ,Nat.reduceEqDiff,↓reduceIte,Nat.reduceAdd,Nat.reduceMul,Nat.reducePow,Nat.reduceLeDiff,Nat.reduceLT]
 by_cases e : (r.length : Int) = c <;> simp [e, bne]
theorem con_122 (x : Rt) (hf : Fit x) : Con E 122 [.agg (cR x)] (vB (!isRatB x)) := by
 have c1 := con_IsRat x hf.n hf.d hf.nl hf.dl
 refine con_of2 mixed (fn := Tryz.f122) (rs := [.tmp 2]) Tryz.func122 (by kernel_rfl) rfl (by kernel_rfl) rfl rfl ?_
 simp only [argE, Nat.reduceAdd, cR, vI, vB] at *
 (refine SZ ?_;intros;rename_i K1 hK1)
 (refine ⟨_,c1,hK1 _ ?_⟩;clear hK1 K1;try simp only [put_some,cN,vI,vB,cR])
 (refine SZ ?_;intros)
 simp only [res1,res2,res3,AB,AD,AZ,Nat.reduceEqDiff,↓reduceIte,Nat.reduceAdd,Nat.reduceMul,Nat.reducePow,Nat.reduceLeDiff,Nat.reduceLT]
theorem con_sform (j : List (List Rt)) (c : Int) (h1 : -9223372036854775808 ≤ c) (h2 : c ≤ 9223372036854775807) (h : j.length < 2 ^ 40) (hl : ∀ i, (j.getD i []).length < 2 ^ 40) (hf : ∀ i k, Fit ((j.getD i []).getD k default)) : Con E 64 [cRss j, vI c] (vI (formE j c)) := by
 have c1 := con_Contains119 j (fun i => decide (((j.getD i []).length : Int) ≠ c)) 120 [.ea [vI c]] h (fun i _ => con_120 _ c (hl i))
 have c2 : ∀ i, Con E 121 [cRs (j.getD i []), .fn 122 []] (vB (!(j.getD i []).all isRatB)) := fun i => by
   have := con_Contains121 (j.getD i []) (fun k => !isRatB ((j.getD i []).getD k default)) 122 [] (hl i) (fun k _ => con_122 _ (hf i k))
   rwa [any_not_all] at this
 change Con E 119 _ (vB (badW j c)) at c1
 unfold formE
 by_cases hb0 : c < 0 ∨ 4096 < c ∨ 4096 < j.length
 · rw [if_pos hb0]
   clear c1 c2
   refine con_of2 mixed (fn := Tryz.f64) (rs := [.tmp 4]) Tryz.func64 (by kernel_rfl) rfl (by kernel_rfl) rfl rfl ?_
   simp only [argE, Nat.reduceAdd, cRss, vI, vB]
   (refine VZ ?_ ?_ ?_<;>intros<;>rename_i hb)
   all_goals simp only [res1,res2,res3,AB,AD,AZ,Nat.reduceEqDiff,↓reduceIte,Nat.reduceAdd,Nat.reduceMul,Nat.reducePow,Nat.reduceLeDiff,Nat.reduceLT]
 · rw [if_neg hb0]
   cases hw : badW j c <;> rw [hw] at c1
   · rw [if_neg (by decide)]
     refine con_of2 mixed (fn := Tryz.f64) (rs := [.tmp 4]) Tryz.func64 (by kernel_rfl) rfl (by kernel_rfl) rfl rfl ?_
     simp only [argE, Nat.reduceAdd, cRss, vI, vB] at *
     (refine SZ ?_;intros;rename_i hb K1 hK1)
     (refine ⟨_,c1,hK1 _ ?_⟩;clear hK1 K1;try simp only [put_some,cN,vI,vB,cR])
     (refine SZ ?_;intros;rename_i hb)
     refine p_loopx (fun (i : Nat) => [(25, .sh (vI i)), (24, .sh (vI j.length)), (23, .sh (cRss j))]) (fun i => []) (fun i => j.length - i) (fun i => i ≤ j.length ∧ ∀ k, k < i → (j.getD k []).all isRatB = true) 0 (Weak.list ⟨rfl, rfl, rfl, trivial⟩ trivial) ⟨Nat.zero_le _, fun k hk => by omega⟩ ?_
     rintro i ⟨hi, hI⟩
     have c2 := c2 i
     have fin : i = j.length → (if (List.range j.length).all (fun i => (j.getD i []).all isRatB) = true then (0 : Int) else 5) = 0 := fun e => if_pos (List.all_eq_true.2 fun k hk => hI k (by have := List.mem_range.1 hk; omega))
     have bad : i < j.length → (j.getD i []).all isRatB = false → (if (List.range j.length).all (fun i => (j.getD i []).all isRatB) = true then (0 : Int) else 5) = 5 := fun e hb => if_neg fun ha => by
       have := List.all_eq_true.1 ha i (List.mem_range.2 e)
       rw [hb] at this; cases this
     have step : (j.getD i []).all isRatB = true → ∀ k, k < i + 1 → (j.getD k []).all isRatB = true := fun e k hk => by
       rcases Nat.lt_or_ge k i with h1 | h1
       · exact hI k h1
       · rw [show k = i by omega]; exact e
     simp only [cRss, vI, vB] at *
     clear hI hl hf
     cases hr : (j.getD i []).all isRatB <;> rw [hr] at c2
     · (refine WZ ?_ ?_<;>intros;rename_i hb K1 hK1;rotate_left;rename_i hb;rotate_right)
       · (refine ⟨_,c2,hK1 _ ?_⟩;clear hK1 K1;try simp only [put_some,cN,vI,vB,cR])
         (refine SZ ?_;intros)
         rw [bad (by omega) hr]
         simp only [res1,res2,res3,AB,AD,AZ,Nat.reduceEqDiff,↓reduceIte,Nat.reduceAdd,Nat.reduceMul,Nat.reducePow,Nat.reduceLeDiff,Nat.reduceLT]
       · rw [fin (by omega)]
         simp only [res1,res2,res3,AB,AD,AZ,Nat.reduceEqDiff,↓reduceIte,Nat.reduceAdd,Nat.reduceMul,Nat.reducePow,Nat.reduceLeDiff,Nat.reduceLT]
     · (refine WZ ?_ ?_<;>intros;rename_i hb K1 hK1;rotate_left;rename_i hb;rotate_right)
       · (refine ⟨_,c2,hK1 _ ?_⟩;clear hK1 K1;try simp only [put_some,cN,vI,vB,cR])
         (refine SZ ?_;intros)
         exact p_lx _ _ _ _ (i + 1) (by omega) ⟨by omega, step hr⟩ (Weak.list ⟨int_eq (by omega), rfl, rfl, trivial⟩ trivial)
       · rw [fin (by omega)]
         simp only [res1,res2,res3,AB,AD,AZ,Nat.reduceEqDiff,↓reduceIte,Nat.reduceAdd,Nat.reduceMul,Nat.reducePow,Nat.reduceLeDiff,Nat.reduceLT]
   · rw [if_pos rfl]
     refine con_of2 mixed (fn := Tryz.f64) (rs := [.tmp 4]) Tryz.func64 (by kernel_rfl) rfl (by kernel_rfl) rfl rfl ?_
     simp only [argE, Nat.reduceAdd, cRss, vI, vB] at *
     (refine SZ ?_;intros;rename_i hb K1 hK1)
     (refine ⟨_,c1,hK1 _ ?_⟩;clear hK1 K1;try simp only [put_some,cN,vI,vB,cR])
     (refine SZ ?_;intros;rename_i hb)
     simp only [res1,res2,res3,AB,AD,AZ,Nat.reduceEqDiff,↓reduceIte,Nat.reduceAdd,Nat.reduceMul,Nat.reducePow,Nat.reduceLeDiff,Nat.reduceLT]
end Go.Pw
set_option maxRecDepth 100000
set_option linter.unusedVariables false
set_option linter.unusedSimpArgs false
namespace Go.Pw
open Go Go.Proofs
theorem formE_zero {j : List (List Rt)} {c : Int} (h : formE j c = 0) : (0 ≤ c ∧ c ≤ 4096 ∧ j.length ≤ 4096) ∧ (∀ i, i < j.length → ((j.getD i []).length : Int) = c) ∧ ∀ i, i < j.length → ∀ k, k < (j.getD i []).length → isRat ((j.getD i []).getD k default) := by
 unfold formE at h
 split at h
 · cases h
 rename_i h1
 split at h
 · cases h
 rename_i h2
 split at h
 · rename_i h3
   refine ⟨by omega, fun i hi => ?_, fun i hi k hk => (isRatB_iff _).1 ((all_getD (d := default)).1 (List.all_eq_true.1 h3 i (List.mem_range.2 hi)) k hk)⟩
   have := List.any_eq_false.1 (Bool.not_eq_true _ ▸ h2) i (List.mem_range.2 hi)
   simpa using this
 · cases h
theorem givenE_zero {n : Int} {l : List Rt} {f : Bool} (h : givenE n l f = 0) : (l.length : Int) = n ∧ ∀ i, i < l.length → isRat (l.getD i default) ∧ (f = false → (l.getD i default).fault = 0) := by
 unfold givenE at h
 split at h
 · cases h
 rename_i h1
 split at h
 · rename_i h2
   refine ⟨by omega, fun i hi => ?_⟩
   have := (all_getD (d := default)).1 h2 i hi
   simp only [okX, Bool.and_eq_true, Bool.or_eq_true, decide_eq_true_eq, isRatB_iff] at this
   exact ⟨this.1, fun e => this.2.resolve_left (by rw [e]; decide)⟩
 · cases h
theorem con_82 (r : List Rt) (i : Nat) (h : r.length < 2 ^ 40) (hi : i < r.length) : Con E 82 [vI i, .ea [cRs r]] (.agg (cR (r.getD i default))) := by
 refine con_of2 mixed (fn := Tryz.f82) (rs := [.cell 3 80]) Tryz.func82 (by kernel_rfl) rfl (by kernel_rfl) rfl rfl ?_
 simp only [argE, Nat.reduceAdd, cRs, cR, vI, vB] at *
 (refine SZ ?_;intros)
 simp (disch := omega) only [resc1,resc2,rescc,rest1c,AB,AD,AZ,Nat.reduceEqDiff,↓reduceIte,Nat.reduceAdd,Nat.reduceMul,Nat.reducePow,Nat.reduceLeDiff,Nat.reduceLT]
 all_goals rfl
theorem con_83 (r : List Rt) (i : Nat) (h : r.length < 2 ^ 40) (hi : i < r.length) : Con E 83 [vI i, .ea [cRs r]] (.agg (cR (r.getD i default))) := by
 refine con_of2 mixed (fn := Tryz.f83) (rs := [.cell 3 80]) Tryz.func83 (by kernel_rfl) rfl (by kernel_rfl) rfl rfl ?_
 simp only [argE, Nat.reduceAdd, cRs, cR, vI, vB] at *
 (refine SZ ?_;intros)
 simp (disch := omega) only [resc1,resc2,rescc,rest1c,AB,AD,AZ,Nat.reduceEqDiff,↓reduceIte,Nat.reduceAdd,Nat.reduceMul,Nat.reducePow,Nat.reduceLeDiff,Nat.reduceLT]
 all_goals rfl
theorem con_85 (r : List Rt) (i : Nat) (h : r.length < 2 ^ 40) (hi : i < r.length) : Con E 85 [vI i, .ea [cRs r]] (.agg (cR (r.getD i default))) := by
 refine con_of2 mixed (fn := Tryz.f85) (rs := [.cell 3 80]) Tryz.func85 (by kernel_rfl) rfl (by kernel_rfl) rfl rfl ?_
 simp only [argE, Nat.reduceAdd, cRs, cR, vI, vB] at *
 (refine SZ ?_;intros)
 simp (disch := omega) only [resc1,resc2,rescc,rest1c,AB,AD,AZ,Nat.reduceEqDiff,↓reduceIte,Nat.reduceAdd,Nat.reduceMul,Nat.reducePow,Nat.reduceLeDiff,Nat.reduceLT]
 all_goals rfl
theorem con_76 (r : List Rt) (i : Nat) (h : r.length < 2 ^ 40) (hi : i < r.length) : Con E 76 [vI i, .ea [cRs r]] (.agg (cR (r.getD i default))) := by
 refine con_of2 mixed (fn := Tryz.f76) (rs := [.cell 3 80]) Tryz.func76 (by kernel_rfl) rfl (by kernel_rfl) rfl rfl ?_
 simp only [argE, Nat.reduceAdd, cRs, cR, vI, vB] at *
 (refine SZ ?_;intros)
 simp (disch := omega) only [resc1,resc2,rescc,rest1c,AB,AD,AZ,Nat.reduceEqDiff,↓reduceIte,Nat.reduceAdd,Nat.reduceMul,Nat.reducePow,Nat.reduceLeDiff,Nat.reduceLT]
 all_goals rfl
theorem con_84 (j : List (List Rt)) (i k : Nat) (h : j.length < 2 ^ 40) (hi : i < j.length) (hl : (j.getD i []).length < 2 ^ 40) (hk : k < (j.getD i []).length) : Con E 84 [vI i, .ea [cRss j], .ea [vI k]] (.agg (cR ((j.getD i []).getD k default))) := by
 refine con_of2 mixed (fn := Tryz.f84) (rs := [.cell 4 80]) Tryz.func84 (by kernel_rfl) rfl (by kernel_rfl) rfl rfl ?_
 simp only [argE, Nat.reduceAdd, cRss, cR, vI, vB] at *
 (refine SZ ?_;intros)
 simp (disch := omega) only [resc1,resc2,rescc,rest1c,AB,AD,AZ,Nat.reduceEqDiff,↓reduceIte,Nat.reduceAdd,Nat.reduceMul,Nat.reducePow,Nat.reduceLeDiff,Nat.reduceLT]
 all_goals rfl
theorem con_77 (j : List (List Rt)) (i k : Nat) (h : j.length < 2 ^ 40) (hi : i < j.length) (hl : (j.getD i []).length < 2 ^ 40) (hk : k < (j.getD i []).length) : Con E 77 [vI i, .ea [cRss j], .ea [vI k]] (.agg (cR ((j.getD i []).getD k default))) := by
 refine con_of2 mixed (fn := Tryz.f77) (rs := [.cell 4 80]) Tryz.func77 (by kernel_rfl) rfl (by kernel_rfl) rfl rfl ?_
 simp only [argE, Nat.reduceAdd, cRss, cR, vI, vB] at *
 (refine SZ ?_;intros)
 simp (disch := omega) only [resc1,resc2,rescc,rest1c,AB,AD,AZ,Nat.reduceEqDiff,↓reduceIte,Nat.reduceAdd,Nat.reduceMul,Nat.reducePow,Nat.reduceLeDiff,Nat.reduceLT]
 all_goals rfl
end Go.Pw
