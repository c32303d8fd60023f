/- Merged from the working texts Ps1 Ps2 Ps3. -/
import Derived.Test.YtkflegdaeienlaaGreatDoorKb25
import Derived.Test.YtkflegdaeienlaaGreatDoorKb33
import Derived.Test.YtkflegdaeienlaaGreatDoorKb23
import Derived.Test.YtkflegdaeienlaaGreatDoorKb31
set_option linter.all false
set_option maxHeartbeats 400000
set_option maxRecDepth 100000
set_option linter.unusedVariables false
set_option linter.unusedSimpArgs false
namespace Go.Pw
open Go Go.Proofs
theorem con_rone : Con E 226 [] (cN [1]) := by
 refine con_of2 mixed (fn := Tryz.f226) (rs := [.tmp 0]) Tryz.func226 (by kernel_rfl) rfl (by kernel_rfl) rfl rfl ?_
 simp only [argE, Nat.reduceAdd, cN, vI, vB]
 (refine SD ?_;intros)
 simp (disch := omega) only [res1,res2,res3,AB,AD,Nat.reduceEqDiff,↓reduceIte,Nat.reduceAdd,Nat.reduceMul,Nat.reducePow,Nat.reduceLeDiff,Nat.reduceLT]
 all_goals rfl
theorem con_rFault (e : Int) : Con E 118 [vI e] (.agg (cR (flt e))) := by
 refine con_of2 mixed (fn := Tryz.f118) (rs := [.cell 2 80]) Tryz.func118 (by kernel_rfl) rfl (by kernel_rfl) rfl rfl ?_
 simp only [argE, Nat.reduceAdd, cN, vI, vB]
 (refine SD ?_;intros)
 simp (disch := omega) only [resc1,resc2,rescc,rest1c,AB,AD,Nat.reduceEqDiff,↓reduceIte,Nat.reduceAdd,Nat.reduceMul,Nat.reducePow,Nat.reduceLeDiff,Nat.reduceLT]
 all_goals rfl
theorem con_rLeast (a b : Int) : Con E 169 [vI a, vI b] (vI (lft a b)) := by
 refine con_of2 mixed (fn := Tryz.f169) (rs := [.tmp 4]) Tryz.func169 (by kernel_rfl) rfl (by kernel_rfl) rfl rfl ?_
 simp only [argE, Nat.reduceAdd, cN, vI, vB]
 (refine UD ?_ ?_ ?_ ?_<;>intros<;>rename_i hb)
 all_goals simp only [res1,res2,res3,AB,AD,Nat.reduceEqDiff,↓reduceIte,Nat.reduceAdd,Nat.reduceMul,Nat.reducePow,Nat.reduceLeDiff,Nat.reduceLT]
 all_goals unfold lft
 · rw [if_pos (by omega)]
 · rw [if_neg (by omega)]
 · rw [if_neg (by omega)]
 · rw [if_pos (by omega)]
theorem con_rLong (n : Nat) (h : (dg n).length < 2 ^ 40) : Con E 225 [cN (dg n)] (vB (decide (4096 < bl n))) := by
 refine con_of2 mixed (fn := Tryz.f225) (rs := [.tmp 2]) Tryz.func225 (by kernel_rfl) rfl (by kernel_rfl) rfl rfl ?_
 simp only [argE, Nat.reduceAdd, cN, vI, vB]
 (refine SD ?_;intros;rename_i K1 hK1)
 (refine ⟨_,con_Bits n h,hK1 _ ?_⟩;clear hK1 K1;try simp only [put_some,cN,vI,vB,cR])
 (refine SD ?_;intros)
 simp only [res1,res2,res3,AB,AD,Nat.reduceEqDiff,↓reduceIte,Nat.reduceAdd,Nat.reduceMul,Nat.reducePow,Nat.reduceLeDiff,Nat.reduceLT]
 congr 2
 rw [decide_eq_decide]
 omega
theorem con_rsigned (s t : Bool) (n m : Nat) (h : (dg n).length < 2 ^ 38) (h' : (dg m).length < 2 ^ 38) : Con E 207 [vB s, cN (dg n), vB t, cN (dg m)] (.tup [vB (sadd s n t m).1, cN (dg (sadd s n t m).2)]) := by
 refine con_of2 mixed (fn := Tryz.f207) (rs := [.tmp 8, .tmp 9]) Tryz.func207 (by kernel_rfl) rfl (by kernel_rfl) rfl rfl ?_
 simp only [argE, Nat.reduceAdd, cN, vI, vB]
 have hc := cmpI_ge n m
 by_cases hst : s = t
 · subst hst
   rw [sadd_same]
   (refine SD ?_;intros;rename_i K1 hK1)
   (refine ⟨_,con_Add (dg n) (dg m) (dok_dg n) (dok_dg m) (by omega) (by omega),hK1 _ ?_⟩;clear hK1 K1;try simp only [put_some,cN,vI,vB,cR])
   rw [val_dg, val_dg]
   (refine SD ?_;intros)
   simp only [res1,res2,res3,AB,AD,Nat.reduceEqDiff,↓reduceIte,Nat.reduceAdd,Nat.reduceMul,Nat.reducePow,Nat.reduceLeDiff,Nat.reduceLT]
 · by_cases hle : m ≤ n
   · rw [sadd_ge hst hle]
     (refine SD ?_;intros;rename_i hb K1 hK1)
     (refine ⟨_,con_Compare n m (by omega) (by omega),hK1 _ ?_⟩;clear hK1 K1;try simp only [put_some,cN,vI,vB,cR])
     (refine SD ?_;intros;rename_i hb K1 hK1)
     (refine ⟨_,con_Sub (dg n) (dg m) (dok_dg n) (dok_dg m) (by rw [val_dg, val_dg]; omega) (by omega) (by omega),hK1 _ ?_⟩;clear hK1 K1;try simp only [put_some,cN,vI,vB,cR])
     rw [val_dg, val_dg]
     (refine SD ?_;intros)
     simp only [res1,res2,res3,AB,AD,Nat.reduceEqDiff,↓reduceIte,Nat.reduceAdd,Nat.reduceMul,Nat.reducePow,Nat.reduceLeDiff,Nat.reduceLT]
   · rw [sadd_lt hst (by omega)]
     (refine SD ?_;intros;rename_i hb K1 hK1)
     (refine ⟨_,con_Compare n m (by omega) (by omega),hK1 _ ?_⟩;clear hK1 K1;try simp only [put_some,cN,vI,vB,cR])
     (refine SD ?_;intros;rename_i hb K1 hK1)
     (refine ⟨_,con_Sub (dg m) (dg n) (dok_dg m) (dok_dg n) (by rw [val_dg, val_dg]; omega) (by omega) (by omega),hK1 _ ?_⟩;clear hK1 K1;try simp only [put_some,cN,vI,vB,cR])
     rw [val_dg, val_dg]
     (refine SD ?_;intros)
     simp only [res1,res2,res3,AB,AD,Nat.reduceEqDiff,↓reduceIte,Nat.reduceAdd,Nat.reduceMul,Nat.reducePow,Nat.reduceLeDiff,Nat.reduceLT]
theorem con_rExact (s : Bool) (n d : Nat) (hd0 : d ≠ 0) (h : (dg n).length < 2 ^ 38) (h' : (dg d).length < 2 ^ 38) : Con E 162 [vB s, cN (dg n), cN (dg d)] (.agg (cR ⟨0, s && decide (n / Nat.gcd n d ≠ 0), dg (n / Nat.gcd n d), dg (d / Nat.gcd n d)⟩)) := by
 refine con_of2 mixed (fn := Tryz.f162) (rs := [.cell 6 80]) Tryz.func162 (by kernel_rfl) rfl (by kernel_rfl) rfl rfl ?_
 simp only [argE, Nat.reduceAdd, cN, vI, vB]
 by_cases n0 : n = 0
 · subst n0
   rw [Nat.gcd_zero_left, Nat.zero_div, Nat.div_self (Nat.pos_of_ne_zero hd0), dg_zero, dg_one]
   (refine SD ?_;intros;rename_i hb K1 hK1)
   (refine ⟨_,con_rone,hK1 _ ?_⟩;clear hK1 K1;try simp only [put_some,cN,vI,vB,cR])
   (refine SD ?_;intros)
   simp (disch := omega) only [resc1,resc2,rescc,rest1c,AB,AD,Nat.reduceEqDiff,↓reduceIte,Nat.reduceAdd,Nat.reduceMul,Nat.reducePow,Nat.reduceLeDiff,Nat.reduceLT]
   cases s <;> rfl
 have hn0 : (dg n).length ≠ 0 := fun e => n0 (dg_ne_nil.1 (List.length_eq_zero_iff.1 e))
 have hg : Nat.gcd n d ≠ 0 := by have := gcd_div_pos (n := n) hd0; omega
 have hgl : (dg (Nat.gcd n d)).length ≠ 0 := fun e => hg (dg_ne_nil.1 (List.length_eq_zero_iff.1 e))
 have hgm := dg_mono (Nat.gcd_le_right n (Nat.pos_of_ne_zero hd0))
 have hng : (s && decide (n / Nat.gcd n d ≠ 0)) = s := by
   have := Nat.div_pos (Nat.gcd_le_left d (Nat.pos_of_ne_zero n0)) (Nat.pos_of_ne_zero hg)
   rw [decide_eq_true (by omega), Bool.and_true]
 rw [hng]
 (refine SD ?_;intros;rename_i hb K1 hK1)
 have l1 := dg_mono (Nat.div_le_self n (Nat.gcd n d))
 have l2 := dg_mono (Nat.div_le_self d (Nat.gcd n d))
 have htp := topne hg
 have hone := dgone hg
 (refine ⟨_,con_Gcd n d (by omega) (by omega),hK1 _ ?_⟩;clear hK1 K1;try simp only [put_some,cN,vI,vB,cR])
 (refine VD ?_ ?_ ?_<;>intros;rename_i hb K1 hK1;rotate_left;rename_i hb;rotate_left;rename_i hb K1 hK1;rotate_right 2)
 · (refine ⟨_,con_Div n (Nat.gcd n d) hg (by omega) (by omega),hK1 _ ?_⟩;clear hK1 K1;try simp only [put_some,cN,vI,vB,cR])
   (refine SD ?_;intros;rename_i K1 hK1)
   (refine ⟨_,con_Div d (Nat.gcd n d) hg (by omega) (by omega),hK1 _ ?_⟩;clear hK1 K1;try simp only [put_some,cN,vI,vB,cR])
   (refine SD ?_;intros)
   simp (disch := omega) only [resc1,resc2,rescc,rest1c,AB,AD,Nat.reduceEqDiff,↓reduceIte,Nat.reduceAdd,Nat.reduceMul,Nat.reducePow,Nat.reduceLeDiff,Nat.reduceLT]
   all_goals rfl
 · have hl1 : (dg (Nat.gcd n d)).length = 1 := by omega
   simp only [hl1, Nat.sub_self] at htp
   have hg1 := hone.1 ⟨hl1, by omega⟩
   simp (disch := omega) only [resc1,resc2,rescc,rest1c,AB,AD,Nat.reduceEqDiff,↓reduceIte,Nat.reduceAdd,Nat.reduceMul,Nat.reducePow,Nat.reduceLeDiff,Nat.reduceLT]
   rw [hg1, Nat.div_one, Nat.div_one]
   all_goals rfl
 · (refine ⟨_,con_Div n (Nat.gcd n d) hg (by omega) (by omega),hK1 _ ?_⟩;clear hK1 K1;try simp only [put_some,cN,vI,vB,cR])
   (refine SD ?_;intros;rename_i K1 hK1)
   (refine ⟨_,con_Div d (Nat.gcd n d) hg (by omega) (by omega),hK1 _ ?_⟩;clear hK1 K1;try simp only [put_some,cN,vI,vB,cR])
   (refine SD ?_;intros)
   simp (disch := omega) only [resc1,resc2,rescc,rest1c,AB,AD,Nat.reduceEqDiff,↓reduceIte,Nat.reduceAdd,Nat.reduceMul,Nat.reducePow,Nat.reduceLeDiff,Nat.reduceLT]
   all_goals rfl
theorem con_rBound (x : Rt) (n d : Nat) (hn : x.num = dg n) (hd : x.den = dg d) (h : (dg n).length < 2 ^ 40) (h' : (dg d).length < 2 ^ 40) : Con E 161 [.agg (cR x)] (.agg (cR (if 4096 < bl n ∨ 4096 < bl d then flt 4 else x))) := by
 obtain ⟨fault, neg, num, den⟩ := x
 dsimp only at hn hd
 subst hn
 subst hd
 refine con_of2 mixed (fn := Tryz.f161) (rs := [.cell 2 80]) Tryz.func161 (by kernel_rfl) rfl (by kernel_rfl) rfl rfl ?_
 simp only [argE, Nat.reduceAdd, cN, vI, vB, cR]
 have c1 := con_rLong n h
 have c2 := con_rLong d h'
 by_cases b1 : 4096 < bl n
 · rw [decide_eq_true b1] at c1
   rw [if_pos (Or.inl b1)]
   (refine SD ?_;intros;rename_i K1 hK1)
   (refine ⟨_,c1,hK1 _ ?_⟩;clear hK1 K1;try simp only [put_some,cN,vI,vB,cR])
   (refine SD ?_;intros;rename_i K1 hK1)
   (refine ⟨_,con_rFault 4,hK1 _ ?_⟩;clear hK1 K1;try simp only [put_some,cN,vI,vB,cR])
   (refine SD ?_;intros)
   simp (disch := omega) only [resc1,resc2,rescc,rest1c,AB,AD,Nat.reduceEqDiff,↓reduceIte,Nat.reduceAdd,Nat.reduceMul,Nat.reducePow,Nat.reduceLeDiff,Nat.reduceLT]
   all_goals rfl
 rw [decide_eq_false b1] at c1
 by_cases b2 : 4096 < bl d
 · rw [decide_eq_true b2] at c2
   rw [if_pos (Or.inr b2)]
   (refine SD ?_;intros;rename_i K1 hK1)
   (refine ⟨_,c1,hK1 _ ?_⟩;clear hK1 K1;try simp only [put_some,cN,vI,vB,cR])
   (refine SD ?_;intros;rename_i K1 hK1)
   (refine ⟨_,c2,hK1 _ ?_⟩;clear hK1 K1;try simp only [put_some,cN,vI,vB,cR])
   (refine SD ?_;intros;rename_i K1 hK1)
   (refine ⟨_,con_rFault 4,hK1 _ ?_⟩;clear hK1 K1;try simp only [put_some,cN,vI,vB,cR])
   (refine SD ?_;intros)
   simp (disch := omega) only [resc1,resc2,rescc,rest1c,AB,AD,Nat.reduceEqDiff,↓reduceIte,Nat.reduceAdd,Nat.reduceMul,Nat.reducePow,Nat.reduceLeDiff,Nat.reduceLT]
   all_goals rfl
 rw [decide_eq_false b2] at c2
 rw [if_neg (by omega)]
 (refine SD ?_;intros;rename_i K1 hK1)
 (refine ⟨_,c1,hK1 _ ?_⟩;clear hK1 K1;try simp only [put_some,cN,vI,vB,cR])
 (refine SD ?_;intros;rename_i K1 hK1)
 (refine ⟨_,c2,hK1 _ ?_⟩;clear hK1 K1;try simp only [put_some,cN,vI,vB,cR])
 (refine SD ?_;intros)
 simp (disch := omega) only [resc1,resc2,rescc,rest1c,AB,AD,Nat.reduceEqDiff,↓reduceIte,Nat.reduceAdd,Nat.reduceMul,Nat.reducePow,Nat.reduceLeDiff,Nat.reduceLT]
 all_goals rfl
theorem con_rRatio (s : Bool) (n d : Nat) (h : (dg n).length < 2 ^ 38) (h' : (dg d).length < 2 ^ 38) : Con E 95 [vB s, cN (dg n), cN (dg d)] (.agg (cR (nrat s n d))) := by
 refine con_of2 mixed (fn := Tryz.f95) (rs := [.cell 6 80]) Tryz.func95 (by kernel_rfl) rfl (by kernel_rfl) rfl rfl ?_
 simp only [argE, Nat.reduceAdd, cN, vI, vB]
 unfold nrat
 by_cases d0 : d = 0
 · subst d0
   rw [if_pos rfl, dg_zero]
   (refine SD ?_;intros;rename_i hb K1 hK1)
   (refine ⟨_,con_rFault 11,hK1 _ ?_⟩;clear hK1 K1;try simp only [put_some,cN,vI,vB,cR])
   (refine SD ?_;intros)
   simp (disch := omega) only [resc1,resc2,rescc,rest1c,AB,AD,Nat.reduceEqDiff,↓reduceIte,Nat.reduceAdd,Nat.reduceMul,Nat.reducePow,Nat.reduceLeDiff,Nat.reduceLT]
   all_goals rfl
 have hd0 : (dg d).length ≠ 0 := fun e => d0 (dg_ne_nil.1 (List.length_eq_zero_iff.1 e))
 have l1 := dg_mono (Nat.div_le_self n (Nat.gcd n d))
 have l2 := dg_mono (Nat.div_le_self d (Nat.gcd n d))
 have cb := con_rBound ⟨0, s && decide (n / Nat.gcd n d ≠ 0), dg (n / Nat.gcd n d), dg (d / Nat.gcd n d)⟩ _ _ rfl rfl (by omega) (by omega)
 rw [if_neg d0]
 (refine SD ?_;intros;rename_i hb K1 hK1)
 (refine ⟨_,con_rExact s n d d0 h h',hK1 _ ?_⟩;clear hK1 K1;try simp only [put_some,cN,vI,vB,cR])
 (refine SD ?_;intros;rename_i K1 hK1)
 (refine ⟨_,cb,hK1 _ ?_⟩;clear hK1 K1;try simp only [put_some,cN,vI,vB,cR])
 (refine SD ?_;intros)
 simp (disch := omega) only [resc1,resc2,rescc,rest1c,AB,AD,Nat.reduceEqDiff,↓reduceIte,Nat.reduceAdd,Nat.reduceMul,Nat.reducePow,Nat.reduceLeDiff,Nat.reduceLT]
 all_goals rfl
theorem con_rsize (n : Int) (h1 : -9223372036854775808 ≤ n) (h2 : n ≤ 9223372036854775807) : Con E 97 [vI n] (.val (.int .u64 (n.natAbs : Nat))) := by
 refine con_of2 mixed (fn := Tryz.f97) (rs := [.tmp 2]) Tryz.func97 (by kernel_rfl) rfl (by kernel_rfl) rfl rfl ?_
 simp only [argE, Nat.reduceAdd, cN, vI, vB]
 (refine WD ?_ ?_<;>intros<;>rename_i hb)
 · simp only [res1,res2,res3,AB,AD,Nat.reduceEqDiff,↓reduceIte,Nat.reduceAdd,Nat.reduceMul,Nat.reducePow,Nat.reduceLeDiff,Nat.reduceLT]
   congr 2; omega
 · simp only [res1,res2,res3,AB,AD,Nat.reduceEqDiff,↓reduceIte,Nat.reduceAdd,Nat.reduceMul,Nat.reducePow,Nat.reduceLeDiff,Nat.reduceLT]
   congr 2; omega
end Go.Pw
set_option maxHeartbeats 2000000
set_option maxRecDepth 100000
set_option linter.unusedVariables false
set_option linter.unusedSimpArgs false
namespace Go.Pw
open Go Go.Proofs
theorem con_rOf (n d : Int) (h1 : -9223372036854775808 ≤ n) (h2 : n ≤ 9223372036854775807) (h3 : -9223372036854775808 ≤ d) (h4 : d ≤ 9223372036854775807) : Con E 54 [vI n, vI d] (.agg (cR (rof n d))) := by
 refine con_of2 mixed (fn := Tryz.f54) (rs := [.cell 4 80]) Tryz.func54 (by kernel_rfl) rfl (by kernel_rfl) rfl rfl ?_
 simp only [argE, Nat.reduceAdd, cN, vI, vB]
 have ln : ∀ m : Nat, m < 18446744073709551616 → (dg m).length ≤ 2 := fun m hm => len_dg_le.2 (by omega)
 have hn := ln n.natAbs (by omega)
 have hd := ln d.natAbs (by omega)
 unfold rof
 (refine SD ?_;intros;rename_i K1 hK1)
 (refine ⟨_,con_rsize n h1 h2,hK1 _ ?_⟩;clear hK1 K1;try simp only [put_some,cN,vI,vB,cR])
 (refine SD ?_;intros;rename_i K1 hK1)
 (refine ⟨_,con_Of n.natAbs (by omega),hK1 _ ?_⟩;clear hK1 K1;try simp only [put_some,cN,vI,vB,cR])
 (refine SD ?_;intros;rename_i K1 hK1)
 (refine ⟨_,con_rsize d h3 h4,hK1 _ ?_⟩;clear hK1 K1;try simp only [put_some,cN,vI,vB,cR])
 (refine SD ?_;intros;rename_i K1 hK1)
 (refine ⟨_,con_Of d.natAbs (by omega),hK1 _ ?_⟩;clear hK1 K1;try simp only [put_some,cN,vI,vB,cR])
 (refine SD ?_;intros;rename_i K1 hK1)
 (refine ⟨_,con_rRatio (decide (n < 0) != decide (d < 0)) n.natAbs d.natAbs (by omega) (by omega),hK1 _ ?_⟩;clear hK1 K1;try simp only [put_some,cN,vI,vB,cR])
 (refine SD ?_;intros)
 simp (disch := omega) only [resc1,resc2,rescc,rest1c,AB,AD,Nat.reduceEqDiff,↓reduceIte,Nat.reduceAdd,Nat.reduceMul,Nat.reducePow,Nat.reduceLeDiff,Nat.reduceLT]
 all_goals rfl
theorem con_rAdd (a b : Rt) (ha : isRat a) (hb : isRat b) : Con E 141 [.agg (cR a), .agg (cR b)] (.agg (cR (radd a b))) := by
 by_cases hl : lft a.fault b.fault = 0
 · obtain ⟨f1, f2⟩ := lft_zero (fault_of ha) (fault_of hb) hl
   obtain ⟨a1, a2, a3, a4, a5⟩ := num_of ha f1
   obtain ⟨b1, b2, b3, b4, b5⟩ := num_of hb f2
   have m1 := mul_len a3 b4
   have m2 := mul_len b3 a4
   have m3 := mul_len a4 b4
   have sl := sadd_len (s := a.neg) (t := b.neg) m1 m2
   have e : radd a b = nrat (sadd a.neg (val a.num * val b.den) b.neg (val b.num * val a.den)).1 (sadd a.neg (val a.num * val b.den) b.neg (val b.num * val a.den)).2 (val a.den * val b.den) := by
     unfold radd; rw [if_neg (by omega)]
   rw [e]
   clear e ha hb
   have c0 := con_rLeast a.fault b.fault
   rw [hl] at c0
   generalize hA : val a.num = A at *
   generalize hB : val b.num = B at *
   generalize hC : val a.den = C at *
   generalize hD : val b.den = D at *
   have ea : cR a = [vI a.fault, vB a.neg, cN (dg A), cN (dg C)] := by rw [← a1, ← a2]; rfl
   have eb : cR b = [vI b.fault, vB b.neg, cN (dg B), cN (dg D)] := by rw [← b1, ← b2]; rfl
   rw [ea, eb]
   generalize a.fault = af at *
   generalize b.fault = bf at *
   generalize a.neg = an at *
   generalize b.neg = bn at *
   clear a1 a2 b1 b2 hA hB hC hD ea eb
   refine con_of2 mixed (fn := Tryz.f141) (rs := [.cell 4 80]) Tryz.func141 (by kernel_rfl) rfl (by kernel_rfl) rfl rfl ?_
   simp only [argE, Nat.reduceAdd, cN, vI, vB]
   (refine SD ?_;intros;rename_i K1 hK1)
   (refine ⟨_,c0,hK1 _ ?_⟩;clear hK1 K1;try simp only [put_some,cN,vI,vB,cR])
   (refine SD ?_;intros;rename_i K1 hK1)
   (refine ⟨_,con_Mul (dg A) (dg D) (dok_dg _) (dok_dg _) (by omega) (by omega),hK1 _ ?_⟩;clear hK1 K1;try simp only [put_some,cN,vI,vB,cR])
   rw [val_dg, val_dg]
   (refine SD ?_;intros;rename_i K1 hK1)
   (refine ⟨_,con_Mul (dg B) (dg C) (dok_dg _) (dok_dg _) (by omega) (by omega),hK1 _ ?_⟩;clear hK1 K1;try simp only [put_some,cN,vI,vB,cR])
   rw [val_dg, val_dg]
   (refine SD ?_;intros;rename_i K1 hK1)
   (refine ⟨_,con_rsigned an bn (A * D) (B * C) (by omega) (by omega),hK1 _ ?_⟩;clear hK1 K1;try simp only [put_some,cN,vI,vB,cR])
   (refine SD ?_;intros;rename_i K1 hK1)
   (refine ⟨_,con_Mul (dg C) (dg D) (dok_dg _) (dok_dg _) (by omega) (by omega),hK1 _ ?_⟩;clear hK1 K1;try simp only [put_some,cN,vI,vB,cR])
   rw [val_dg, val_dg]
   (refine SD ?_;intros;rename_i K1 hK1)
   (refine ⟨_,con_rRatio (sadd an (A * D) bn (B * C)).1 (sadd an (A * D) bn (B * C)).2 (C * D) (by omega) (by omega),hK1 _ ?_⟩;clear hK1 K1;try simp only [put_some,cN,vI,vB,cR])
   (refine SD ?_;intros)
   simp (disch := omega) only [resc1,resc2,rescc,rest1c,AB,AD,Nat.reduceEqDiff,↓reduceIte,Nat.reduceAdd,Nat.reduceMul,Nat.reducePow,Nat.reduceLeDiff,Nat.reduceLT]
   all_goals rfl
 · have e : radd a b = flt (lft a.fault b.fault) := by unfold radd; rw [if_pos hl]
   rw [e]
   refine con_of2 mixed (fn := Tryz.f141) (rs := [.cell 4 80]) Tryz.func141 (by kernel_rfl) rfl (by kernel_rfl) rfl rfl ?_
   simp only [argE, Nat.reduceAdd, cN, vI, vB, cR]
   (refine SD ?_;intros;rename_i K1 hK1)
   (refine ⟨_,con_rLeast a.fault b.fault,hK1 _ ?_⟩;clear hK1 K1;try simp only [put_some,cN,vI,vB,cR])
   (refine SD ?_;intros;rename_i hb K1 hK1)
   (refine ⟨_,con_rFault (lft a.fault b.fault),hK1 _ ?_⟩;clear hK1 K1;try simp only [put_some,cN,vI,vB,cR])
   (refine SD ?_;intros)
   simp (disch := omega) only [resc1,resc2,rescc,rest1c,AB,AD,Nat.reduceEqDiff,↓reduceIte,Nat.reduceAdd,Nat.reduceMul,Nat.reducePow,Nat.reduceLeDiff,Nat.reduceLT]
   all_goals rfl
theorem con_rMul (a b : Rt) (ha : isRat a) (hb : isRat b) : Con E 142 [.agg (cR a), .agg (cR b)] (.agg (cR (rmul a b))) := by
 by_cases hl : lft a.fault b.fault = 0
 · obtain ⟨f1, f2⟩ := lft_zero (fault_of ha) (fault_of hb) hl
   obtain ⟨a1, a2, a3, a4, a5⟩ := num_of ha f1
   obtain ⟨b1, b2, b3, b4, b5⟩ := num_of hb f2
   have m1 := mul_len a3 b3
   have m3 := mul_len a4 b4
   have e : rmul a b = nrat (a.neg != b.neg) (val a.num * val b.num) (val a.den * val b.den) := by
     unfold rmul; rw [if_neg (by omega)]
   rw [e]
   clear e ha hb
   have c0 := con_rLeast a.fault b.fault
   rw [hl] at c0
   generalize hA : val a.num = A at *
   generalize hB : val b.num = B at *
   generalize hC : val a.den = C at *
   generalize hD : val b.den = D at *
   have ea : cR a = [vI a.fault, vB a.neg, cN (dg A), cN (dg C)] := by rw [← a1, ← a2]; rfl
   have eb : cR b = [vI b.fault, vB b.neg, cN (dg B), cN (dg D)] := by rw [← b1, ← b2]; rfl
   rw [ea, eb]
   generalize a.fault = af at *
   generalize b.fault = bf at *
   generalize a.neg = an at *
   generalize b.neg = bn at *
   clear a1 a2 b1 b2 hA hB hC hD ea eb
   refine con_of2 mixed (fn := Tryz.f142) (rs := [.cell 4 80]) Tryz.func142 (by kernel_rfl) rfl (by kernel_rfl) rfl rfl ?_
   simp only [argE, Nat.reduceAdd, cN, vI, vB]
   (refine SD ?_;intros;rename_i K1 hK1)
   (refine ⟨_,c0,hK1 _ ?_⟩;clear hK1 K1;try simp only [put_some,cN,vI,vB,cR])
   (refine SD ?_;intros;rename_i K1 hK1)
   (refine ⟨_,con_Mul (dg A) (dg B) (dok_dg _) (dok_dg _) (by omega) (by omega),hK1 _ ?_⟩;clear hK1 K1;try simp only [put_some,cN,vI,vB,cR])
   rw [val_dg, val_dg]
   (refine SD ?_;intros;rename_i K1 hK1)
   (refine ⟨_,con_Mul (dg C) (dg D) (dok_dg _) (dok_dg _) (by omega) (by omega),hK1 _ ?_⟩;clear hK1 K1;try simp only [put_some,cN,vI,vB,cR])
   rw [val_dg, val_dg]
   (refine SD ?_;intros;rename_i K1 hK1)
   (refine ⟨_,con_rRatio (an != bn) (A * B) (C * D) (by omega) (by omega),hK1 _ ?_⟩;clear hK1 K1;try simp only [put_some,cN,vI,vB,cR])
   (refine SD ?_;intros)
   simp (disch := omega) only [resc1,resc2,rescc,rest1c,AB,AD,Nat.reduceEqDiff,↓reduceIte,Nat.reduceAdd,Nat.reduceMul,Nat.reducePow,Nat.reduceLeDiff,Nat.reduceLT]
   all_goals rfl
 · have e : rmul a b = flt (lft a.fault b.fault) := by unfold rmul; rw [if_pos hl]
   rw [e]
   refine con_of2 mixed (fn := Tryz.f142) (rs := [.cell 4 80]) Tryz.func142 (by kernel_rfl) rfl (by kernel_rfl) rfl rfl ?_
   simp only [argE, Nat.reduceAdd, cN, vI, vB, cR]
   (refine SD ?_;intros;rename_i K1 hK1)
   (refine ⟨_,con_rLeast a.fault b.fault,hK1 _ ?_⟩;clear hK1 K1;try simp only [put_some,cN,vI,vB,cR])
   (refine SD ?_;intros;rename_i hb K1 hK1)
   (refine ⟨_,con_rFault (lft a.fault b.fault),hK1 _ ?_⟩;clear hK1 K1;try simp only [put_some,cN,vI,vB,cR])
   (refine SD ?_;intros)
   simp (disch := omega) only [resc1,resc2,rescc,rest1c,AB,AD,Nat.reduceEqDiff,↓reduceIte,Nat.reduceAdd,Nat.reduceMul,Nat.reducePow,Nat.reduceLeDiff,Nat.reduceLT]
   all_goals rfl
theorem con_rdigits (x y : List Nat) (h : x.length < 2 ^ 40) (h' : y.length < 2 ^ 40) : Con E 93 [cN x, cN y] (vB (decide (x = y))) := by
 refine con_of2 mixed (fn := Tryz.f93) (rs := [.tmp 4]) Tryz.func93 (by kernel_rfl) rfl (by kernel_rfl) rfl rfl ?_
 simp only [argE, Nat.reduceAdd, cN, vI, vB]
 (refine WD ?_ ?_<;>intros<;>rename_i hb)
 · simp only [res1,res2,res3,AB,AD,Nat.reduceEqDiff,↓reduceIte,Nat.reduceAdd,Nat.reduceMul,Nat.reducePow,Nat.reduceLeDiff,Nat.reduceLT]
   rw [decide_eq_false (fun e => hb (by subst e; rfl))]
 · refine p_loopx (fun (i : Nat) => [(5, .sh (vI i)), (0, .sh (cN x)), (1, .sh (cN y))]) (fun _ => []) (fun i => x.length - i) (fun i => i ≤ x.length ∧ x.take i = y.take i) 0 (Weak.list ⟨rfl, rfl, rfl, trivial⟩ trivial) ⟨Nat.zero_le _, rfl⟩ ?_
   rintro i ⟨hi, hI⟩
   simp only [cN, vI] at *
   (refine VD ?_ ?_ ?_<;>intros<;>rename_i hb)
   · simp only [res1,res2,res3,AB,AD,Nat.reduceEqDiff,↓reduceIte,Nat.reduceAdd,Nat.reduceMul,Nat.reducePow,Nat.reduceLeDiff,Nat.reduceLT]
     rw [decide_eq_false (fun e => hb (by subst e; rfl))]
   · refine p_lx _ _ _ _ (i + 1) ?_ ⟨?_, ?_⟩ (Weak.list ⟨int_eq ?_, rfl, rfl, trivial⟩ trivial)
     · omega
     · omega
     · rw [List.take_succ_eq_append_getElem (by omega), List.take_succ_eq_append_getElem (by omega), hI]
       congr 2
       rw [List.getD_eq_getElem?_getD, List.getD_eq_getElem?_getD, List.getElem?_eq_getElem (by omega), List.getElem?_eq_getElem (by omega)] at hb
       exact Int.ofNat.inj hb
     · omega
   · simp only [res1,res2,res3,AB,AD,Nat.reduceEqDiff,↓reduceIte,Nat.reduceAdd,Nat.reduceMul,Nat.reducePow,Nat.reduceLeDiff,Nat.reduceLT]
     have e : x = y := by
       rw [List.take_of_length_le (by omega), List.take_of_length_le (by omega)] at hI
       exact hI
     rw [decide_eq_true e]
def reqB (a b : Rt) : Bool := decide (a.fault = b.fault) && (a.neg == b.neg) && decide (a.num = b.num) && decide (a.den = b.den)
theorem con_rEqual (a b : Rt) (ha : Fit a) (hb : Fit b) : Con E 48 [.agg (cR a), .agg (cR b)] (vB (reqB a b)) := by
 refine con_of2 mixed (fn := Tryz.f48) (rs := [.tmp 4]) Tryz.func48 (by kernel_rfl) rfl (by kernel_rfl) rfl rfl ?_
 simp only [argE, Nat.reduceAdd, cN, vI, vB, cR]
 unfold reqB
 have c1 := con_rdigits a.num b.num (by have := ha.nl; omega) (by have := hb.nl; omega)
 have c2 := con_rdigits a.den b.den (by have := ha.dl; omega) (by have := hb.dl; omega)
 by_cases h1 : a.fault = b.fault
 rotate_left
 · rw [decide_eq_false h1]
   (refine SD ?_;intros;rename_i hb)
   simp only [res1,res2,res3,AB,AD,Nat.reduceEqDiff,↓reduceIte,Nat.reduceAdd,Nat.reduceMul,Nat.reducePow,Nat.reduceLeDiff,Nat.reduceLT]
   all_goals rfl
 rw [decide_eq_true h1]
 by_cases h2 : a.neg = b.neg
 rotate_left
 · rw [show (a.neg == b.neg) = false by simpa using h2]
   (refine SD ?_;intros;rename_i hb)
   simp only [res1,res2,res3,AB,AD,Nat.reduceEqDiff,↓reduceIte,Nat.reduceAdd,Nat.reduceMul,Nat.reducePow,Nat.reduceLeDiff,Nat.reduceLT]
   all_goals rfl
 rw [show (a.neg == b.neg) = true by simpa using h2]
 by_cases h3 : a.num = b.num
 rotate_left
 · rw [decide_eq_false h3]
   rw [decide_eq_false h3] at c1
   (refine SD ?_;intros;rename_i hb K1 hK1)
   (refine ⟨_,c1,hK1 _ ?_⟩;clear hK1 K1;try simp only [put_some,cN,vI,vB,cR])
   (refine SD ?_;intros;rename_i hb)
   simp only [res1,res2,res3,AB,AD,Nat.reduceEqDiff,↓reduceIte,Nat.reduceAdd,Nat.reduceMul,Nat.reducePow,Nat.reduceLeDiff,Nat.reduceLT]
   all_goals rfl
 rw [decide_eq_true h3]
 rw [decide_eq_true h3] at c1
 (refine SD ?_;intros;rename_i hb K1 hK1)
 (refine ⟨_,c1,hK1 _ ?_⟩;clear hK1 K1;try simp only [put_some,cN,vI,vB,cR])
 (refine SD ?_;intros;rename_i hb K1 hK1)
 (refine ⟨_,c2,hK1 _ ?_⟩;clear hK1 K1;try simp only [put_some,cN,vI,vB,cR])
 (refine SD ?_;intros)
 simp only [res1,res2,res3,AB,AD,Nat.reduceEqDiff,↓reduceIte,Nat.reduceAdd,Nat.reduceMul,Nat.reducePow,Nat.reduceLeDiff,Nat.reduceLT]
 all_goals rfl
end Go.Pw
set_option maxRecDepth 100000
set_option linter.unusedVariables false
set_option linter.unusedSimpArgs false
namespace Go.Pw
open Go Go.Proofs
theorem con_rgood (x : List Nat) (h : x.length < 2 ^ 40) : Con E 139 [cN x] (vB (decide (x.length ≤ 128 ∧ (x.length = 0 ∨ x.getD (x.length - 1) 0 ≠ 0)))) := by
 refine con_of2 mixed (fn := Tryz.f139) (rs := [.tmp 2]) Tryz.func139 (by kernel_rfl) rfl (by kernel_rfl) rfl rfl ?_
 simp only [argE, Nat.reduceAdd, cN, vI, vB]
 have e1 : ((x.length : Int) - 1).toNat = x.length - 1 := by omega
 (refine VD ?_ ?_ ?_<;>intros<;>rename_i hb)
 · simp only [res1,res2,res3,AB,AD,Nat.reduceEqDiff,↓reduceIte,Nat.reduceAdd,Nat.reduceMul,Nat.reducePow,Nat.reduceLeDiff,Nat.reduceLT]
   congr 2
   rw [e1, Bool.eq_iff_iff, bne_iff_ne, decide_eq_true_iff]
   omega
 · simp only [res1,res2,res3,AB,AD,Nat.reduceEqDiff,↓reduceIte,Nat.reduceAdd,Nat.reduceMul,Nat.reducePow,Nat.reduceLeDiff,Nat.reduceLT]
   rw [decide_eq_true ⟨by omega, .inl (by omega)⟩]
 · simp only [res1,res2,res3,AB,AD,Nat.reduceEqDiff,↓reduceIte,Nat.reduceAdd,Nat.reduceMul,Nat.reducePow,Nat.reduceLeDiff,Nat.reduceLT]
   rw [decide_eq_false (by omega)]
set_option maxHeartbeats 4000000 in
theorem con_rIsRat (x : Rt) (hx : dok x.num) (hd : dok x.den) (h : x.num.length < 2 ^ 38) (h' : x.den.length < 2 ^ 38) : Con E 78 [.agg (cR x)] (vB (isRatB x)) := by
 obtain ⟨fault, neg, num, den⟩ := x
 dsimp only at *
 by_cases f0 : fault = 0
 · have un : isRat ⟨fault, neg, num, den⟩ ↔ can num ∧ can den ∧ bl (val num) ≤ 4096 ∧ bl (val den) ≤ 4096 ∧ den ≠ [] ∧ (neg = true → num ≠ []) ∧ Nat.gcd (val num) (val den) = 1 := by
     unfold isRat; rw [if_pos f0]
   have no : ∀ p : Prop, (isRat ⟨fault, neg, num, den⟩ → p) → ¬ p → isRatB ⟨fault, neg, num, den⟩ = false := fun p h1 h2 => (isRatB_not _).2 fun h => h2 (h1 h)
   have c1 := con_rgood num (by omega)
   have c2 := con_rgood den (by omega)
   have g1 := good_iff hx
   have g2 := good_iff hd
   by_cases a1 : can num ∧ bl (val num) ≤ 4096
   rotate_left
   · rw [decide_eq_false (fun e => a1 (g1.1 e))] at c1
     rw [no _ (fun h => ⟨(un.1 h).1, (un.1 h).2.2.1⟩) a1]
     clear c2 g1 g2 a1 no un
     refine con_of2 mixed (fn := Tryz.f78) (rs := [.tmp 2]) Tryz.func78 (by kernel_rfl) rfl (by kernel_rfl) rfl rfl ?_
     simp only [argE, Nat.reduceAdd, cN, vI, vB, cR]
     (refine SD ?_;intros;rename_i hb K1 hK1)
     (refine ⟨_,c1,hK1 _ ?_⟩;clear hK1 K1;try simp only [put_some,cN,vI,vB,cR])
     (refine SD ?_;intros)
     simp only [res1,res2,res3,AB,AD,Nat.reduceEqDiff,↓reduceIte,Nat.reduceAdd,Nat.reduceMul,Nat.reducePow,Nat.reduceLeDiff,Nat.reduceLT]
   rw [decide_eq_true (g1.2 a1)] at c1
   by_cases a2 : can den ∧ bl (val den) ≤ 4096
   rotate_left
   · rw [decide_eq_false (fun e => a2 (g2.1 e))] at c2
     rw [no _ (fun h => ⟨(un.1 h).2.1, (un.1 h).2.2.2.1⟩) a2]
     clear g1 g2 a1 a2 no un
     refine con_of2 mixed (fn := Tryz.f78) (rs := [.tmp 2]) Tryz.func78 (by kernel_rfl) rfl (by kernel_rfl) rfl rfl ?_
     simp only [argE, Nat.reduceAdd, cN, vI, vB, cR]
     (refine SD ?_;intros;rename_i hb K1 hK1)
     (refine ⟨_,c1,hK1 _ ?_⟩;clear hK1 K1;try simp only [put_some,cN,vI,vB,cR])
     (refine SD ?_;intros;rename_i K1 hK1)
     (refine ⟨_,c2,hK1 _ ?_⟩;clear hK1 K1;try simp only [put_some,cN,vI,vB,cR])
     (refine SD ?_;intros)
     simp only [res1,res2,res3,AB,AD,Nat.reduceEqDiff,↓reduceIte,Nat.reduceAdd,Nat.reduceMul,Nat.reducePow,Nat.reduceLeDiff,Nat.reduceLT]
   rw [decide_eq_true (g2.2 a2)] at c2
   have n1 := (dg_val a1.1).symm
   have d1 := (dg_val a2.1).symm
   by_cases a5 : den.length = 0
   · rw [no (den ≠ []) (fun h => (un.1 h).2.2.2.2.1) (fun e => e (List.length_eq_zero_iff.1 a5))]
     clear g1 g2 a1 a2 no un n1 d1
     refine con_of2 mixed (fn := Tryz.f78) (rs := [.tmp 2]) Tryz.func78 (by kernel_rfl) rfl (by kernel_rfl) rfl rfl ?_
     simp only [argE, Nat.reduceAdd, cN, vI, vB, cR]
     (refine SD ?_;intros;rename_i hb K1 hK1)
     (refine ⟨_,c1,hK1 _ ?_⟩;clear hK1 K1;try simp only [put_some,cN,vI,vB,cR])
     (refine SD ?_;intros;rename_i K1 hK1)
     (refine ⟨_,c2,hK1 _ ?_⟩;clear hK1 K1;try simp only [put_some,cN,vI,vB,cR])
     cases neg
     all_goals
       (refine SD ?_;intros;rename_i hb)
       simp only [res1,res2,res3,AB,AD,Nat.reduceEqDiff,↓reduceIte,Nat.reduceAdd,Nat.reduceMul,Nat.reducePow,Nat.reduceLeDiff,Nat.reduceLT]
   by_cases a6 : neg = true ∧ num.length = 0
   · obtain ⟨rfl, a6⟩ := a6
     rw [no (num ≠ []) (fun h => (un.1 h).2.2.2.2.2.1 rfl) (fun e => e (List.length_eq_zero_iff.1 a6))]
     clear g1 g2 a1 a2 no un n1 d1
     refine con_of2 mixed (fn := Tryz.f78) (rs := [.tmp 2]) Tryz.func78 (by kernel_rfl) rfl (by kernel_rfl) rfl rfl ?_
     simp only [argE, Nat.reduceAdd, cN, vI, vB, cR]
     (refine SD ?_;intros;rename_i hb K1 hK1)
     (refine ⟨_,c1,hK1 _ ?_⟩;clear hK1 K1;try simp only [put_some,cN,vI,vB,cR])
     (refine SD ?_;intros;rename_i K1 hK1)
     (refine ⟨_,c2,hK1 _ ?_⟩;clear hK1 K1;try simp only [put_some,cN,vI,vB,cR])
     (refine SD ?_;intros;rename_i hb)
     simp only [res1,res2,res3,AB,AD,Nat.reduceEqDiff,↓reduceIte,Nat.reduceAdd,Nat.reduceMul,Nat.reducePow,Nat.reduceLeDiff,Nat.reduceLT]
   have hres : isRatB ⟨fault, neg, num, den⟩ = decide (Nat.gcd (val num) (val den) = 1) := by
     rw [Bool.eq_iff_iff, isRatB_iff, decide_eq_true_iff, un]
     exact ⟨fun h => h.2.2.2.2.2.2, fun h => ⟨a1.1, a2.1, a1.2, a2.2, fun e => a5 (by subst e; rfl), fun e e2 => a6 ⟨e, by subst e2; rfl⟩, h⟩⟩
   rw [hres]
   have hg0 : Nat.gcd (val num) (val den) ≠ 0 := by
     have hv : val den ≠ 0 := fun e => a5 (by rw [d1, e, dg_zero]; rfl)
     have := Nat.gcd_pos_of_pos_right (val num) (Nat.pos_of_ne_zero hv)
     omega
   have hone := dgone hg0
   have cg := con_Gcd (val num) (val den) (by rw [← n1]; omega) (by rw [← d1]; omega)
   rw [← n1, ← d1] at cg
   clear g1 g2 a1 a2 no un n1 d1 hres
   refine con_of2 mixed (fn := Tryz.f78) (rs := [.tmp 2]) Tryz.func78 (by kernel_rfl) rfl (by kernel_rfl) rfl rfl ?_
   simp only [argE, Nat.reduceAdd, cN, vI, vB, cR]
   (refine SD ?_;intros;rename_i hb K1 hK1)
   (refine ⟨_,c1,hK1 _ ?_⟩;clear hK1 K1;try simp only [put_some,cN,vI,vB,cR])
   (refine SD ?_;intros;rename_i K1 hK1)
   (refine ⟨_,c2,hK1 _ ?_⟩;clear hK1 K1;try simp only [put_some,cN,vI,vB,cR])
   cases neg
   rotate_left
   have a7 : num.length ≠ 0 := fun e => a6 ⟨rfl, e⟩
   all_goals
     (refine SD ?_;intros;rename_i hb K1 hK1)
     (refine ⟨_,cg,hK1 _ ?_⟩;clear hK1 K1;try simp only [put_some,cN,vI,vB,cR])
     (refine WD ?_ ?_<;>intros<;>rename_i hb)
     · simp only [res1,res2,res3,AB,AD,Nat.reduceEqDiff,↓reduceIte,Nat.reduceAdd,Nat.reduceMul,Nat.reducePow,Nat.reduceLeDiff,Nat.reduceLT]
       congr 2
       rw [Bool.eq_iff_iff, beq_iff_eq, decide_eq_true_iff]
       exact ⟨fun e => hone.1 ⟨by omega, by omega⟩, fun e => by have := (hone.2 e).2; omega⟩
     · simp only [res1,res2,res3,AB,AD,Nat.reduceEqDiff,↓reduceIte,Nat.reduceAdd,Nat.reduceMul,Nat.reducePow,Nat.reduceLeDiff,Nat.reduceLT]
       rw [decide_eq_false (fun e => hb (by have := (hone.2 e).1; omega))]
 · have un : isRat ⟨fault, neg, num, den⟩ ↔ (fault = 4 ∨ fault = 11) ∧ neg = false ∧ num = [] ∧ den = [] := by
     unfold isRat; rw [if_neg f0]
   have hb2 : isRatB ⟨fault, neg, num, den⟩ = decide ((fault = 4 ∨ fault = 11) ∧ neg = false ∧ num.length = 0 ∧ den.length = 0) := by
     rw [Bool.eq_iff_iff, isRatB_iff, decide_eq_true_iff, un, List.length_eq_zero_iff, List.length_eq_zero_iff]
   rw [hb2]
   refine con_of2 mixed (fn := Tryz.f78) (rs := [.tmp 2]) Tryz.func78 (by kernel_rfl) rfl (by kernel_rfl) rfl rfl ?_
   simp only [argE, Nat.reduceAdd, cN, vI, vB, cR]
   cases neg
   all_goals
     repeat'(with_reducible first|apply p_seq|apply p_sq|apply p_reg|apply p_nil|apply p_skip|apply p_block|apply p_bq|apply p_ret|apply p_exit|apply p_sq_ret|apply p_sq_exit|apply p_bq_ret|apply p_bq_this|apply p_lq_ret|apply p_lq_exit|apply d_nil|refine p_drw (by decide +kernel) ?_|refine f_op rfl rfl ?_|refine f_opg rfl rfl rfl rfl ?_ ?_|refine f_new rfl rfl rfl rfl ?_|(refine f_end (And.intro ?_ ?_)<;>simp only [List.foldl_nil,List.foldl_cons,recS_mk,AB,AD,Nat.reduceEqDiff,↓reduceIte,Nat.reduceAdd,Nat.reduceMul,Nat.reducePow,Nat.reduceLeDiff,Nat.reduceLT])|apply k_nil|refine k_cons rfl rfl ?_ ?_|apply g_nil|refine g_op0 rfl ?_|refine g_opC rfl ?_|refine p_bq_other (by decide) ?_|refine p_cond rfl ?_ ?_|refine p_op rfl ?_|refine d_op rfl rfl ?_|refine d_eff rfl ?_|refine p_opg rfl rfl rfl ?_ ?_|refine d_opg rfl rfl rfl rfl ?_ ?_|((first|refine p_opgU rfl rfl rfl ?_|refine d_opgU rfl rfl rfl rfl ?_);try simp only [put_some])|(refine fun (K1:St→Prop) hK1=>?_;simp (disch := omega) only [AB,AD,Nat.reduceEqDiff,↓reduceIte,Nat.reduceAdd,Nat.reduceMul,Nat.reducePow,Nat.reduceLeDiff,Nat.reduceLT];(try simp (disch := omega) only [AC]);(try simp only [AM]))|(refine hK1 _ ?_;clear hK1 K1)|refine And.intro (by omega) ?_|apply And.intro|(refine fun (hb:(_:Bool)=_)=>?_;(try simp only [HS] at hb);(try (change True at hb;clear hb));first|(exfalso;first|omega|contradiction)|(try simp only [put_some])))
     all_goals simp only [res1,res2,res3,AB,AD,Nat.reduceEqDiff,↓reduceIte,Nat.reduceAdd,Nat.reduceMul,Nat.reducePow,Nat.reduceLeDiff,Nat.reduceLT]
     all_goals congr 2
     all_goals rw [Bool.eq_iff_iff]
     all_goals simp only [beq_iff_eq, decide_eq_true_iff, Bool.false_eq_true, Bool.true_eq_false, true_and, false_iff, false_and, and_false, not_false_eq_true]
     all_goals omega
end Go.Pw
