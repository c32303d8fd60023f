/- Merged from the working texts Ps3 Mt1 Mt2 Ma5 Mb3. -/
import Derived.Test.YtkflegdaeienlaaGreatDoorKa25
import Derived.Test.YtkflegdaeienlaaGreatDoorKa36
import Derived.Test.YtkflegdaeienlaaGreatDoorKa23
import Derived.Test.YtkflegdaeienlaaGreatDoorKa24
import Derived.Test.YtkflegdaeienlaaGreatDoorKa33
set_option linter.all false
set_option maxHeartbeats 400000
set_option maxRecDepth 100000
set_option linter.unusedVariables false
set_option linter.unusedSimpArgs false
namespace Go.Pw
open Go Go.Proofs
theorem con_rgood (x : List Nat) (h : x.length < 2 ^ 40) : Con E 139 [cN x] (vB (decide (x.length ≤ 128 ∧ (x.length = 0 ∨ x.getD (x.length - 1) 0 ≠ 0)))) := by
 refine con_of2 mixed (fn := Tryz.f139) (rs := [.tmp 2]) Tryz.func139 (by kernel_rfl) rfl (by kernel_rfl) rfl rfl ?_
 simp only [argE, Nat.reduceAdd, cN, vI, vB]
 have e1 : ((x.length : Int) - 1).toNat = x.length - 1 := by omega
 repeat'(with_reducible first|apply p_seq|apply p_sq|apply p_reg|apply p_nil|apply p_skip|apply p_block|apply p_bq|apply p_ret|apply p_exit|apply p_sq_ret|apply p_sq_exit|apply p_bq_ret|apply p_bq_this|apply p_lq_ret|apply p_lq_exit|apply d_nil|refine p_drw (by decide +kernel) ?_|refine f_op rfl rfl ?_|refine f_opg rfl rfl rfl rfl ?_ ?_|refine f_new rfl rfl rfl rfl ?_|(refine f_end (And.intro ?_ ?_)<;>simp only [List.foldl_nil,List.foldl_cons,recS_mk,AB,AD,Nat.reduceEqDiff,↓reduceIte,Nat.reduceAdd,Nat.reduceMul,Nat.reducePow,Nat.reduceLeDiff,Nat.reduceLT])|apply k_nil|refine k_cons rfl rfl ?_ ?_|apply g_nil|refine g_op0 rfl ?_|refine g_opC rfl ?_|refine p_bq_other (by decide) ?_|refine p_cond rfl ?_ ?_|refine p_op rfl ?_|refine d_op rfl rfl ?_|refine d_eff rfl ?_|refine p_opg rfl rfl rfl ?_ ?_|refine d_opg rfl rfl rfl rfl ?_ ?_|((first|refine p_opgU rfl rfl rfl ?_|refine d_opgU rfl rfl rfl rfl ?_);try simp only [put_some])|(refine fun (K1:St→Prop) hK1=>?_;simp (disch := omega) only [AB,AD,Nat.reduceEqDiff,↓reduceIte,Nat.reduceAdd,Nat.reduceMul,Nat.reducePow,Nat.reduceLeDiff,Nat.reduceLT];(try simp (disch := omega) only [AC]);(try simp only [AM]))|(refine hK1 _ ?_;clear hK1 K1)|refine And.intro (by omega) ?_|apply And.intro|(refine fun (hb:(_:Bool)=_)=>?_;(try simp only [HS] at hb);(try (change True at hb;clear hb));first|(exfalso;first|omega|contradiction)|(try simp only [put_some])))
 · simp only [res1,res2,res3,AB,AD,Nat.reduceEqDiff,↓reduceIte,Nat.reduceAdd,Nat.reduceMul,Nat.reducePow,Nat.reduceLeDiff,Nat.reduceLT]
   congr 2
   rw [e1, Bool.eq_iff_iff, bne_iff_ne, decide_eq_true_iff]
   omega
 · simp only [res1,res2,res3,AB,AD,Nat.reduceEqDiff,↓reduceIte,Nat.reduceAdd,Nat.reduceMul,Nat.reducePow,Nat.reduceLeDiff,Nat.reduceLT]
   rw [decide_eq_true ⟨by omega, .inl (by omega)⟩]
 · simp only [res1,res2,res3,AB,AD,Nat.reduceEqDiff,↓reduceIte,Nat.reduceAdd,Nat.reduceMul,Nat.reducePow,Nat.reduceLeDiff,Nat.reduceLT]
   rw [decide_eq_false (by omega)]
set_option maxHeartbeats 4000000 in
theorem con_rIsRat (x : Rt) (hx : dok x.num) (hd : dok x.den) (h : x.num.length < 2 ^ 38) (h' : x.den.length < 2 ^ 38) : Con E 78 [.agg (cR x)] (vB (isRatB x)) := by
 obtain ⟨fault, neg, num, den⟩ := x
 dsimp only at *
 by_cases f0 : fault = 0
 · have un : isRat ⟨fault, neg, num, den⟩ ↔ can num ∧ can den ∧ bl (val num) ≤ 4096 ∧ bl (val den) ≤ 4096 ∧ den ≠ [] ∧ (neg = true → num ≠ []) ∧ Nat.gcd (val num) (val den) = 1 := by
     unfold isRat; rw [if_pos f0]
   have no : ∀ p : Prop, (isRat ⟨fault, neg, num, den⟩ → p) → ¬ p → isRatB ⟨fault, neg, num, den⟩ = false := fun p h1 h2 => (isRatB_not _).2 fun h => h2 (h1 h)
   have c1 := con_rgood num (by omega)
   have c2 := con_rgood den (by omega)
   have g1 := good_iff hx
   have g2 := good_iff hd
   by_cases a1 : can num ∧ bl (val num) ≤ 4096
   rotate_left
   · rw [decide_eq_false (fun e => a1 (g1.1 e))] at c1
     rw [no _ (fun h => ⟨(un.1 h).1, (un.1 h).2.2.1⟩) a1]
     clear c2 g1 g2 a1 no un
     refine con_of2 mixed (fn := Tryz.f78) (rs := [.tmp 2]) Tryz.func78 (by kernel_rfl) rfl (by kernel_rfl) rfl rfl ?_
     simp only [argE, Nat.reduceAdd, cN, vI, vB, cR]
     (refine SD ?_;intros;first|rename_i hb K1 hK1|rename_i K1 hK1|skip)
     (refine ⟨_,c1,hK1 _ ?_⟩;clear hK1 K1;try simp only [put_some,cN,vI,vB,cR])
     (refine SD ?_;intros)
     simp only [res1,res2,res3,AB,AD,Nat.reduceEqDiff,↓reduceIte,Nat.reduceAdd,Nat.reduceMul,Nat.reducePow,Nat.reduceLeDiff,Nat.reduceLT]
   rw [decide_eq_true (g1.2 a1)] at c1
   by_cases a2 : can den ∧ bl (val den) ≤ 4096
   rotate_left
   · rw [decide_eq_false (fun e => a2 (g2.1 e))] at c2
     rw [no _ (fun h => ⟨(un.1 h).2.1, (un.1 h).2.2.2.1⟩) a2]
     clear g1 g2 a1 a2 no un
     refine con_of2 mixed (fn := Tryz.f78) (rs := [.tmp 2]) Tryz.func78 (by kernel_rfl) rfl (by kernel_rfl) rfl rfl ?_
     simp only [argE, Nat.reduceAdd, cN, vI, vB, cR]
     (refine SD ?_;intros;first|rename_i hb K1 hK1|rename_i K1 hK1|skip)
     (refine ⟨_,c1,hK1 _ ?_⟩;clear hK1 K1;try simp only [put_some,cN,vI,vB,cR])
     (refine SD ?_;intros;rename_i K1 hK1)
     (refine ⟨_,c2,hK1 _ ?_⟩;clear hK1 K1;try simp only [put_some,cN,vI,vB,cR])
     (refine SD ?_;intros)
     simp only [res1,res2,res3,AB,AD,Nat.reduceEqDiff,↓reduceIte,Nat.reduceAdd,Nat.reduceMul,Nat.reducePow,Nat.reduceLeDiff,Nat.reduceLT]
   rw [decide_eq_true (g2.2 a2)] at c2
   have n1 := (dg_val a1.1).symm
   have d1 := (dg_val a2.1).symm
   by_cases a5 : den.length = 0
   · rw [no (den ≠ []) (fun h => (un.1 h).2.2.2.2.1) (fun e => e (List.length_eq_zero_iff.1 a5))]
     clear g1 g2 a1 a2 no un n1 d1
     refine con_of2 mixed (fn := Tryz.f78) (rs := [.tmp 2]) Tryz.func78 (by kernel_rfl) rfl (by kernel_rfl) rfl rfl ?_
     simp only [argE, Nat.reduceAdd, cN, vI, vB, cR]
     (refine SD ?_;intros;first|rename_i hb K1 hK1|rename_i K1 hK1|skip)
     (refine ⟨_,c1,hK1 _ ?_⟩;clear hK1 K1;try simp only [put_some,cN,vI,vB,cR])
     (refine SD ?_;intros;rename_i K1 hK1)
     (refine ⟨_,c2,hK1 _ ?_⟩;clear hK1 K1;try simp only [put_some,cN,vI,vB,cR])
     cases neg
     all_goals
       (refine SD ?_;intros)
       simp only [res1,res2,res3,AB,AD,Nat.reduceEqDiff,↓reduceIte,Nat.reduceAdd,Nat.reduceMul,Nat.reducePow,Nat.reduceLeDiff,Nat.reduceLT]
   by_cases a6 : neg = true ∧ num.length = 0
   · obtain ⟨rfl, a6⟩ := a6
     rw [no (num ≠ []) (fun h => (un.1 h).2.2.2.2.2.1 rfl) (fun e => e (List.length_eq_zero_iff.1 a6))]
     clear g1 g2 a1 a2 no un n1 d1
     refine con_of2 mixed (fn := Tryz.f78) (rs := [.tmp 2]) Tryz.func78 (by kernel_rfl) rfl (by kernel_rfl) rfl rfl ?_
     simp only [argE, Nat.reduceAdd, cN, vI, vB, cR]
     (refine SD ?_;intros;first|rename_i hb K1 hK1|rename_i K1 hK1|skip)
     (refine ⟨_,c1,hK1 _ ?_⟩;clear hK1 K1;try simp only [put_some,cN,vI,vB,cR])
     (refine SD ?_;intros;rename_i K1 hK1)
     (refine ⟨_,c2,hK1 _ ?_⟩;clear hK1 K1;try simp only [put_some,cN,vI,vB,cR])
     (refine SD ?_;intros)
     simp only [res1,res2,res3,AB,AD,Nat.reduceEqDiff,↓reduceIte,Nat.reduceAdd,Nat.reduceMul,Nat.reducePow,Nat.reduceLeDiff,Nat.reduceLT]
   have hres : isRatB ⟨fault, neg, num, den⟩ = decide (Nat.gcd (val num) (val den) = 1) := by
     rw [Bool.eq_iff_iff, isRatB_iff, decide_eq_true_iff, un]
     exact ⟨fun h => h.2.2.2.2.2.2, fun h => ⟨a1.1, a2.1, a1.2, a2.2, fun e => a5 (by subst e; rfl), fun e e2 => a6 ⟨e, by subst e2; rfl⟩, h⟩⟩
   rw [hres]
   have hg0 : Nat.gcd (val num) (val den) ≠ 0 := by
     have hv : val den ≠ 0 := fun e => a5 (by rw [d1, e, dg_zero]; rfl)
     have := Nat.gcd_pos_of_pos_right (val num) (Nat.pos_of_ne_zero hv)
     omega
   have hone := dgone hg0
   have cg := con_Gcd (val num) (val den) (by rw [← n1]; omega) (by rw [← d1]; omega)
   rw [← n1, ← d1] at cg
   clear g1 g2 a1 a2 no un n1 d1 hres
   refine con_of2 mixed (fn := Tryz.f78) (rs := [.tmp 2]) Tryz.func78 (by kernel_rfl) rfl (by kernel_rfl) rfl rfl ?_
   simp only [argE, Nat.reduceAdd, cN, vI, vB, cR]
   (refine SD ?_;intros;first|rename_i hb K1 hK1|rename_i K1 hK1|skip)
   (refine ⟨_,c1,hK1 _ ?_⟩;clear hK1 K1;try simp only [put_some,cN,vI,vB,cR])
   (refine SD ?_;intros;rename_i K1 hK1)
   (refine ⟨_,c2,hK1 _ ?_⟩;clear hK1 K1;try simp only [put_some,cN,vI,vB,cR])
   cases neg
   rotate_left
   have a7 : num.length ≠ 0 := fun e => a6 ⟨rfl, e⟩
   all_goals
     (refine SD ?_;intros;first|rename_i hb K1 hK1|rename_i K1 hK1|skip)
     (refine ⟨_,cg,hK1 _ ?_⟩;clear hK1 K1;try simp only [put_some,cN,vI,vB,cR])
     (refine WD ?_ ?_<;>intros<;>first|rename_i hb K1 hK1|rename_i K1 hK1|skip)
     · simp only [res1,res2,res3,AB,AD,Nat.reduceEqDiff,↓reduceIte,Nat.reduceAdd,Nat.reduceMul,Nat.reducePow,Nat.reduceLeDiff,Nat.reduceLT]
       congr 2
       rw [Bool.eq_iff_iff, beq_iff_eq, decide_eq_true_iff]
       exact ⟨fun e => hone.1 ⟨by omega, by omega⟩, fun e => by have := (hone.2 e).2; omega⟩
     · simp only [res1,res2,res3,AB,AD,Nat.reduceEqDiff,↓reduceIte,Nat.reduceAdd,Nat.reduceMul,Nat.reducePow,Nat.reduceLeDiff,Nat.reduceLT]
       rw [decide_eq_false (fun e => hb (by have := (hone.2 e).1; omega))]
 · have un : isRat ⟨fault, neg, num, den⟩ ↔ (fault = 4 ∨ fault = 11) ∧ neg = false ∧ num = [] ∧ den = [] := by
     unfold isRat; rw [if_neg f0]
   have hb2 : isRatB ⟨fault, neg, num, den⟩ = decide ((fault = 4 ∨ fault = 11) ∧ neg = false ∧ num.length = 0 ∧ den.length = 0) := by
     rw [Bool.eq_iff_iff, isRatB_iff, decide_eq_true_iff, un, List.length_eq_zero_iff, List.length_eq_zero_iff]
   rw [hb2]
   refine con_of2 mixed (fn := Tryz.f78) (rs := [.tmp 2]) Tryz.func78 (by kernel_rfl) rfl (by kernel_rfl) rfl rfl ?_
   simp only [argE, Nat.reduceAdd, cN, vI, vB, cR]
   cases neg
   all_goals
     repeat'(with_reducible first|apply p_seq|apply p_sq|apply p_reg|apply p_nil|apply p_skip|apply p_block|apply p_bq|apply p_ret|apply p_exit|apply p_sq_ret|apply p_sq_exit|apply p_bq_ret|apply p_bq_this|apply p_lq_ret|apply p_lq_exit|apply d_nil|refine p_drw (by decide +kernel) ?_|refine f_op rfl rfl ?_|refine f_opg rfl rfl rfl rfl ?_ ?_|refine f_new rfl rfl rfl rfl ?_|(refine f_end (And.intro ?_ ?_)<;>simp only [List.foldl_nil,List.foldl_cons,recS_mk,AB,AD,Nat.reduceEqDiff,↓reduceIte,Nat.reduceAdd,Nat.reduceMul,Nat.reducePow,Nat.reduceLeDiff,Nat.reduceLT])|apply k_nil|refine k_cons rfl rfl ?_ ?_|apply g_nil|refine g_op0 rfl ?_|refine g_opC rfl ?_|refine p_bq_other (by decide) ?_|refine p_cond rfl ?_ ?_|refine p_op rfl ?_|refine d_op rfl rfl ?_|refine d_eff rfl ?_|refine p_opg rfl rfl rfl ?_ ?_|refine d_opg rfl rfl rfl rfl ?_ ?_|((first|refine p_opgU rfl rfl rfl ?_|refine d_opgU rfl rfl rfl rfl ?_);try simp only [put_some])|(refine fun (K1:St→Prop) hK1=>?_;simp (disch := omega) only [AB,AD,Nat.reduceEqDiff,↓reduceIte,Nat.reduceAdd,Nat.reduceMul,Nat.reducePow,Nat.reduceLeDiff,Nat.reduceLT];(try simp (disch := omega) only [AC]);(try simp only [AM]))|(refine hK1 _ ?_;clear hK1 K1)|refine And.intro (by omega) ?_|apply And.intro|(refine fun (hb:(_:Bool)=_)=>?_;(try simp only [HS] at hb);(try (change True at hb;clear hb));first|(exfalso;first|omega|contradiction)|(try simp only [put_some])))
     all_goals simp only [res1,res2,res3,AB,AD,Nat.reduceEqDiff,↓reduceIte,Nat.reduceAdd,Nat.reduceMul,Nat.reducePow,Nat.reduceLeDiff,Nat.reduceLT]
     all_goals congr 2
     all_goals rw [Bool.eq_iff_iff]
     all_goals simp only [beq_iff_eq, decide_eq_true_iff, Bool.false_eq_true, Bool.true_eq_false, true_and, false_iff, false_and, and_false, not_false_eq_true]
     all_goals omega
end Go.Pw
set_option maxRecDepth 100000
set_option linter.unusedVariables false
set_option linter.unusedSimpArgs false
namespace Go.Pw
open Go Go.Proofs
def numsB (a b : List Rt) : Bool := decide (a.length = b.length) && (List.range a.length).all fun i => reqB (a.getD i default) (b.getD i default)
theorem con_Numbers (a b : List Rt) (h : a.length < 2 ^ 40) (h' : b.length < 2 ^ 40) (ha : ∀ i, Fit (a.getD i default)) (hbf : ∀ i, Fit (b.getD i default)) : Con E 42 [cRs a, cRs b] (vB (numsB a b)) := by
 refine con_of2 mixed (fn := Tryz.f42) (rs := [.tmp 4]) Tryz.func42 (by kernel_rfl) rfl (by kernel_rfl) rfl rfl ?_
 simp only [argE, Nat.reduceAdd, cRs, vI, vB]
 repeat'(with_reducible first|apply p_seq|apply p_sq|apply p_reg|apply p_nil|apply p_skip|apply p_block|apply p_bq|apply p_ret|apply p_exit|apply p_sq_ret|apply p_sq_exit|apply p_bq_ret|apply p_bq_this|apply p_lq_ret|apply p_lq_exit|apply d_nil|refine p_drw (by decide +kernel) ?_|refine f_op rfl rfl ?_|refine f_opg rfl rfl rfl rfl ?_ ?_|refine f_new rfl rfl rfl rfl ?_|(refine f_end (And.intro ?_ ?_)<;>simp only [List.foldl_nil,List.foldl_cons,recS_mk,AB,AD,Nat.reduceEqDiff,↓reduceIte,Nat.reduceAdd,Nat.reduceMul,Nat.reducePow,Nat.reduceLeDiff,Nat.reduceLT])|apply k_nil|refine k_cons rfl rfl ?_ ?_|apply g_nil|refine g_op0 rfl ?_|refine g_opC rfl ?_|refine p_bq_other (by decide) ?_|refine p_cond rfl ?_ ?_|refine p_op rfl ?_|refine d_op rfl rfl ?_|refine d_eff rfl ?_|refine p_opg rfl rfl rfl ?_ ?_|refine d_opg rfl rfl rfl rfl ?_ ?_|((first|refine p_opgU rfl rfl rfl ?_|refine d_opgU rfl rfl rfl rfl ?_);try simp only [put_some])|(refine fun (K1:St→Prop) hK1=>?_;simp (disch := omega) only [AB,AD,Nat.reduceEqDiff,↓reduceIte,Nat.reduceAdd,Nat.reduceMul,Nat.reducePow,Nat.reduceLeDiff,Nat.reduceLT];(try simp (disch := omega) only [AC]);(try simp only [AM]))|(refine hK1 _ ?_;clear hK1 K1)|refine And.intro (by omega) ?_|apply And.intro|(refine fun (hb:(_:Bool)=_)=>?_;(try simp only [HS] at hb);(try (change True at hb;clear hb));first|(exfalso;first|omega|contradiction)|(try simp only [put_some])))
 · simp only [res1,res2,res3,AB,AD,Nat.reduceEqDiff,↓reduceIte,Nat.reduceAdd,Nat.reduceMul,Nat.reducePow,Nat.reduceLeDiff,Nat.reduceLT]
   have : ¬ a.length = b.length := by omega
   rw [numsB, decide_eq_false this, Bool.false_and]
 · refine p_loopx (fun (i : Nat) => [(5, .sh (vI i)), (0, .sh (cRs a)), (1, .sh (cRs b))]) (fun _ => []) (fun i => a.length - i) (fun i => i ≤ a.length ∧ ∀ k, k < i → reqB (a.getD k default) (b.getD k default) = true) 0 (Weak.list ⟨rfl, rfl, rfl, trivial⟩ trivial) ⟨Nat.zero_le _, fun k hk => by omega⟩ ?_
   rintro i ⟨hi, hI⟩
   simp only [cRs, cN, vI, vB] at *
   have c1 := con_rEqual (a.getD i default) (b.getD i default) (ha i) (hbf i)
   have hab : a.length = b.length := by omega
   by_cases hq : reqB (a.getD i default) (b.getD i default) = true
   · rw [hq] at c1
     repeat'(with_reducible first|apply p_seq|apply p_sq|apply p_reg|apply p_nil|apply p_skip|apply p_block|apply p_bq|apply p_ret|apply p_exit|apply p_sq_ret|apply p_sq_exit|apply p_bq_ret|apply p_bq_this|apply p_lq_ret|apply p_lq_exit|apply d_nil|refine p_drw (by decide +kernel) ?_|refine f_op rfl rfl ?_|refine f_opg rfl rfl rfl rfl ?_ ?_|refine f_new rfl rfl rfl rfl ?_|(refine f_end (And.intro ?_ ?_)<;>simp only [List.foldl_nil,List.foldl_cons,recS_mk,AB,AD,Nat.reduceEqDiff,↓reduceIte,Nat.reduceAdd,Nat.reduceMul,Nat.reducePow,Nat.reduceLeDiff,Nat.reduceLT])|apply k_nil|refine k_cons rfl rfl ?_ ?_|apply g_nil|refine g_op0 rfl ?_|refine g_opC rfl ?_|refine p_bq_other (by decide) ?_|refine p_cond rfl ?_ ?_|refine p_op rfl ?_|refine d_op rfl rfl ?_|refine d_eff rfl ?_|refine p_opg rfl rfl rfl ?_ ?_|refine d_opg rfl rfl rfl rfl ?_ ?_|((first|refine p_opgU rfl rfl rfl ?_|refine d_opgU rfl rfl rfl rfl ?_);try simp only [put_some])|(refine fun (K1:St→Prop) hK1=>?_;simp (disch := omega) only [AB,AD,Nat.reduceEqDiff,↓reduceIte,Nat.reduceAdd,Nat.reduceMul,Nat.reducePow,Nat.reduceLeDiff,Nat.reduceLT];(try simp (disch := omega) only [AC]);(try simp only [AM]))|(refine hK1 _ ?_;clear hK1 K1)|refine And.intro (by omega) ?_|apply And.intro|(refine fun (hb:(_:Bool)=_)=>?_;(try simp only [HS] at hb);(try (change True at hb;clear hb));first|(exfalso;first|omega|contradiction)|(try simp only [put_some])))
     all_goals first | exact Nat.le_refl 4 | skip
     · (refine ⟨_,c1,hK1 _ ?_⟩;clear hK1 K1;try simp only [put_some,cN,vI,vB,cR])
       (refine SD ?_;intros)
       refine p_lx _ _ _ _ (i + 1) ?_ ⟨?_, ?_⟩ (Weak.list ⟨int_eq ?_, rfl, rfl, trivial⟩ trivial)
       · omega
       · omega
       · intro k hk
         rcases Nat.lt_or_ge k i with h1 | h1
         · exact hI k h1
         · rw [show k = i by omega]; exact hq
       · omega
     · simp only [res1,res2,res3,AB,AD,Nat.reduceEqDiff,↓reduceIte,Nat.reduceAdd,Nat.reduceMul,Nat.reducePow,Nat.reduceLeDiff,Nat.reduceLT]
       have : numsB a b = true := by
         unfold numsB
         rw [decide_eq_true hab, Bool.true_and, List.all_eq_true]
         intro k hk
         exact hI k (by have := List.mem_range.1 hk; omega)
       rw [this]
   · have hq' : reqB (a.getD i default) (b.getD i default) = false := by simpa using hq
     rw [hq'] at c1
     repeat'(with_reducible first|apply p_seq|apply p_sq|apply p_reg|apply p_nil|apply p_skip|apply p_block|apply p_bq|apply p_ret|apply p_exit|apply p_sq_ret|apply p_sq_exit|apply p_bq_ret|apply p_bq_this|apply p_lq_ret|apply p_lq_exit|apply d_nil|refine p_drw (by decide +kernel) ?_|refine f_op rfl rfl ?_|refine f_opg rfl rfl rfl rfl ?_ ?_|refine f_new rfl rfl rfl rfl ?_|(refine f_end (And.intro ?_ ?_)<;>simp only [List.foldl_nil,List.foldl_cons,recS_mk,AB,AD,Nat.reduceEqDiff,↓reduceIte,Nat.reduceAdd,Nat.reduceMul,Nat.reducePow,Nat.reduceLeDiff,Nat.reduceLT])|apply k_nil|refine k_cons rfl rfl ?_ ?_|apply g_nil|refine g_op0 rfl ?_|refine g_opC rfl ?_|refine p_bq_other (by decide) ?_|refine p_cond rfl ?_ ?_|refine p_op rfl ?_|refine d_op rfl rfl ?_|refine d_eff rfl ?_|refine p_opg rfl rfl rfl ?_ ?_|refine d_opg rfl rfl rfl rfl ?_ ?_|((first|refine p_opgU rfl rfl rfl ?_|refine d_opgU rfl rfl rfl rfl ?_);try simp only [put_some])|(refine fun (K1:St→Prop) hK1=>?_;simp (disch := omega) only [AB,AD,Nat.reduceEqDiff,↓reduceIte,Nat.reduceAdd,Nat.reduceMul,Nat.reducePow,Nat.reduceLeDiff,Nat.reduceLT];(try simp (disch := omega) only [AC]);(try simp only [AM]))|(refine hK1 _ ?_;clear hK1 K1)|refine And.intro (by omega) ?_|apply And.intro|(refine fun (hb:(_:Bool)=_)=>?_;(try simp only [HS] at hb);(try (change True at hb;clear hb));first|(exfalso;first|omega|contradiction)|(try simp only [put_some])))
     all_goals first | exact Nat.le_refl 4 | skip
     · (refine ⟨_,c1,hK1 _ ?_⟩;clear hK1 K1;try simp only [put_some,cN,vI,vB,cR])
       (refine SD ?_;intros)
       simp only [res1,res2,res3,AB,AD,Nat.reduceEqDiff,↓reduceIte,Nat.reduceAdd,Nat.reduceMul,Nat.reducePow,Nat.reduceLeDiff,Nat.reduceLT]
       have : numsB a b = false := by
         unfold numsB
         rw [decide_eq_true hab, Bool.true_and, List.all_eq_false]
         exact ⟨i, List.mem_range.2 (by omega), hq⟩
       rw [this]
     · simp only [res1,res2,res3,AB,AD,Nat.reduceEqDiff,↓reduceIte,Nat.reduceAdd,Nat.reduceMul,Nat.reducePow,Nat.reduceLeDiff,Nat.reduceLT]
       have : numsB a b = true := by
         unfold numsB
         rw [decide_eq_true hab, Bool.true_and, List.all_eq_true]
         intro k hk
         exact hI k (by have := List.mem_range.1 hk; omega)
       rw [this]
def rdot (a b : List Rt) (n : Nat) : Rt := (List.range n).foldl (fun s i => radd s (rmul (a.getD i default) (b.getD i default))) (rof 0 1)
theorem con_rdot (a b : List Rt) (h : a.length < 2 ^ 40) (hl : a.length ≤ b.length) (ha : ∀ i, i < a.length → isRat (a.getD i default)) (hbr : ∀ i, i < a.length → isRat (b.getD i default)) : Con E 79 [cRs a, cRs b] (.agg (cR (rdot a b a.length))) := by
 refine con_of2 mixed (fn := Tryz.f79) (rs := [.cell 4 80]) Tryz.func79 (by kernel_rfl) rfl (by kernel_rfl) rfl rfl ?_
 simp only [argE, Nat.reduceAdd, cRs, vI, vB]
 (refine SD ?_;intros;rename_i K1 hK1)
 (refine ⟨_,con_rOf 0 1 (by omega) (by omega) (by omega) (by omega),hK1 _ ?_⟩;clear hK1 K1;try simp only [put_some,cN,vI,vB,cR])
 (refine SD ?_;intros)
 refine p_loopx (fun (s : Nat × Rt) => [(6, .sh (vI s.1)), (0, .sh (cRs a)), (1, .sh (cRs b)), (5, .bp 5 0), (4, .bp 4 0)]) (fun s => [(5, some (.box [.sh (vI s.2.fault), .sh (vB s.2.neg), .sh (cN s.2.num), .sh (cN s.2.den)])), (4, some (.box [.sh (vI 0), .sh (vB false), .sh (.val (.slice none 0 0)), .sh (.val (.slice none 0 0))]))]) (fun s => a.length - s.1)
   (fun s => s.1 ≤ a.length ∧ s.2 = rdot a b s.1 ∧ isRat s.2) (0, rof 0 1) (Weak.list ⟨rfl, rfl, rfl, rfl, rfl, trivial⟩ ⟨rfl, rfl, trivial⟩) ⟨Nat.zero_le _, rfl, isRat_nrat _ _ _⟩ ?_
 rintro ⟨i, out⟩ ⟨hi, hI, ho⟩
 simp only [cRs, cN, vI, vB] at *
 repeat'(with_reducible first|apply p_seq|apply p_sq|apply p_reg|apply p_nil|apply p_skip|apply p_block|apply p_bq|apply p_ret|apply p_exit|apply p_sq_ret|apply p_sq_exit|apply p_bq_ret|apply p_bq_this|apply p_lq_ret|apply p_lq_exit|apply d_nil|refine p_drw (by decide +kernel) ?_|refine f_op rfl rfl ?_|refine f_opg rfl rfl rfl rfl ?_ ?_|refine f_new rfl rfl rfl rfl ?_|(refine f_end (And.intro ?_ ?_)<;>simp only [List.foldl_nil,List.foldl_cons,recS_mk,AB,AD,Nat.reduceEqDiff,↓reduceIte,Nat.reduceAdd,Nat.reduceMul,Nat.reducePow,Nat.reduceLeDiff,Nat.reduceLT])|apply k_nil|refine k_cons rfl rfl ?_ ?_|apply g_nil|refine g_op0 rfl ?_|refine g_opC rfl ?_|refine p_bq_other (by decide) ?_|refine p_cond rfl ?_ ?_|refine p_op rfl ?_|refine d_op rfl rfl ?_|refine d_eff rfl ?_|refine p_opg rfl rfl rfl ?_ ?_|refine d_opg rfl rfl rfl rfl ?_ ?_|((first|refine p_opgU rfl rfl rfl ?_|refine d_opgU rfl rfl rfl rfl ?_);try simp only [put_some])|(refine fun (K1:St→Prop) hK1=>?_;simp (disch := omega) only [AB,AD,Nat.reduceEqDiff,↓reduceIte,Nat.reduceAdd,Nat.reduceMul,Nat.reducePow,Nat.reduceLeDiff,Nat.reduceLT];(try simp (disch := omega) only [AC]);(try simp only [AM]))|(refine hK1 _ ?_;clear hK1 K1)|refine And.intro (by omega) ?_|apply And.intro|(refine fun (hb:(_:Bool)=_)=>?_;(try simp only [HS] at hb);(try (change True at hb;clear hb));first|(exfalso;first|omega|contradiction)|(try simp only [put_some])))
 all_goals first | exact Nat.le_refl 4 | skip
 · have hra := ha i (by omega)
   have hrb := hbr i (by omega)
   (refine ⟨_,con_rMul (a.getD i default) (b.getD i default) hra hrb,hK1 _ ?_⟩;clear hK1 K1;try simp only [put_some,cN,vI,vB,cR])
   (refine SD ?_;intros;rename_i K1 hK1)
   (refine ⟨_,con_rAdd out (rmul (a.getD i default) (b.getD i default)) ho (isRat_rmul _ _ hra hrb),hK1 _ ?_⟩;clear hK1 K1;try simp only [put_some,cN,vI,vB,cR])
   (refine SD ?_;intros)
   refine p_lx _ _ _ _ (i + 1, radd out (rmul (a.getD i default) (b.getD i default))) ?_ ⟨?_, ?_, ?_⟩ (Weak.list ⟨int_eq ?_, rfl, rfl, rfl, rfl, trivial⟩ ⟨rfl, rfl, trivial⟩) <;> dsimp only
   · omega
   · omega
   · rw [hI, rdot, rdot, List.range_succ, List.foldl_append]; rfl
   · exact isRat_radd _ _ ho (isRat_rmul _ _ hra hrb)
   · omega
 · have : i = a.length := by omega
   subst this
   rw [← hI]
   simp (disch := omega) only [resc1,resc2,rescc,rest1c,AB,AD,Nat.reduceEqDiff,↓reduceIte,Nat.reduceAdd,Nat.reduceMul,Nat.reducePow,Nat.reduceLeDiff,Nat.reduceLT]
   all_goals rfl
end Go.Pw
set_option maxRecDepth 100000
set_option linter.unusedVariables false
set_option linter.unusedSimpArgs false
namespace Go.Pw
open Go Go.Proofs
theorem con_Column (j : List (List Rt)) (k : Nat) (h : j.length < 2 ^ 30) (hk : ∀ i, i < j.length → k < (j.getD i []).length) : Con E 80 [cRss j, vI k] (cRs (j.map fun r => r.getD k default)) := by
 refine con_of2 mixed (fn := Tryz.f80) (rs := [.tmp 4]) Tryz.func80 (by kernel_rfl) rfl (by kernel_rfl) rfl rfl ?_
 simp only [argE, Nat.reduceAdd, cRss, vI, vB]
 (refine SD ?_;intros)
 refine p_loopx (fun (i : Nat) => [(6, .sh (vI i)), (0, .sh (cRss j)), (1, .sh (vI k)), (5, .row 22)]) (fun i => [(22, some (.rw 80 4 (SR ((j.take i).map fun r => cR (r.getD k default)))))]) (fun i => j.length - i) (fun i => i ≤ j.length) 0 (Weak.adoptS 22 5 80 4 (by decide) (by decide) rfl ⟨rfl, rfl, rfl, rfl, trivial⟩ ⟨rfl, trivial⟩) (Nat.zero_le _) ?_
 intro i hi
 simp only [cRss, vI] at *
 have hki := hk i
 repeat'(with_reducible first|apply p_seq|apply p_sq|apply p_reg|apply p_nil|apply p_skip|apply p_block|apply p_bq|apply p_ret|apply p_exit|apply p_sq_ret|apply p_sq_exit|apply p_bq_ret|apply p_bq_this|apply p_lq_ret|apply p_lq_exit|apply d_nil|refine p_drw (by decide +kernel) ?_|refine f_op rfl rfl ?_|refine f_opg rfl rfl rfl rfl ?_ ?_|refine f_new rfl rfl rfl rfl ?_|(refine f_end (And.intro ?_ ?_)<;>simp only [List.foldl_nil,List.foldl_cons,recS_mk,AB,AD,Nat.reduceEqDiff,↓reduceIte,Nat.reduceAdd,Nat.reduceMul,Nat.reducePow,Nat.reduceLeDiff,Nat.reduceLT])|apply k_nil|refine k_cons rfl rfl ?_ ?_|apply g_nil|refine g_op0 rfl ?_|refine g_opC rfl ?_|refine p_bq_other (by decide) ?_|refine p_cond rfl ?_ ?_|refine p_op rfl ?_|refine d_op rfl rfl ?_|refine d_eff rfl ?_|refine p_opg rfl rfl rfl ?_ ?_|refine d_opg rfl rfl rfl rfl ?_ ?_|((first|refine p_opgU rfl rfl rfl ?_|refine d_opgU rfl rfl rfl rfl ?_);try simp only [put_some])|(refine fun (K1:St→Prop) hK1=>?_;simp (disch := omega) only [AB,AD,Nat.reduceEqDiff,↓reduceIte,Nat.reduceAdd,Nat.reduceMul,Nat.reducePow,Nat.reduceLeDiff,Nat.reduceLT];(try simp (disch := omega) only [AC]);(try simp only [AM]))|(refine hK1 _ ?_;clear hK1 K1)|refine And.intro (by omega) ?_|apply And.intro|(refine fun (hb:(_:Bool)=_)=>?_;(try simp only [HS] at hb);(try (change True at hb;clear hb));first|(exfalso;first|omega|contradiction)|(try simp only [put_some])))
 all_goals first | exact Nat.le_refl 4 | exact (rfl : true = true) | skip
 · refine p_lx _ _ _ _ (i + 1) ?_ ?_ (Weak.list ⟨int_eq ?_, rfl, rfl, rfl, trivial⟩ ⟨?_, trivial⟩)
   · omega
   · omega
   · omega
   · have e : (j.take i).map (fun r => cR (r.getD k default)) ++ [cR ((j.getD i []).getD k default)] = (j.take (i + 1)).map (fun r => cR (r.getD k default)) := by
       rw [List.take_succ_eq_append_getElem (by omega), List.map_append, List.getD_eq_getElem?_getD (l := j), List.getElem?_eq_getElem (by omega)]
       rfl
     rw [← e]
     rfl
 · simp (disch := omega) only [res1,res2,res3,AB,AD,Nat.reduceEqDiff,↓reduceIte,Nat.reduceAdd,Nat.reduceMul,Nat.reducePow,Nat.reduceLeDiff,Nat.reduceLT]
   rw [List.take_of_length_le (by omega)]
   simp only [cRs, List.map_map]
   rfl
theorem con_rSame (a b : List (List Rt)) (h : a.length < 2 ^ 30) (hb : b.length < 2 ^ 30) (ha : ∀ i, (a.getD i []).length < 2 ^ 30) (hbl : ∀ i, (b.getD i []).length < 2 ^ 30) (hf : ∀ i k, Fit ((a.getD i []).getD k default)) (hg : ∀ i k, Fit ((b.getD i []).getD k default)) :
   Con E 21 [cRss a, cRss b] (vB (decide (a.length = b.length) && (List.range a.length).all fun i => numsB (a.getD i []) (b.getD i []))) := by
 refine con_of2 mixed (fn := Tryz.f21) (rs := [.tmp 4]) Tryz.func21 (by kernel_rfl) rfl (by kernel_rfl) rfl rfl ?_
 simp only [argE, Nat.reduceAdd, cRss, vI, vB]
 repeat'(with_reducible first|apply p_seq|apply p_sq|apply p_reg|apply p_nil|apply p_skip|apply p_block|apply p_bq|apply p_ret|apply p_exit|apply p_sq_ret|apply p_sq_exit|apply p_bq_ret|apply p_bq_this|apply p_lq_ret|apply p_lq_exit|apply d_nil|refine p_drw (by decide +kernel) ?_|refine f_op rfl rfl ?_|refine f_opg rfl rfl rfl rfl ?_ ?_|refine f_new rfl rfl rfl rfl ?_|(refine f_end (And.intro ?_ ?_)<;>simp only [List.foldl_nil,List.foldl_cons,recS_mk,AB,AD,Nat.reduceEqDiff,↓reduceIte,Nat.reduceAdd,Nat.reduceMul,Nat.reducePow,Nat.reduceLeDiff,Nat.reduceLT])|apply k_nil|refine k_cons rfl rfl ?_ ?_|apply g_nil|refine g_op0 rfl ?_|refine g_opC rfl ?_|refine p_bq_other (by decide) ?_|refine p_cond rfl ?_ ?_|refine p_op rfl ?_|refine d_op rfl rfl ?_|refine d_eff rfl ?_|refine p_opg rfl rfl rfl ?_ ?_|refine d_opg rfl rfl rfl rfl ?_ ?_|((first|refine p_opgU rfl rfl rfl ?_|refine d_opgU rfl rfl rfl rfl ?_);try simp only [put_some])|(refine fun (K1:St→Prop) hK1=>?_;simp (disch := omega) only [AB,AD,Nat.reduceEqDiff,↓reduceIte,Nat.reduceAdd,Nat.reduceMul,Nat.reducePow,Nat.reduceLeDiff,Nat.reduceLT];(try simp (disch := omega) only [AC]);(try simp only [AM]))|(refine hK1 _ ?_;clear hK1 K1)|refine And.intro (by omega) ?_|apply And.intro|(refine fun (hb:(_:Bool)=_)=>?_;(try simp only [HS] at hb);(try (change True at hb;clear hb));first|(exfalso;first|omega|contradiction)|(try simp only [put_some])))
 · simp only [res1,res2,res3,AB,AD,Nat.reduceEqDiff,↓reduceIte,Nat.reduceAdd,Nat.reduceMul,Nat.reducePow,Nat.reduceLeDiff,Nat.reduceLT]
   have : ¬ a.length = b.length := by omega
   rw [decide_eq_false this, Bool.false_and]
 · have hab : a.length = b.length := by omega
   rw [decide_eq_true hab, Bool.true_and]
   refine p_loopx (fun (i : Nat) => [(5, .sh (vI i)), (0, .sh (cRss a)), (1, .sh (cRss b))]) (fun _ => []) (fun i => a.length - i) (fun i => i ≤ a.length ∧ ∀ k, k < i → numsB (a.getD k []) (b.getD k []) = true) 0 (Weak.list ⟨rfl, rfl, rfl, trivial⟩ trivial) ⟨Nat.zero_le _, fun k hk => by omega⟩ ?_
   rintro i ⟨hi, hI⟩
   simp only [cRss, cN, vI, vB] at *
   have c1 := con_Numbers (a.getD i []) (b.getD i []) (by have := ha i; omega) (by have := hbl i; omega) (hf i) (hg i)
   have fin : i = a.length → ((List.range a.length).all fun i => numsB (a.getD i []) (b.getD i [])) = true := fun e => by
     rw [List.all_eq_true]
     intro k hk
     exact hI k (by have := List.mem_range.1 hk; omega)
   by_cases hq : numsB (a.getD i []) (b.getD i []) = true
   · rw [hq] at c1
     repeat'(with_reducible first|apply p_seq|apply p_sq|apply p_reg|apply p_nil|apply p_skip|apply p_block|apply p_bq|apply p_ret|apply p_exit|apply p_sq_ret|apply p_sq_exit|apply p_bq_ret|apply p_bq_this|apply p_lq_ret|apply p_lq_exit|apply d_nil|refine p_drw (by decide +kernel) ?_|refine f_op rfl rfl ?_|refine f_opg rfl rfl rfl rfl ?_ ?_|refine f_new rfl rfl rfl rfl ?_|(refine f_end (And.intro ?_ ?_)<;>simp only [List.foldl_nil,List.foldl_cons,recS_mk,AB,AD,Nat.reduceEqDiff,↓reduceIte,Nat.reduceAdd,Nat.reduceMul,Nat.reducePow,Nat.reduceLeDiff,Nat.reduceLT])|apply k_nil|refine k_cons rfl rfl ?_ ?_|apply g_nil|refine g_op0 rfl ?_|refine g_opC rfl ?_|refine p_bq_other (by decide) ?_|refine p_cond rfl ?_ ?_|refine p_op rfl ?_|refine d_op rfl rfl ?_|refine d_eff rfl ?_|refine p_opg rfl rfl rfl ?_ ?_|refine d_opg rfl rfl rfl rfl ?_ ?_|((first|refine p_opgU rfl rfl rfl ?_|refine d_opgU rfl rfl rfl rfl ?_);try simp only [put_some])|(refine fun (K1:St→Prop) hK1=>?_;simp (disch := omega) only [AB,AD,Nat.reduceEqDiff,↓reduceIte,Nat.reduceAdd,Nat.reduceMul,Nat.reducePow,Nat.reduceLeDiff,Nat.reduceLT];(try simp (disch := omega) only [AC]);(try simp only [AM]))|(refine hK1 _ ?_;clear hK1 K1)|refine And.intro (by omega) ?_|apply And.intro|(refine fun (hb:(_:Bool)=_)=>?_;(try simp only [HS] at hb);(try (change True at hb;clear hb));first|(exfalso;first|omega|contradiction)|(try simp only [put_some])))
     · (refine ⟨_,c1,hK1 _ ?_⟩;clear hK1 K1;try simp only [put_some,cN,vI,vB,cR])
       (refine SD ?_;intros)
       refine p_lx _ _ _ _ (i + 1) ?_ ⟨?_, ?_⟩ (Weak.list ⟨int_eq ?_, rfl, rfl, trivial⟩ trivial)
       · omega
       · omega
       · intro k hk
         rcases Nat.lt_or_ge k i with h1 | h1
         · exact hI k h1
         · rw [show k = i by omega]; exact hq
       · omega
     · simp only [res1,res2,res3,AB,AD,Nat.reduceEqDiff,↓reduceIte,Nat.reduceAdd,Nat.reduceMul,Nat.reducePow,Nat.reduceLeDiff,Nat.reduceLT]
       rw [fin (by omega)]
   · have hq' : numsB (a.getD i []) (b.getD i []) = false := by simpa using hq
     rw [hq'] at c1
     repeat'(with_reducible first|apply p_seq|apply p_sq|apply p_reg|apply p_nil|apply p_skip|apply p_block|apply p_bq|apply p_ret|apply p_exit|apply p_sq_ret|apply p_sq_exit|apply p_bq_ret|apply p_bq_this|apply p_lq_ret|apply p_lq_exit|apply d_nil|refine p_drw (by decide +kernel) ?_|refine f_op rfl rfl ?_|refine f_opg rfl rfl rfl rfl ?_ ?_|refine f_new rfl rfl rfl rfl ?_|(refine f_end (And.intro ?_ ?_)<;>simp only [List.foldl_nil,List.foldl_cons,recS_mk,AB,AD,Nat.reduceEqDiff,↓reduceIte,Nat.reduceAdd,Nat.reduceMul,Nat.reducePow,Nat.reduceLeDiff,Nat.reduceLT])|apply k_nil|refine k_cons rfl rfl ?_ ?_|apply g_nil|refine g_op0 rfl ?_|refine g_opC rfl ?_|refine p_bq_other (by decide) ?_|refine p_cond rfl ?_ ?_|refine p_op rfl ?_|refine d_op rfl rfl ?_|refine d_eff rfl ?_|refine p_opg rfl rfl rfl ?_ ?_|refine d_opg rfl rfl rfl rfl ?_ ?_|((first|refine p_opgU rfl rfl rfl ?_|refine d_opgU rfl rfl rfl rfl ?_);try simp only [put_some])|(refine fun (K1:St→Prop) hK1=>?_;simp (disch := omega) only [AB,AD,Nat.reduceEqDiff,↓reduceIte,Nat.reduceAdd,Nat.reduceMul,Nat.reducePow,Nat.reduceLeDiff,Nat.reduceLT];(try simp (disch := omega) only [AC]);(try simp only [AM]))|(refine hK1 _ ?_;clear hK1 K1)|refine And.intro (by omega) ?_|apply And.intro|(refine fun (hb:(_:Bool)=_)=>?_;(try simp only [HS] at hb);(try (change True at hb;clear hb));first|(exfalso;first|omega|contradiction)|(try simp only [put_some])))
     · (refine ⟨_,c1,hK1 _ ?_⟩;clear hK1 K1;try simp only [put_some,cN,vI,vB,cR])
       (refine SD ?_;intros)
       simp only [res1,res2,res3,AB,AD,Nat.reduceEqDiff,↓reduceIte,Nat.reduceAdd,Nat.reduceMul,Nat.reducePow,Nat.reduceLeDiff,Nat.reduceLT]
       have : ((List.range a.length).all fun i => numsB (a.getD i []) (b.getD i [])) = false := by
         rw [List.all_eq_false]
         exact ⟨i, List.mem_range.2 (by omega), hq⟩
       rw [this]
     · simp only [res1,res2,res3,AB,AD,Nat.reduceEqDiff,↓reduceIte,Nat.reduceAdd,Nat.reduceMul,Nat.reducePow,Nat.reduceLeDiff,Nat.reduceLT]
       rw [fin (by omega)]
end Go.Pw
set_option maxRecDepth 100000
set_option linter.unusedVariables false
set_option linter.unusedSimpArgs false
namespace Go.Pw
open Go Go.Proofs
theorem all_getD {α : Type} {p : α → Bool} {l : List α} {d : α} : l.all p = true ↔ ∀ i, i < l.length → p (l.getD i d) = true := by
 rw [List.all_eq_true]
 constructor
 · intro h i hi
   rw [List.getD_eq_getElem?_getD, List.getElem?_eq_getElem hi]
   exact h _ (List.getElem_mem hi)
 · intro h x hx
   obtain ⟨i, hi, rfl⟩ := List.getElem_of_mem hx
   have := h i hi
   rwa [List.getD_eq_getElem?_getD, List.getElem?_eq_getElem hi] at this
end Go.Pw
set_option maxRecDepth 100000
set_option linter.unusedVariables false
set_option linter.unusedSimpArgs false
namespace Go.Pw
open Go Go.Proofs
theorem any_not_all {α : Type} (p : α → Bool) (l : List α) (d : α) : (List.range l.length).any (fun i => !p (l.getD i d)) = !l.all p := by
 rw [Bool.eq_iff_iff, List.any_eq_true, Bool.not_eq_true', ← Bool.not_eq_true, all_getD (d := d)]
 simp
end Go.Pw
