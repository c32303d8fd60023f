/- Merged from the working texts Ma9 Ma6 Mc1 Mc2 Mc3 Ma7 Ma1 Ma8. -/
import Derived.Test.YtkflegdaeienlaaGreatDoorKa24
import Derived.Test.YtkflegdaeienlaaGreatDoorKa38
import Derived.Test.YtkflegdaeienlaaGreatDoorKa37
import Derived.Test.YtkflegdaeienlaaGreatDoorKa25
import Derived.Test.YtkflegdaeienlaaGreatDoorKa23
set_option linter.all false
set_option maxHeartbeats 400000
set_option maxRecDepth 100000
set_option linter.unusedVariables false
set_option linter.unusedSimpArgs false
namespace Go.Pw
open Go Go.Proofs
theorem con_rMatrix (j : List (List Rt)) (c : Int) (h1 : -9223372036854775808 ≤ c) (h2 : c ≤ 9223372036854775807) (h : j.length < 2 ^ 40) (hl : ∀ i, (j.getD i []).length < 2 ^ 40) (hf : ∀ i k, Fit ((j.getD i []).getD k default)) : Con E 36 [cRss j, vI c] (vI (formE j c)) := by
 have cr : ∀ i k, Con E 78 [.agg (cR ((j.getD i []).getD k default))] (vB (isRatB ((j.getD i []).getD k default))) := fun i k => con_rIsRat _ (hf i k).n (hf i k).d (hf i k).nl (hf i k).dl
 unfold formE
 by_cases hb0 : c < 0 ∨ 4096 < c ∨ 4096 < j.length
 · rw [if_pos hb0]
   clear cr hf hl
   refine con_of2 mixed (fn := Tryz.f36) (rs := [.tmp 4]) Tryz.func36 (by kernel_rfl) rfl (by kernel_rfl) rfl rfl ?_
   simp only [argE, Nat.reduceAdd, cRss, vI, vB]
   repeat'(with_reducible first|apply p_seq|apply p_sq|apply p_reg|apply p_nil|apply p_skip|apply p_block|apply p_bq|apply p_ret|apply p_exit|apply p_sq_ret|apply p_sq_exit|apply p_bq_ret|apply p_bq_this|apply p_lq_ret|apply p_lq_exit|apply d_nil|refine p_drw (by decide +kernel) ?_|refine f_op rfl rfl ?_|refine f_opg rfl rfl rfl rfl ?_ ?_|refine f_new rfl rfl rfl rfl ?_|(refine f_end (And.intro ?_ ?_)<;>simp only [List.foldl_nil,List.foldl_cons,recS_mk,AB,AD,AZ,Nat.reduceEqDiff,↓reduceIte,Nat.reduceAdd,Nat.reduceMul,Nat.reducePow,Nat.reduceLeDiff,Nat.reduceLT])|apply k_nil|refine k_cons2 rfl rfl ?_ ?_|(refine fun (K1:SV→Prop) hK1=>?_;simp (disch := omega) only [AB,AD,AZ,Nat.reduceEqDiff,↓reduceIte,Nat.reduceAdd,Nat.reduceMul,Nat.reducePow,Nat.reduceLeDiff,Nat.reduceLT];with_unfolding_all exact hK1)|(with_unfolding_all exact (rfl : true = true))|(with_unfolding_all exact (rfl : (0:Nat) = 0))|apply g_nil|refine g_op0 rfl ?_|refine g_opC rfl ?_|refine p_bq_other (by decide) ?_|refine p_cond rfl ?_ ?_|refine p_op rfl ?_|refine d_op rfl rfl ?_|refine d_eff rfl ?_|refine p_opg rfl rfl rfl ?_ ?_|refine d_opg rfl rfl rfl rfl ?_ ?_|((first|refine p_opgU rfl rfl rfl ?_|refine d_opgU rfl rfl rfl rfl ?_);try simp only [put_some])|(refine fun (K1:St→Prop) hK1=>?_;simp (disch := omega) only [AB,AD,AZ,Nat.reduceEqDiff,↓reduceIte,Nat.reduceAdd,Nat.reduceMul,Nat.reducePow,Nat.reduceLeDiff,Nat.reduceLT];(try simp (disch := omega) only [AC]);(try simp only [AM]))|(refine hK1 _ ?_;clear hK1 K1)|refine And.intro (by omega) ?_|apply And.intro|(refine fun (hb:(_:Bool)=_)=>?_;(try simp only [HS] at hb);(try (change True at hb;clear hb));first|(exfalso;first|omega|contradiction)|(try simp only [put_some])))
   all_goals first | (exfalso; omega) | simp only [res1,res2,res3,AB,AD,AZ,Nat.reduceEqDiff,↓reduceIte,Nat.reduceAdd,Nat.reduceMul,Nat.reducePow,Nat.reduceLeDiff,Nat.reduceLT]
 · rw [if_neg hb0]
   obtain ⟨m, rfl⟩ : ∃ m : Nat, c = m := ⟨c.toNat, by omega⟩
   refine con_of2 mixed (fn := Tryz.f36) (rs := [.tmp 4]) Tryz.func36 (by kernel_rfl) rfl (by kernel_rfl) rfl rfl ?_
   simp only [argE, Nat.reduceAdd, cRss, vI, vB]
   (refine SZ ?_;intros)
   refine p_loopx (fun (i : Nat) => [(5, .sh (vI i)), (0, .sh (cRss j)), (1, .sh (vI m))]) (fun i => []) (fun i => j.length - i) (fun i => i ≤ j.length ∧ ∀ k, k < i → (j.getD k []).length = m) 0 (Weak.list ⟨rfl, rfl, rfl, trivial⟩ trivial) ⟨Nat.zero_le _, fun k hk => by omega⟩ ?_
   rintro i ⟨hi, hI⟩
   have hli := hl i
   have bad : i < j.length → (j.getD i []).length ≠ m → badW j m = true := fun e hb => List.any_eq_true.2 ⟨i, List.mem_range.2 e, decide_eq_true (by omega)⟩
   have step : (j.getD i []).length = m → ∀ k, k < i + 1 → (j.getD k []).length = m := fun e k hk => by
     rcases Nat.lt_or_ge k i with h1 | h1
     · exact hI k h1
     · rw [show k = i by omega]; exact e
   have good : i = j.length → badW j m = false := fun e => List.any_eq_false.2 fun k hk => by
     have := hI k (by have := List.mem_range.1 hk; omega)
     simp only [decide_eq_true_eq]; omega
   have row : i = j.length → ∀ k, k < j.length → (j.getD k []).length = m := fun e k hk => hI k (by omega)
   simp only [cRss, vI, vB] at *
   clear hI hl hf
   repeat'(with_reducible first|apply p_seq|apply p_sq|apply p_reg|apply p_nil|apply p_skip|apply p_block|apply p_bq|apply p_ret|apply p_exit|apply p_sq_ret|apply p_sq_exit|apply p_bq_ret|apply p_bq_this|apply p_lq_ret|apply p_lq_exit|apply d_nil|refine p_drw (by decide +kernel) ?_|refine f_op rfl rfl ?_|refine f_opg rfl rfl rfl rfl ?_ ?_|refine f_new rfl rfl rfl rfl ?_|(refine f_end (And.intro ?_ ?_)<;>simp only [List.foldl_nil,List.foldl_cons,recS_mk,AB,AD,AZ,Nat.reduceEqDiff,↓reduceIte,Nat.reduceAdd,Nat.reduceMul,Nat.reducePow,Nat.reduceLeDiff,Nat.reduceLT])|apply k_nil|refine k_cons2 rfl rfl ?_ ?_|(refine fun (K1:SV→Prop) hK1=>?_;simp (disch := omega) only [AB,AD,AZ,Nat.reduceEqDiff,↓reduceIte,Nat.reduceAdd,Nat.reduceMul,Nat.reducePow,Nat.reduceLeDiff,Nat.reduceLT];with_unfolding_all exact hK1)|(with_unfolding_all exact (rfl : true = true))|(with_unfolding_all exact (rfl : (0:Nat) = 0))|apply g_nil|refine g_op0 rfl ?_|refine g_opC rfl ?_|refine p_bq_other (by decide) ?_|refine p_cond rfl ?_ ?_|refine p_op rfl ?_|refine d_op rfl rfl ?_|refine d_eff rfl ?_|refine p_opg rfl rfl rfl ?_ ?_|refine d_opg rfl rfl rfl rfl ?_ ?_|((first|refine p_opgU rfl rfl rfl ?_|refine d_opgU rfl rfl rfl rfl ?_);try simp only [put_some])|(refine fun (K1:St→Prop) hK1=>?_;simp (disch := omega) only [AB,AD,AZ,Nat.reduceEqDiff,↓reduceIte,Nat.reduceAdd,Nat.reduceMul,Nat.reducePow,Nat.reduceLeDiff,Nat.reduceLT];(try simp (disch := omega) only [AC]);(try simp only [AM]))|(refine hK1 _ ?_;clear hK1 K1)|refine And.intro (by omega) ?_|apply And.intro|(refine fun (hb:(_:Bool)=_)=>?_;(try simp only [HS] at hb);(try (change True at hb;clear hb));first|(exfalso;first|omega|contradiction)|(try simp only [put_some])))
   · rw [if_pos (bad (by omega) (by omega))]
     simp only [res1,res2,res3,AB,AD,AZ,Nat.reduceEqDiff,↓reduceIte,Nat.reduceAdd,Nat.reduceMul,Nat.reducePow,Nat.reduceLeDiff,Nat.reduceLT]
   · exact p_lx _ _ _ _ (i + 1) (by omega) ⟨by omega, step (by omega)⟩ (Weak.list ⟨int_eq (by omega), rfl, rfl, trivial⟩ trivial)
   · have row := row (by omega)
     rw [good (by omega), if_neg (by decide)]
     clear step bad good hli hi
     refine p_loopx (fun (i : Nat) => [(6, .sh (vI i)), (0, .sh (cRss j)), (1, .sh (vI m))]) (fun i => []) (fun i => j.length - i) (fun i => i ≤ j.length ∧ ∀ k, k < i → (j.getD k []).all isRatB = true) 0 (Weak.list ⟨rfl, rfl, rfl, trivial⟩ trivial) ⟨Nat.zero_le _, fun k hk => by omega⟩ ?_
     rintro i ⟨hi, hI⟩
     have rowi := row i
     have fin : i = j.length → (if (List.range j.length).all (fun i => (j.getD i []).all isRatB) = true then (0 : Int) else 5) = 0 := fun e => if_pos (List.all_eq_true.2 fun k hk => hI k (by have := List.mem_range.1 hk; omega))
     have bad : ∀ k, i < j.length → k < (j.getD i []).length → isRatB ((j.getD i []).getD k default) = false → (if (List.range j.length).all (fun i => (j.getD i []).all isRatB) = true then (0 : Int) else 5) = 5 := fun k e hk hb => if_neg fun ha => by
       have := (all_getD (d := default)).1 (List.all_eq_true.1 ha i (List.mem_range.2 e)) k hk
       rw [hb] at this; cases this
     have step : (j.getD i []).all isRatB = true → ∀ k, k < i + 1 → (j.getD k []).all isRatB = true := fun e k hk => by
       rcases Nat.lt_or_ge k i with h1 | h1
       · exact hI k h1
       · rw [show k = i by omega]; exact e
     have cri := cr i
     simp only [cRss, vI, vB] at *
     clear hI cr row
     (refine WZ ?_ ?_<;>intros<;>first|rename_i hb K1 hK1|rename_i K1 hK1|skip)
     · refine p_loopx (fun (k : Nat) => [(7, .sh (vI k)), (6, .sh (vI i)), (0, .sh (cRss j)), (1, .sh (vI m))]) (fun k => []) (fun k => m - k) (fun k => k ≤ m ∧ ∀ t, t < k → isRatB ((j.getD i []).getD t default) = true) 0 (Weak.list ⟨rfl, rfl, rfl, rfl, trivial⟩ trivial) ⟨Nat.zero_le _, fun k hk => by omega⟩ ?_
       rintro k ⟨hk, hJ⟩
       have crk := cri k
       have badk := bad k
       have stp : isRatB ((j.getD i []).getD k default) = true → ∀ t, t < k + 1 → isRatB ((j.getD i []).getD t default) = true := fun e t ht => by
         rcases Nat.lt_or_ge t k with h1 | h1
         · exact hJ t h1
         · rw [show t = k by omega]; exact e
       have fi : k = m → i < j.length → (j.getD i []).all isRatB = true := fun e h1 => all_getD.2 fun t ht => hJ t (by have := rowi h1; omega)
       simp only [cRss, vI, vB] at *
       clear hJ bad cri
       have hrow := rowi (by omega)
       cases hr : isRatB ((j.getD i []).getD k default) <;> rw [hr] at crk
       · repeat'(with_reducible first|apply p_seq|apply p_sq|apply p_reg|apply p_nil|apply p_skip|apply p_block|apply p_bq|apply p_ret|apply p_exit|apply p_sq_ret|apply p_sq_exit|apply p_bq_ret|apply p_bq_this|apply p_lq_ret|apply p_lq_exit|apply d_nil|refine p_drw (by decide +kernel) ?_|refine f_op rfl rfl ?_|refine f_opg rfl rfl rfl rfl ?_ ?_|refine f_new rfl rfl rfl rfl ?_|(refine f_end (And.intro ?_ ?_)<;>simp only [List.foldl_nil,List.foldl_cons,recS_mk,AB,AD,AZ,Nat.reduceEqDiff,↓reduceIte,Nat.reduceAdd,Nat.reduceMul,Nat.reducePow,Nat.reduceLeDiff,Nat.reduceLT])|apply k_nil|refine k_cons2 rfl rfl ?_ ?_|(refine fun (K1:SV→Prop) hK1=>?_;simp (disch := omega) only [AB,AD,AZ,Nat.reduceEqDiff,↓reduceIte,Nat.reduceAdd,Nat.reduceMul,Nat.reducePow,Nat.reduceLeDiff,Nat.reduceLT];with_unfolding_all exact hK1)|(with_unfolding_all exact (rfl : true = true))|(with_unfolding_all exact (rfl : (0:Nat) = 0))|apply g_nil|refine g_op0 rfl ?_|refine g_opC rfl ?_|refine p_bq_other (by decide) ?_|refine p_cond rfl ?_ ?_|refine p_op rfl ?_|refine d_op rfl rfl ?_|refine d_eff rfl ?_|refine p_opg rfl rfl rfl ?_ ?_|refine d_opg rfl rfl rfl rfl ?_ ?_|((first|refine p_opgU rfl rfl rfl ?_|refine d_opgU rfl rfl rfl rfl ?_);try simp only [put_some])|(refine fun (K1:St→Prop) hK1=>?_;simp (disch := omega) only [AB,AD,AZ,Nat.reduceEqDiff,↓reduceIte,Nat.reduceAdd,Nat.reduceMul,Nat.reducePow,Nat.reduceLeDiff,Nat.reduceLT];(try simp (disch := omega) only [AC]);(try simp only [AM]))|(refine hK1 _ ?_;clear hK1 K1)|refine And.intro (by omega) ?_|apply And.intro|(refine fun (hb:(_:Bool)=_)=>?_;(try simp only [HS] at hb);(try (change True at hb;clear hb));first|(exfalso;first|omega|contradiction)|(try simp only [put_some])))
         · (refine ⟨_,crk,hK1 _ ?_⟩;clear hK1 K1;try simp only [put_some,cN,vI,vB,cR])
           repeat'(with_reducible first|apply p_seq|apply p_sq|apply p_reg|apply p_nil|apply p_skip|apply p_block|apply p_bq|apply p_ret|apply p_exit|apply p_sq_ret|apply p_sq_exit|apply p_bq_ret|apply p_bq_this|apply p_lq_ret|apply p_lq_exit|apply d_nil|refine p_drw (by decide +kernel) ?_|refine f_op rfl rfl ?_|refine f_opg rfl rfl rfl rfl ?_ ?_|refine f_new rfl rfl rfl rfl ?_|(refine f_end (And.intro ?_ ?_)<;>simp only [List.foldl_nil,List.foldl_cons,recS_mk,AB,AD,AZ,Nat.reduceEqDiff,↓reduceIte,Nat.reduceAdd,Nat.reduceMul,Nat.reducePow,Nat.reduceLeDiff,Nat.reduceLT])|apply k_nil|refine k_cons2 rfl rfl ?_ ?_|(refine fun (K1:SV→Prop) hK1=>?_;simp (disch := omega) only [AB,AD,AZ,Nat.reduceEqDiff,↓reduceIte,Nat.reduceAdd,Nat.reduceMul,Nat.reducePow,Nat.reduceLeDiff,Nat.reduceLT];with_unfolding_all exact hK1)|(with_unfolding_all exact (rfl : true = true))|(with_unfolding_all exact (rfl : (0:Nat) = 0))|apply g_nil|refine g_op0 rfl ?_|refine g_opC rfl ?_|refine p_bq_other (by decide) ?_|refine p_cond rfl ?_ ?_|refine p_op rfl ?_|refine d_op rfl rfl ?_|refine d_eff rfl ?_|refine p_opg rfl rfl rfl ?_ ?_|refine d_opg rfl rfl rfl rfl ?_ ?_|((first|refine p_opgU rfl rfl rfl ?_|refine d_opgU rfl rfl rfl rfl ?_);try simp only [put_some])|(refine fun (K1:St→Prop) hK1=>?_;simp (disch := omega) only [AB,AD,AZ,Nat.reduceEqDiff,↓reduceIte,Nat.reduceAdd,Nat.reduceMul,Nat.reducePow,Nat.reduceLeDiff,Nat.reduceLT];(try simp (disch := omega) only [AC]);(try simp only [AM]))|(refine hK1 _ ?_;clear hK1 K1)|refine And.intro (by omega) ?_|apply And.intro|(refine fun (hb:(_:Bool)=_)=>?_;(try simp only [HS] at hb);(try (change True at hb;clear hb));first|(exfalso;first|omega|contradiction)|(try simp only [put_some])))
           rw [badk (by omega) (by omega) hr]
           simp only [res1,res2,res3,AB,AD,AZ,Nat.reduceEqDiff,↓reduceIte,Nat.reduceAdd,Nat.reduceMul,Nat.reducePow,Nat.reduceLeDiff,Nat.reduceLT]
         · exact p_lx _ _ _ _ (i + 1) (by omega) ⟨by omega, step (fi (by omega) (by omega))⟩ (Weak.list ⟨int_eq (by omega), rfl, rfl, trivial⟩ trivial)
       · repeat'(with_reducible first|apply p_seq|apply p_sq|apply p_reg|apply p_nil|apply p_skip|apply p_block|apply p_bq|apply p_ret|apply p_exit|apply p_sq_ret|apply p_sq_exit|apply p_bq_ret|apply p_bq_this|apply p_lq_ret|apply p_lq_exit|apply d_nil|refine p_drw (by decide +kernel) ?_|refine f_op rfl rfl ?_|refine f_opg rfl rfl rfl rfl ?_ ?_|refine f_new rfl rfl rfl rfl ?_|(refine f_end (And.intro ?_ ?_)<;>simp only [List.foldl_nil,List.foldl_cons,recS_mk,AB,AD,AZ,Nat.reduceEqDiff,↓reduceIte,Nat.reduceAdd,Nat.reduceMul,Nat.reducePow,Nat.reduceLeDiff,Nat.reduceLT])|apply k_nil|refine k_cons2 rfl rfl ?_ ?_|(refine fun (K1:SV→Prop) hK1=>?_;simp (disch := omega) only [AB,AD,AZ,Nat.reduceEqDiff,↓reduceIte,Nat.reduceAdd,Nat.reduceMul,Nat.reducePow,Nat.reduceLeDiff,Nat.reduceLT];with_unfolding_all exact hK1)|(with_unfolding_all exact (rfl : true = true))|(with_unfolding_all exact (rfl : (0:Nat) = 0))|apply g_nil|refine g_op0 rfl ?_|refine g_opC rfl ?_|refine p_bq_other (by decide) ?_|refine p_cond rfl ?_ ?_|refine p_op rfl ?_|refine d_op rfl rfl ?_|refine d_eff rfl ?_|refine p_opg rfl rfl rfl ?_ ?_|refine d_opg rfl rfl rfl rfl ?_ ?_|((first|refine p_opgU rfl rfl rfl ?_|refine d_opgU rfl rfl rfl rfl ?_);try simp only [put_some])|(refine fun (K1:St→Prop) hK1=>?_;simp (disch := omega) only [AB,AD,AZ,Nat.reduceEqDiff,↓reduceIte,Nat.reduceAdd,Nat.reduceMul,Nat.reducePow,Nat.reduceLeDiff,Nat.reduceLT];(try simp (disch := omega) only [AC]);(try simp only [AM]))|(refine hK1 _ ?_;clear hK1 K1)|refine And.intro (by omega) ?_|apply And.intro|(refine fun (hb:(_:Bool)=_)=>?_;(try simp only [HS] at hb);(try (change True at hb;clear hb));first|(exfalso;first|omega|contradiction)|(try simp only [put_some])))
         · (refine ⟨_,crk,hK1 _ ?_⟩;clear hK1 K1;try simp only [put_some,cN,vI,vB,cR])
           repeat'(with_reducible first|apply p_seq|apply p_sq|apply p_reg|apply p_nil|apply p_skip|apply p_block|apply p_bq|apply p_ret|apply p_exit|apply p_sq_ret|apply p_sq_exit|apply p_bq_ret|apply p_bq_this|apply p_lq_ret|apply p_lq_exit|apply d_nil|refine p_drw (by decide +kernel) ?_|refine f_op rfl rfl ?_|refine f_opg rfl rfl rfl rfl ?_ ?_|refine f_new rfl rfl rfl rfl ?_|(refine f_end (And.intro ?_ ?_)<;>simp only [List.foldl_nil,List.foldl_cons,recS_mk,AB,AD,AZ,Nat.reduceEqDiff,↓reduceIte,Nat.reduceAdd,Nat.reduceMul,Nat.reducePow,Nat.reduceLeDiff,Nat.reduceLT])|apply k_nil|refine k_cons2 rfl rfl ?_ ?_|(refine fun (K1:SV→Prop) hK1=>?_;simp (disch := omega) only [AB,AD,AZ,Nat.reduceEqDiff,↓reduceIte,Nat.reduceAdd,Nat.reduceMul,Nat.reducePow,Nat.reduceLeDiff,Nat.reduceLT];with_unfolding_all exact hK1)|(with_unfolding_all exact (rfl : true = true))|(with_unfolding_all exact (rfl : (0:Nat) = 0))|apply g_nil|refine g_op0 rfl ?_|refine g_opC rfl ?_|refine p_bq_other (by decide) ?_|refine p_cond rfl ?_ ?_|refine p_op rfl ?_|refine d_op rfl rfl ?_|refine d_eff rfl ?_|refine p_opg rfl rfl rfl ?_ ?_|refine d_opg rfl rfl rfl rfl ?_ ?_|((first|refine p_opgU rfl rfl rfl ?_|refine d_opgU rfl rfl rfl rfl ?_);try simp only [put_some])|(refine fun (K1:St→Prop) hK1=>?_;simp (disch := omega) only [AB,AD,AZ,Nat.reduceEqDiff,↓reduceIte,Nat.reduceAdd,Nat.reduceMul,Nat.reducePow,Nat.reduceLeDiff,Nat.reduceLT];(try simp (disch := omega) only [AC]);(try simp only [AM]))|(refine hK1 _ ?_;clear hK1 K1)|refine And.intro (by omega) ?_|apply And.intro|(refine fun (hb:(_:Bool)=_)=>?_;(try simp only [HS] at hb);(try (change True at hb;clear hb));first|(exfalso;first|omega|contradiction)|(try simp only [put_some])))
           exact p_lx _ _ _ _ (k + 1) (by omega) ⟨by omega, stp hr⟩ (Weak.list ⟨int_eq (by omega), rfl, rfl, rfl, trivial⟩ trivial)
         · exact p_lx _ _ _ _ (i + 1) (by omega) ⟨by omega, step (fi (by omega) (by omega))⟩ (Weak.list ⟨int_eq (by omega), rfl, rfl, trivial⟩ trivial)
     · rw [fin (by omega)]
       simp only [res1,res2,res3,AB,AD,AZ,Nat.reduceEqDiff,↓reduceIte,Nat.reduceAdd,Nat.reduceMul,Nat.reducePow,Nat.reduceLeDiff,Nat.reduceLT]
end Go.Pw
set_option maxRecDepth 100000
set_option linter.unusedVariables false
set_option linter.unusedSimpArgs false
namespace Go.Pw
open Go Go.Proofs
theorem getD_map' {α β : Type} (f : α → β) (l : List α) (t : Nat) (d : β) (d' : α) (h : t < l.length) : (l.map f).getD t d = f (l.getD t d') := by
 rw [List.getD_eq_getElem?_getD, List.getElem?_map, List.getD_eq_getElem?_getD, List.getElem?_eq_getElem h]; rfl
def prow (a b : List (List Rt)) (i k : Nat) : List Rt := (List.range k).map fun k => rdot (a.getD i []) (b.map fun s => s.getD k default) (a.getD i []).length
def rprod (a b : List (List Rt)) (m n : Nat) : List (List Rt) := (List.range n).map fun i => prow a b i m
theorem con_rProduct (a b : List (List Rt)) (m : Nat) (h : a.length < 2 ^ 30) (hbn : b.length < 2 ^ 30) (hm : m < 2 ^ 30) (hl : ∀ i, i < a.length → (a.getD i []).length = b.length) (hbl : ∀ i, i < b.length → (b.getD i []).length = m)
   (ha : ∀ i, i < a.length → ∀ k, k < b.length → isRat ((a.getD i []).getD k default)) (hbr : ∀ i, i < b.length → ∀ k, k < m → isRat ((b.getD i []).getD k default)) : Con E 37 [cRss a, cRss b, vI m] (cRss (rprod a b m a.length)) := by
 refine con_of2 mixed (fn := Tryz.f37) (rs := [.tmp 6]) Tryz.func37 (by kernel_rfl) rfl (by kernel_rfl) rfl rfl ?_
 simp only [argE, Nat.reduceAdd, cRss, vI, vB]
 (refine SZ ?_;intros)
 refine p_loopx (fun (i : Nat) => [(8, .sh (vI i)), (0, .sh (cRss a)), (1, .sh (cRss b)), (2, .sh (vI m)), (7, .row 36)]) (fun i => [(36, some (.rw 26 1 (SR ((rprod a b m i).map fun r => [cRs r]))))]) (fun i => a.length - i) (fun i => i ≤ a.length) 0 (Weak.adoptS 36 7 26 1 (by decide) (by decide) rfl ⟨rfl, rfl, rfl, rfl, rfl, trivial⟩ ⟨rfl, trivial⟩) (Nat.zero_le _) ?_
 intro i hi
 simp only [cRss, vI] at *
 have hlen : (rprod a b m i).length = i := by simp [rprod]
 repeat'(with_reducible first|apply p_seq|apply p_sq|apply p_reg|apply p_nil|apply p_skip|apply p_block|apply p_bq|apply p_ret|apply p_exit|apply p_sq_ret|apply p_sq_exit|apply p_bq_ret|apply p_bq_this|apply p_lq_ret|apply p_lq_exit|apply d_nil|refine p_drw (by decide +kernel) ?_|refine f_op rfl rfl ?_|refine f_opg rfl rfl rfl rfl ?_ ?_|refine f_new rfl rfl rfl rfl ?_|(refine f_end (And.intro ?_ ?_)<;>simp only [List.foldl_nil,List.foldl_cons,recS_mk,AB,AD,AZ,Nat.reduceEqDiff,↓reduceIte,Nat.reduceAdd,Nat.reduceMul,Nat.reducePow,Nat.reduceLeDiff,Nat.reduceLT])|apply k_nil|refine k_cons2 rfl rfl ?_ ?_|(refine fun (K1:SV→Prop) hK1=>?_;simp (disch := omega) only [AB,AD,AZ,Nat.reduceEqDiff,↓reduceIte,Nat.reduceAdd,Nat.reduceMul,Nat.reducePow,Nat.reduceLeDiff,Nat.reduceLT];with_unfolding_all exact hK1)|(with_unfolding_all exact (rfl : true = true))|(with_unfolding_all exact (rfl : (0:Nat) = 0))|apply g_nil|refine g_op0 rfl ?_|refine g_opC rfl ?_|refine p_bq_other (by decide) ?_|refine p_cond rfl ?_ ?_|refine p_op rfl ?_|refine d_op rfl rfl ?_|refine d_eff rfl ?_|refine p_opg rfl rfl rfl ?_ ?_|refine d_opg rfl rfl rfl rfl ?_ ?_|((first|refine p_opgU rfl rfl rfl ?_|refine d_opgU rfl rfl rfl rfl ?_);try simp only [put_some])|(refine fun (K1:St→Prop) hK1=>?_;simp (disch := omega) only [AB,AD,AZ,Nat.reduceEqDiff,↓reduceIte,Nat.reduceAdd,Nat.reduceMul,Nat.reducePow,Nat.reduceLeDiff,Nat.reduceLT];(try simp (disch := omega) only [AC]);(try simp only [AM]))|(refine hK1 _ ?_;clear hK1 K1)|refine And.intro (by omega) ?_|apply And.intro|(refine fun (hb:(_:Bool)=_)=>?_;(try simp only [HS] at hb);(try (change True at hb;clear hb));first|(exfalso;first|omega|contradiction)|(try simp only [put_some])))
 · refine p_loopx (fun (k : Nat) => [(10, .sh (vI k)), (8, .sh (vI i)), (0, .sh (cRss a)), (1, .sh (cRss b)), (2, .sh (vI m)), (7, .row 36), (9, .row 32)]) (fun k => [(36, some (.rw 26 1 (SR ((rprod a b m i).map fun r => [cRs r])))), (32, some (.rw 80 4 (SR ((prow a b i k).map cR))))]) (fun k => m - k) (fun k => k ≤ m) 0 (Weak.adoptS 32 9 80 4 (by decide) (by decide) rfl ⟨rfl, rfl, rfl, rfl, rfl, rfl, rfl, trivial⟩ ⟨by simp only [AB,AD,AZ,Nat.reduceEqDiff,↓reduceIte,Nat.reduceAdd,Nat.reduceMul,Nat.reducePow,Nat.reduceLeDiff,Nat.reduceLT], rfl, trivial⟩) (Nat.zero_le _) ?_
   intro k hk
   simp only [cRss, vI] at *
   have hlk : (prow a b i k).length = k := by simp [prow]
   repeat'(with_reducible first|apply p_seq|apply p_sq|apply p_reg|apply p_nil|apply p_skip|apply p_block|apply p_bq|apply p_ret|apply p_exit|apply p_sq_ret|apply p_sq_exit|apply p_bq_ret|apply p_bq_this|apply p_lq_ret|apply p_lq_exit|apply d_nil|refine p_drw (by decide +kernel) ?_|refine f_op rfl rfl ?_|refine f_opg rfl rfl rfl rfl ?_ ?_|refine f_new rfl rfl rfl rfl ?_|(refine f_end (And.intro ?_ ?_)<;>simp only [List.foldl_nil,List.foldl_cons,recS_mk,AB,AD,AZ,Nat.reduceEqDiff,↓reduceIte,Nat.reduceAdd,Nat.reduceMul,Nat.reducePow,Nat.reduceLeDiff,Nat.reduceLT])|apply k_nil|refine k_cons2 rfl rfl ?_ ?_|(refine fun (K1:SV→Prop) hK1=>?_;simp (disch := omega) only [AB,AD,AZ,Nat.reduceEqDiff,↓reduceIte,Nat.reduceAdd,Nat.reduceMul,Nat.reducePow,Nat.reduceLeDiff,Nat.reduceLT];with_unfolding_all exact hK1)|(with_unfolding_all exact (rfl : true = true))|(with_unfolding_all exact (rfl : (0:Nat) = 0))|apply g_nil|refine g_op0 rfl ?_|refine g_opC rfl ?_|refine p_bq_other (by decide) ?_|refine p_cond rfl ?_ ?_|refine p_op rfl ?_|refine d_op rfl rfl ?_|refine d_eff rfl ?_|refine p_opg rfl rfl rfl ?_ ?_|refine d_opg rfl rfl rfl rfl ?_ ?_|((first|refine p_opgU rfl rfl rfl ?_|refine d_opgU rfl rfl rfl rfl ?_);try simp only [put_some])|(refine fun (K1:St→Prop) hK1=>?_;simp (disch := omega) only [AB,AD,AZ,Nat.reduceEqDiff,↓reduceIte,Nat.reduceAdd,Nat.reduceMul,Nat.reducePow,Nat.reduceLeDiff,Nat.reduceLT];(try simp (disch := omega) only [AC]);(try simp only [AM]))|(refine hK1 _ ?_;clear hK1 K1)|refine And.intro (by omega) ?_|apply And.intro|(refine fun (hb:(_:Bool)=_)=>?_;(try simp only [HS] at hb);(try (change True at hb;clear hb));first|(exfalso;first|omega|contradiction)|(try simp only [put_some])))
   · have cc := con_Column b k hbn (fun t ht => by have := hbl t ht; omega)
     have cd := con_rdot (a.getD i []) (b.map fun s => s.getD k default) (by have := hl i (by omega); omega) (by have := hl i (by omega); rw [List.length_map]; omega) (fun t ht => ha i (by omega) t (by have := hl i (by omega); omega)) (fun t ht => by
       have h1 := hl i (by omega)
       have h2 : t < b.length := by omega
       rw [getD_map' (fun s : List Rt => s.getD k default) b t default [] h2]
       exact hbr t h2 k (by omega))
     simp only [cRss, cRs, vI] at cc cd
     refine p_drw2 (10) [] [[], []] (by kernel_rfl) ?_
     (refine SZ ?_;intros;first|rename_i hb K1 hK1|rename_i K1 hK1|skip)
     · (refine ⟨_,cc,hK1 _ ?_⟩;clear hK1 K1;try simp only [put_some,cN,vI,vB,cR])
       (refine SZ ?_;intros;rename_i K1 hK1)
       (refine ⟨_,cd,hK1 _ ?_⟩;clear hK1 K1;try simp only [put_some,cN,vI,vB,cR])
       (refine SZ ?_;intros)
       refine p_lx _ _ _ _ (k + 1) ?_ ?_ (Weak.list ⟨int_eq ?_, rfl, rfl, rfl, rfl, rfl, rfl, trivial⟩ ⟨rfl, ?_, trivial⟩)
       · omega
       · omega
       · omega
       · rw [show (prow a b i (k + 1)).map cR = (prow a b i k).map cR ++ [cR (rdot (a.getD i []) (b.map fun s => s.getD k default) (a.getD i []).length)] from mapr_succ _ _ k]
         rfl
   · have e : k = m := by omega
     subst e
     refine p_lx _ _ _ _ (i + 1) ?_ ?_ (Weak.list ⟨int_eq ?_, rfl, rfl, rfl, rfl, trivial⟩ ⟨?_, trivial⟩)
     · omega
     · omega
     · omega
     · rw [show (rprod a b k (i + 1)).map (fun r => [cRs r]) = (rprod a b k i).map (fun r => [cRs r]) ++ [[cRs (prow a b i k)]] from mapr_succ _ _ i]
       rfl
 · have e : i = a.length := by omega
   subst e
   simp (disch := omega) only [res1,res2,res3,AB,AD,AZ,Nat.reduceEqDiff,↓reduceIte,Nat.reduceAdd,Nat.reduceMul,Nat.reducePow,Nat.reduceLeDiff,Nat.reduceLT]
end Go.Pw
set_option maxRecDepth 100000
set_option linter.unusedVariables false
set_option linter.unusedSimpArgs false
namespace Go.Pw
open Go Go.Proofs
end Go.Pw
set_option maxRecDepth 100000
set_option linter.unusedVariables false
set_option linter.unusedSimpArgs false
namespace Go.Pw
open Go Go.Proofs
structure RFit (x : Rt) : Prop where
 n : dok x.num
 d : dok x.den
 nl : x.num.length < 2 ^ 46
 dl : x.den.length < 2 ^ 46
end Go.Pw
set_option maxRecDepth 100000
set_option linter.unusedVariables false
set_option linter.unusedSimpArgs false
namespace Go.Pw
open Go Go.Proofs
structure MOk (j : List (List Rt)) : Prop where
 l : j.length < 2 ^ 46
 r : ∀ i, (j.getD i []).length < 2 ^ 46
 x : ∀ i k, RFit ((j.getD i []).getD k default)
theorem MOk.fit {j : List (List Rt)} (h : MOk j) : MFit j := ⟨h.l, h.r, fun i k => (h.x i k).nl, fun i k => (h.x i k).dl⟩
theorem fit_default : Fit (default : Rt) := ⟨dok_nil, dok_nil, by decide, by decide⟩
theorem rfit_default : RFit (default : Rt) := ⟨dok_nil, dok_nil, by decide, by decide⟩
theorem fit_cutR {x : Rt} (h : RFit x) {k : Nat} (hk : k ≤ 130) : Fit (cutR x k) := by
 refine ⟨fun d hd => h.n d (List.mem_of_mem_take hd), fun d hd => h.d d (List.mem_of_mem_take hd), ?_, ?_⟩ <;> simp only [cutR, List.length_take] <;> omega
theorem getD_rmap {α : Type} (f : Nat → α) (n i : Nat) (d : α) : ((List.range n).map f).getD i d = if i < n then f i else d := by
 rw [List.getD_eq_getElem?_getD, List.getElem?_map]
 by_cases h : i < n
 · rw [List.getElem?_range h, if_pos h]; rfl
 · rw [List.getElem?_eq_none (by simp; omega), if_neg h]; rfl
theorem fit_cutRs {l : List Rt} (h : ∀ k, RFit (l.getD k default)) (d : Int) (n k : Nat) : Fit ((cutRs l d n).getD k default) := by
 unfold cutRs
 rw [getD_rmap]
 split
 · exact fit_cutR (h k) (cutN_le _)
 · exact fit_default
theorem cutM_len (j : List (List Rt)) (c n : Nat) : (cutM j c n).length = n := by simp [cutM]
theorem cutM_row (j : List (List Rt)) (c n i : Nat) : ((cutM j c n).getD i []).length ≤ c := by
 unfold cutM
 rw [getD_rmap]
 split
 · simp only [cutRs, List.length_map, List.length_range]; omega
 · exact Nat.zero_le _
theorem fit_cutM {j : List (List Rt)} (h : MOk j) (c n i k : Nat) : Fit (((cutM j c n).getD i []).getD k default) := by
 unfold cutM
 rw [getD_rmap]
 split
 · exact fit_cutRs (h.x i) 60 _ k
 · exact fit_default
theorem reqB_self {x : Rt} : reqB x x = true := by
 unfold reqB; simp
theorem numsB_self (l : List Rt) : numsB l l = true := by
 unfold numsB
 simp only [decide_true, Bool.true_and, List.all_eq_true]
 exact fun i _ => reqB_self
theorem fdot_rdot (a b : List Rt) (f g : Nat → Rt) (n : Nat) (hf : ∀ i, i < n → f i = a.getD i default) (hg : ∀ i, i < n → g i = b.getD i default) : fdot f g n = rdot a b n := by
 induction n with
 | zero => rfl
 | succ n ih =>
   rw [fdot_succ, ih (fun i hi => hf i (by omega)) (fun i hi => hg i (by omega)), hf n (by omega), hg n (by omega)]
   unfold rdot
   rw [List.range_succ, List.foldl_append]; rfl
theorem isRat_fdot {f g : Nat → Rt} {n : Nat} (hf : ∀ i, i < n → isRat (f i)) (hg : ∀ i, i < n → isRat (g i)) : isRat (fdot f g n) := by
 induction n with
 | zero => exact (isRat_nrat _ _ _ : isRat (rof 0 1))
 | succ n ih =>
   rw [fdot_succ]
   exact isRat_radd _ _ (ih (fun i hi => hf i (by omega)) (fun i hi => hg i (by omega))) (isRat_rmul _ _ (hf n (by omega)) (hg n (by omega)))
theorem prod_same (a b : List (List Rt)) (m : Nat) (hl : ∀ i, i < a.length → (a.getD i []).length = b.length) : sprod a b m a.length = rprod a b m a.length := by
 unfold sprod rprod
 apply List.map_congr_left
 intro i hi
 have hi := List.mem_range.1 hi
 unfold sprow prow
 apply List.map_congr_left
 intro k _
 rw [hl i hi]
 refine fdot_rdot _ _ _ _ _ (fun t _ => rfl) (fun t ht => ?_)
 rw [getD_map' (fun s : List Rt => s.getD k default) b t default [] ht]
theorem law_products (hal : Con E 17 [] (vB true)) (A B : List (List Rt)) (c : Int) (h1 : -9223372036854775808 ≤ c) (h2 : c ≤ 9223372036854775807) (hA : MOk A) (hB : MOk B) : Con E 8 [cRss A, cRss B, vI c] (vB true) := by
 have ca := con_matrix A hA.fit
 have cb := con_matrix B hB.fit
 have la := cutM_len A 14 (min A.length 12)
 have lb := cutM_len B 14 (min B.length 12)
 have ra := cutM_row A 14 (min A.length 12)
 have rb := cutM_row B 14 (min B.length 12)
 have fa := fit_cutM hA 14 (min A.length 12)
 have fb := fit_cutM hB 14 (min B.length 12)
 generalize cutM A 14 (min A.length 12) = a at *
 generalize cutM B 14 (min B.length 12) = b at *
 have cp := con_Product a b c h1 h2 (by omega) (fun i => by have := ra i; omega) fa (by omega) (fun i => by have := rb i; omega) fb
 have c1 := con_rMatrix b c h1 h2 (by omega) (fun i => by have := rb i; omega) fb
 have c2 := con_rMatrix a b.length (by omega) (by omega) (by omega) (fun i => by have := ra i; omega) fa
 unfold err2 at cp
 by_cases e1 : formE b c = 0
 rotate_left
 · rw [if_neg e1, if_neg e1] at cp
   generalize formE b c = e at *
   clear c2 ra rb fa fb
   refine con_of2 mixed (fn := Tryz.f8) (rs := [.tmp 6]) Tryz.func8 (by kernel_rfl) rfl (by kernel_rfl) rfl rfl ?_
   simp only [argE, Nat.reduceAdd, cRss, vI, vB] at *
   (refine SZ ?_;intros;rename_i K1 hK1)
   (refine ⟨_,ca,hK1 _ ?_⟩;clear hK1 K1;try simp only [put_some,cN,vI,vB,cR])
   (refine SZ ?_;intros;rename_i K1 hK1)
   (refine ⟨_,cb,hK1 _ ?_⟩;clear hK1 K1;try simp only [put_some,cN,vI,vB,cR])
   (refine SZ ?_;intros;rename_i K1 hK1)
   (refine ⟨_,cp,hK1 _ ?_⟩;clear hK1 K1;try simp only [put_some,cN,vI,vB,cR])
   (refine SZ ?_;intros;rename_i K1 hK1)
   (refine ⟨_,c1,hK1 _ ?_⟩;clear hK1 K1;try simp only [put_some,cN,vI,vB,cR])
   (refine SZ ?_;intros;rename_i K1 hK1)
   (refine ⟨_,hal,hK1 _ ?_⟩;clear hK1 K1;try simp only [put_some,cN,vI,vB,cR])
   (refine SZ ?_;intros)
   simp only [res1,res2,res3,AB,AD,AZ,Nat.reduceEqDiff,↓reduceIte,Nat.reduceAdd,Nat.reduceMul,Nat.reducePow,Nat.reduceLeDiff,Nat.reduceLT]
 rw [if_pos e1] at cp
 rw [e1] at c1
 by_cases e2 : formE a b.length = 0
 rotate_left
 · rw [if_neg e2] at cp
   generalize formE a b.length = e at *
   clear ra rb fa fb
   refine con_of2 mixed (fn := Tryz.f8) (rs := [.tmp 6]) Tryz.func8 (by kernel_rfl) rfl (by kernel_rfl) rfl rfl ?_
   simp only [argE, Nat.reduceAdd, cRss, vI, vB] at *
   (refine SZ ?_;intros;rename_i K1 hK1)
   (refine ⟨_,ca,hK1 _ ?_⟩;clear hK1 K1;try simp only [put_some,cN,vI,vB,cR])
   (refine SZ ?_;intros;rename_i K1 hK1)
   (refine ⟨_,cb,hK1 _ ?_⟩;clear hK1 K1;try simp only [put_some,cN,vI,vB,cR])
   (refine SZ ?_;intros;rename_i K1 hK1)
   (refine ⟨_,cp,hK1 _ ?_⟩;clear hK1 K1;try simp only [put_some,cN,vI,vB,cR])
   (refine SZ ?_;intros;rename_i K1 hK1)
   (refine ⟨_,c1,hK1 _ ?_⟩;clear hK1 K1;try simp only [put_some,cN,vI,vB,cR])
   (refine SZ ?_;intros;rename_i K1 hK1)
   (refine ⟨_,c2,hK1 _ ?_⟩;clear hK1 K1;try simp only [put_some,cN,vI,vB,cR])
   (refine SZ ?_;intros;rename_i K1 hK1)
   (refine ⟨_,hal,hK1 _ ?_⟩;clear hK1 K1;try simp only [put_some,cN,vI,vB,cR])
   (refine SZ ?_;intros)
   simp only [res1,res2,res3,AB,AD,AZ,Nat.reduceEqDiff,↓reduceIte,Nat.reduceAdd,Nat.reduceMul,Nat.reducePow,Nat.reduceLeDiff,Nat.reduceLT]
 obtain ⟨⟨b0, b1, b2⟩, hrow, hjr⟩ := formE_zero e1
 obtain ⟨m, rfl⟩ : ∃ m : Nat, c = m := ⟨c.toNat, by omega⟩
 obtain ⟨⟨b3, b4, b5⟩, hrowa, hjra⟩ := formE_zero e2
 rw [show ((m : Int)).toNat = m from rfl, if_pos e2, e2, prod_same a b m (fun i hi => by have := hrowa i hi; omega)] at cp
 rw [e2] at c2
 have cr := con_rProduct a b m (by omega) (by omega) (by omega) (fun i hi => by have := hrowa i hi; omega) (fun i hi => by have := hrow i hi; omega) (fun i hi k hk => hjra i hi k (by have := hrowa i hi; omega)) (fun i hi k hk => hjr i hi k (by have := hrow i hi; omega))
 have hrf : ∀ i k, Fit (((rprod a b m a.length).getD i []).getD k default) := fun i k => by
   unfold rprod; rw [getD_rmap]
   split
   · unfold prow; rw [getD_rmap]
     split
     · rename_i hi hk
       rw [← fdot_rdot (a.getD i []) (b.map fun s => s.getD k default) (fun t => (a.getD i []).getD t default) (fun t => (b.map fun s => s.getD k default).getD t default) _ (fun _ _ => rfl) (fun _ _ => rfl)]
       refine fit_of (isRat_fdot (fun t ht => hjra i hi t ht) (fun t ht => ?_))
       have h2 : t < b.length := by have := hrowa i hi; omega
       rw [getD_map' (fun s : List Rt => s.getD k default) b t default [] h2]
       exact hjr t h2 k (by have := hrow t h2; omega)
     · exact fit_default
   · exact fit_default
 have hrl : (rprod a b m a.length).length = a.length := by simp [rprod]
 have hrr : ∀ i, ((rprod a b m a.length).getD i []).length ≤ m := fun i => by
   unfold rprod; rw [getD_rmap]
   split
   · simp [prow]
   · exact Nat.zero_le _
 generalize rprod a b m a.length = p at *
 have cs := con_rSame p p (by omega) (by omega) (fun i => by have := hrr i; omega) (fun i => by have := hrr i; omega) hrf hrf
 rw [show (decide (p.length = p.length) && (List.range p.length).all fun i => numsB (p.getD i []) (p.getD i [])) = true by simp [numsB_self]] at cs
 clear ra rb fa fb hrf hrr hrow hjr hrowa hjra
 refine con_of2 mixed (fn := Tryz.f8) (rs := [.tmp 6]) Tryz.func8 (by kernel_rfl) rfl (by kernel_rfl) rfl rfl ?_
 simp only [argE, Nat.reduceAdd, cRss, vI, vB] at *
 (refine SZ ?_;intros;rename_i K1 hK1)
 (refine ⟨_,ca,hK1 _ ?_⟩;clear hK1 K1;try simp only [put_some,cN,vI,vB,cR])
 (refine SZ ?_;intros;rename_i K1 hK1)
 (refine ⟨_,cb,hK1 _ ?_⟩;clear hK1 K1;try simp only [put_some,cN,vI,vB,cR])
 (refine SZ ?_;intros;rename_i K1 hK1)
 (refine ⟨_,cp,hK1 _ ?_⟩;clear hK1 K1;try simp only [put_some,cN,vI,vB,cR])
 (refine SZ ?_;intros;rename_i K1 hK1)
 (refine ⟨_,c1,hK1 _ ?_⟩;clear hK1 K1;try simp only [put_some,cN,vI,vB,cR])
 (refine SZ ?_;intros;rename_i K1 hK1)
 (refine ⟨_,c2,hK1 _ ?_⟩;clear hK1 K1;try simp only [put_some,cN,vI,vB,cR])
 (refine SZ ?_;intros;rename_i K1 hK1)
 (refine ⟨_,cr,hK1 _ ?_⟩;clear hK1 K1;try simp only [put_some,cN,vI,vB,cR])
 (refine SZ ?_;intros;rename_i K1 hK1)
 (refine ⟨_,cs,hK1 _ ?_⟩;clear hK1 K1;try simp only [put_some,cN,vI,vB,cR])
 (refine SZ ?_;intros;rename_i K1 hK1)
 (refine ⟨_,hal,hK1 _ ?_⟩;clear hK1 K1;try simp only [put_some,cN,vI,vB,cR])
 (refine SZ ?_;intros)
 simp only [res1,res2,res3,AB,AD,AZ,Nat.reduceEqDiff,↓reduceIte,Nat.reduceAdd,Nat.reduceMul,Nat.reducePow,Nat.reduceLeDiff,Nat.reduceLT]
end Go.Pw
set_option maxRecDepth 100000
set_option linter.unusedVariables false
set_option linter.unusedSimpArgs false
namespace Go.Pw
open Go Go.Proofs
end Go.Pw
set_option maxRecDepth 100000
set_option linter.unusedVariables false
set_option linter.unusedSimpArgs false
namespace Go.Pw
open Go Go.Proofs
end Go.Pw
set_option maxRecDepth 100000
set_option linter.unusedVariables false
set_option linter.unusedSimpArgs false
namespace Go.Pw
open Go Go.Proofs
end Go.Pw
