/- Merged from the working texts Pq2 Pq3 Mb1. -/
import Derived.Test.YtkflegdaeienlaaGreatDoorKc25
import Derived.Test.YtkflegdaeienlaaGreatDoorKc30
import Derived.Test.YtkflegdaeienlaaGreatDoorKc23
import Derived.Test.YtkflegdaeienlaaGreatDoorKc24
set_option linter.all false
set_option maxHeartbeats 400000
set_option maxRecDepth 100000
set_option linter.unusedVariables false
set_option linter.unusedSimpArgs false
namespace Go.Pw
open Go Go.Proofs
theorem con_plus (s t : Bool) (n m : Nat) (h : (dg n).length ≤ 512) (h' : (dg m).length ≤ 512) : Con E 253 [.agg [vB s, cN (dg n)], .agg [vB t, cN (dg m)]] (.agg [vB (sadd s n t m).1, cN (dg (sadd s n t m).2)]) := by
 by_cases e : s = t
 · subst e
   rw [sadd_same]
   refine con_of2 mixed (fn := Tryz.f253) (rs := [.cell 4 188]) Tryz.func253 (by kernel_rfl) rfl (by kernel_rfl) rfl rfl ?_
   simp only [argE, Nat.reduceAdd, cN, vI, vB]
   (refine SD ?_;intros;rename_i K1 hK1)
   (refine ⟨_,con_NAdd n m h h',hK1 _ ?_⟩;clear hK1 K1;try simp only [put_some,cN,vI,vB,cR])
   (refine SD ?_;intros;rename_i K1 hK1)
   (refine ⟨_,con_natural (dg (n + m)) 0,hK1 _ ?_⟩;clear hK1 K1;try simp only [put_some,cN,vI,vB,cR])
   (refine SD ?_;intros)
   simp (disch := omega) only [resc1,resc2,rescc,rest1c,AB,AD,Nat.reduceEqDiff,↓reduceIte,Nat.reduceAdd,Nat.reduceMul,Nat.reducePow,Nat.reduceLeDiff,Nat.reduceLT]
   all_goals rfl
 have hcmp := cmpI_lt0 n m
 by_cases hle : m ≤ n
 · rw [sadd_ge e hle]
   refine con_of2 mixed (fn := Tryz.f253) (rs := [.cell 4 188]) Tryz.func253 (by kernel_rfl) rfl (by kernel_rfl) rfl rfl ?_
   simp only [argE, Nat.reduceAdd, cN, vI, vB]
   (refine SD ?_;intros;rename_i hb K1 hK1)
   (refine ⟨_,con_NCompare n m h h',hK1 _ ?_⟩;clear hK1 K1;try simp only [put_some,cN,vI,vB,cR])
   (refine SD ?_;intros;rename_i hb K1 hK1)
   (refine ⟨_,con_NSub n m hle h h',hK1 _ ?_⟩;clear hK1 K1;try simp only [put_some,cN,vI,vB,cR])
   (refine SD ?_;intros;rename_i K1 hK1)
   (refine ⟨_,con_natural (dg (n - m)) 0,hK1 _ ?_⟩;clear hK1 K1;try simp only [put_some,cN,vI,vB,cR])
   (refine SD ?_;intros)
   simp (disch := omega) only [resc1,resc2,rescc,rest1c,AB,AD,Nat.reduceEqDiff,↓reduceIte,Nat.reduceAdd,Nat.reduceMul,Nat.reducePow,Nat.reduceLeDiff,Nat.reduceLT]
   all_goals rfl
 · rw [sadd_lt e (by omega)]
   refine con_of2 mixed (fn := Tryz.f253) (rs := [.cell 4 188]) Tryz.func253 (by kernel_rfl) rfl (by kernel_rfl) rfl rfl ?_
   simp only [argE, Nat.reduceAdd, cN, vI, vB]
   (refine SD ?_;intros;rename_i hb K1 hK1)
   (refine ⟨_,con_NCompare n m h h',hK1 _ ?_⟩;clear hK1 K1;try simp only [put_some,cN,vI,vB,cR])
   (refine SD ?_;intros;rename_i hb K1 hK1)
   (refine ⟨_,con_NSub m n (by omega) h' h,hK1 _ ?_⟩;clear hK1 K1;try simp only [put_some,cN,vI,vB,cR])
   (refine SD ?_;intros;rename_i K1 hK1)
   (refine ⟨_,con_natural (dg (m - n)) 0,hK1 _ ?_⟩;clear hK1 K1;try simp only [put_some,cN,vI,vB,cR])
   (refine SD ?_;intros)
   simp (disch := omega) only [resc1,resc2,rescc,rest1c,AB,AD,Nat.reduceEqDiff,↓reduceIte,Nat.reduceAdd,Nat.reduceMul,Nat.reducePow,Nat.reduceLeDiff,Nat.reduceLT]
   all_goals rfl
theorem dg_zero_iff (n : Nat) : n ≠ 0 ↔ (dg n).length ≠ 0 := by
 rw [ne_eq, ne_eq, List.length_eq_zero_iff, dg_ne_nil]
set_option maxHeartbeats 4000000 in
theorem con_fquotient (s : Bool) (n d : Nat) (h : (dg n).length ≤ 512) (h' : (dg d).length ≤ 512) : Con E 158 [.agg [vB s, cN (dg n)], cN (dg d)] (.agg (cR (nrat s n d))) := by
 refine con_of2 mixed (fn := Tryz.f158) (rs := [.cell 4 80]) Tryz.func158 (by kernel_rfl) rfl (by kernel_rfl) rfl rfl ?_
 simp only [argE, Nat.reduceAdd, cN, vI, vB]
 by_cases d0 : d = 0
 · subst d0
   rw [dg_zero]
   (refine SD ?_;intros;rename_i hb K1 hK1)
   (refine ⟨_,con_fault 11,hK1 _ ?_⟩;clear hK1 K1;try simp only [put_some,cN,vI,vB,cR])
   (refine SD ?_;intros)
   simp (disch := omega) only [resc1,resc2,rescc,rest1c,AB,AD,Nat.reduceEqDiff,↓reduceIte,Nat.reduceAdd,Nat.reduceMul,Nat.reducePow,Nat.reduceLeDiff,Nat.reduceLT]
   all_goals rfl
 have hd0 : (dg d).length ≠ 0 := fun e => d0 (dg_ne_nil.1 (List.length_eq_zero_iff.1 e))
 have hg : Nat.gcd n d ≠ 0 := by have := gcd_div_pos (n := n) d0; omega
 have hgl : (dg (Nat.gcd n d)).length ≤ 512 := Nat.le_trans (dg_mono (Nat.gcd_le_right _ (Nat.pos_of_ne_zero d0))) h'
 have l1 : (dg (n / Nat.gcd n d)).length ≤ 512 := Nat.le_trans (dg_mono (Nat.div_le_self _ _)) h
 have l2 : (dg (d / Nat.gcd n d)).length ≤ 512 := Nat.le_trans (dg_mono (Nat.div_le_self _ _)) h'
 have c1 := con_long (dg (n / Nat.gcd n d)) (dok_dg _) (by omega)
 have c2 := con_long (dg (d / Nat.gcd n d)) (dok_dg _) (by omega)
 simp only [fe_dg l1, fe_dg l2, val_dg, ne_eq, not_true_eq_false, false_or] at c1 c2
 unfold nrat
 rw [if_neg d0]
 by_cases b1 : 4096 < bl (n / Nat.gcd n d)
 · rw [decide_eq_true b1] at c1
   rw [if_pos (Or.inl b1)]
   (refine SD ?_;intros;rename_i hb K1 hK1)
   (refine ⟨_,con_NGcd n d h h',hK1 _ ?_⟩;clear hK1 K1;try simp only [put_some,cN,vI,vB,cR])
   (refine SD ?_;intros;rename_i K1 hK1)
   (refine ⟨_,con_natural (dg (Nat.gcd n d)) 0,hK1 _ ?_⟩;clear hK1 K1;try simp only [put_some,cN,vI,vB,cR])
   (refine SD ?_;intros;rename_i K1 hK1)
   (refine ⟨_,con_NDiv n (Nat.gcd n d) hg h hgl,hK1 _ ?_⟩;clear hK1 K1;try simp only [put_some,cN,vI,vB,cR])
   (refine SD ?_;intros;rename_i K1 hK1)
   (refine ⟨_,con_NDiv d (Nat.gcd n d) hg h' hgl,hK1 _ ?_⟩;clear hK1 K1;try simp only [put_some,cN,vI,vB,cR])
   (refine SD ?_;intros;rename_i K1 hK1)
   (refine ⟨_,c1,hK1 _ ?_⟩;clear hK1 K1;try simp only [put_some,cN,vI,vB,cR])
   (refine SD ?_;intros;rename_i K1 hK1)
   (refine ⟨_,con_fault 4,hK1 _ ?_⟩;clear hK1 K1;try simp only [put_some,cN,vI,vB,cR])
   (refine SD ?_;intros)
   simp (disch := omega) only [resc1,resc2,rescc,rest1c,AB,AD,Nat.reduceEqDiff,↓reduceIte,Nat.reduceAdd,Nat.reduceMul,Nat.reducePow,Nat.reduceLeDiff,Nat.reduceLT]
   all_goals rfl
 rw [decide_eq_false b1] at c1
 by_cases b2 : 4096 < bl (d / Nat.gcd n d)
 · rw [decide_eq_true b2] at c2
   rw [if_pos (Or.inr b2)]
   (refine SD ?_;intros;rename_i hb K1 hK1)
   (refine ⟨_,con_NGcd n d h h',hK1 _ ?_⟩;clear hK1 K1;try simp only [put_some,cN,vI,vB,cR])
   (refine SD ?_;intros;rename_i K1 hK1)
   (refine ⟨_,con_natural (dg (Nat.gcd n d)) 0,hK1 _ ?_⟩;clear hK1 K1;try simp only [put_some,cN,vI,vB,cR])
   (refine SD ?_;intros;rename_i K1 hK1)
   (refine ⟨_,con_NDiv n (Nat.gcd n d) hg h hgl,hK1 _ ?_⟩;clear hK1 K1;try simp only [put_some,cN,vI,vB,cR])
   (refine SD ?_;intros;rename_i K1 hK1)
   (refine ⟨_,con_NDiv d (Nat.gcd n d) hg h' hgl,hK1 _ ?_⟩;clear hK1 K1;try simp only [put_some,cN,vI,vB,cR])
   (refine SD ?_;intros;rename_i K1 hK1)
   (refine ⟨_,c1,hK1 _ ?_⟩;clear hK1 K1;try simp only [put_some,cN,vI,vB,cR])
   (refine SD ?_;intros;rename_i K1 hK1)
   (refine ⟨_,c2,hK1 _ ?_⟩;clear hK1 K1;try simp only [put_some,cN,vI,vB,cR])
   (refine SD ?_;intros;rename_i K1 hK1)
   (refine ⟨_,con_fault 4,hK1 _ ?_⟩;clear hK1 K1;try simp only [put_some,cN,vI,vB,cR])
   (refine SD ?_;intros)
   simp (disch := omega) only [resc1,resc2,rescc,rest1c,AB,AD,Nat.reduceEqDiff,↓reduceIte,Nat.reduceAdd,Nat.reduceMul,Nat.reducePow,Nat.reduceLeDiff,Nat.reduceLT]
   all_goals rfl
 · rw [decide_eq_false b2] at c2
   rw [if_neg (by omega)]
   have hz := dg_zero_iff (n / Nat.gcd n d)
   rw [show decide (n / Nat.gcd n d ≠ 0) = decide ((dg (n / Nat.gcd n d)).length ≠ 0) by rw [decide_eq_decide, hz]]
   clear hz
   have hx : decide (((dg (n / Nat.gcd n d)).length : Int) > 0) = decide ((dg (n / Nat.gcd n d)).length ≠ 0) := by rw [decide_eq_decide]; omega
   cases s
   · rw [Bool.false_and]
     (refine SD ?_;intros;rename_i hb K1 hK1)
     (refine ⟨_,con_NGcd n d h h',hK1 _ ?_⟩;clear hK1 K1;try simp only [put_some,cN,vI,vB,cR])
     (refine SD ?_;intros;rename_i K1 hK1)
     (refine ⟨_,con_natural (dg (Nat.gcd n d)) 0,hK1 _ ?_⟩;clear hK1 K1;try simp only [put_some,cN,vI,vB,cR])
     (refine SD ?_;intros;rename_i K1 hK1)
     (refine ⟨_,con_NDiv n (Nat.gcd n d) hg h hgl,hK1 _ ?_⟩;clear hK1 K1;try simp only [put_some,cN,vI,vB,cR])
     (refine SD ?_;intros;rename_i K1 hK1)
     (refine ⟨_,con_NDiv d (Nat.gcd n d) hg h' hgl,hK1 _ ?_⟩;clear hK1 K1;try simp only [put_some,cN,vI,vB,cR])
     (refine SD ?_;intros;rename_i K1 hK1)
     (refine ⟨_,c1,hK1 _ ?_⟩;clear hK1 K1;try simp only [put_some,cN,vI,vB,cR])
     (refine SD ?_;intros;rename_i K1 hK1)
     (refine ⟨_,c2,hK1 _ ?_⟩;clear hK1 K1;try simp only [put_some,cN,vI,vB,cR])
     (refine SD ?_;intros)
     simp (disch := omega) only [resc1,resc2,rescc,rest1c,AB,AD,Nat.reduceEqDiff,↓reduceIte,Nat.reduceAdd,Nat.reduceMul,Nat.reducePow,Nat.reduceLeDiff,Nat.reduceLT]
     all_goals rfl
   · rw [Bool.true_and]
     (refine SD ?_;intros;rename_i hb K1 hK1)
     (refine ⟨_,con_NGcd n d h h',hK1 _ ?_⟩;clear hK1 K1;try simp only [put_some,cN,vI,vB,cR])
     (refine SD ?_;intros;rename_i K1 hK1)
     (refine ⟨_,con_natural (dg (Nat.gcd n d)) 0,hK1 _ ?_⟩;clear hK1 K1;try simp only [put_some,cN,vI,vB,cR])
     (refine SD ?_;intros;rename_i K1 hK1)
     (refine ⟨_,con_NDiv n (Nat.gcd n d) hg h hgl,hK1 _ ?_⟩;clear hK1 K1;try simp only [put_some,cN,vI,vB,cR])
     (refine SD ?_;intros;rename_i K1 hK1)
     (refine ⟨_,con_NDiv d (Nat.gcd n d) hg h' hgl,hK1 _ ?_⟩;clear hK1 K1;try simp only [put_some,cN,vI,vB,cR])
     (refine SD ?_;intros;rename_i K1 hK1)
     (refine ⟨_,c1,hK1 _ ?_⟩;clear hK1 K1;try simp only [put_some,cN,vI,vB,cR])
     (refine SD ?_;intros;rename_i K1 hK1)
     (refine ⟨_,c2,hK1 _ ?_⟩;clear hK1 K1;try simp only [put_some,cN,vI,vB,cR])
     (refine SD ?_;intros)
     simp (disch := omega) only [resc1,resc2,rescc,rest1c,AB,AD,Nat.reduceEqDiff,↓reduceIte,Nat.reduceAdd,Nat.reduceMul,Nat.reducePow,Nat.reduceLeDiff,Nat.reduceLT]
     rw [hx]
     all_goals rfl
theorem wrap_abs (n : Int) (h1 : -9223372036854775808 ≤ n) (h2 : n < 0) : (0 - n % 18446744073709551616) % 18446744073709551616 = ((n.natAbs : Nat) : Int) := by omega
theorem con_fsize (n : Int) (h1 : -9223372036854775808 ≤ n) (h2 : n ≤ 9223372036854775807) : Con E 200 [vI n] (.tup [vB (decide (n < 0)), cN (dg n.natAbs)]) := by
 by_cases hn : n < 0
 · rw [decide_eq_true hn]
   refine con_of2 mixed (fn := Tryz.f200) (rs := [.tmp 2, .tmp 3]) Tryz.func200 (by kernel_rfl) rfl (by kernel_rfl) rfl rfl ?_
   simp only [argE, Nat.reduceAdd, cN, vI, vB]
   (refine SD ?_;intros;rename_i hb K1 hK1)
   rw [wrap_abs n h1 hn]
   (refine ⟨_,con_NOf n.natAbs (by omega),hK1 _ ?_⟩;clear hK1 K1;try simp only [put_some,cN,vI,vB,cR])
   (refine SD ?_;intros)
   simp only [res1,res2,res3,AB,AD,Nat.reduceEqDiff,↓reduceIte,Nat.reduceAdd,Nat.reduceMul,Nat.reducePow,Nat.reduceLeDiff,Nat.reduceLT]
 · rw [decide_eq_false hn]
   refine con_of2 mixed (fn := Tryz.f200) (rs := [.tmp 2, .tmp 3]) Tryz.func200 (by kernel_rfl) rfl (by kernel_rfl) rfl rfl ?_
   simp only [argE, Nat.reduceAdd, cN, vI, vB]
   (refine SD ?_;intros;rename_i hb K1 hK1)
   rw [show n = ((n.natAbs : Nat) : Int) by omega]
   (refine ⟨_,con_NOf n.natAbs (by omega),hK1 _ ?_⟩;clear hK1 K1;try simp only [put_some,cN,vI,vB,cR])
   (refine SD ?_;intros)
   simp only [res1,res2,res3,AB,AD,Nat.reduceEqDiff,↓reduceIte,Nat.reduceAdd,Nat.reduceMul,Nat.reducePow,Nat.reduceLeDiff,Nat.reduceLT]
theorem con_fleast (l : List Int) (h : l.length < 2 ^ 40) : Con E 220 [cI l] (vI (l.foldl lft 0)) := by
 refine con_of2 mixed (fn := Tryz.f220) (rs := [.tmp 2]) Tryz.func220 (by kernel_rfl) rfl (by kernel_rfl) rfl rfl ?_
 simp only [argE, Nat.reduceAdd, cI, vI, vB]
 (refine SD ?_;intros)
 refine p_loopx (fun (s : Nat × Int) => [(8, .sh (vI s.1)), (7, .sh (vI l.length)), (6, .sh (cI l)), (3, .sh (vI s.2))]) (fun s => []) (fun s => l.length - s.1)
   (fun s => s.1 ≤ l.length ∧ (l.drop s.1).foldl lft s.2 = l.foldl lft 0) (0, 0) (Weak.list ⟨rfl, rfl, rfl, rfl, trivial⟩ trivial) ⟨Nat.zero_le _, rfl⟩ ?_
 rintro ⟨i, out⟩ ⟨hi, hI⟩
 simp only [cI, vI] at *
 have hd : i < l.length → (l.drop (i + 1)).foldl lft (if out = 0 ∨ l.getD i 0 ≠ 0 ∧ l.getD i 0 < out then l.getD i 0 else out) = l.foldl lft 0 := fun hlt => by
   show (l.drop (i + 1)).foldl lft (lft out (l.getD i 0)) = _
   rw [← hI, List.drop_eq_getElem_cons hlt, List.foldl_cons, List.getD_eq_getElem?_getD, List.getElem?_eq_getElem hlt]
   rfl
 have hI0 : l.length ≤ i → out = l.foldl lft 0 := fun h => by rw [List.drop_eq_nil_of_le h] at hI; exact hI
 have stay : ∀ v : Int, i < l.length → (if out = 0 ∨ l.getD i 0 ≠ 0 ∧ l.getD i 0 < out then l.getD i 0 else out) = v → (l.drop (i + 1)).foldl lft v = l.foldl lft 0 := fun v h1 h2 => by rw [← h2]; exact hd h1
 clear hd hI
 repeat'(with_reducible first|apply p_seq|apply p_sq|apply p_reg|apply p_nil|apply p_skip|apply p_block|apply p_bq|apply p_ret|apply p_exit|apply p_sq_ret|apply p_sq_exit|apply p_bq_ret|apply p_bq_this|apply p_lq_ret|apply p_lq_exit|apply d_nil|refine p_drw (by decide +kernel) ?_|refine f_op rfl rfl ?_|refine f_opg rfl rfl rfl rfl ?_ ?_|refine f_new rfl rfl rfl rfl ?_|(refine f_end (And.intro ?_ ?_)<;>simp only [List.foldl_nil,List.foldl_cons,recS_mk,AB,AD,Nat.reduceEqDiff,↓reduceIte,Nat.reduceAdd,Nat.reduceMul,Nat.reducePow,Nat.reduceLeDiff,Nat.reduceLT])|apply k_nil|refine k_cons rfl rfl ?_ ?_|apply g_nil|refine g_op0 rfl ?_|refine g_opC rfl ?_|refine p_bq_other (by decide) ?_|refine p_cond rfl ?_ ?_|refine p_op rfl ?_|refine d_op rfl rfl ?_|refine d_eff rfl ?_|refine p_opg rfl rfl rfl ?_ ?_|refine d_opg rfl rfl rfl rfl ?_ ?_|((first|refine p_opgU rfl rfl rfl ?_|refine d_opgU rfl rfl rfl rfl ?_);try simp only [put_some])|(refine fun (K1:St→Prop) hK1=>?_;simp (disch := omega) only [AB,AD,Nat.reduceEqDiff,↓reduceIte,Nat.reduceAdd,Nat.reduceMul,Nat.reducePow,Nat.reduceLeDiff,Nat.reduceLT];(try simp (disch := omega) only [AC]);(try simp only [AM]))|(refine hK1 _ ?_;clear hK1 K1)|refine And.intro (by omega) ?_|apply And.intro|(refine fun (hb:(_:Bool)=_)=>?_;(try simp only [HS] at hb);(try (change True at hb;clear hb));first|(exfalso;first|omega|contradiction)|(try simp only [put_some])))
 · refine p_lx _ _ _ _ (i + 1, l.getD i 0) ?_ ⟨?_, ?_⟩ (Weak.list ⟨int_eq ?_, rfl, rfl, rfl, trivial⟩ trivial) <;> dsimp only
   · omega
   · omega
   · exact stay _ (by omega) (by split <;> omega)
   · omega
 · refine p_lx _ _ _ _ (i + 1, out) ?_ ⟨?_, ?_⟩ (Weak.list ⟨int_eq ?_, rfl, rfl, rfl, trivial⟩ trivial) <;> dsimp only
   · omega
   · omega
   · exact stay _ (by omega) (by split <;> omega)
   · omega
 · refine p_lx _ _ _ _ (i + 1, l.getD i 0) ?_ ⟨?_, ?_⟩ (Weak.list ⟨int_eq ?_, rfl, rfl, rfl, trivial⟩ trivial) <;> dsimp only
   · omega
   · omega
   · exact stay _ (by omega) (by split <;> omega)
   · omega
 · refine p_lx _ _ _ _ (i + 1, out) ?_ ⟨?_, ?_⟩ (Weak.list ⟨int_eq ?_, rfl, rfl, rfl, trivial⟩ trivial) <;> dsimp only
   · omega
   · omega
   · exact stay _ (by omega) (by split <;> omega)
   · omega
 · simp only [res1,res2,res3,AB,AD,Nat.reduceEqDiff,↓reduceIte,Nat.reduceAdd,Nat.reduceMul,Nat.reducePow,Nat.reduceLeDiff,Nat.reduceLT]
   rw [← hI0 (by omega)]
end Go.Pw
set_option maxRecDepth 100000
set_option linter.unusedVariables false
set_option linter.unusedSimpArgs false
namespace Go.Pw
open Go Go.Proofs
open Classical in
theorem con_made (a b res : Rt) (ha : Fit a) (hb : Fit b) (g : Nat) (caps : List PV) (hg : isRat a → isRat b → a.fault = 0 → b.fault = 0 → Con E g ([.agg (cR a), .agg (cR b)] ++ caps) (.agg (cR res))) :
   Con E 156 [.agg (cR a), .agg (cR b), .fn g caps] (.tup [.agg (cR (if isRat a ∧ isRat b then if lft a.fault b.fault ≠ 0 then flt (lft a.fault b.fault) else res else zr)), vI (if isRat a ∧ isRat b then 0 else 5)]) := by
 classical
 have c1 := con_IsRat a ha.n ha.d ha.nl ha.dl
 have c2 := con_IsRat b hb.n hb.d hb.nl hb.dl
 by_cases ia : isRat a
 rotate_left
 · rw [(isRatB_not a).2 ia] at c1
   rw [if_neg (fun h => ia h.1), if_neg (fun h => ia h.1)]
   refine con_of2 mixed (fn := Tryz.f156) (rs := [.cell 6 80, .tmp 7]) Tryz.func156 (by kernel_rfl) rfl (by kernel_rfl) rfl rfl ?_
   simp only [argE, Nat.reduceAdd, cN, vI, vB, cR] at *
   (refine SD ?_;intros;rename_i K1 hK1)
   (refine ⟨_,c1,hK1 _ ?_⟩;clear hK1 K1;try simp only [put_some,cN,vI,vB,cR])
   (refine SD ?_;intros)
   simp (disch := omega) only [resc1,resc2,rescc,rest1c,AB,AD,Nat.reduceEqDiff,↓reduceIte,Nat.reduceAdd,Nat.reduceMul,Nat.reducePow,Nat.reduceLeDiff,Nat.reduceLT]
   all_goals rfl
 rw [(isRatB_iff a).2 ia] at c1
 by_cases ib : isRat b
 rotate_left
 · rw [(isRatB_not b).2 ib] at c2
   rw [if_neg (fun h => ib h.2), if_neg (fun h => ib h.2)]
   refine con_of2 mixed (fn := Tryz.f156) (rs := [.cell 6 80, .tmp 7]) Tryz.func156 (by kernel_rfl) rfl (by kernel_rfl) rfl rfl ?_
   simp only [argE, Nat.reduceAdd, cN, vI, vB, cR] at *
   (refine SD ?_;intros;rename_i K1 hK1)
   (refine ⟨_,c1,hK1 _ ?_⟩;clear hK1 K1;try simp only [put_some,cN,vI,vB,cR])
   (refine SD ?_;intros;rename_i K1 hK1)
   (refine ⟨_,c2,hK1 _ ?_⟩;clear hK1 K1;try simp only [put_some,cN,vI,vB,cR])
   (refine SD ?_;intros)
   simp (disch := omega) only [resc1,resc2,rescc,rest1c,AB,AD,Nat.reduceEqDiff,↓reduceIte,Nat.reduceAdd,Nat.reduceMul,Nat.reducePow,Nat.reduceLeDiff,Nat.reduceLT]
   all_goals rfl
 rw [(isRatB_iff b).2 ib] at c2
 have hib : isRat a ∧ isRat b := ⟨ia, ib⟩
 rw [if_pos hib, if_pos hib]
 clear hib
 have c3 := con_fleast [a.fault, b.fault] (by simp)
 have hl0 : [a.fault, b.fault].foldl lft 0 = lft a.fault b.fault := by simp [lft]
 rw [hl0] at c3
 by_cases hl : lft a.fault b.fault = 0
 · obtain ⟨f1, f2⟩ := lft_zero (fault_of ia) (fault_of ib) hl
   have c4 := hg ia ib f1 f2
   rw [if_neg (fun h => h hl)]
   rw [hl] at c3
   clear hg hl0 hl
   refine con_of2 mixed (fn := Tryz.f156) (rs := [.cell 6 80, .tmp 7]) Tryz.func156 (by kernel_rfl) rfl (by kernel_rfl) rfl rfl ?_
   simp only [argE, Nat.reduceAdd, cN, vI, vB, cR] at *
   (refine SD ?_;intros;rename_i K1 hK1)
   (refine ⟨_,c1,hK1 _ ?_⟩;clear hK1 K1;try simp only [put_some,cN,vI,vB,cR])
   (refine SD ?_;intros;rename_i K1 hK1)
   (refine ⟨_,c2,hK1 _ ?_⟩;clear hK1 K1;try simp only [put_some,cN,vI,vB,cR])
   (refine SD ?_;intros;rename_i K1 hK1)
   (refine ⟨_,c3,hK1 _ ?_⟩;clear hK1 K1;try simp only [put_some,cN,vI,vB,cR])
   (refine SD ?_;intros;rename_i K1 hK1)
   (refine ⟨_,c4,hK1 _ ?_⟩;clear hK1 K1;try simp only [put_some,cN,vI,vB,cR])
   (refine SD ?_;intros)
   simp (disch := omega) only [resc1,resc2,rescc,rest1c,AB,AD,Nat.reduceEqDiff,↓reduceIte,Nat.reduceAdd,Nat.reduceMul,Nat.reducePow,Nat.reduceLeDiff,Nat.reduceLT]
   all_goals rfl
 · rw [if_pos hl]
   clear hg hl0
   refine con_of2 mixed (fn := Tryz.f156) (rs := [.cell 6 80, .tmp 7]) Tryz.func156 (by kernel_rfl) rfl (by kernel_rfl) rfl rfl ?_
   simp only [argE, Nat.reduceAdd, cN, vI, vB, cR] at *
   (refine SD ?_;intros;rename_i K1 hK1)
   (refine ⟨_,c1,hK1 _ ?_⟩;clear hK1 K1;try simp only [put_some,cN,vI,vB,cR])
   (refine SD ?_;intros;rename_i K1 hK1)
   (refine ⟨_,c2,hK1 _ ?_⟩;clear hK1 K1;try simp only [put_some,cN,vI,vB,cR])
   (refine SD ?_;intros;rename_i K1 hK1)
   (refine ⟨_,c3,hK1 _ ?_⟩;clear hK1 K1;try simp only [put_some,cN,vI,vB,cR])
   (refine SD ?_;intros;rename_i K1 hK1)
   (refine ⟨_,con_fault (lft a.fault b.fault),hK1 _ ?_⟩;clear hK1 K1;try simp only [put_some,cN,vI,vB,cR])
   (refine SD ?_;intros)
   simp (disch := omega) only [resc1,resc2,rescc,rest1c,AB,AD,Nat.reduceEqDiff,↓reduceIte,Nat.reduceAdd,Nat.reduceMul,Nat.reducePow,Nat.reduceLeDiff,Nat.reduceLT]
   all_goals rfl
theorem con_sum (a b : Rt) (ha : isRat a) (hb : isRat b) (f1 : a.fault = 0) (f2 : b.fault = 0) : Con E 202 [.agg (cR a), .agg (cR b)] (.agg (cR (radd a b))) := by
 obtain ⟨a1, a2, a3, a4, a5⟩ := num_of ha f1
 obtain ⟨b1, b2, b3, b4, b5⟩ := num_of hb f2
 have m1 := mul_len a3 b4
 have m2 := mul_len b3 a4
 have m3 := mul_len a4 b4
 have sl := sadd_len (s := a.neg) (t := b.neg) m1 m2
 have e : radd a b = nrat (sadd a.neg (val a.num * val b.den) b.neg (val b.num * val a.den)).1 (sadd a.neg (val a.num * val b.den) b.neg (val b.num * val a.den)).2 (val a.den * val b.den) := by
   unfold radd; rw [if_neg (by simp [f1, f2, lft])]
 rw [e]
 clear e ha hb
 generalize hA : val a.num = A at *
 generalize hB : val b.num = B at *
 generalize hC : val a.den = C at *
 generalize hD : val b.den = D at *
 have ea : cR a = [vI a.fault, vB a.neg, cN (dg A), cN (dg C)] := by rw [← a1, ← a2]; rfl
 have eb : cR b = [vI b.fault, vB b.neg, cN (dg B), cN (dg D)] := by rw [← b1, ← b2]; rfl
 have w1 := con_wof a
 have w2 := con_wof b
 rw [ea, a1] at w1
 rw [eb, b1] at w2
 rw [ea, eb]
 generalize a.fault = af at *
 generalize b.fault = bf at *
 generalize a.neg = an at *
 generalize b.neg = bn at *
 clear a1 a2 b1 b2 hA hB hC hD ea eb
 refine con_of2 mixed (fn := Tryz.f202) (rs := [.cell 4 80]) Tryz.func202 (by kernel_rfl) rfl (by kernel_rfl) rfl rfl ?_
 simp only [argE, Nat.reduceAdd, cN, vI, vB] at *
 (refine SD ?_;intros;rename_i K1 hK1)
 (refine ⟨_,w1,hK1 _ ?_⟩;clear hK1 K1;try simp only [put_some,cN,vI,vB,cR])
 (refine SD ?_;intros;rename_i K1 hK1)
 (refine ⟨_,con_times an A D (by omega) (by omega),hK1 _ ?_⟩;clear hK1 K1;try simp only [put_some,cN,vI,vB,cR])
 (refine SD ?_;intros;rename_i K1 hK1)
 (refine ⟨_,w2,hK1 _ ?_⟩;clear hK1 K1;try simp only [put_some,cN,vI,vB,cR])
 (refine SD ?_;intros;rename_i K1 hK1)
 (refine ⟨_,con_times bn B C (by omega) (by omega),hK1 _ ?_⟩;clear hK1 K1;try simp only [put_some,cN,vI,vB,cR])
 (refine SD ?_;intros;rename_i K1 hK1)
 (refine ⟨_,con_plus an bn (A * D) (B * C) (by omega) (by omega),hK1 _ ?_⟩;clear hK1 K1;try simp only [put_some,cN,vI,vB,cR])
 (refine SD ?_;intros;rename_i K1 hK1)
 (refine ⟨_,con_NMul C D (by omega) (by omega),hK1 _ ?_⟩;clear hK1 K1;try simp only [put_some,cN,vI,vB,cR])
 (refine SD ?_;intros;rename_i K1 hK1)
 (refine ⟨_,con_natural (dg (C * D)) 0,hK1 _ ?_⟩;clear hK1 K1;try simp only [put_some,cN,vI,vB,cR])
 (refine SD ?_;intros;rename_i K1 hK1)
 (refine ⟨_,con_fquotient (sadd an (A * D) bn (B * C)).1 (sadd an (A * D) bn (B * C)).2 (C * D) (by omega) (by omega),hK1 _ ?_⟩;clear hK1 K1;try simp only [put_some,cN,vI,vB,cR])
 (refine SD ?_;intros)
 simp (disch := omega) only [resc1,resc2,rescc,rest1c,AB,AD,Nat.reduceEqDiff,↓reduceIte,Nat.reduceAdd,Nat.reduceMul,Nat.reducePow,Nat.reduceLeDiff,Nat.reduceLT]
 all_goals rfl
theorem con_mul1 (a b : Rt) (ha : isRat a) (hb : isRat b) (f1 : a.fault = 0) (f2 : b.fault = 0) : Con E 201 [.agg (cR a), .agg (cR b)] (.agg (cR (rmul a b))) := by
 obtain ⟨a1, a2, a3, a4, a5⟩ := num_of ha f1
 obtain ⟨b1, b2, b3, b4, b5⟩ := num_of hb f2
 have m1 := mul_len a3 b3
 have m3 := mul_len a4 b4
 have e : rmul a b = nrat (a.neg != b.neg) (val a.num * val b.num) (val a.den * val b.den) := by
   unfold rmul; rw [if_neg (by simp [f1, f2, lft])]
 rw [e]
 clear e ha hb
 generalize hA : val a.num = A at *
 generalize hB : val b.num = B at *
 generalize hC : val a.den = C at *
 generalize hD : val b.den = D at *
 have ea : cR a = [vI a.fault, vB a.neg, cN (dg A), cN (dg C)] := by rw [← a1, ← a2]; rfl
 have eb : cR b = [vI b.fault, vB b.neg, cN (dg B), cN (dg D)] := by rw [← b1, ← b2]; rfl
 rw [ea, eb]
 generalize a.fault = af at *
 generalize b.fault = bf at *
 generalize a.neg = an at *
 generalize b.neg = bn at *
 clear a1 a2 b1 b2 hA hB hC hD ea eb
 refine con_of2 mixed (fn := Tryz.f201) (rs := [.cell 4 80]) Tryz.func201 (by kernel_rfl) rfl (by kernel_rfl) rfl rfl ?_
 simp only [argE, Nat.reduceAdd, cN, vI, vB] at *
 (refine SD ?_;intros;rename_i K1 hK1)
 (refine ⟨_,con_NMul A B (by omega) (by omega),hK1 _ ?_⟩;clear hK1 K1;try simp only [put_some,cN,vI,vB,cR])
 (refine SD ?_;intros;rename_i K1 hK1)
 (refine ⟨_,con_natural (dg (A * B)) 0,hK1 _ ?_⟩;clear hK1 K1;try simp only [put_some,cN,vI,vB,cR])
 (refine SD ?_;intros;rename_i K1 hK1)
 (refine ⟨_,con_NMul C D (by omega) (by omega),hK1 _ ?_⟩;clear hK1 K1;try simp only [put_some,cN,vI,vB,cR])
 (refine SD ?_;intros;rename_i K1 hK1)
 (refine ⟨_,con_natural (dg (C * D)) 0,hK1 _ ?_⟩;clear hK1 K1;try simp only [put_some,cN,vI,vB,cR])
 (refine SD ?_;intros;rename_i K1 hK1)
 (refine ⟨_,con_fquotient (an != bn) (A * B) (C * D) (by omega) (by omega),hK1 _ ?_⟩;clear hK1 K1;try simp only [put_some,cN,vI,vB,cR])
 (refine SD ?_;intros)
 simp (disch := omega) only [resc1,resc2,rescc,rest1c,AB,AD,Nat.reduceEqDiff,↓reduceIte,Nat.reduceAdd,Nat.reduceMul,Nat.reducePow,Nat.reduceLeDiff,Nat.reduceLT]
 all_goals rfl
theorem con_FOf (n d : Int) (h1 : -9223372036854775808 ≤ n) (h2 : n ≤ 9223372036854775807) (h3 : -9223372036854775808 ≤ d) (h4 : d ≤ 9223372036854775807) : Con E 136 [vI n, vI d] (.tup [.agg (cR (rof n d)), vI 0]) := by
 have ln : ∀ m : Nat, m < 18446744073709551616 → (dg m).length ≤ 2 := fun m hm => len_dg_le.2 (by omega)
 have hn := ln n.natAbs (by omega)
 have hd := ln d.natAbs (by omega)
 unfold rof
 refine con_of2 mixed (fn := Tryz.f136) (rs := [.cell 4 80, .tmp 5]) Tryz.func136 (by kernel_rfl) rfl (by kernel_rfl) rfl rfl ?_
 simp only [argE, Nat.reduceAdd, cN, vI, vB]
 (refine SD ?_;intros;rename_i K1 hK1)
 (refine ⟨_,con_fsize n h1 h2,hK1 _ ?_⟩;clear hK1 K1;try simp only [put_some,cN,vI,vB,cR])
 (refine SD ?_;intros;rename_i K1 hK1)
 (refine ⟨_,con_fsize d h3 h4,hK1 _ ?_⟩;clear hK1 K1;try simp only [put_some,cN,vI,vB,cR])
 (refine SD ?_;intros;rename_i K1 hK1)
 (refine ⟨_,con_fquotient (decide (n < 0) != decide (d < 0)) n.natAbs d.natAbs (by omega) (by omega),hK1 _ ?_⟩;clear hK1 K1;try simp only [put_some,cN,vI,vB,cR])
 (refine SD ?_;intros)
 simp (disch := omega) only [resc1,resc2,rescc,rest1c,AB,AD,Nat.reduceEqDiff,↓reduceIte,Nat.reduceAdd,Nat.reduceMul,Nat.reducePow,Nat.reduceLeDiff,Nat.reduceLT]
 all_goals rfl
open Classical in
theorem con_FAdd (a b : Rt) (ha : Fit a) (hb : Fit b) : Con E 138 [.agg (cR a), .agg (cR b)] (.tup [.agg (cR (if isRat a ∧ isRat b then radd a b else zr)), vI (if isRat a ∧ isRat b then 0 else 5)]) := by
 have cm := con_made a b (radd a b) ha hb 202 [] (fun h1 h2 h3 h4 => con_sum a b h1 h2 h3 h4)
 have e : (if lft a.fault b.fault ≠ 0 then flt (lft a.fault b.fault) else radd a b) = radd a b := by
   split
   · rename_i h; unfold radd; rw [if_pos h]
   · rfl
 rw [e] at cm
 refine con_of2 mixed (fn := Tryz.f138) (rs := [.cell 4 80, .tmp 5]) Tryz.func138 (by kernel_rfl) rfl (by kernel_rfl) rfl rfl ?_
 simp only [argE, Nat.reduceAdd, cN, vI, vB, cR] at *
 (refine SD ?_;intros;rename_i K1 hK1)
 (refine ⟨_,cm,hK1 _ ?_⟩;clear hK1 K1;try simp only [put_some,cN,vI,vB,cR])
 (refine SD ?_;intros)
 simp (disch := omega) only [resc1,resc2,rescc,rest1c,AB,AD,Nat.reduceEqDiff,↓reduceIte,Nat.reduceAdd,Nat.reduceMul,Nat.reducePow,Nat.reduceLeDiff,Nat.reduceLT]
 all_goals rfl
open Classical in
theorem con_FMul (a b : Rt) (ha : Fit a) (hb : Fit b) : Con E 137 [.agg (cR a), .agg (cR b)] (.tup [.agg (cR (if isRat a ∧ isRat b then rmul a b else zr)), vI (if isRat a ∧ isRat b then 0 else 5)]) := by
 have cm := con_made a b (rmul a b) ha hb 201 [] (fun h1 h2 h3 h4 => con_mul1 a b h1 h2 h3 h4)
 have e : (if lft a.fault b.fault ≠ 0 then flt (lft a.fault b.fault) else rmul a b) = rmul a b := by
   split
   · rename_i h; unfold rmul; rw [if_pos h]
   · rfl
 rw [e] at cm
 refine con_of2 mixed (fn := Tryz.f137) (rs := [.cell 4 80, .tmp 5]) Tryz.func137 (by kernel_rfl) rfl (by kernel_rfl) rfl rfl ?_
 simp only [argE, Nat.reduceAdd, cN, vI, vB, cR] at *
 (refine SD ?_;intros;rename_i K1 hK1)
 (refine ⟨_,cm,hK1 _ ?_⟩;clear hK1 K1;try simp only [put_some,cN,vI,vB,cR])
 (refine SD ?_;intros)
 simp (disch := omega) only [resc1,resc2,rescc,rest1c,AB,AD,Nat.reduceEqDiff,↓reduceIte,Nat.reduceAdd,Nat.reduceMul,Nat.reducePow,Nat.reduceLeDiff,Nat.reduceLT]
 all_goals rfl
end Go.Pw
set_option maxRecDepth 100000
set_option linter.unusedVariables false
set_option linter.unusedSimpArgs false
namespace Go.Pw
open Go Go.Proofs
theorem fit_of {x : Rt} (h : isRat x) : Fit x := by
 by_cases hf : x.fault = 0
 · obtain ⟨h1, h2, h3, h4, _⟩ := num_of h hf
   exact ⟨by rw [h1]; exact dok_dg _, by rw [h2]; exact dok_dg _, by rw [h1]; omega, by rw [h2]; omega⟩
 · unfold isRat at h
   rw [if_neg hf] at h
   obtain ⟨_, _, h1, h2⟩ := h
   exact ⟨by rw [h1]; exact (fun x hx => by cases hx), by rw [h2]; exact (fun x hx => by cases hx), by rw [h1]; decide, by rw [h2]; decide⟩
def fdot (A B : Nat → Rt) (n : Nat) : Rt := (List.range n).foldl (fun s i => radd s (rmul (A i) (B i))) (rof 0 1)
theorem fdot_succ (A B : Nat → Rt) (n : Nat) : fdot A B (n + 1) = radd (fdot A B n) (rmul (A n) (B n)) := by
 unfold fdot; rw [List.range_succ, List.foldl_append]; rfl
theorem con_dot (A B : Nat → Rt) (n ga gb : Nat) (capsA capsB : List PV) (hn : n < 2 ^ 40) (ha : ∀ i, i < n → isRat (A i)) (hb : ∀ i, i < n → isRat (B i))
   (hA : ∀ i, i < n → Con E ga ([vI (i : Nat)] ++ capsA) (.agg (cR (A i)))) (hB : ∀ i, i < n → Con E gb ([vI (i : Nat)] ++ capsB) (.agg (cR (B i)))) :
   Con E 75 [vI n, .fn ga capsA, .fn gb capsB] (.agg (cR (fdot A B n))) := by
 have c0 := con_FOf 0 1 (by omega) (by omega) (by omega) (by omega)
 refine con_of2 mixed (fn := Tryz.f75) (rs := [.cell 6 80]) Tryz.func75 (by kernel_rfl) rfl (by kernel_rfl) rfl rfl ?_
 simp only [argE, Nat.reduceAdd, cR, vI, vB] at *
 (refine SZ ?_;intros;rename_i K1 hK1)
 (refine ⟨_,c0,hK1 _ ?_⟩;clear hK1 K1;try simp only [put_some,cN,vI,vB,cR])
 (refine SZ ?_;intros)
 refine p_loopx (fun (s : Nat × Rt) => [(17, .sh (vI s.1)), (16, .sh (vI n)), (1, .sh (.fn ga capsA)), (2, .sh (.fn gb capsB)), (7, .bp 7 0), (6, .bp 6 0)]) (fun s => [(7, some (.box [.sh (vI s.2.fault), .sh (vB s.2.neg), .sh (cN s.2.num), .sh (cN s.2.den)])), (6, some (.box [.sh (vI 0), .sh (vB false), .sh (.val (.slice none 0 0)), .sh (.val (.slice none 0 0))]))]) (fun s => n - s.1)
   (fun s => s.1 ≤ n ∧ s.2 = fdot A B s.1 ∧ isRat s.2) (0, rof 0 1) (Weak.list ⟨rfl, rfl, rfl, rfl, rfl, rfl, trivial⟩ ⟨rfl, rfl, trivial⟩) ⟨Nat.zero_le _, rfl, isRat_nrat _ _ _⟩ ?_
 rintro ⟨i, out⟩ ⟨hi, hI, ho⟩
 simp only [cN, vI, vB] at *
 have hra := ha i
 have hrb := hb i
 have cA := hA i
 have cB := hB i
 clear ha hb hA hB
 (refine WZ ?_ ?_<;>intros;rename_i hb K1 hK1;rotate_left;rename_i hb;rotate_right)
 · have hra := hra (by omega)
   have hrb := hrb (by omega)
   (refine ⟨_,cA (by omega),hK1 _ ?_⟩;clear hK1 K1;try simp only [put_some,cN,vI,vB,cR])
   (refine SZ ?_;intros;rename_i K1 hK1)
   (refine ⟨_,cB (by omega),hK1 _ ?_⟩;clear hK1 K1;try simp only [put_some,cN,vI,vB,cR])
   (refine SZ ?_;intros;rename_i K1 hK1)
   have c1 := con_FMul (A i) (B i) (fit_of hra) (fit_of hrb)
   rw [if_pos ⟨hra, hrb⟩, if_pos ⟨hra, hrb⟩] at c1
   (refine ⟨_,c1,hK1 _ ?_⟩;clear hK1 K1;try simp only [put_some,cN,vI,vB,cR])
   (refine SZ ?_;intros;rename_i K1 hK1)
   have c2 := con_FAdd out (rmul (A i) (B i)) (fit_of ho) (fit_of (isRat_rmul _ _ hra hrb))
   rw [if_pos ⟨ho, isRat_rmul _ _ hra hrb⟩, if_pos ⟨ho, isRat_rmul _ _ hra hrb⟩] at c2
   (refine ⟨_,c2,hK1 _ ?_⟩;clear hK1 K1;try simp only [put_some,cN,vI,vB,cR])
   (refine SZ ?_;intros)
   refine p_lx _ _ _ _ (i + 1, radd out (rmul (A i) (B i))) ?_ ⟨?_, ?_, ?_⟩ (Weak.list ⟨int_eq ?_, rfl, rfl, rfl, rfl, rfl, trivial⟩ ⟨rfl, rfl, trivial⟩) <;> dsimp only
   · omega
   · omega
   · rw [hI, fdot_succ]
   · exact isRat_radd _ _ ho (isRat_rmul _ _ hra hrb)
   · omega
 · have : i = n := by omega
   subst this
   rw [← hI]
   (refine SZ ?_;intros)
   simp (disch := omega) only [resc1,resc2,rescc,rest1c,AB,AD,AZ,Nat.reduceEqDiff,↓reduceIte,Nat.reduceAdd,Nat.reduceMul,Nat.reducePow,Nat.reduceLeDiff,Nat.reduceLT]
   all_goals rfl
end Go.Pw
