/- Merged from the working texts Pr7. -/
import Derived.Test.YtkflegdaeienlaaGreatDoorKa25
import Derived.Test.YtkflegdaeienlaaGreatDoorKa34
set_option linter.all false
set_option maxHeartbeats 400000
set_option maxHeartbeats 2000000
set_option maxRecDepth 100000
set_option linter.unusedVariables false
set_option linter.unusedSimpArgs false
namespace Go.Pw
open Go Go.Proofs
theorem gcd_half {X Y G : Nat} (hG : G % 2 = 1) (he : X % 2 = 0) (h : Nat.gcd X Y = G) : Nat.gcd (X / 2) Y = G := by
 have hx : X = 2 * (X / 2) := by omega
 have hc : Nat.Coprime G 2 := by
   have := Nat.gcd_rec 2 G
   rw [hG] at this
   show Nat.gcd G 2 = 1
   rw [Nat.gcd_comm, this, Nat.gcd_one_left]
 apply Nat.dvd_antisymm
 · rw [← h]
   exact Nat.dvd_gcd (Nat.dvd_trans (Nat.gcd_dvd_left _ _) ⟨2, by omega⟩) (Nat.gcd_dvd_right _ _)
 · refine Nat.dvd_gcd ?_ (h ▸ Nat.gcd_dvd_right X Y)
   have h1 : G ∣ 2 * (X / 2) := by rw [← hx, ← h]; exact Nat.gcd_dvd_left _ _
   exact hc.dvd_of_dvd_mul_left h1
theorem gcd_half' {X Y G : Nat} (hG : G % 2 = 1) (he : Y % 2 = 0) (h : Nat.gcd X Y = G) : Nat.gcd X (Y / 2) = G := by
 rw [Nat.gcd_comm] at h ⊢; exact gcd_half hG he h
theorem dg_head {n : Nat} (h : n ≠ 0) : (dg n).getD 0 0 = n % 4294967296 ∧ 0 < (dg n).length := by rw [dg_pos h]; simp
theorem con_Gcd (a b : Nat) (h : (dg a).length < 2 ^ 39) (h' : (dg b).length < 2 ^ 39) : Con E 140 [cN (dg a), cN (dg b)] (cN (dg (Nat.gcd a b))) := by
 refine con_of2 mixed (fn := Tryz.f140) (rs := [.tmp 4]) Tryz.func140 (by kernel_rfl) rfl (by kernel_rfl) rfl rfl ?_
 simp only [argE, Nat.reduceAdd, cN]
 repeat'(with_reducible first|apply p_seq|apply p_sq|apply p_reg|apply p_nil|apply p_skip|apply p_block|apply p_bq|apply p_ret|apply p_exit|apply p_sq_ret|apply p_sq_exit|apply p_bq_ret|apply p_bq_this|apply p_lq_ret|apply p_lq_exit|apply d_nil|refine p_drw (by decide +kernel) ?_|refine f_op rfl rfl ?_|refine f_opg rfl rfl rfl rfl ?_ ?_|refine f_new rfl rfl rfl rfl ?_|(refine f_end (And.intro ?_ ?_)<;>simp only [List.foldl_nil,List.foldl_cons,recS_mk,AB,Nat.reduceEqDiff,↓reduceIte,Nat.reduceAdd,Nat.reduceMul,Nat.reducePow,Nat.reduceLeDiff,Nat.reduceLT])|apply k_nil|refine k_cons rfl rfl ?_ ?_|apply g_nil|refine g_op0 rfl ?_|refine g_opC rfl ?_|refine p_bq_other (by decide) ?_|refine p_cond rfl ?_ ?_|refine p_op rfl ?_|refine d_op rfl rfl ?_|refine d_eff rfl ?_|refine p_opg rfl rfl rfl ?_ ?_|refine d_opg rfl rfl rfl rfl ?_ ?_|((first|refine p_opgU rfl rfl rfl ?_|refine d_opgU rfl rfl rfl rfl ?_);try simp only [put_some])|(refine fun (K1:St→Prop) hK1=>?_;simp (disch := omega) only [AB,Nat.reduceEqDiff,↓reduceIte,Nat.reduceAdd,Nat.reduceMul,Nat.reducePow,Nat.reduceLeDiff,Nat.reduceLT];(try simp (disch := omega) only [AC]);(try simp only [AM]))|(refine hK1 _ ?_;clear hK1 K1)|refine And.intro (by omega) ?_|apply And.intro|(refine fun (hb:(_:Bool)=_)=>?_;(try simp only [HS] at hb);(try (change True at hb;clear hb));first|(exfalso;first|omega|contradiction)|(try simp only [put_some])))
 · simp (disch := omega) only [res1,res2,res3,AB,Nat.reduceEqDiff,↓reduceIte,Nat.reduceAdd,Nat.reduceMul,Nat.reducePow,Nat.reduceLeDiff,Nat.reduceLT]
   have : a = 0 := dg_ne_nil.1 (List.length_eq_zero_iff.1 (by omega))
   subst this
   simp
 · simp (disch := omega) only [res1,res2,res3,AB,Nat.reduceEqDiff,↓reduceIte,Nat.reduceAdd,Nat.reduceMul,Nat.reducePow,Nat.reduceLeDiff,Nat.reduceLT]
   have : b = 0 := dg_ne_nil.1 (List.length_eq_zero_iff.1 (by omega))
   subst this
   simp
 · have ha0 : a ≠ 0 := fun e => by subst e; simp [dg_zero] at *
   have hb0 : b ≠ 0 := fun e => by subst e; simp [dg_zero] at *
   have hlen : bl a ≤ 32 * (dg a).length := by
     rw [bl_le_iff, Nat.pow_mul]
     exact len_dg_le.1 (Nat.le_refl _)
   refine p_loopx (fun (s : Nat × Nat × Nat) => [(0, .sh (cN (dg s.1))), (1, .sh (cN (dg s.2.1))), (5, .sh (vI s.2.2))]) (fun s => []) (fun s => s.1)
     (fun s => s.1 ≠ 0 ∧ s.2.1 ≠ 0 ∧ s.1 * 2 ^ s.2.2 ≤ a ∧ s.2.1 ≤ b ∧ Nat.gcd s.1 s.2.1 * 2 ^ s.2.2 = Nat.gcd a b) (a, b, 0) (Weak.list ⟨rfl, rfl, rfl, trivial⟩ trivial) ⟨ha0, hb0, by simp, by simp, by simp⟩ ?_
   rintro ⟨X, Y, t⟩ ⟨hX, hY, hXa, hYb, hI⟩
   simp only [cN, vI] at *
   obtain ⟨hx1, hx2⟩ := dg_head hX
   obtain ⟨hy1, hy2⟩ := dg_head hY
   have ht : t < bl a := by
     have h1 : 2 ^ t ≤ X * 2 ^ t := Nat.le_mul_of_pos_left _ (by omega)
     apply Nat.lt_of_not_le
     intro hle
     have := (bl_le_iff a t).1 hle
     omega
   have hxl : (dg X).length < 2 ^ 39 := Nat.lt_of_le_of_lt (dg_mono (Nat.le_trans (Nat.le_mul_of_pos_right _ (Nat.pow_pos (by omega))) hXa)) h
   have hyl : (dg Y).length < 2 ^ 39 := Nat.lt_of_le_of_lt (dg_mono hYb) h'
   repeat'(with_reducible first|apply p_seq|apply p_sq|apply p_reg|apply p_nil|apply p_skip|apply p_block|apply p_bq|apply p_ret|apply p_exit|apply p_sq_ret|apply p_sq_exit|apply p_bq_ret|apply p_bq_this|apply p_lq_ret|apply p_lq_exit|apply d_nil|refine p_drw (by decide +kernel) ?_|refine f_op rfl rfl ?_|refine f_opg rfl rfl rfl rfl ?_ ?_|refine f_new rfl rfl rfl rfl ?_|(refine f_end (And.intro ?_ ?_)<;>simp only [List.foldl_nil,List.foldl_cons,recS_mk,AB,Nat.reduceEqDiff,↓reduceIte,Nat.reduceAdd,Nat.reduceMul,Nat.reducePow,Nat.reduceLeDiff,Nat.reduceLT])|apply k_nil|refine k_cons rfl rfl ?_ ?_|apply g_nil|refine g_op0 rfl ?_|refine g_opC rfl ?_|refine p_bq_other (by decide) ?_|refine p_cond rfl ?_ ?_|refine p_op rfl ?_|refine d_op rfl rfl ?_|refine d_eff rfl ?_|refine p_opg rfl rfl rfl ?_ ?_|refine d_opg rfl rfl rfl rfl ?_ ?_|((first|refine p_opgU rfl rfl rfl ?_|refine d_opgU rfl rfl rfl rfl ?_);try simp only [put_some])|(refine fun (K1:St→Prop) hK1=>?_;simp (disch := omega) only [AB,Nat.reduceEqDiff,↓reduceIte,Nat.reduceAdd,Nat.reduceMul,Nat.reducePow,Nat.reduceLeDiff,Nat.reduceLT];(try simp (disch := omega) only [AC]);(try simp only [AM]))|(refine hK1 _ ?_;clear hK1 K1)|refine And.intro (by omega) ?_|apply And.intro|(refine fun (hb:(_:Bool)=_)=>?_;(try simp only [HS] at hb);(try (change True at hb;clear hb));first|(exfalso;first|omega|contradiction)|(try simp only [put_some])))
   · (refine ⟨_,con_half (dg X) (dok_dg X) (by omega),hK1 _ ?_⟩;clear hK1 K1;try simp only [put_some,cN,vI,vB,cR])
     rw [val_dg]
     (refine SA ?_;intros;first|rename_i hb K1 hK1|rename_i K1 hK1|skip)
     (refine ⟨_,con_half (dg Y) (dok_dg Y) (by omega),hK1 _ ?_⟩;clear hK1 K1;try simp only [put_some,cN,vI,vB,cR])
     rw [val_dg]
     (refine SA ?_;intros)
     refine p_lx _ _ _ _ (X / 2, Y / 2, t + 1) ?_ ⟨?_, ?_, ?_, ?_, ?_⟩ (Weak.list ⟨rfl, rfl, int_eq ?_, trivial⟩ trivial) <;> dsimp only
     · omega
     · omega
     · omega
     · have : X / 2 * 2 ^ (t + 1) ≤ X * 2 ^ t := by
         rw [Nat.pow_succ, Nat.mul_comm (2 ^ t), ← Nat.mul_assoc]
         exact Nat.mul_le_mul_right _ (Nat.div_mul_le_self X 2)
       omega
     · omega
     · have h1 : Nat.gcd X Y = Nat.gcd (X / 2) (Y / 2) * 2 := by
         rw [← Nat.gcd_mul_right]
         congr 1 <;> omega
       rw [← hI, h1, Nat.pow_succ]; simp only [Nat.mul_assoc, Nat.mul_left_comm, Nat.mul_comm]
     · omega
   · have hodd : Nat.gcd X Y % 2 = 1 := by
       apply Classical.byContradiction
       intro hc
       have h2 : 2 ∣ Nat.gcd X Y := by omega
       have h3 := Nat.dvd_trans h2 (Nat.gcd_dvd_left X Y)
       have h4 := Nat.dvd_trans h2 (Nat.gcd_dvd_right X Y)
       clear hI hXa
       omega
     generalize hG : Nat.gcd X Y = G at *
     have hGa : G * 2 ^ t ≤ a := by rw [hI]; exact Nat.gcd_le_left _ (by omega)
     clear hXa hYb hx1 hx2 hy1 hy2
     refine p_loopx (fun (s : Nat × Nat) => [(0, .sh (cN (dg s.1))), (1, .sh (cN (dg s.2))), (5, .sh (vI t))]) (fun s => []) (fun s => s.1 + s.2)
       (fun s => s.1 ≠ 0 ∧ Nat.gcd s.1 s.2 = G ∧ (dg s.1).length < 2 ^ 39 ∧ (dg s.2).length < 2 ^ 39) (X, Y) (Weak.list ⟨rfl, rfl, rfl, trivial⟩ trivial) ⟨hX, hG, hxl, hyl⟩ ?_
     rintro ⟨X, Y⟩ ⟨hX, hG, hxl, hyl⟩
     simp only [cN, vI] at *
     (refine WA ?_ ?_<;>intros<;>first|rename_i hb K1 hK1|rename_i K1 hK1|skip)
     · have hY : Y ≠ 0 := fun e => by subst e; simp [dg_zero] at *
       refine p_loopx (fun (s : Nat) => [(0, .sh (cN (dg s))), (1, .sh (cN (dg Y))), (5, .sh (vI t))]) (fun s => []) (fun s => s)
         (fun s => s ≠ 0 ∧ Nat.gcd s Y = G ∧ (dg s).length < 2 ^ 39 ∧ s ≤ X) X (Weak.list ⟨rfl, rfl, rfl, trivial⟩ trivial) ⟨hX, hG, hxl, Nat.le_refl _⟩ ?_
       rintro Z ⟨hZ, hZG, hzl, hZX⟩
       simp only [cN, vI] at *
       obtain ⟨hz1, hz2⟩ := dg_head hZ
       repeat'(with_reducible first|apply p_seq|apply p_sq|apply p_reg|apply p_nil|apply p_skip|apply p_block|apply p_bq|apply p_ret|apply p_exit|apply p_sq_ret|apply p_sq_exit|apply p_bq_ret|apply p_bq_this|apply p_lq_ret|apply p_lq_exit|apply d_nil|refine p_drw (by decide +kernel) ?_|refine f_op rfl rfl ?_|refine f_opg rfl rfl rfl rfl ?_ ?_|refine f_new rfl rfl rfl rfl ?_|(refine f_end (And.intro ?_ ?_)<;>simp only [List.foldl_nil,List.foldl_cons,recS_mk,AB,Nat.reduceEqDiff,↓reduceIte,Nat.reduceAdd,Nat.reduceMul,Nat.reducePow,Nat.reduceLeDiff,Nat.reduceLT])|apply k_nil|refine k_cons rfl rfl ?_ ?_|apply g_nil|refine g_op0 rfl ?_|refine g_opC rfl ?_|refine p_bq_other (by decide) ?_|refine p_cond rfl ?_ ?_|refine p_op rfl ?_|refine d_op rfl rfl ?_|refine d_eff rfl ?_|refine p_opg rfl rfl rfl ?_ ?_|refine d_opg rfl rfl rfl rfl ?_ ?_|((first|refine p_opgU rfl rfl rfl ?_|refine d_opgU rfl rfl rfl rfl ?_);try simp only [put_some])|(refine fun (K1:St→Prop) hK1=>?_;simp (disch := omega) only [AB,Nat.reduceEqDiff,↓reduceIte,Nat.reduceAdd,Nat.reduceMul,Nat.reducePow,Nat.reduceLeDiff,Nat.reduceLT];(try simp (disch := omega) only [AC]);(try simp only [AM]))|(refine hK1 _ ?_;clear hK1 K1)|refine And.intro (by omega) ?_|apply And.intro|(refine fun (hb:(_:Bool)=_)=>?_;(try simp only [HS] at hb);(try (change True at hb;clear hb));first|(exfalso;first|omega|contradiction)|(try simp only [put_some])))
       · (refine ⟨_,con_half (dg Z) (dok_dg Z) (by omega),hK1 _ ?_⟩;clear hK1 K1;try simp only [put_some,cN,vI,vB,cR])
         rw [val_dg]
         rw [hz1] at hb
         repeat'(with_reducible first|apply p_seq|apply p_sq|apply p_reg|apply p_nil|apply p_skip|apply p_block|apply p_bq|apply p_ret|apply p_exit|apply p_sq_ret|apply p_sq_exit|apply p_bq_ret|apply p_bq_this|apply p_lq_ret|apply p_lq_exit|apply d_nil|refine p_drw (by decide +kernel) ?_|refine f_op rfl rfl ?_|refine f_opg rfl rfl rfl rfl ?_ ?_|refine f_new rfl rfl rfl rfl ?_|(refine f_end (And.intro ?_ ?_)<;>simp only [List.foldl_nil,List.foldl_cons,recS_mk,AB,Nat.reduceEqDiff,↓reduceIte,Nat.reduceAdd,Nat.reduceMul,Nat.reducePow,Nat.reduceLeDiff,Nat.reduceLT])|apply k_nil|refine k_cons rfl rfl ?_ ?_|apply g_nil|refine g_op0 rfl ?_|refine g_opC rfl ?_|refine p_bq_other (by decide) ?_|refine p_cond rfl ?_ ?_|refine p_op rfl ?_|refine d_op rfl rfl ?_|refine d_eff rfl ?_|refine p_opg rfl rfl rfl ?_ ?_|refine d_opg rfl rfl rfl rfl ?_ ?_|((first|refine p_opgU rfl rfl rfl ?_|refine d_opgU rfl rfl rfl rfl ?_);try simp only [put_some])|(refine fun (K1:St→Prop) hK1=>?_;simp (disch := omega) only [AB,Nat.reduceEqDiff,↓reduceIte,Nat.reduceAdd,Nat.reduceMul,Nat.reducePow,Nat.reduceLeDiff,Nat.reduceLT];(try simp (disch := omega) only [AC]);(try simp only [AM]))|(refine hK1 _ ?_;clear hK1 K1)|refine And.intro (by omega) ?_|apply And.intro|(refine fun (hb:(_:Bool)=_)=>?_;(try simp only [HS] at hb);(try (change True at hb;clear hb));first|(exfalso;first|omega|contradiction)|(try simp only [put_some])))
         refine p_lx _ _ _ _ (Z / 2) ?_ ⟨?_, ?_, ?_, ?_⟩ (Weak.list ⟨rfl, rfl, rfl, trivial⟩ trivial)
         · omega
         · omega
         · exact gcd_half hodd (by omega) hZG
         · exact Nat.lt_of_le_of_lt (dg_mono (Nat.div_le_self _ _)) hzl
         · omega
       · refine p_loopx (fun (s : Nat) => [(0, .sh (cN (dg Z))), (1, .sh (cN (dg s))), (5, .sh (vI t))]) (fun s => []) (fun s => s)
           (fun s => s ≠ 0 ∧ Nat.gcd Z s = G ∧ (dg s).length < 2 ^ 39 ∧ s ≤ Y) Y (Weak.list ⟨rfl, rfl, rfl, trivial⟩ trivial) ⟨hY, hZG, hyl, Nat.le_refl _⟩ ?_
         rintro W ⟨hW, hWG, hwl, hWY⟩
         simp only [cN, vI] at *
         obtain ⟨hw1, hw2⟩ := dg_head hW
         (refine WA ?_ ?_<;>intros<;>first|rename_i hb K1 hK1|rename_i K1 hK1|skip)
         · (refine ⟨_,con_half (dg W) (dok_dg W) (by omega),hK1 _ ?_⟩;clear hK1 K1;try simp only [put_some,cN,vI,vB,cR])
           rw [val_dg]
           rw [hw1] at hb
           repeat'(with_reducible first|apply p_seq|apply p_sq|apply p_reg|apply p_nil|apply p_skip|apply p_block|apply p_bq|apply p_ret|apply p_exit|apply p_sq_ret|apply p_sq_exit|apply p_bq_ret|apply p_bq_this|apply p_lq_ret|apply p_lq_exit|apply d_nil|refine p_drw (by decide +kernel) ?_|refine f_op rfl rfl ?_|refine f_opg rfl rfl rfl rfl ?_ ?_|refine f_new rfl rfl rfl rfl ?_|(refine f_end (And.intro ?_ ?_)<;>simp only [List.foldl_nil,List.foldl_cons,recS_mk,AB,Nat.reduceEqDiff,↓reduceIte,Nat.reduceAdd,Nat.reduceMul,Nat.reducePow,Nat.reduceLeDiff,Nat.reduceLT])|apply k_nil|refine k_cons rfl rfl ?_ ?_|apply g_nil|refine g_op0 rfl ?_|refine g_opC rfl ?_|refine p_bq_other (by decide) ?_|refine p_cond rfl ?_ ?_|refine p_op rfl ?_|refine d_op rfl rfl ?_|refine d_eff rfl ?_|refine p_opg rfl rfl rfl ?_ ?_|refine d_opg rfl rfl rfl rfl ?_ ?_|((first|refine p_opgU rfl rfl rfl ?_|refine d_opgU rfl rfl rfl rfl ?_);try simp only [put_some])|(refine fun (K1:St→Prop) hK1=>?_;simp (disch := omega) only [AB,Nat.reduceEqDiff,↓reduceIte,Nat.reduceAdd,Nat.reduceMul,Nat.reducePow,Nat.reduceLeDiff,Nat.reduceLT];(try simp (disch := omega) only [AC]);(try simp only [AM]))|(refine hK1 _ ?_;clear hK1 K1)|refine And.intro (by omega) ?_|apply And.intro|(refine fun (hb:(_:Bool)=_)=>?_;(try simp only [HS] at hb);(try (change True at hb;clear hb));first|(exfalso;first|omega|contradiction)|(try simp only [put_some])))
           refine p_lx _ _ _ _ (W / 2) ?_ ⟨?_, ?_, ?_, ?_⟩ (Weak.list ⟨rfl, rfl, rfl, trivial⟩ trivial)
           · omega
           · omega
           · exact gcd_half' hodd (by omega) hWG
           · exact Nat.lt_of_le_of_lt (dg_mono (Nat.div_le_self _ _)) hwl
           · omega
         · (refine ⟨_,con_Compare Z W (by omega) (by omega),hK1 _ ?_⟩;clear hK1 K1;try simp only [put_some,cN,vI,vB,cR])
           have hgt := cmpI_gt Z W
           (refine WA ?_ ?_<;>intros<;>first|rename_i hb K1 hK1|rename_i K1 hK1|skip)
           · (refine ⟨_,con_Sub (dg Z) (dg W) (dok_dg _) (dok_dg _) (by rw [val_dg, val_dg]; omega) (by omega) (by omega),hK1 _ ?_⟩;clear hK1 K1;try simp only [put_some,cN,vI,vB,cR])
             rw [val_dg, val_dg]
             repeat'(with_reducible first|apply p_seq|apply p_sq|apply p_reg|apply p_nil|apply p_skip|apply p_block|apply p_bq|apply p_ret|apply p_exit|apply p_sq_ret|apply p_sq_exit|apply p_bq_ret|apply p_bq_this|apply p_lq_ret|apply p_lq_exit|apply d_nil|refine p_drw (by decide +kernel) ?_|refine f_op rfl rfl ?_|refine f_opg rfl rfl rfl rfl ?_ ?_|refine f_new rfl rfl rfl rfl ?_|(refine f_end (And.intro ?_ ?_)<;>simp only [List.foldl_nil,List.foldl_cons,recS_mk,AB,Nat.reduceEqDiff,↓reduceIte,Nat.reduceAdd,Nat.reduceMul,Nat.reducePow,Nat.reduceLeDiff,Nat.reduceLT])|apply k_nil|refine k_cons rfl rfl ?_ ?_|apply g_nil|refine g_op0 rfl ?_|refine g_opC rfl ?_|refine p_bq_other (by decide) ?_|refine p_cond rfl ?_ ?_|refine p_op rfl ?_|refine d_op rfl rfl ?_|refine d_eff rfl ?_|refine p_opg rfl rfl rfl ?_ ?_|refine d_opg rfl rfl rfl rfl ?_ ?_|((first|refine p_opgU rfl rfl rfl ?_|refine d_opgU rfl rfl rfl rfl ?_);try simp only [put_some])|(refine fun (K1:St→Prop) hK1=>?_;simp (disch := omega) only [AB,Nat.reduceEqDiff,↓reduceIte,Nat.reduceAdd,Nat.reduceMul,Nat.reducePow,Nat.reduceLeDiff,Nat.reduceLT];(try simp (disch := omega) only [AC]);(try simp only [AM]))|(refine hK1 _ ?_;clear hK1 K1)|refine And.intro (by omega) ?_|apply And.intro|(refine fun (hb:(_:Bool)=_)=>?_;(try simp only [HS] at hb);(try (change True at hb;clear hb));first|(exfalso;first|omega|contradiction)|(try simp only [put_some])))
             refine p_lx _ _ _ _ (W, Z - W) ?_ ⟨?_, ?_, ?_, ?_⟩ (Weak.list ⟨rfl, rfl, rfl, trivial⟩ trivial) <;> dsimp only
             · omega
             · exact hW
             · rw [Nat.gcd_sub_self_right (by omega), Nat.gcd_comm]; exact hWG
             · exact hwl
             · exact Nat.lt_of_le_of_lt (dg_mono (Nat.sub_le _ _)) hzl
           · (refine ⟨_,con_Sub (dg W) (dg Z) (dok_dg _) (dok_dg _) (by rw [val_dg, val_dg]; omega) (by omega) (by omega),hK1 _ ?_⟩;clear hK1 K1;try simp only [put_some,cN,vI,vB,cR])
             rw [val_dg, val_dg]
             repeat'(with_reducible first|apply p_seq|apply p_sq|apply p_reg|apply p_nil|apply p_skip|apply p_block|apply p_bq|apply p_ret|apply p_exit|apply p_sq_ret|apply p_sq_exit|apply p_bq_ret|apply p_bq_this|apply p_lq_ret|apply p_lq_exit|apply d_nil|refine p_drw (by decide +kernel) ?_|refine f_op rfl rfl ?_|refine f_opg rfl rfl rfl rfl ?_ ?_|refine f_new rfl rfl rfl rfl ?_|(refine f_end (And.intro ?_ ?_)<;>simp only [List.foldl_nil,List.foldl_cons,recS_mk,AB,Nat.reduceEqDiff,↓reduceIte,Nat.reduceAdd,Nat.reduceMul,Nat.reducePow,Nat.reduceLeDiff,Nat.reduceLT])|apply k_nil|refine k_cons rfl rfl ?_ ?_|apply g_nil|refine g_op0 rfl ?_|refine g_opC rfl ?_|refine p_bq_other (by decide) ?_|refine p_cond rfl ?_ ?_|refine p_op rfl ?_|refine d_op rfl rfl ?_|refine d_eff rfl ?_|refine p_opg rfl rfl rfl ?_ ?_|refine d_opg rfl rfl rfl rfl ?_ ?_|((first|refine p_opgU rfl rfl rfl ?_|refine d_opgU rfl rfl rfl rfl ?_);try simp only [put_some])|(refine fun (K1:St→Prop) hK1=>?_;simp (disch := omega) only [AB,Nat.reduceEqDiff,↓reduceIte,Nat.reduceAdd,Nat.reduceMul,Nat.reducePow,Nat.reduceLeDiff,Nat.reduceLT];(try simp (disch := omega) only [AC]);(try simp only [AM]))|(refine hK1 _ ?_;clear hK1 K1)|refine And.intro (by omega) ?_|apply And.intro|(refine fun (hb:(_:Bool)=_)=>?_;(try simp only [HS] at hb);(try (change True at hb;clear hb));first|(exfalso;first|omega|contradiction)|(try simp only [put_some])))
             refine p_lx _ _ _ _ (Z, W - Z) ?_ ⟨?_, ?_, ?_, ?_⟩ (Weak.list ⟨rfl, rfl, rfl, trivial⟩ trivial) <;> dsimp only
             · omega
             · exact hZ
             · rw [Nat.gcd_sub_self_right (by omega)]; exact hWG
             · exact hzl
             · exact Nat.lt_of_le_of_lt (dg_mono (Nat.sub_le _ _)) hwl
     · have hY : Y = 0 := dg_ne_nil.1 (List.length_eq_zero_iff.1 (by omega))
       subst hY
       rw [Nat.gcd_zero_right] at hG
       subst hG
       refine p_loopx (fun (s : Nat) => [(0, .sh (cN (dg (X * 2 ^ s)))), (7, .sh (vI s)), (5, .sh (vI t))]) (fun s => []) (fun s => t - s)
         (fun s => s ≤ t) 0 (Weak.list ⟨by simp [cN, getS], rfl, rfl, trivial⟩ trivial) (Nat.zero_le _) ?_
       rintro s hs
       simp only [cN, vI] at *
       have hsl : (dg (X * 2 ^ s)).length < 2 ^ 39 := Nat.lt_of_le_of_lt (dg_mono (Nat.le_trans (Nat.mul_le_mul_left X (Nat.pow_le_pow_right (by omega) hs)) hGa)) h
       repeat'(with_reducible first|apply p_seq|apply p_sq|apply p_reg|apply p_nil|apply p_skip|apply p_block|apply p_bq|apply p_ret|apply p_exit|apply p_sq_ret|apply p_sq_exit|apply p_bq_ret|apply p_bq_this|apply p_lq_ret|apply p_lq_exit|apply d_nil|refine p_drw (by decide +kernel) ?_|refine f_op rfl rfl ?_|refine f_opg rfl rfl rfl rfl ?_ ?_|refine f_new rfl rfl rfl rfl ?_|(refine f_end (And.intro ?_ ?_)<;>simp only [List.foldl_nil,List.foldl_cons,recS_mk,AB,Nat.reduceEqDiff,↓reduceIte,Nat.reduceAdd,Nat.reduceMul,Nat.reducePow,Nat.reduceLeDiff,Nat.reduceLT])|apply k_nil|refine k_cons rfl rfl ?_ ?_|apply g_nil|refine g_op0 rfl ?_|refine g_opC rfl ?_|refine p_bq_other (by decide) ?_|refine p_cond rfl ?_ ?_|refine p_op rfl ?_|refine d_op rfl rfl ?_|refine d_eff rfl ?_|refine p_opg rfl rfl rfl ?_ ?_|refine d_opg rfl rfl rfl rfl ?_ ?_|((first|refine p_opgU rfl rfl rfl ?_|refine d_opgU rfl rfl rfl rfl ?_);try simp only [put_some])|(refine fun (K1:St→Prop) hK1=>?_;simp (disch := omega) only [AB,Nat.reduceEqDiff,↓reduceIte,Nat.reduceAdd,Nat.reduceMul,Nat.reducePow,Nat.reduceLeDiff,Nat.reduceLT];(try simp (disch := omega) only [AC]);(try simp only [AM]))|(refine hK1 _ ?_;clear hK1 K1)|refine And.intro (by omega) ?_|apply And.intro|(refine fun (hb:(_:Bool)=_)=>?_;(try simp only [HS] at hb);(try (change True at hb;clear hb));first|(exfalso;first|omega|contradiction)|(try simp only [put_some])))
       · (refine ⟨_,con_twice (dg (X * 2 ^ s)) 0 (dok_dg _) (by omega) (by omega),hK1 _ ?_⟩;clear hK1 K1;try simp only [put_some,cN,vI,vB,cR])
         rw [val_dg]
         repeat'(with_reducible first|apply p_seq|apply p_sq|apply p_reg|apply p_nil|apply p_skip|apply p_block|apply p_bq|apply p_ret|apply p_exit|apply p_sq_ret|apply p_sq_exit|apply p_bq_ret|apply p_bq_this|apply p_lq_ret|apply p_lq_exit|apply d_nil|refine p_drw (by decide +kernel) ?_|refine f_op rfl rfl ?_|refine f_opg rfl rfl rfl rfl ?_ ?_|refine f_new rfl rfl rfl rfl ?_|(refine f_end (And.intro ?_ ?_)<;>simp only [List.foldl_nil,List.foldl_cons,recS_mk,AB,Nat.reduceEqDiff,↓reduceIte,Nat.reduceAdd,Nat.reduceMul,Nat.reducePow,Nat.reduceLeDiff,Nat.reduceLT])|apply k_nil|refine k_cons rfl rfl ?_ ?_|apply g_nil|refine g_op0 rfl ?_|refine g_opC rfl ?_|refine p_bq_other (by decide) ?_|refine p_cond rfl ?_ ?_|refine p_op rfl ?_|refine d_op rfl rfl ?_|refine d_eff rfl ?_|refine p_opg rfl rfl rfl ?_ ?_|refine d_opg rfl rfl rfl rfl ?_ ?_|((first|refine p_opgU rfl rfl rfl ?_|refine d_opgU rfl rfl rfl rfl ?_);try simp only [put_some])|(refine fun (K1:St→Prop) hK1=>?_;simp (disch := omega) only [AB,Nat.reduceEqDiff,↓reduceIte,Nat.reduceAdd,Nat.reduceMul,Nat.reducePow,Nat.reduceLeDiff,Nat.reduceLT];(try simp (disch := omega) only [AC]);(try simp only [AM]))|(refine hK1 _ ?_;clear hK1 K1)|refine And.intro (by omega) ?_|apply And.intro|(refine fun (hb:(_:Bool)=_)=>?_;(try simp only [HS] at hb);(try (change True at hb;clear hb));first|(exfalso;first|omega|contradiction)|(try simp only [put_some])))
         refine p_lx _ _ _ _ (s + 1) ?_ ?_ (Weak.list ⟨sl_eq' ?_, int_eq ?_, rfl, trivial⟩ trivial)
         · omega
         · omega
         · rw [Nat.add_zero, Nat.pow_succ]; congr 1; simp only [Nat.mul_assoc, Nat.mul_left_comm, Nat.mul_comm]
         · omega
       · have : s = t := by omega
         subst this
         simp (disch := omega) only [res1,res2,res3,AB,Nat.reduceEqDiff,↓reduceIte,Nat.reduceAdd,Nat.reduceMul,Nat.reducePow,Nat.reduceLeDiff,Nat.reduceLT]
         rw [hI]
   · have hodd : Nat.gcd X Y % 2 = 1 := by
       apply Classical.byContradiction
       intro hc
       have h2 : 2 ∣ Nat.gcd X Y := by omega
       have h3 := Nat.dvd_trans h2 (Nat.gcd_dvd_left X Y)
       have h4 := Nat.dvd_trans h2 (Nat.gcd_dvd_right X Y)
       clear hI hXa
       omega
     generalize hG : Nat.gcd X Y = G at *
     have hGa : G * 2 ^ t ≤ a := by rw [hI]; exact Nat.gcd_le_left _ (by omega)
     clear hXa hYb hx1 hx2 hy1 hy2
     refine p_loopx (fun (s : Nat × Nat) => [(0, .sh (cN (dg s.1))), (1, .sh (cN (dg s.2))), (5, .sh (vI t))]) (fun s => []) (fun s => s.1 + s.2)
       (fun s => s.1 ≠ 0 ∧ Nat.gcd s.1 s.2 = G ∧ (dg s.1).length < 2 ^ 39 ∧ (dg s.2).length < 2 ^ 39) (X, Y) (Weak.list ⟨rfl, rfl, rfl, trivial⟩ trivial) ⟨hX, hG, hxl, hyl⟩ ?_
     rintro ⟨X, Y⟩ ⟨hX, hG, hxl, hyl⟩
     simp only [cN, vI] at *
     (refine WA ?_ ?_<;>intros<;>first|rename_i hb K1 hK1|rename_i K1 hK1|skip)
     · have hY : Y ≠ 0 := fun e => by subst e; simp [dg_zero] at *
       refine p_loopx (fun (s : Nat) => [(0, .sh (cN (dg s))), (1, .sh (cN (dg Y))), (5, .sh (vI t))]) (fun s => []) (fun s => s)
         (fun s => s ≠ 0 ∧ Nat.gcd s Y = G ∧ (dg s).length < 2 ^ 39 ∧ s ≤ X) X (Weak.list ⟨rfl, rfl, rfl, trivial⟩ trivial) ⟨hX, hG, hxl, Nat.le_refl _⟩ ?_
       rintro Z ⟨hZ, hZG, hzl, hZX⟩
       simp only [cN, vI] at *
       obtain ⟨hz1, hz2⟩ := dg_head hZ
       repeat'(with_reducible first|apply p_seq|apply p_sq|apply p_reg|apply p_nil|apply p_skip|apply p_block|apply p_bq|apply p_ret|apply p_exit|apply p_sq_ret|apply p_sq_exit|apply p_bq_ret|apply p_bq_this|apply p_lq_ret|apply p_lq_exit|apply d_nil|refine p_drw (by decide +kernel) ?_|refine f_op rfl rfl ?_|refine f_opg rfl rfl rfl rfl ?_ ?_|refine f_new rfl rfl rfl rfl ?_|(refine f_end (And.intro ?_ ?_)<;>simp only [List.foldl_nil,List.foldl_cons,recS_mk,AB,Nat.reduceEqDiff,↓reduceIte,Nat.reduceAdd,Nat.reduceMul,Nat.reducePow,Nat.reduceLeDiff,Nat.reduceLT])|apply k_nil|refine k_cons rfl rfl ?_ ?_|apply g_nil|refine g_op0 rfl ?_|refine g_opC rfl ?_|refine p_bq_other (by decide) ?_|refine p_cond rfl ?_ ?_|refine p_op rfl ?_|refine d_op rfl rfl ?_|refine d_eff rfl ?_|refine p_opg rfl rfl rfl ?_ ?_|refine d_opg rfl rfl rfl rfl ?_ ?_|((first|refine p_opgU rfl rfl rfl ?_|refine d_opgU rfl rfl rfl rfl ?_);try simp only [put_some])|(refine fun (K1:St→Prop) hK1=>?_;simp (disch := omega) only [AB,Nat.reduceEqDiff,↓reduceIte,Nat.reduceAdd,Nat.reduceMul,Nat.reducePow,Nat.reduceLeDiff,Nat.reduceLT];(try simp (disch := omega) only [AC]);(try simp only [AM]))|(refine hK1 _ ?_;clear hK1 K1)|refine And.intro (by omega) ?_|apply And.intro|(refine fun (hb:(_:Bool)=_)=>?_;(try simp only [HS] at hb);(try (change True at hb;clear hb));first|(exfalso;first|omega|contradiction)|(try simp only [put_some])))
       · (refine ⟨_,con_half (dg Z) (dok_dg Z) (by omega),hK1 _ ?_⟩;clear hK1 K1;try simp only [put_some,cN,vI,vB,cR])
         rw [val_dg]
         rw [hz1] at hb
         repeat'(with_reducible first|apply p_seq|apply p_sq|apply p_reg|apply p_nil|apply p_skip|apply p_block|apply p_bq|apply p_ret|apply p_exit|apply p_sq_ret|apply p_sq_exit|apply p_bq_ret|apply p_bq_this|apply p_lq_ret|apply p_lq_exit|apply d_nil|refine p_drw (by decide +kernel) ?_|refine f_op rfl rfl ?_|refine f_opg rfl rfl rfl rfl ?_ ?_|refine f_new rfl rfl rfl rfl ?_|(refine f_end (And.intro ?_ ?_)<;>simp only [List.foldl_nil,List.foldl_cons,recS_mk,AB,Nat.reduceEqDiff,↓reduceIte,Nat.reduceAdd,Nat.reduceMul,Nat.reducePow,Nat.reduceLeDiff,Nat.reduceLT])|apply k_nil|refine k_cons rfl rfl ?_ ?_|apply g_nil|refine g_op0 rfl ?_|refine g_opC rfl ?_|refine p_bq_other (by decide) ?_|refine p_cond rfl ?_ ?_|refine p_op rfl ?_|refine d_op rfl rfl ?_|refine d_eff rfl ?_|refine p_opg rfl rfl rfl ?_ ?_|refine d_opg rfl rfl rfl rfl ?_ ?_|((first|refine p_opgU rfl rfl rfl ?_|refine d_opgU rfl rfl rfl rfl ?_);try simp only [put_some])|(refine fun (K1:St→Prop) hK1=>?_;simp (disch := omega) only [AB,Nat.reduceEqDiff,↓reduceIte,Nat.reduceAdd,Nat.reduceMul,Nat.reducePow,Nat.reduceLeDiff,Nat.reduceLT];(try simp (disch := omega) only [AC]);(try simp only [AM]))|(refine hK1 _ ?_;clear hK1 K1)|refine And.intro (by omega) ?_|apply And.intro|(refine fun (hb:(_:Bool)=_)=>?_;(try simp only [HS] at hb);(try (change True at hb;clear hb));first|(exfalso;first|omega|contradiction)|(try simp only [put_some])))
         refine p_lx _ _ _ _ (Z / 2) ?_ ⟨?_, ?_, ?_, ?_⟩ (Weak.list ⟨rfl, rfl, rfl, trivial⟩ trivial)
         · omega
         · omega
         · exact gcd_half hodd (by omega) hZG
         · exact Nat.lt_of_le_of_lt (dg_mono (Nat.div_le_self _ _)) hzl
         · omega
       · refine p_loopx (fun (s : Nat) => [(0, .sh (cN (dg Z))), (1, .sh (cN (dg s))), (5, .sh (vI t))]) (fun s => []) (fun s => s)
           (fun s => s ≠ 0 ∧ Nat.gcd Z s = G ∧ (dg s).length < 2 ^ 39 ∧ s ≤ Y) Y (Weak.list ⟨rfl, rfl, rfl, trivial⟩ trivial) ⟨hY, hZG, hyl, Nat.le_refl _⟩ ?_
         rintro W ⟨hW, hWG, hwl, hWY⟩
         simp only [cN, vI] at *
         obtain ⟨hw1, hw2⟩ := dg_head hW
         (refine WA ?_ ?_<;>intros<;>first|rename_i hb K1 hK1|rename_i K1 hK1|skip)
         · (refine ⟨_,con_half (dg W) (dok_dg W) (by omega),hK1 _ ?_⟩;clear hK1 K1;try simp only [put_some,cN,vI,vB,cR])
           rw [val_dg]
           rw [hw1] at hb
           repeat'(with_reducible first|apply p_seq|apply p_sq|apply p_reg|apply p_nil|apply p_skip|apply p_block|apply p_bq|apply p_ret|apply p_exit|apply p_sq_ret|apply p_sq_exit|apply p_bq_ret|apply p_bq_this|apply p_lq_ret|apply p_lq_exit|apply d_nil|refine p_drw (by decide +kernel) ?_|refine f_op rfl rfl ?_|refine f_opg rfl rfl rfl rfl ?_ ?_|refine f_new rfl rfl rfl rfl ?_|(refine f_end (And.intro ?_ ?_)<;>simp only [List.foldl_nil,List.foldl_cons,recS_mk,AB,Nat.reduceEqDiff,↓reduceIte,Nat.reduceAdd,Nat.reduceMul,Nat.reducePow,Nat.reduceLeDiff,Nat.reduceLT])|apply k_nil|refine k_cons rfl rfl ?_ ?_|apply g_nil|refine g_op0 rfl ?_|refine g_opC rfl ?_|refine p_bq_other (by decide) ?_|refine p_cond rfl ?_ ?_|refine p_op rfl ?_|refine d_op rfl rfl ?_|refine d_eff rfl ?_|refine p_opg rfl rfl rfl ?_ ?_|refine d_opg rfl rfl rfl rfl ?_ ?_|((first|refine p_opgU rfl rfl rfl ?_|refine d_opgU rfl rfl rfl rfl ?_);try simp only [put_some])|(refine fun (K1:St→Prop) hK1=>?_;simp (disch := omega) only [AB,Nat.reduceEqDiff,↓reduceIte,Nat.reduceAdd,Nat.reduceMul,Nat.reducePow,Nat.reduceLeDiff,Nat.reduceLT];(try simp (disch := omega) only [AC]);(try simp only [AM]))|(refine hK1 _ ?_;clear hK1 K1)|refine And.intro (by omega) ?_|apply And.intro|(refine fun (hb:(_:Bool)=_)=>?_;(try simp only [HS] at hb);(try (change True at hb;clear hb));first|(exfalso;first|omega|contradiction)|(try simp only [put_some])))
           refine p_lx _ _ _ _ (W / 2) ?_ ⟨?_, ?_, ?_, ?_⟩ (Weak.list ⟨rfl, rfl, rfl, trivial⟩ trivial)
           · omega
           · omega
           · exact gcd_half' hodd (by omega) hWG
           · exact Nat.lt_of_le_of_lt (dg_mono (Nat.div_le_self _ _)) hwl
           · omega
         · (refine ⟨_,con_Compare Z W (by omega) (by omega),hK1 _ ?_⟩;clear hK1 K1;try simp only [put_some,cN,vI,vB,cR])
           have hgt := cmpI_gt Z W
           (refine WA ?_ ?_<;>intros<;>first|rename_i hb K1 hK1|rename_i K1 hK1|skip)
           · (refine ⟨_,con_Sub (dg Z) (dg W) (dok_dg _) (dok_dg _) (by rw [val_dg, val_dg]; omega) (by omega) (by omega),hK1 _ ?_⟩;clear hK1 K1;try simp only [put_some,cN,vI,vB,cR])
             rw [val_dg, val_dg]
             repeat'(with_reducible first|apply p_seq|apply p_sq|apply p_reg|apply p_nil|apply p_skip|apply p_block|apply p_bq|apply p_ret|apply p_exit|apply p_sq_ret|apply p_sq_exit|apply p_bq_ret|apply p_bq_this|apply p_lq_ret|apply p_lq_exit|apply d_nil|refine p_drw (by decide +kernel) ?_|refine f_op rfl rfl ?_|refine f_opg rfl rfl rfl rfl ?_ ?_|refine f_new rfl rfl rfl rfl ?_|(refine f_end (And.intro ?_ ?_)<;>simp only [List.foldl_nil,List.foldl_cons,recS_mk,AB,Nat.reduceEqDiff,↓reduceIte,Nat.reduceAdd,Nat.reduceMul,Nat.reducePow,Nat.reduceLeDiff,Nat.reduceLT])|apply k_nil|refine k_cons rfl rfl ?_ ?_|apply g_nil|refine g_op0 rfl ?_|refine g_opC rfl ?_|refine p_bq_other (by decide) ?_|refine p_cond rfl ?_ ?_|refine p_op rfl ?_|refine d_op rfl rfl ?_|refine d_eff rfl ?_|refine p_opg rfl rfl rfl ?_ ?_|refine d_opg rfl rfl rfl rfl ?_ ?_|((first|refine p_opgU rfl rfl rfl ?_|refine d_opgU rfl rfl rfl rfl ?_);try simp only [put_some])|(refine fun (K1:St→Prop) hK1=>?_;simp (disch := omega) only [AB,Nat.reduceEqDiff,↓reduceIte,Nat.reduceAdd,Nat.reduceMul,Nat.reducePow,Nat.reduceLeDiff,Nat.reduceLT];(try simp (disch := omega) only [AC]);(try simp only [AM]))|(refine hK1 _ ?_;clear hK1 K1)|refine And.intro (by omega) ?_|apply And.intro|(refine fun (hb:(_:Bool)=_)=>?_;(try simp only [HS] at hb);(try (change True at hb;clear hb));first|(exfalso;first|omega|contradiction)|(try simp only [put_some])))
             refine p_lx _ _ _ _ (W, Z - W) ?_ ⟨?_, ?_, ?_, ?_⟩ (Weak.list ⟨rfl, rfl, rfl, trivial⟩ trivial) <;> dsimp only
             · omega
             · exact hW
             · rw [Nat.gcd_sub_self_right (by omega), Nat.gcd_comm]; exact hWG
             · exact hwl
             · exact Nat.lt_of_le_of_lt (dg_mono (Nat.sub_le _ _)) hzl
           · (refine ⟨_,con_Sub (dg W) (dg Z) (dok_dg _) (dok_dg _) (by rw [val_dg, val_dg]; omega) (by omega) (by omega),hK1 _ ?_⟩;clear hK1 K1;try simp only [put_some,cN,vI,vB,cR])
             rw [val_dg, val_dg]
             repeat'(with_reducible first|apply p_seq|apply p_sq|apply p_reg|apply p_nil|apply p_skip|apply p_block|apply p_bq|apply p_ret|apply p_exit|apply p_sq_ret|apply p_sq_exit|apply p_bq_ret|apply p_bq_this|apply p_lq_ret|apply p_lq_exit|apply d_nil|refine p_drw (by decide +kernel) ?_|refine f_op rfl rfl ?_|refine f_opg rfl rfl rfl rfl ?_ ?_|refine f_new rfl rfl rfl rfl ?_|(refine f_end (And.intro ?_ ?_)<;>simp only [List.foldl_nil,List.foldl_cons,recS_mk,AB,Nat.reduceEqDiff,↓reduceIte,Nat.reduceAdd,Nat.reduceMul,Nat.reducePow,Nat.reduceLeDiff,Nat.reduceLT])|apply k_nil|refine k_cons rfl rfl ?_ ?_|apply g_nil|refine g_op0 rfl ?_|refine g_opC rfl ?_|refine p_bq_other (by decide) ?_|refine p_cond rfl ?_ ?_|refine p_op rfl ?_|refine d_op rfl rfl ?_|refine d_eff rfl ?_|refine p_opg rfl rfl rfl ?_ ?_|refine d_opg rfl rfl rfl rfl ?_ ?_|((first|refine p_opgU rfl rfl rfl ?_|refine d_opgU rfl rfl rfl rfl ?_);try simp only [put_some])|(refine fun (K1:St→Prop) hK1=>?_;simp (disch := omega) only [AB,Nat.reduceEqDiff,↓reduceIte,Nat.reduceAdd,Nat.reduceMul,Nat.reducePow,Nat.reduceLeDiff,Nat.reduceLT];(try simp (disch := omega) only [AC]);(try simp only [AM]))|(refine hK1 _ ?_;clear hK1 K1)|refine And.intro (by omega) ?_|apply And.intro|(refine fun (hb:(_:Bool)=_)=>?_;(try simp only [HS] at hb);(try (change True at hb;clear hb));first|(exfalso;first|omega|contradiction)|(try simp only [put_some])))
             refine p_lx _ _ _ _ (Z, W - Z) ?_ ⟨?_, ?_, ?_, ?_⟩ (Weak.list ⟨rfl, rfl, rfl, trivial⟩ trivial) <;> dsimp only
             · omega
             · exact hZ
             · rw [Nat.gcd_sub_self_right (by omega)]; exact hWG
             · exact hzl
             · exact Nat.lt_of_le_of_lt (dg_mono (Nat.sub_le _ _)) hwl
     · have hY : Y = 0 := dg_ne_nil.1 (List.length_eq_zero_iff.1 (by omega))
       subst hY
       rw [Nat.gcd_zero_right] at hG
       subst hG
       refine p_loopx (fun (s : Nat) => [(0, .sh (cN (dg (X * 2 ^ s)))), (7, .sh (vI s)), (5, .sh (vI t))]) (fun s => []) (fun s => t - s)
         (fun s => s ≤ t) 0 (Weak.list ⟨by simp [cN, getS], rfl, rfl, trivial⟩ trivial) (Nat.zero_le _) ?_
       rintro s hs
       simp only [cN, vI] at *
       have hsl : (dg (X * 2 ^ s)).length < 2 ^ 39 := Nat.lt_of_le_of_lt (dg_mono (Nat.le_trans (Nat.mul_le_mul_left X (Nat.pow_le_pow_right (by omega) hs)) hGa)) h
       repeat'(with_reducible first|apply p_seq|apply p_sq|apply p_reg|apply p_nil|apply p_skip|apply p_block|apply p_bq|apply p_ret|apply p_exit|apply p_sq_ret|apply p_sq_exit|apply p_bq_ret|apply p_bq_this|apply p_lq_ret|apply p_lq_exit|apply d_nil|refine p_drw (by decide +kernel) ?_|refine f_op rfl rfl ?_|refine f_opg rfl rfl rfl rfl ?_ ?_|refine f_new rfl rfl rfl rfl ?_|(refine f_end (And.intro ?_ ?_)<;>simp only [List.foldl_nil,List.foldl_cons,recS_mk,AB,Nat.reduceEqDiff,↓reduceIte,Nat.reduceAdd,Nat.reduceMul,Nat.reducePow,Nat.reduceLeDiff,Nat.reduceLT])|apply k_nil|refine k_cons rfl rfl ?_ ?_|apply g_nil|refine g_op0 rfl ?_|refine g_opC rfl ?_|refine p_bq_other (by decide) ?_|refine p_cond rfl ?_ ?_|refine p_op rfl ?_|refine d_op rfl rfl ?_|refine d_eff rfl ?_|refine p_opg rfl rfl rfl ?_ ?_|refine d_opg rfl rfl rfl rfl ?_ ?_|((first|refine p_opgU rfl rfl rfl ?_|refine d_opgU rfl rfl rfl rfl ?_);try simp only [put_some])|(refine fun (K1:St→Prop) hK1=>?_;simp (disch := omega) only [AB,Nat.reduceEqDiff,↓reduceIte,Nat.reduceAdd,Nat.reduceMul,Nat.reducePow,Nat.reduceLeDiff,Nat.reduceLT];(try simp (disch := omega) only [AC]);(try simp only [AM]))|(refine hK1 _ ?_;clear hK1 K1)|refine And.intro (by omega) ?_|apply And.intro|(refine fun (hb:(_:Bool)=_)=>?_;(try simp only [HS] at hb);(try (change True at hb;clear hb));first|(exfalso;first|omega|contradiction)|(try simp only [put_some])))
       · (refine ⟨_,con_twice (dg (X * 2 ^ s)) 0 (dok_dg _) (by omega) (by omega),hK1 _ ?_⟩;clear hK1 K1;try simp only [put_some,cN,vI,vB,cR])
         rw [val_dg]
         repeat'(with_reducible first|apply p_seq|apply p_sq|apply p_reg|apply p_nil|apply p_skip|apply p_block|apply p_bq|apply p_ret|apply p_exit|apply p_sq_ret|apply p_sq_exit|apply p_bq_ret|apply p_bq_this|apply p_lq_ret|apply p_lq_exit|apply d_nil|refine p_drw (by decide +kernel) ?_|refine f_op rfl rfl ?_|refine f_opg rfl rfl rfl rfl ?_ ?_|refine f_new rfl rfl rfl rfl ?_|(refine f_end (And.intro ?_ ?_)<;>simp only [List.foldl_nil,List.foldl_cons,recS_mk,AB,Nat.reduceEqDiff,↓reduceIte,Nat.reduceAdd,Nat.reduceMul,Nat.reducePow,Nat.reduceLeDiff,Nat.reduceLT])|apply k_nil|refine k_cons rfl rfl ?_ ?_|apply g_nil|refine g_op0 rfl ?_|refine g_opC rfl ?_|refine p_bq_other (by decide) ?_|refine p_cond rfl ?_ ?_|refine p_op rfl ?_|refine d_op rfl rfl ?_|refine d_eff rfl ?_|refine p_opg rfl rfl rfl ?_ ?_|refine d_opg rfl rfl rfl rfl ?_ ?_|((first|refine p_opgU rfl rfl rfl ?_|refine d_opgU rfl rfl rfl rfl ?_);try simp only [put_some])|(refine fun (K1:St→Prop) hK1=>?_;simp (disch := omega) only [AB,Nat.reduceEqDiff,↓reduceIte,Nat.reduceAdd,Nat.reduceMul,Nat.reducePow,Nat.reduceLeDiff,Nat.reduceLT];(try simp (disch := omega) only [AC]);(try simp only [AM]))|(refine hK1 _ ?_;clear hK1 K1)|refine And.intro (by omega) ?_|apply And.intro|(refine fun (hb:(_:Bool)=_)=>?_;(try simp only [HS] at hb);(try (change True at hb;clear hb));first|(exfalso;first|omega|contradiction)|(try simp only [put_some])))
         refine p_lx _ _ _ _ (s + 1) ?_ ?_ (Weak.list ⟨sl_eq' ?_, int_eq ?_, rfl, trivial⟩ trivial)
         · omega
         · omega
         · rw [Nat.add_zero, Nat.pow_succ]; congr 1; simp only [Nat.mul_assoc, Nat.mul_left_comm, Nat.mul_comm]
         · omega
       · have : s = t := by omega
         subst this
         simp (disch := omega) only [res1,res2,res3,AB,Nat.reduceEqDiff,↓reduceIte,Nat.reduceAdd,Nat.reduceMul,Nat.reducePow,Nat.reduceLeDiff,Nat.reduceLT]
         rw [hI]
end Go.Pw
