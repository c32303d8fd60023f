/- Merged from the working texts Pn8. -/
import Derived.Test.YtkflegdaeienlaaGreatDoorKc25
import Derived.Test.YtkflegdaeienlaaGreatDoorKc28
set_option linter.all false
set_option maxHeartbeats 400000
set_option maxRecDepth 100000
set_option linter.unusedVariables false
set_option linter.unusedSimpArgs false
namespace Go.Pw
open Go Go.Proofs
set_option maxHeartbeats 4000000 in
theorem con_ndiv (a b : Nat) (hb0 : b ≠ 0) (h : (dg a).length < 2 ^ 38) (h' : (dg b).length < 2 ^ 38) : Con E 262 [cN (dg a), cN (dg b)] (.tup [cN (dg (a / b)), cN (dg (a % b))]) := by
 refine con_of2 mixed (fn := Tryz.f262) (rs := [.tmp 4, .tmp 5]) Tryz.func262 (by kernel_rfl) rfl (by kernel_rfl) rfl rfl ?_
 simp only [argE, Nat.reduceAdd, cN, vI]
 have hbl : (dg b).length ≠ 0 := fun e => hb0 (dg_ne_nil.1 (List.length_eq_zero_iff.1 e))
 have e1 : (((dg b).length : Int) - 1).toNat = (dg b).length - 1 := by omega
 have htop := getD_lt ((dg b).length - 1) (dok_dg b)
 have hcmp := cmpI_lt0 a b
 (refine SA ?_;intros;rename_i K1 hK1)
 (refine ⟨_,con_compare a b (by omega) (by omega),hK1 _ ?_⟩;clear hK1 K1;try simp only [put_some,cN,vI,vB,cR])
 (refine VA ?_ ?_ ?_<;>intros<;>rename_i hb K1 hK1)
 · (refine ⟨_,con_clone (dg a) (by omega),hK1 _ ?_⟩;clear hK1 K1;try simp only [put_some,cN,vI,vB,cR])
   (refine SA ?_;intros)
   simp only [res1,res2,res3,AB,Nat.reduceEqDiff,↓reduceIte,Nat.reduceAdd,Nat.reduceMul,Nat.reducePow,Nat.reduceLeDiff,Nat.reduceLT]
   have hlt : a < b := by omega
   rw [Nat.div_eq_of_lt hlt, Nat.mod_eq_of_lt hlt, dg_zero]
   all_goals rfl
 · have hbs : b < 4294967296 := by
     have := len_dg_le (n := b) (k := 1)
     omega
   have hd : (dg b).getD 0 0 = b := by rw [dg_small hb0 hbs]; rfl
   (refine ⟨_,con_nshort (dg a) ((dg b).getD 0 0) (dok_dg a) (by omega) (by omega) (by omega),hK1 _ ?_⟩;clear hK1 K1;try simp only [put_some,cN,vI,vB,cR])
   rw [hd, val_dg]
   have hmod : a % b < b := Nat.mod_lt _ (by omega)
   (refine SA ?_;intros;rename_i K1 hK1)
   (refine ⟨_,con_trim [a % b] (dok_cons.2 ⟨by omega, dok_nil⟩) (by simp),hK1 _ ?_⟩;clear hK1 K1;try simp only [put_some,cN,vI,vB,cR])
   (refine SA ?_;intros)
   simp only [res1,res2,res3,AB,Nat.reduceEqDiff,↓reduceIte,Nat.reduceAdd,Nat.reduceMul,Nat.reducePow,Nat.reduceLeDiff,Nat.reduceLT]
   simp only [val, Nat.mul_zero, Nat.add_zero]
   all_goals rfl
 · rw [e1]
   (refine ⟨_,con_lz _ htop,hK1 _ ?_⟩;clear hK1 K1;try simp only [put_some,cN,vI,vB,cR])
   have htop0 := top_ne hb0
   have hbn : 32 - bl ((dg b).getD ((dg b).length - 1) 0) < 32 := by rw [bl_pos htop0]; omega
   have hmv := moved_len hb0
   generalize hnn : 32 - bl ((dg b).getD ((dg b).length - 1) 0) = n at *
   iterate 13 (with_reducible first|apply p_seq|apply p_sq|apply p_reg|apply p_nil|apply p_skip|apply p_block|apply p_bq|apply p_ret|apply p_exit|apply p_sq_ret|apply p_sq_exit|apply p_bq_ret|apply p_bq_this|apply p_lq_ret|apply p_lq_exit|apply d_nil|refine p_drw (by decide +kernel) ?_|refine f_op rfl rfl ?_|refine f_opg rfl rfl rfl rfl ?_ ?_|refine f_new rfl rfl rfl rfl ?_|(refine f_end (And.intro ?_ ?_)<;>simp only [List.foldl_nil,List.foldl_cons,recS_mk,AB,Nat.reduceEqDiff,↓reduceIte,Nat.reduceAdd,Nat.reduceMul,Nat.reducePow,Nat.reduceLeDiff,Nat.reduceLT])|apply k_nil|refine k_cons rfl rfl ?_ ?_|apply g_nil|refine g_op0 rfl ?_|refine g_opC rfl ?_|refine p_bq_other (by decide) ?_|refine p_cond rfl ?_ ?_|refine p_op rfl ?_|refine d_op rfl rfl ?_|refine d_eff rfl ?_|refine p_opg rfl rfl rfl ?_ ?_|refine d_opg rfl rfl rfl rfl ?_ ?_|((first|refine p_opgU rfl rfl rfl ?_|refine d_opgU rfl rfl rfl rfl ?_);try simp only [put_some])|(refine fun (K1:St→Prop) hK1=>?_;simp (disch := omega) only [AB,Nat.reduceEqDiff,↓reduceIte,Nat.reduceAdd,Nat.reduceMul,Nat.reducePow,Nat.reduceLeDiff,Nat.reduceLT];(try simp (disch := omega) only [AC]);(try simp only [AM]))|(refine hK1 _ ?_;clear hK1 K1)|refine And.intro (by omega) ?_|apply And.intro|(refine fun (hb:(_:Bool)=_)=>?_;(try simp only [HS] at hb);(try (change True at hb;clear hb));first|(exfalso;first|omega|contradiction)|(try simp only [put_some])))
   refine p_sop rfl (fun K1 hK1 => ?_)
   refine adopt_call (e := 103) (sz := 1) (rows := (fd ((dg a).length + 1) (val (dg a) * 2 ^ n)).map fun (x : Nat) => [PV.val (.int .u32 (x : Int))]) rfl rfl rfl rfl ?_
   simp only [AB,Nat.reduceEqDiff,↓reduceIte,Nat.reduceAdd,Nat.reduceMul,Nat.reducePow,Nat.reduceLeDiff,Nat.reduceLT]
   refine ⟨con_left (dg a) n (dok_dg a) hbn (by omega), hK1 _ ?_⟩
   clear hK1 K1
   try simp only [put_some]
   iterate 6 (with_reducible first|apply p_seq|apply p_sq|apply p_reg|apply p_nil|apply p_skip|apply p_block|apply p_bq|apply p_ret|apply p_exit|apply p_sq_ret|apply p_sq_exit|apply p_bq_ret|apply p_bq_this|apply p_lq_ret|apply p_lq_exit|apply d_nil|refine p_drw (by decide +kernel) ?_|refine f_op rfl rfl ?_|refine f_opg rfl rfl rfl rfl ?_ ?_|refine f_new rfl rfl rfl rfl ?_|(refine f_end (And.intro ?_ ?_)<;>simp only [List.foldl_nil,List.foldl_cons,recS_mk,AB,Nat.reduceEqDiff,↓reduceIte,Nat.reduceAdd,Nat.reduceMul,Nat.reducePow,Nat.reduceLeDiff,Nat.reduceLT])|apply k_nil|refine k_cons rfl rfl ?_ ?_|apply g_nil|refine g_op0 rfl ?_|refine g_opC rfl ?_|refine p_bq_other (by decide) ?_|refine p_cond rfl ?_ ?_|refine p_op rfl ?_|refine d_op rfl rfl ?_|refine d_eff rfl ?_|refine p_opg rfl rfl rfl ?_ ?_|refine d_opg rfl rfl rfl rfl ?_ ?_|((first|refine p_opgU rfl rfl rfl ?_|refine d_opgU rfl rfl rfl rfl ?_);try simp only [put_some])|(refine fun (K1:St→Prop) hK1=>?_;simp (disch := omega) only [AB,Nat.reduceEqDiff,↓reduceIte,Nat.reduceAdd,Nat.reduceMul,Nat.reducePow,Nat.reduceLeDiff,Nat.reduceLT];(try simp (disch := omega) only [AC]);(try simp only [AM]))|(refine hK1 _ ?_;clear hK1 K1)|refine And.intro (by omega) ?_|apply And.intro|(refine fun (hb:(_:Bool)=_)=>?_;(try simp only [HS] at hb);(try (change True at hb;clear hb));first|(exfalso;first|omega|contradiction)|(try simp only [put_some])))
   refine p_sop rfl (fun K1 hK1 => ?_)
   refine adopt_call (e := 103) (sz := 1) (rows := (fd ((dg b).length + 1) (val (dg b) * 2 ^ n)).map fun (x : Nat) => [PV.val (.int .u32 (x : Int))]) rfl rfl rfl rfl ?_
   simp only [AB,Nat.reduceEqDiff,↓reduceIte,Nat.reduceAdd,Nat.reduceMul,Nat.reducePow,Nat.reduceLeDiff,Nat.reduceLT]
   refine ⟨con_left (dg b) n (dok_dg b) hbn (by omega), hK1 _ ?_⟩
   clear hK1 K1
   try simp only [put_some]
   (refine SA ?_;intros;rename_i K1 hK1)
   (refine ⟨_,con_trim (fd ((dg b).length + 1) (val (dg b) * 2 ^ n)) (fd_ok _ _) (by rw [fd_len]; omega),hK1 _ ?_⟩;clear hK1 K1;try simp only [put_some,cN,vI,vB,cR])
   have hfb : val (fd ((dg b).length + 1) (val (dg b) * 2 ^ n)) = b * 2 ^ n := by
     rw [fd_val, val_dg, Nat.mod_eq_of_lt]
     exact Nat.lt_of_lt_of_le (len_dg_le.1 (Nat.le_of_eq hmv)) (Nat.pow_le_pow_right (by omega) (by omega))
   rw [hfb]
   have hfl := fd_len ((dg a).length + 1) (val (dg a) * 2 ^ n)
   have hab : (dg b).length ≤ (dg a).length := dg_mono (by omega)
   (refine SA ?_;intros)
   have hs2 : 2 ≤ (dg b).length := by omega
   have hVs : b * 2 ^ n < 4294967296 ^ (dg b).length := len_dg_le.1 (Nat.le_of_eq hmv)
   have hval0 : val (fd ((dg a).length + 1) (val (dg a) * 2 ^ n)) = a * 2 ^ n := by
     rw [fd_val, val_dg, Nat.mod_eq_of_lt]
     rw [Nat.pow_succ]
     exact Nat.mul_lt_mul'' (len_dg_le.1 (Nat.le_refl _)) (Nat.lt_of_lt_of_le (Nat.pow_lt_pow_right (by omega) hbn) (by decide))
   have hfit := div_fits hb0 hab n
   have hok0 := fd_ok ((dg a).length + 1) (val (dg a) * 2 ^ n)
   generalize fd ((dg a).length + 1) (val (dg a) * 2 ^ n) = u0 at *
   have hm1 : ((u0.length : Int) - ((dg (b * 2 ^ n)).length : Int)).toNat = (dg a).length + 1 - (dg b).length := by omega
   rw [hm1]
   refine p_loopx (fun (s : Nat × List Nat × List Nat) => [(13, .sh (vI ((s.1 : Int) - 1))), (12, .row 58), (11, .sh (vI (dg b).length)), (10, .sh (cN (dg (b * 2 ^ n)))), (9, .row 47), (8, .sh (vI n))]) (fun s => [(58, some (.rw 103 1 (SR ((s.2.2).map fun (x : Nat) => [PV.val (.int .u32 (x : Int))])))), (47, some (.rw 103 1 (SR ((s.2.1).map fun (x : Nat) => [PV.val (.int .u32 (x : Int))]))))]) (fun s => s.1)
     (fun s => s.1 ≤ (dg a).length + 1 - (dg b).length ∧ s.2.2.length = (dg a).length + 1 - (dg b).length ∧ dok s.2.2 ∧ s.2.1.length = (dg a).length + 1 ∧ dok s.2.1 ∧ val s.2.1 + b * 2 ^ n * (4294967296 ^ s.1 * val (s.2.2.drop s.1)) = a * 2 ^ n ∧ val s.2.1 < b * 2 ^ n * 4294967296 ^ s.1)
     ((dg a).length + 1 - (dg b).length, u0, List.replicate ((dg a).length + 1 - (dg b).length) 0) (Weak.list ⟨rfl, rfl, int_eq (by rw [hmv]), rfl, rfl, rfl, trivial⟩ ⟨rfl, rfl, trivial⟩) ⟨Nat.le_refl _, by simp, dok_replicate _, hfl, hok0, by simp [val, hval0], by rw [hval0]; exact hfit⟩ ?_
   rintro ⟨k, u, out⟩ ⟨hk, hol, hook, hul, huok, hI, hlt⟩
   simp only [cN, vI] at *
   cases k with
   | zero =>
     (refine SA ?_;intros;rename_i hb K1 hK1)
     (refine ⟨_,con_trim out hook (by omega),hK1 _ ?_⟩;clear hK1 K1;try simp only [put_some,cN,vI,vB,cR])
     (refine SA ?_;intros;rename_i K1 hK1)
     (refine ⟨_,con_trim u huok (by omega),hK1 _ ?_⟩;clear hK1 K1;try simp only [put_some,cN,vI,vB,cR])
     (refine SA ?_;intros;rename_i K1 hK1)
     (refine ⟨_,con_right (dg (val u)) n (dok_dg _) hbn (by have := dg_len_le huok; omega),hK1 _ ?_⟩;clear hK1 K1;try simp only [put_some,cN,vI,vB,cR])
     (refine SA ?_;intros)
     simp only [res1,res2,res3,AB,Nat.reduceEqDiff,↓reduceIte,Nat.reduceAdd,Nat.reduceMul,Nat.reducePow,Nat.reduceLeDiff,Nat.reduceLT]
     simp only [Nat.pow_zero, Nat.mul_one, Nat.one_mul, List.drop_zero] at hI hlt
     have hV0 : 0 < b * 2 ^ n := Nat.mul_pos (Nat.pos_of_ne_zero hb0) (Nat.pow_pos (by omega))
     have hp0 : 0 < 2 ^ n := Nat.pow_pos (by omega)
     have hq : val out = a / b := by
       have := quo_of (q := val out) (V := b * 2 ^ n) (W := a * 2 ^ n) (by rw [← hI, Nat.mul_comm]; omega) (by rw [← hI, Nat.add_mul, Nat.mul_comm (val out)]; omega)
       rw [← this, Nat.mul_div_mul_right _ _ hp0]
     have hr : val u = a % b * 2 ^ n := by
       rw [← Nat.mul_mod_mul_right, ← hI, Nat.add_mul_mod_self_left, Nat.mod_eq_of_lt hlt]
     rw [hq, hr, val_dg, Nat.mul_div_cancel _ hp0]
     all_goals rfl
   | succ j =>
     have hj1 : ((j + 1 : Nat) : Int) - 1 = (j : Int) := by omega
     rw [hj1]
     have l1 := getD_lt ((j : Int) + ((dg b).length : Int)).toNat huok
     have l2 := getD_lt ((j : Int) + ((dg b).length : Int) - 1).toNat huok
     have l3 := getD_lt ((j : Int) + ((dg b).length : Int) - 2).toNat huok
     have l4 := getD_lt (((dg b).length : Int) - 1).toNat (dok_dg (b * 2 ^ n))
     have l5 := getD_lt (((dg b).length : Int) - 2).toNat (dok_dg (b * 2 ^ n))
     have l6 : (dg (b * 2 ^ n)).getD (((dg b).length : Int) - 1).toNat 0 ≠ 0 := by
       have := top_ne (b := b * 2 ^ n) (Nat.mul_ne_zero hb0 (Nat.ne_of_gt (Nat.pow_pos (by omega))))
       rw [hmv] at this
       rw [e1]; exact this
     have hid : Hid (_ ∧ _ ∧ _ ∧ _ ∧ _ ∧ _ ∧ _) := ⟨hI, hlt, hVs, hval0, hfit, hnn, hfb⟩
     have hset := guess_setup huok (j := j) (s := (dg b).length) (by omega) hs2 hVs hlt (by rw [← e1]; exact l6)
     rw [show j + (dg b).length = ((j : Int) + ((dg b).length : Int)).toNat by omega, show ((j : Int) + ((dg b).length : Int)).toNat - 1 = ((j : Int) + ((dg b).length : Int) - 1).toNat by omega, show ((j : Int) + ((dg b).length : Int)).toNat - 2 = ((j : Int) + ((dg b).length : Int) - 2).toNat by omega,
       show (dg b).length - 1 = (((dg b).length : Int) - 1).toNat by omega, show (dg b).length - 2 = (((dg b).length : Int) - 2).toNat by omega] at hset
     clear hI hlt hVs hval0 hfit hnn hfb
     (refine SA ?_;intros;rename_i hb)
     have e2 : ((u.getD ((j : Int) + ((dg b).length : Int)).toNat 0 : Int) * 4294967296).toNat = u.getD ((j : Int) + ((dg b).length : Int)).toNat 0 * 4294967296 := rfl
     rw [e2, or_sum32 l2]
     have h0 : (u.getD ((j : Int) + ((dg b).length : Int)).toNat 0 * 4294967296 + u.getD ((j : Int) + ((dg b).length : Int) - 1).toNat 0) < 18446744073709551616 := by omega
     have g1 := quo_nat (y := (dg (b * 2 ^ n)).getD (((dg b).length : Int) - 1).toNat 0) h0
     refine p_loopx (fun (s : Nat × Nat) => [(15, .sh (.val (.int .u64 s.1))), (16, .sh (.val (.int .u64 s.2))), (13, .sh (vI j)), (12, .row 58), (11, .sh (vI (dg b).length)), (10, .sh (cN (dg (b * 2 ^ n)))), (9, .row 47), (8, .sh (vI n))]) (fun s => [(58, some (.rw 103 1 (SR ((out).map fun (x : Nat) => [PV.val (.int .u32 (x : Int))])))), (47, some (.rw 103 1 (SR ((u).map fun (x : Nat) => [PV.val (.int .u32 (x : Int))]))))]) (fun s => s.1)
       (fun s => s.2 + s.1 * (dg (b * 2 ^ n)).getD (((dg b).length : Int) - 1).toNat 0 = u.getD ((j : Int) + ((dg b).length : Int)).toNat 0 * 4294967296 + u.getD ((j : Int) + ((dg b).length : Int) - 1).toNat 0 ∧ val u / 4294967296 ^ j < (s.1 + 1) * (b * 2 ^ n) ∧ s.2 < 4294967296 ∧ s.1 < 18446744073709551616)
       (_, _) (Weak.list ⟨int_eq g1, int_eq rfl, rfl, rfl, rfl, rfl, rfl, rfl, trivial⟩ ⟨rfl, rfl, trivial⟩) ⟨?_, ?_, ?_, ?_⟩ ?_
     · dsimp only; exact Nat.mod_add_div' _ _
     · dsimp only
       exact hset.1
     · dsimp only
       exact Nat.lt_trans (Nat.mod_lt _ (by omega)) l4
     · dsimp only
       exact Nat.lt_of_le_of_lt (Nat.div_le_self _ _) h0
     rintro ⟨q, r⟩ ⟨hq1, hq2, hq3, hq4⟩
     clear g1 h0 e2
     simp only [cN, vI] at *
     have hid2 : Hid (_ ∧ _ ∧ _ ∧ _ ∧ _ ∧ _) := ⟨hq1, hq2, hset, l1, l2, l6⟩
     have hub : u.length < 2 ^ 39 := by omega
     have hhk : (j : Int) + ((dg b).length : Int) < (u.length : Int) := by omega
     have hbd : (dg b).length < 549755813888 := by omega
     have hjd : j < 549755813888 := by omega
     have hid3 : Hid (_ ∧ _ ∧ _ ∧ _ ∧ _ ∧ _ ∧ _ ∧ _ ∧ _) := ⟨hul, hk, hol, hab, hfl, hm1, h, h', hj1⟩
     clear hq1 hq2 hset l1 l2 l6 hul hk hol hab hfl hm1 h h' hj1 htop hcmp e1 htop0 hbl hok0
     have e3 : ((r : Int) * 4294967296).toNat = r * 4294967296 := rfl
     by_cases hqB : q < 4294967296
     · have hdec : decide ((q : Int) ≥ 4294967296) = false := by simp; omega
       have hm : (q : Int) * (((dg (b * 2 ^ n)).getD (((dg b).length : Int) - 2).toNat 0 : Nat) : Int) ≤ 18446744065119617025 := Int.ofNat_le.2 (mul_bound (by omega) l5)
       have hm0 : 0 ≤ (q : Int) * (((dg (b * 2 ^ n)).getD (((dg b).length : Int) - 2).toNat 0 : Nat) : Int) := by rw [← Int.natCast_mul]; exact Int.natCast_nonneg _
       iterate 9 (with_reducible first|apply p_seq|apply p_sq|apply p_reg|apply p_nil|apply p_skip|apply p_block|apply p_bq|apply p_ret|apply p_exit|apply p_sq_ret|apply p_sq_exit|apply p_bq_ret|apply p_bq_this|apply p_lq_ret|apply p_lq_exit|apply d_nil|refine p_drw (by decide +kernel) ?_|refine f_op rfl rfl ?_|refine f_opg rfl rfl rfl rfl ?_ ?_|refine f_new rfl rfl rfl rfl ?_|(refine f_end (And.intro ?_ ?_)<;>simp only [List.foldl_nil,List.foldl_cons,recS_mk,AB,Nat.reduceEqDiff,↓reduceIte,Nat.reduceAdd,Nat.reduceMul,Nat.reducePow,Nat.reduceLeDiff,Nat.reduceLT])|apply k_nil|refine k_cons rfl rfl ?_ ?_|apply g_nil|refine g_op0 rfl ?_|refine g_opC rfl ?_|refine p_bq_other (by decide) ?_|refine p_cond rfl ?_ ?_|refine p_op rfl ?_|refine d_op rfl rfl ?_|refine d_eff rfl ?_|refine p_opg rfl rfl rfl ?_ ?_|refine d_opg rfl rfl rfl rfl ?_ ?_|((first|refine p_opgU rfl rfl rfl ?_|refine d_opgU rfl rfl rfl rfl ?_);try simp only [put_some])|(refine fun (K1:St→Prop) hK1=>?_;simp (disch := omega) only [AB,Nat.reduceEqDiff,↓reduceIte,Nat.reduceAdd,Nat.reduceMul,Nat.reducePow,Nat.reduceLeDiff,Nat.reduceLT];(try simp (disch := omega) only [AC]);(try simp only [AM]))|(refine hK1 _ ?_;clear hK1 K1)|refine And.intro (by omega) ?_|apply And.intro|(refine fun (hb:(_:Bool)=_)=>?_;(try simp only [HS] at hb);(try (change True at hb;clear hb));first|(exfalso;first|omega|contradiction)|(try simp only [put_some])))
       rw [hdec]
       repeat'((fail_if_success refine p_slM rfl ?_);(with_reducible first|apply p_seq|apply p_sq|apply p_reg|apply p_nil|apply p_skip|apply p_block|apply p_bq|apply p_ret|apply p_exit|apply p_sq_ret|apply p_sq_exit|apply p_bq_ret|apply p_bq_this|apply p_lq_ret|apply p_lq_exit|apply d_nil|refine p_drw (by decide +kernel) ?_|refine f_op rfl rfl ?_|refine f_opg rfl rfl rfl rfl ?_ ?_|refine f_new rfl rfl rfl rfl ?_|(refine f_end (And.intro ?_ ?_)<;>simp only [List.foldl_nil,List.foldl_cons,recS_mk,AB,Nat.reduceEqDiff,↓reduceIte,Nat.reduceAdd,Nat.reduceMul,Nat.reducePow,Nat.reduceLeDiff,Nat.reduceLT])|apply k_nil|refine k_cons rfl rfl ?_ ?_|apply g_nil|refine g_op0 rfl ?_|refine g_opC rfl ?_|refine p_bq_other (by decide) ?_|refine p_cond rfl ?_ ?_|refine p_op rfl ?_|refine d_op rfl rfl ?_|refine d_eff rfl ?_|refine p_opg rfl rfl rfl ?_ ?_|refine d_opg rfl rfl rfl rfl ?_ ?_|((first|refine p_opgU rfl rfl rfl ?_|refine d_opgU rfl rfl rfl rfl ?_);try simp only [put_some])|(refine fun (K1:St→Prop) hK1=>?_;simp (disch := omega) only [AB,Nat.reduceEqDiff,↓reduceIte,Nat.reduceAdd,Nat.reduceMul,Nat.reducePow,Nat.reduceLeDiff,Nat.reduceLT];(try simp (disch := omega) only [AC]);(try simp only [AM]))|(refine hK1 _ ?_;clear hK1 K1)|refine And.intro (by omega) ?_|apply And.intro|(refine fun (hb:(_:Bool)=_)=>?_;(try simp only [HS] at hb);(try (change True at hb;clear hb));first|(exfalso;first|omega|contradiction)|(try simp only [put_some]))))
       · obtain ⟨hq1, hq2, hset, l1, l2, l6⟩ := hid2
         obtain ⟨hI, hlt, hVs, hval0, hfit, hnn, hfb⟩ := hid
         obtain ⟨hul, hk, hol, hab, hfl, hm1, h, h', hj1⟩ := hid3
         have esub : SV.sub 47 1 ((j : Int)).toNat (((j : Int) + ((dg b).length : Int) + 1).toNat - ((j : Int)).toNat) = SV.sub 47 1 j ((dg b).length + 1) := by congr 1; omega
         rename_i hTEST
         rw [e3, or_sum32 l3, ← Int.natCast_mul] at hTEST
         have hWq : val u / 4294967296 ^ j < q * (b * 2 ^ n) := (hset.2.1 q r hq1).1 (by omega)
         have hq0 : 1 ≤ q := by
           rcases Nat.eq_zero_or_pos q with e | e
           · subst e; simp at hWq
           · exact e
         have hq1' : (r + (dg (b * 2 ^ n)).getD (((dg b).length : Int) - 1).toNat 0) + (q - 1) * (dg (b * 2 ^ n)).getD (((dg b).length : Int) - 1).toNat 0 = u.getD ((j : Int) + ((dg b).length : Int)).toNat 0 * 4294967296 + u.getD ((j : Int) + ((dg b).length : Int) - 1).toNat 0 := by
           rw [← hq1]
           obtain ⟨p, rfl⟩ : ∃ p, q = p + 1 := ⟨q - 1, by omega⟩
           rw [Nat.add_sub_cancel, Nat.add_mul]
           omega
         have hWq2 : val u / 4294967296 ^ j < (q - 1 + 1) * (b * 2 ^ n) := by rw [Nat.sub_add_cancel hq0]; exact hWq
         have hqf0 : q - 1 < 4294967296 := by
           omega
         have hF20 := (hset.2.1 (q - 1) _ hq1').2 hqf0 (by
           have h9 := mul_bound hqf0 l5
           generalize (q - 1) * (dg (b * 2 ^ n)).getD (((dg b).length : Int) - 2).toNat 0 = Z at *
           omega)
         obtain ⟨qf, hqf, hF1, hF2, eqf⟩ : ∃ qf : Nat, qf < 4294967296 ∧ val u / 4294967296 ^ j < (qf + 1) * (b * 2 ^ n) ∧ qf * (b * 2 ^ n) < val u / 4294967296 ^ j + b * 2 ^ n ∧ ((q : Int) - 1) % 18446744073709551616 = (qf : Int) :=
           ⟨q - 1, hqf0, hWq2, hF20, by omega⟩
         rw [eqf]
         clear hq1' hWq2 hF20 hWq
         refine p_sop rfl (fun K1 hK1 => ?_)
         refine sub_slice (i := ti78) (e := 103) (ie := ti103) (k := 47) rfl rfl rfl rfl rfl rfl rfl rfl rfl (by omega) (by omega) (by rw [SR_len, List.length_map]; omega) (by rw [SR_len, List.length_map]; omega) (hK1 _ ?_)
         clear hK1 K1
         rw [esub]
         try simp only [put_some]
         iterate 6 (with_reducible first|apply p_seq|apply p_sq|apply p_reg|apply p_nil|apply p_skip|apply p_block|apply p_bq|apply p_ret|apply p_exit|apply p_sq_ret|apply p_sq_exit|apply p_bq_ret|apply p_bq_this|apply p_lq_ret|apply p_lq_exit|apply d_nil|refine p_drw (by decide +kernel) ?_|refine f_op rfl rfl ?_|refine f_opg rfl rfl rfl rfl ?_ ?_|refine f_new rfl rfl rfl rfl ?_|(refine f_end (And.intro ?_ ?_)<;>simp only [List.foldl_nil,List.foldl_cons,recS_mk,AB,Nat.reduceEqDiff,↓reduceIte,Nat.reduceAdd,Nat.reduceMul,Nat.reducePow,Nat.reduceLeDiff,Nat.reduceLT])|apply k_nil|refine k_cons rfl rfl ?_ ?_|apply g_nil|refine g_op0 rfl ?_|refine g_opC rfl ?_|refine p_bq_other (by decide) ?_|refine p_cond rfl ?_ ?_|refine p_op rfl ?_|refine d_op rfl rfl ?_|refine d_eff rfl ?_|refine p_opg rfl rfl rfl ?_ ?_|refine d_opg rfl rfl rfl rfl ?_ ?_|((first|refine p_opgU rfl rfl rfl ?_|refine d_opgU rfl rfl rfl rfl ?_);try simp only [put_some])|(refine fun (K1:St→Prop) hK1=>?_;simp (disch := omega) only [AB,Nat.reduceEqDiff,↓reduceIte,Nat.reduceAdd,Nat.reduceMul,Nat.reducePow,Nat.reduceLeDiff,Nat.reduceLT];(try simp (disch := omega) only [AC]);(try simp only [AM]))|(refine hK1 _ ?_;clear hK1 K1)|refine And.intro (by omega) ?_|apply And.intro|(refine fun (hb:(_:Bool)=_)=>?_;(try simp only [HS] at hb);(try (change True at hb;clear hb));first|(exfalso;first|omega|contradiction)|(try simp only [put_some])))
         refine p_sop rfl (fun K1 hK1 => ?_)
         refine io_call (k := 47) (y0 := .sub 47 1 j ((dg b).length + 1)) rfl rfl rfl rfl rfl rfl ?_
         simp only [AB,Nat.reduceEqDiff,↓reduceIte,Nat.reduceAdd,Nat.reduceMul,Nat.reducePow,Nat.reduceLeDiff,Nat.reduceLT]
         refine ⟨_, _, _, rfl, con_take 47 u (dg (b * 2 ^ n)) j ((dg b).length + 1) qf huok (dok_dg _) (by omega) (by omega) hqf (by omega), plain_N _, plain_N _, hK1 _ ?_⟩
         clear hK1 K1
         try simp only [setO_mk, mapO_nil, put_some, vB]
         rw [val_dg]
         obtain ⟨hst1, hst2⟩ := div_step huok (show j + (dg b).length + 1 ≤ u.length by omega) hVs hlt hF1 hF2
         obtain ⟨hk1, hk2, hk3⟩ := div_keep (out := out) huok (show j + (dg b).length + 1 ≤ u.length by omega) hVs hlt (by omega) hI
         generalize hdd : decide (qf * (b * 2 ^ n) ≤ val ((u.drop j).take ((dg b).length + 1))) = dd at *
         have htkl : (tk u j ((dg b).length + 1) qf (b * 2 ^ n)).length = u.length := win_len (by rw [fd_len]; omega)
         have htko : dok (tk u j ((dg b).length + 1) qf (b * 2 ^ n)) := win_ok huok (fd_ok _ _) _
         clear hq1 hq2 hset hval0 hfit hnn hfb h h' hm1 hF1 hF2 hb
         cases dd with
         | true =>
           obtain ⟨ht, hqq⟩ := hst1 rfl
           rw [ht]
           clear hst1 hst2 ht
           have hid : Hid (_ ∧ _ ∧ _ ∧ _ ∧ _ ∧ _ ∧ _) := ⟨hI, hlt, hVs, hk1, hk2, hk3, hqq⟩
           clear hI hlt hVs hk1 hk2 hk3 hqq
           (refine T1A ?_;intros)
           obtain ⟨hI, hlt, hVs, hk1, hk2, hk3, hqq⟩ := hid
           refine p_lx _ _ _ _ (j, win u j (fd ((dg b).length + 1) (val u / 4294967296 ^ j % (b * 2 ^ n))), out.set j qf) ?_ ⟨?_, ?_, ?_, ?_, ?_, ?_, ?_⟩ (Weak.list ⟨rfl, rfl, rfl, rfl, rfl, rfl, trivial⟩ ⟨rfl, rfl, trivial⟩) <;> dsimp only
           · omega
           · omega
           · simp [hol]
           · exact dok_set hook _ hqf
           · rw [win_len (by rw [fd_len]; omega)]; exact hul
           · exact win_ok huok (fd_ok _ _) _
           · rw [hqq]; exact hk1
           · exact hk2
         | false =>
           obtain ⟨ht, hq0, hqq⟩ := hst2 rfl
           clear hst1 hst2
           have hid : Hid (_ ∧ _ ∧ _ ∧ _ ∧ _ ∧ _ ∧ _ ∧ _) := ⟨hI, hlt, hVs, hk1, hk2, hk3, hqq, ht⟩
           clear hI hlt hVs hk1 hk2 hk3 hqq ht
           (refine T1A ?_;intros)
           refine p_sop rfl (fun K1 hK1 => ?_)
           refine sub_slice (i := ti78) (e := 103) (ie := ti103) (k := 47) rfl rfl rfl rfl rfl rfl rfl rfl rfl (by omega) (by omega) (by rw [SR_len, List.length_map]; omega) (by rw [SR_len, List.length_map]; omega) (hK1 _ ?_)
           clear hK1 K1
           rw [esub]
           try simp only [put_some]
           iterate 3 (with_reducible first|apply p_seq|apply p_sq|apply p_reg|apply p_nil|apply p_skip|apply p_block|apply p_bq|apply p_ret|apply p_exit|apply p_sq_ret|apply p_sq_exit|apply p_bq_ret|apply p_bq_this|apply p_lq_ret|apply p_lq_exit|apply d_nil|refine p_drw (by decide +kernel) ?_|refine f_op rfl rfl ?_|refine f_opg rfl rfl rfl rfl ?_ ?_|refine f_new rfl rfl rfl rfl ?_|(refine f_end (And.intro ?_ ?_)<;>simp only [List.foldl_nil,List.foldl_cons,recS_mk,AB,Nat.reduceEqDiff,↓reduceIte,Nat.reduceAdd,Nat.reduceMul,Nat.reducePow,Nat.reduceLeDiff,Nat.reduceLT])|apply k_nil|refine k_cons rfl rfl ?_ ?_|apply g_nil|refine g_op0 rfl ?_|refine g_opC rfl ?_|refine p_bq_other (by decide) ?_|refine p_cond rfl ?_ ?_|refine p_op rfl ?_|refine d_op rfl rfl ?_|refine d_eff rfl ?_|refine p_opg rfl rfl rfl ?_ ?_|refine d_opg rfl rfl rfl rfl ?_ ?_|((first|refine p_opgU rfl rfl rfl ?_|refine d_opgU rfl rfl rfl rfl ?_);try simp only [put_some])|(refine fun (K1:St→Prop) hK1=>?_;simp (disch := omega) only [AB,Nat.reduceEqDiff,↓reduceIte,Nat.reduceAdd,Nat.reduceMul,Nat.reducePow,Nat.reduceLeDiff,Nat.reduceLT];(try simp (disch := omega) only [AC]);(try simp only [AM]))|(refine hK1 _ ?_;clear hK1 K1)|refine And.intro (by omega) ?_|apply And.intro|(refine fun (hb:(_:Bool)=_)=>?_;(try simp only [HS] at hb);(try (change True at hb;clear hb));first|(exfalso;first|omega|contradiction)|(try simp only [put_some])))
           refine p_sop rfl (fun K1 hK1 => ?_)
           refine io_call (k := 47) (y0 := .sub 47 1 j ((dg b).length + 1)) rfl rfl rfl rfl rfl rfl ?_
           simp only [AB,Nat.reduceEqDiff,↓reduceIte,Nat.reduceAdd,Nat.reduceMul,Nat.reducePow,Nat.reduceLeDiff,Nat.reduceLT]
           refine ⟨_, _, _, rfl, con_give 47 (tk u j ((dg b).length + 1) qf (b * 2 ^ n)) (dg (b * 2 ^ n)) j ((dg b).length + 1) htko (dok_dg _) (by omega) (by omega) (by omega), plain_N _, plain_N _, hK1 _ ?_⟩
           clear hK1 K1
           try simp only [setO_mk, mapO_nil, put_some, vB]
           obtain ⟨hI, hlt, hVs, hk1, hk2, hk3, hqq, ht⟩ := hid
           rw [val_dg, ht]
           have hid : Hid (_ ∧ _ ∧ _ ∧ _ ∧ _ ∧ _ ∧ _) := ⟨hI, hlt, hVs, hk1, hk2, hk3, hqq⟩
           clear hI hlt hVs hk1 hk2 hk3 hqq ht
           (refine T1A ?_;intros)
           obtain ⟨hI, hlt, hVs, hk1, hk2, hk3, hqq⟩ := hid
           have eq1 : ((qf : Int) - 1).toNat = qf - 1 := by omega
           rw [eq1]
           refine p_lx _ _ _ _ (j, win u j (fd ((dg b).length + 1) (val u / 4294967296 ^ j % (b * 2 ^ n))), out.set j (qf - 1)) ?_ ⟨?_, ?_, ?_, ?_, ?_, ?_, ?_⟩ (Weak.list ⟨rfl, rfl, rfl, rfl, rfl, rfl, trivial⟩ ⟨rfl, rfl, trivial⟩) <;> dsimp only
           · omega
           · omega
           · simp [hol]
           · exact dok_set hook _ (by omega)
           · rw [win_len (by rw [fd_len]; omega)]; exact hul
           · exact win_ok huok (fd_ok _ _) _
           · rw [hqq]; exact hk1
           · exact hk2
       · obtain ⟨hq1, hq2, hset, l1, l2, l6⟩ := hid2
         obtain ⟨hI, hlt, hVs, hval0, hfit, hnn, hfb⟩ := hid
         obtain ⟨hul, hk, hol, hab, hfl, hm1, h, h', hj1⟩ := hid3
         have esub : SV.sub 47 1 ((j : Int)).toNat (((j : Int) + ((dg b).length : Int) + 1).toNat - ((j : Int)).toNat) = SV.sub 47 1 j ((dg b).length + 1) := by congr 1; omega
         rename_i hTEST
         rw [e3, or_sum32 l3, ← Int.natCast_mul] at hTEST
         have hWq : val u / 4294967296 ^ j < q * (b * 2 ^ n) := (hset.2.1 q r hq1).1 (by omega)
         have hq0 : 1 ≤ q := by
           rcases Nat.eq_zero_or_pos q with e | e
           · subst e; simp at hWq
           · exact e
         have hq1' : (r + (dg (b * 2 ^ n)).getD (((dg b).length : Int) - 1).toNat 0) + (q - 1) * (dg (b * 2 ^ n)).getD (((dg b).length : Int) - 1).toNat 0 = u.getD ((j : Int) + ((dg b).length : Int)).toNat 0 * 4294967296 + u.getD ((j : Int) + ((dg b).length : Int) - 1).toNat 0 := by
           rw [← hq1]
           obtain ⟨p, rfl⟩ : ∃ p, q = p + 1 := ⟨q - 1, by omega⟩
           rw [Nat.add_sub_cancel, Nat.add_mul]
           omega
         have hWq2 : val u / 4294967296 ^ j < (q - 1 + 1) * (b * 2 ^ n) := by rw [Nat.sub_add_cancel hq0]; exact hWq
         clear hI hlt hVs hval0 hfit hnn hfb h h' hm1 hset
         refine p_lx _ _ _ _ (q - 1, r + (dg (b * 2 ^ n)).getD (((dg b).length : Int) - 1).toNat 0) ?_ ⟨hq1', hWq2, ?_, ?_⟩ (Weak.list ⟨int_eq ?_, int_eq ?_, rfl, rfl, rfl, rfl, rfl, rfl, trivial⟩ ⟨rfl, rfl, trivial⟩) <;> dsimp only
         · omega
         · omega
         · omega
         · omega
         · omega
       · obtain ⟨hq1, hq2, hset, l1, l2, l6⟩ := hid2
         obtain ⟨hI, hlt, hVs, hval0, hfit, hnn, hfb⟩ := hid
         obtain ⟨hul, hk, hol, hab, hfl, hm1, h, h', hj1⟩ := hid3
         have esub : SV.sub 47 1 ((j : Int)).toNat (((j : Int) + ((dg b).length : Int) + 1).toNat - ((j : Int)).toNat) = SV.sub 47 1 j ((dg b).length + 1) := by congr 1; omega
         rw [e3, or_sum32 l3, ← Int.natCast_mul] at hb
         obtain ⟨qf, hqf, hF1, hF2, eqf⟩ : ∃ qf : Nat, qf < 4294967296 ∧ val u / 4294967296 ^ j < (qf + 1) * (b * 2 ^ n) ∧ qf * (b * 2 ^ n) < val u / 4294967296 ^ j + b * 2 ^ n ∧ (q : Int) = (qf : Int) :=
           ⟨q, hqB, hq2, ((hset.2.1 q r hq1).2 hqB (by omega)), rfl⟩
         rw [eqf]
         refine p_sop rfl (fun K1 hK1 => ?_)
         refine sub_slice (i := ti78) (e := 103) (ie := ti103) (k := 47) rfl rfl rfl rfl rfl rfl rfl rfl rfl (by omega) (by omega) (by rw [SR_len, List.length_map]; omega) (by rw [SR_len, List.length_map]; omega) (hK1 _ ?_)
         clear hK1 K1
         rw [esub]
         try simp only [put_some]
         iterate 6 (with_reducible first|apply p_seq|apply p_sq|apply p_reg|apply p_nil|apply p_skip|apply p_block|apply p_bq|apply p_ret|apply p_exit|apply p_sq_ret|apply p_sq_exit|apply p_bq_ret|apply p_bq_this|apply p_lq_ret|apply p_lq_exit|apply d_nil|refine p_drw (by decide +kernel) ?_|refine f_op rfl rfl ?_|refine f_opg rfl rfl rfl rfl ?_ ?_|refine f_new rfl rfl rfl rfl ?_|(refine f_end (And.intro ?_ ?_)<;>simp only [List.foldl_nil,List.foldl_cons,recS_mk,AB,Nat.reduceEqDiff,↓reduceIte,Nat.reduceAdd,Nat.reduceMul,Nat.reducePow,Nat.reduceLeDiff,Nat.reduceLT])|apply k_nil|refine k_cons rfl rfl ?_ ?_|apply g_nil|refine g_op0 rfl ?_|refine g_opC rfl ?_|refine p_bq_other (by decide) ?_|refine p_cond rfl ?_ ?_|refine p_op rfl ?_|refine d_op rfl rfl ?_|refine d_eff rfl ?_|refine p_opg rfl rfl rfl ?_ ?_|refine d_opg rfl rfl rfl rfl ?_ ?_|((first|refine p_opgU rfl rfl rfl ?_|refine d_opgU rfl rfl rfl rfl ?_);try simp only [put_some])|(refine fun (K1:St→Prop) hK1=>?_;simp (disch := omega) only [AB,Nat.reduceEqDiff,↓reduceIte,Nat.reduceAdd,Nat.reduceMul,Nat.reducePow,Nat.reduceLeDiff,Nat.reduceLT];(try simp (disch := omega) only [AC]);(try simp only [AM]))|(refine hK1 _ ?_;clear hK1 K1)|refine And.intro (by omega) ?_|apply And.intro|(refine fun (hb:(_:Bool)=_)=>?_;(try simp only [HS] at hb);(try (change True at hb;clear hb));first|(exfalso;first|omega|contradiction)|(try simp only [put_some])))
         refine p_sop rfl (fun K1 hK1 => ?_)
         refine io_call (k := 47) (y0 := .sub 47 1 j ((dg b).length + 1)) rfl rfl rfl rfl rfl rfl ?_
         simp only [AB,Nat.reduceEqDiff,↓reduceIte,Nat.reduceAdd,Nat.reduceMul,Nat.reducePow,Nat.reduceLeDiff,Nat.reduceLT]
         refine ⟨_, _, _, rfl, con_take 47 u (dg (b * 2 ^ n)) j ((dg b).length + 1) qf huok (dok_dg _) (by omega) (by omega) hqf (by omega), plain_N _, plain_N _, hK1 _ ?_⟩
         clear hK1 K1
         try simp only [setO_mk, mapO_nil, put_some, vB]
         rw [val_dg]
         obtain ⟨hst1, hst2⟩ := div_step huok (show j + (dg b).length + 1 ≤ u.length by omega) hVs hlt hF1 hF2
         obtain ⟨hk1, hk2, hk3⟩ := div_keep (out := out) huok (show j + (dg b).length + 1 ≤ u.length by omega) hVs hlt (by omega) hI
         generalize hdd : decide (qf * (b * 2 ^ n) ≤ val ((u.drop j).take ((dg b).length + 1))) = dd at *
         have htkl : (tk u j ((dg b).length + 1) qf (b * 2 ^ n)).length = u.length := win_len (by rw [fd_len]; omega)
         have htko : dok (tk u j ((dg b).length + 1) qf (b * 2 ^ n)) := win_ok huok (fd_ok _ _) _
         clear hq1 hq2 hset hval0 hfit hnn hfb h h' hm1 hF1 hF2 hb
         cases dd with
         | true =>
           obtain ⟨ht, hqq⟩ := hst1 rfl
           rw [ht]
           clear hst1 hst2 ht
           have hid : Hid (_ ∧ _ ∧ _ ∧ _ ∧ _ ∧ _ ∧ _) := ⟨hI, hlt, hVs, hk1, hk2, hk3, hqq⟩
           clear hI hlt hVs hk1 hk2 hk3 hqq
           (refine T1A ?_;intros)
           obtain ⟨hI, hlt, hVs, hk1, hk2, hk3, hqq⟩ := hid
           refine p_lx _ _ _ _ (j, win u j (fd ((dg b).length + 1) (val u / 4294967296 ^ j % (b * 2 ^ n))), out.set j qf) ?_ ⟨?_, ?_, ?_, ?_, ?_, ?_, ?_⟩ (Weak.list ⟨rfl, rfl, rfl, rfl, rfl, rfl, trivial⟩ ⟨rfl, rfl, trivial⟩) <;> dsimp only
           · omega
           · omega
           · simp [hol]
           · exact dok_set hook _ hqf
           · rw [win_len (by rw [fd_len]; omega)]; exact hul
           · exact win_ok huok (fd_ok _ _) _
           · rw [hqq]; exact hk1
           · exact hk2
         | false =>
           obtain ⟨ht, hq0, hqq⟩ := hst2 rfl
           clear hst1 hst2
           have hid : Hid (_ ∧ _ ∧ _ ∧ _ ∧ _ ∧ _ ∧ _ ∧ _) := ⟨hI, hlt, hVs, hk1, hk2, hk3, hqq, ht⟩
           clear hI hlt hVs hk1 hk2 hk3 hqq ht
           (refine T1A ?_;intros)
           refine p_sop rfl (fun K1 hK1 => ?_)
           refine sub_slice (i := ti78) (e := 103) (ie := ti103) (k := 47) rfl rfl rfl rfl rfl rfl rfl rfl rfl (by omega) (by omega) (by rw [SR_len, List.length_map]; omega) (by rw [SR_len, List.length_map]; omega) (hK1 _ ?_)
           clear hK1 K1
           rw [esub]
           try simp only [put_some]
           iterate 3 (with_reducible first|apply p_seq|apply p_sq|apply p_reg|apply p_nil|apply p_skip|apply p_block|apply p_bq|apply p_ret|apply p_exit|apply p_sq_ret|apply p_sq_exit|apply p_bq_ret|apply p_bq_this|apply p_lq_ret|apply p_lq_exit|apply d_nil|refine p_drw (by decide +kernel) ?_|refine f_op rfl rfl ?_|refine f_opg rfl rfl rfl rfl ?_ ?_|refine f_new rfl rfl rfl rfl ?_|(refine f_end (And.intro ?_ ?_)<;>simp only [List.foldl_nil,List.foldl_cons,recS_mk,AB,Nat.reduceEqDiff,↓reduceIte,Nat.reduceAdd,Nat.reduceMul,Nat.reducePow,Nat.reduceLeDiff,Nat.reduceLT])|apply k_nil|refine k_cons rfl rfl ?_ ?_|apply g_nil|refine g_op0 rfl ?_|refine g_opC rfl ?_|refine p_bq_other (by decide) ?_|refine p_cond rfl ?_ ?_|refine p_op rfl ?_|refine d_op rfl rfl ?_|refine d_eff rfl ?_|refine p_opg rfl rfl rfl ?_ ?_|refine d_opg rfl rfl rfl rfl ?_ ?_|((first|refine p_opgU rfl rfl rfl ?_|refine d_opgU rfl rfl rfl rfl ?_);try simp only [put_some])|(refine fun (K1:St→Prop) hK1=>?_;simp (disch := omega) only [AB,Nat.reduceEqDiff,↓reduceIte,Nat.reduceAdd,Nat.reduceMul,Nat.reducePow,Nat.reduceLeDiff,Nat.reduceLT];(try simp (disch := omega) only [AC]);(try simp only [AM]))|(refine hK1 _ ?_;clear hK1 K1)|refine And.intro (by omega) ?_|apply And.intro|(refine fun (hb:(_:Bool)=_)=>?_;(try simp only [HS] at hb);(try (change True at hb;clear hb));first|(exfalso;first|omega|contradiction)|(try simp only [put_some])))
           refine p_sop rfl (fun K1 hK1 => ?_)
           refine io_call (k := 47) (y0 := .sub 47 1 j ((dg b).length + 1)) rfl rfl rfl rfl rfl rfl ?_
           simp only [AB,Nat.reduceEqDiff,↓reduceIte,Nat.reduceAdd,Nat.reduceMul,Nat.reducePow,Nat.reduceLeDiff,Nat.reduceLT]
           refine ⟨_, _, _, rfl, con_give 47 (tk u j ((dg b).length + 1) qf (b * 2 ^ n)) (dg (b * 2 ^ n)) j ((dg b).length + 1) htko (dok_dg _) (by omega) (by omega) (by omega), plain_N _, plain_N _, hK1 _ ?_⟩
           clear hK1 K1
           try simp only [setO_mk, mapO_nil, put_some, vB]
           obtain ⟨hI, hlt, hVs, hk1, hk2, hk3, hqq, ht⟩ := hid
           rw [val_dg, ht]
           have hid : Hid (_ ∧ _ ∧ _ ∧ _ ∧ _ ∧ _ ∧ _) := ⟨hI, hlt, hVs, hk1, hk2, hk3, hqq⟩
           clear hI hlt hVs hk1 hk2 hk3 hqq ht
           (refine T1A ?_;intros)
           obtain ⟨hI, hlt, hVs, hk1, hk2, hk3, hqq⟩ := hid
           have eq1 : ((qf : Int) - 1).toNat = qf - 1 := by omega
           rw [eq1]
           refine p_lx _ _ _ _ (j, win u j (fd ((dg b).length + 1) (val u / 4294967296 ^ j % (b * 2 ^ n))), out.set j (qf - 1)) ?_ ⟨?_, ?_, ?_, ?_, ?_, ?_, ?_⟩ (Weak.list ⟨rfl, rfl, rfl, rfl, rfl, rfl, trivial⟩ ⟨rfl, rfl, trivial⟩) <;> dsimp only
           · omega
           · omega
           · simp [hol]
           · exact dok_set hook _ (by omega)
           · rw [win_len (by rw [fd_len]; omega)]; exact hul
           · exact win_ok huok (fd_ok _ _) _
           · rw [hqq]; exact hk1
           · exact hk2
     · have hdec : decide ((q : Int) ≥ 4294967296) = true := by simp; omega
       iterate 9 (with_reducible first|apply p_seq|apply p_sq|apply p_reg|apply p_nil|apply p_skip|apply p_block|apply p_bq|apply p_ret|apply p_exit|apply p_sq_ret|apply p_sq_exit|apply p_bq_ret|apply p_bq_this|apply p_lq_ret|apply p_lq_exit|apply d_nil|refine p_drw (by decide +kernel) ?_|refine f_op rfl rfl ?_|refine f_opg rfl rfl rfl rfl ?_ ?_|refine f_new rfl rfl rfl rfl ?_|(refine f_end (And.intro ?_ ?_)<;>simp only [List.foldl_nil,List.foldl_cons,recS_mk,AB,Nat.reduceEqDiff,↓reduceIte,Nat.reduceAdd,Nat.reduceMul,Nat.reducePow,Nat.reduceLeDiff,Nat.reduceLT])|apply k_nil|refine k_cons rfl rfl ?_ ?_|apply g_nil|refine g_op0 rfl ?_|refine g_opC rfl ?_|refine p_bq_other (by decide) ?_|refine p_cond rfl ?_ ?_|refine p_op rfl ?_|refine d_op rfl rfl ?_|refine d_eff rfl ?_|refine p_opg rfl rfl rfl ?_ ?_|refine d_opg rfl rfl rfl rfl ?_ ?_|((first|refine p_opgU rfl rfl rfl ?_|refine d_opgU rfl rfl rfl rfl ?_);try simp only [put_some])|(refine fun (K1:St→Prop) hK1=>?_;simp (disch := omega) only [AB,Nat.reduceEqDiff,↓reduceIte,Nat.reduceAdd,Nat.reduceMul,Nat.reducePow,Nat.reduceLeDiff,Nat.reduceLT];(try simp (disch := omega) only [AC]);(try simp only [AM]))|(refine hK1 _ ?_;clear hK1 K1)|refine And.intro (by omega) ?_|apply And.intro|(refine fun (hb:(_:Bool)=_)=>?_;(try simp only [HS] at hb);(try (change True at hb;clear hb));first|(exfalso;first|omega|contradiction)|(try simp only [put_some])))
       rw [hdec]
       (refine T2A ?_ ?_<;>intros<;>rename_i hb)
       · obtain ⟨hq1, hq2, hset, l1, l2, l6⟩ := hid2
         obtain ⟨hI, hlt, hVs, hval0, hfit, hnn, hfb⟩ := hid
         obtain ⟨hul, hk, hol, hab, hfl, hm1, h, h', hj1⟩ := hid3
         have esub : SV.sub 47 1 ((j : Int)).toNat (((j : Int) + ((dg b).length : Int) + 1).toNat - ((j : Int)).toNat) = SV.sub 47 1 j ((dg b).length + 1) := by congr 1; omega
         have hWq : val u / 4294967296 ^ j < q * (b * 2 ^ n) := Nat.lt_of_lt_of_le (by rw [Nat.div_lt_iff_lt_mul (pow_pos' j)]; rw [Nat.pow_succ] at hlt; calc val u < _ := hlt
               _ = _ := by simp only [Nat.mul_assoc, Nat.mul_left_comm, Nat.mul_comm]) (Nat.mul_le_mul_right _ (Nat.le_of_not_lt hqB))
         have hq0 : 1 ≤ q := by
           rcases Nat.eq_zero_or_pos q with e | e
           · omega
           · exact e
         have hq1' : (r + (dg (b * 2 ^ n)).getD (((dg b).length : Int) - 1).toNat 0) + (q - 1) * (dg (b * 2 ^ n)).getD (((dg b).length : Int) - 1).toNat 0 = u.getD ((j : Int) + ((dg b).length : Int)).toNat 0 * 4294967296 + u.getD ((j : Int) + ((dg b).length : Int) - 1).toNat 0 := by
           rw [← hq1]
           obtain ⟨p, rfl⟩ : ∃ p, q = p + 1 := ⟨q - 1, by omega⟩
           rw [Nat.add_sub_cancel, Nat.add_mul]
           omega
         have hWq2 : val u / 4294967296 ^ j < (q - 1 + 1) * (b * 2 ^ n) := by rw [Nat.sub_add_cancel hq0]; exact hWq
         have hqf0 : q - 1 < 4294967296 := by
           apply Nat.lt_of_not_le
           intro hle
           have h8 := hset.2.2
           have h9 := Nat.mul_le_mul_right ((dg (b * 2 ^ n)).getD (((dg b).length : Int) - 1).toNat 0) hle
           generalize (q - 1) * (dg (b * 2 ^ n)).getD (((dg b).length : Int) - 1).toNat 0 = Z at *
           omega
         have hF20 := (hset.2.1 (q - 1) _ hq1').2 hqf0 (by
           have h9 := mul_bound hqf0 l5
           generalize (q - 1) * (dg (b * 2 ^ n)).getD (((dg b).length : Int) - 2).toNat 0 = Z at *
           omega)
         obtain ⟨qf, hqf, hF1, hF2, eqf⟩ : ∃ qf : Nat, qf < 4294967296 ∧ val u / 4294967296 ^ j < (qf + 1) * (b * 2 ^ n) ∧ qf * (b * 2 ^ n) < val u / 4294967296 ^ j + b * 2 ^ n ∧ (q : Int) - 1 = (qf : Int) :=
           ⟨q - 1, hqf0, hWq2, hF20, by omega⟩
         rw [eqf]
         clear hq1' hWq2 hF20 hWq
         refine p_sop rfl (fun K1 hK1 => ?_)
         refine sub_slice (i := ti78) (e := 103) (ie := ti103) (k := 47) rfl rfl rfl rfl rfl rfl rfl rfl rfl (by omega) (by omega) (by rw [SR_len, List.length_map]; omega) (by rw [SR_len, List.length_map]; omega) (hK1 _ ?_)
         clear hK1 K1
         rw [esub]
         try simp only [put_some]
         iterate 6 (with_reducible first|apply p_seq|apply p_sq|apply p_reg|apply p_nil|apply p_skip|apply p_block|apply p_bq|apply p_ret|apply p_exit|apply p_sq_ret|apply p_sq_exit|apply p_bq_ret|apply p_bq_this|apply p_lq_ret|apply p_lq_exit|apply d_nil|refine p_drw (by decide +kernel) ?_|refine f_op rfl rfl ?_|refine f_opg rfl rfl rfl rfl ?_ ?_|refine f_new rfl rfl rfl rfl ?_|(refine f_end (And.intro ?_ ?_)<;>simp only [List.foldl_nil,List.foldl_cons,recS_mk,AB,Nat.reduceEqDiff,↓reduceIte,Nat.reduceAdd,Nat.reduceMul,Nat.reducePow,Nat.reduceLeDiff,Nat.reduceLT])|apply k_nil|refine k_cons rfl rfl ?_ ?_|apply g_nil|refine g_op0 rfl ?_|refine g_opC rfl ?_|refine p_bq_other (by decide) ?_|refine p_cond rfl ?_ ?_|refine p_op rfl ?_|refine d_op rfl rfl ?_|refine d_eff rfl ?_|refine p_opg rfl rfl rfl ?_ ?_|refine d_opg rfl rfl rfl rfl ?_ ?_|((first|refine p_opgU rfl rfl rfl ?_|refine d_opgU rfl rfl rfl rfl ?_);try simp only [put_some])|(refine fun (K1:St→Prop) hK1=>?_;simp (disch := omega) only [AB,Nat.reduceEqDiff,↓reduceIte,Nat.reduceAdd,Nat.reduceMul,Nat.reducePow,Nat.reduceLeDiff,Nat.reduceLT];(try simp (disch := omega) only [AC]);(try simp only [AM]))|(refine hK1 _ ?_;clear hK1 K1)|refine And.intro (by omega) ?_|apply And.intro|(refine fun (hb:(_:Bool)=_)=>?_;(try simp only [HS] at hb);(try (change True at hb;clear hb));first|(exfalso;first|omega|contradiction)|(try simp only [put_some])))
         refine p_sop rfl (fun K1 hK1 => ?_)
         refine io_call (k := 47) (y0 := .sub 47 1 j ((dg b).length + 1)) rfl rfl rfl rfl rfl rfl ?_
         simp only [AB,Nat.reduceEqDiff,↓reduceIte,Nat.reduceAdd,Nat.reduceMul,Nat.reducePow,Nat.reduceLeDiff,Nat.reduceLT]
         refine ⟨_, _, _, rfl, con_take 47 u (dg (b * 2 ^ n)) j ((dg b).length + 1) qf huok (dok_dg _) (by omega) (by omega) hqf (by omega), plain_N _, plain_N _, hK1 _ ?_⟩
         clear hK1 K1
         try simp only [setO_mk, mapO_nil, put_some, vB]
         rw [val_dg]
         obtain ⟨hst1, hst2⟩ := div_step huok (show j + (dg b).length + 1 ≤ u.length by omega) hVs hlt hF1 hF2
         obtain ⟨hk1, hk2, hk3⟩ := div_keep (out := out) huok (show j + (dg b).length + 1 ≤ u.length by omega) hVs hlt (by omega) hI
         generalize hdd : decide (qf * (b * 2 ^ n) ≤ val ((u.drop j).take ((dg b).length + 1))) = dd at *
         have htkl : (tk u j ((dg b).length + 1) qf (b * 2 ^ n)).length = u.length := win_len (by rw [fd_len]; omega)
         have htko : dok (tk u j ((dg b).length + 1) qf (b * 2 ^ n)) := win_ok huok (fd_ok _ _) _
         clear hq1 hq2 hset hval0 hfit hnn hfb h h' hm1 hF1 hF2 hb
         cases dd with
         | true =>
           obtain ⟨ht, hqq⟩ := hst1 rfl
           rw [ht]
           clear hst1 hst2 ht
           have hid : Hid (_ ∧ _ ∧ _ ∧ _ ∧ _ ∧ _ ∧ _) := ⟨hI, hlt, hVs, hk1, hk2, hk3, hqq⟩
           clear hI hlt hVs hk1 hk2 hk3 hqq
           (refine T1A ?_;intros)
           obtain ⟨hI, hlt, hVs, hk1, hk2, hk3, hqq⟩ := hid
           refine p_lx _ _ _ _ (j, win u j (fd ((dg b).length + 1) (val u / 4294967296 ^ j % (b * 2 ^ n))), out.set j qf) ?_ ⟨?_, ?_, ?_, ?_, ?_, ?_, ?_⟩ (Weak.list ⟨rfl, rfl, rfl, rfl, rfl, rfl, trivial⟩ ⟨rfl, rfl, trivial⟩) <;> dsimp only
           · omega
           · omega
           · simp [hol]
           · exact dok_set hook _ hqf
           · rw [win_len (by rw [fd_len]; omega)]; exact hul
           · exact win_ok huok (fd_ok _ _) _
           · rw [hqq]; exact hk1
           · exact hk2
         | false =>
           obtain ⟨ht, hq0, hqq⟩ := hst2 rfl
           clear hst1 hst2
           have hid : Hid (_ ∧ _ ∧ _ ∧ _ ∧ _ ∧ _ ∧ _ ∧ _) := ⟨hI, hlt, hVs, hk1, hk2, hk3, hqq, ht⟩
           clear hI hlt hVs hk1 hk2 hk3 hqq ht
           (refine T1A ?_;intros)
           refine p_sop rfl (fun K1 hK1 => ?_)
           refine sub_slice (i := ti78) (e := 103) (ie := ti103) (k := 47) rfl rfl rfl rfl rfl rfl rfl rfl rfl (by omega) (by omega) (by rw [SR_len, List.length_map]; omega) (by rw [SR_len, List.length_map]; omega) (hK1 _ ?_)
           clear hK1 K1
           rw [esub]
           try simp only [put_some]
           iterate 3 (with_reducible first|apply p_seq|apply p_sq|apply p_reg|apply p_nil|apply p_skip|apply p_block|apply p_bq|apply p_ret|apply p_exit|apply p_sq_ret|apply p_sq_exit|apply p_bq_ret|apply p_bq_this|apply p_lq_ret|apply p_lq_exit|apply d_nil|refine p_drw (by decide +kernel) ?_|refine f_op rfl rfl ?_|refine f_opg rfl rfl rfl rfl ?_ ?_|refine f_new rfl rfl rfl rfl ?_|(refine f_end (And.intro ?_ ?_)<;>simp only [List.foldl_nil,List.foldl_cons,recS_mk,AB,Nat.reduceEqDiff,↓reduceIte,Nat.reduceAdd,Nat.reduceMul,Nat.reducePow,Nat.reduceLeDiff,Nat.reduceLT])|apply k_nil|refine k_cons rfl rfl ?_ ?_|apply g_nil|refine g_op0 rfl ?_|refine g_opC rfl ?_|refine p_bq_other (by decide) ?_|refine p_cond rfl ?_ ?_|refine p_op rfl ?_|refine d_op rfl rfl ?_|refine d_eff rfl ?_|refine p_opg rfl rfl rfl ?_ ?_|refine d_opg rfl rfl rfl rfl ?_ ?_|((first|refine p_opgU rfl rfl rfl ?_|refine d_opgU rfl rfl rfl rfl ?_);try simp only [put_some])|(refine fun (K1:St→Prop) hK1=>?_;simp (disch := omega) only [AB,Nat.reduceEqDiff,↓reduceIte,Nat.reduceAdd,Nat.reduceMul,Nat.reducePow,Nat.reduceLeDiff,Nat.reduceLT];(try simp (disch := omega) only [AC]);(try simp only [AM]))|(refine hK1 _ ?_;clear hK1 K1)|refine And.intro (by omega) ?_|apply And.intro|(refine fun (hb:(_:Bool)=_)=>?_;(try simp only [HS] at hb);(try (change True at hb;clear hb));first|(exfalso;first|omega|contradiction)|(try simp only [put_some])))
           refine p_sop rfl (fun K1 hK1 => ?_)
           refine io_call (k := 47) (y0 := .sub 47 1 j ((dg b).length + 1)) rfl rfl rfl rfl rfl rfl ?_
           simp only [AB,Nat.reduceEqDiff,↓reduceIte,Nat.reduceAdd,Nat.reduceMul,Nat.reducePow,Nat.reduceLeDiff,Nat.reduceLT]
           refine ⟨_, _, _, rfl, con_give 47 (tk u j ((dg b).length + 1) qf (b * 2 ^ n)) (dg (b * 2 ^ n)) j ((dg b).length + 1) htko (dok_dg _) (by omega) (by omega) (by omega), plain_N _, plain_N _, hK1 _ ?_⟩
           clear hK1 K1
           try simp only [setO_mk, mapO_nil, put_some, vB]
           obtain ⟨hI, hlt, hVs, hk1, hk2, hk3, hqq, ht⟩ := hid
           rw [val_dg, ht]
           have hid : Hid (_ ∧ _ ∧ _ ∧ _ ∧ _ ∧ _ ∧ _) := ⟨hI, hlt, hVs, hk1, hk2, hk3, hqq⟩
           clear hI hlt hVs hk1 hk2 hk3 hqq ht
           (refine T1A ?_;intros)
           obtain ⟨hI, hlt, hVs, hk1, hk2, hk3, hqq⟩ := hid
           have eq1 : ((qf : Int) - 1).toNat = qf - 1 := by omega
           rw [eq1]
           refine p_lx _ _ _ _ (j, win u j (fd ((dg b).length + 1) (val u / 4294967296 ^ j % (b * 2 ^ n))), out.set j (qf - 1)) ?_ ⟨?_, ?_, ?_, ?_, ?_, ?_, ?_⟩ (Weak.list ⟨rfl, rfl, rfl, rfl, rfl, rfl, trivial⟩ ⟨rfl, rfl, trivial⟩) <;> dsimp only
           · omega
           · omega
           · simp [hol]
           · exact dok_set hook _ (by omega)
           · rw [win_len (by rw [fd_len]; omega)]; exact hul
           · exact win_ok huok (fd_ok _ _) _
           · rw [hqq]; exact hk1
           · exact hk2
       · obtain ⟨hq1, hq2, hset, l1, l2, l6⟩ := hid2
         obtain ⟨hI, hlt, hVs, hval0, hfit, hnn, hfb⟩ := hid
         obtain ⟨hul, hk, hol, hab, hfl, hm1, h, h', hj1⟩ := hid3
         have esub : SV.sub 47 1 ((j : Int)).toNat (((j : Int) + ((dg b).length : Int) + 1).toNat - ((j : Int)).toNat) = SV.sub 47 1 j ((dg b).length + 1) := by congr 1; omega
         have hWq : val u / 4294967296 ^ j < q * (b * 2 ^ n) := Nat.lt_of_lt_of_le (by rw [Nat.div_lt_iff_lt_mul (pow_pos' j)]; rw [Nat.pow_succ] at hlt; calc val u < _ := hlt
               _ = _ := by simp only [Nat.mul_assoc, Nat.mul_left_comm, Nat.mul_comm]) (Nat.mul_le_mul_right _ (Nat.le_of_not_lt hqB))
         have hq0 : 1 ≤ q := by
           rcases Nat.eq_zero_or_pos q with e | e
           · omega
           · exact e
         have hq1' : (r + (dg (b * 2 ^ n)).getD (((dg b).length : Int) - 1).toNat 0) + (q - 1) * (dg (b * 2 ^ n)).getD (((dg b).length : Int) - 1).toNat 0 = u.getD ((j : Int) + ((dg b).length : Int)).toNat 0 * 4294967296 + u.getD ((j : Int) + ((dg b).length : Int) - 1).toNat 0 := by
           rw [← hq1]
           obtain ⟨p, rfl⟩ : ∃ p, q = p + 1 := ⟨q - 1, by omega⟩
           rw [Nat.add_sub_cancel, Nat.add_mul]
           omega
         have hWq2 : val u / 4294967296 ^ j < (q - 1 + 1) * (b * 2 ^ n) := by rw [Nat.sub_add_cancel hq0]; exact hWq
         clear hI hlt hVs hval0 hfit hnn hfb h h' hm1 hset
         refine p_lx _ _ _ _ (q - 1, r + (dg (b * 2 ^ n)).getD (((dg b).length : Int) - 1).toNat 0) ?_ ⟨hq1', hWq2, ?_, ?_⟩ (Weak.list ⟨int_eq ?_, int_eq ?_, rfl, rfl, rfl, rfl, rfl, rfl, trivial⟩ ⟨rfl, rfl, trivial⟩) <;> dsimp only
         · omega
         · omega
         · omega
         · omega
         · omega
end Go.Pw
