/- Merged from the working texts PxN. -/
import Derived.Test.YtkflegdaeienlaaGreatDoorKc25
import Derived.Test.YtkflegdaeienlaaGreatDoorKc41
import Derived.Test.YtkflegdaeienlaaGreatDoorKc42
import Derived.Test.YtkflegdaeienlaaGreatDoorKc28
import Derived.Test.YtkflegdaeienlaaGreatDoorKc23
set_option linter.all false
set_option maxHeartbeats 400000
set_option maxRecDepth 1000000
set_option linter.unusedVariables false
namespace Go.Pw
open Go Go.Proofs
def vi (n : Int) : PV := .val (.int .i64 n)
def vu (n : Int) : PV := .val (.int .u32 n)
def vb (b : Bool) : PV := .val (.bool b)
theorem FcOk.nil : FcOk [] := fun _ h => by cases h
theorem FcOk.cons {f : Fact} {l : List Fact} (h : Con E f.g f.vs f.d) (hl : FcOk l) : FcOk (f :: l) := fun p hp => by
 rcases List.mem_cons.1 hp with rfl | hp
 · exact h
 · exact hl p hp
theorem con_clone219x (x : List Nat) (h : x.length < 2 ^ 39) : Con E 219 [cN x] (cN x) := by
 refine con_of2 mixed (fn := Tryz.f219) (rs := [.tmp 2]) Tryz.func219 (by kernel_rfl) rfl (by kernel_rfl) rfl rfl ?_
 simp only [argE, Nat.reduceAdd, cN, vI]
 iterate 13 (with_reducible first|apply p_seq|apply p_sq|apply p_reg|apply p_nil|apply p_skip|apply p_block|apply p_bq|apply p_ret|apply p_exit|apply p_sq_ret|apply p_sq_exit|apply p_bq_ret|apply p_bq_this|apply p_lq_ret|apply p_lq_exit|apply d_nil|refine p_drw (by decide +kernel) ?_|refine f_op rfl rfl ?_|refine f_opg rfl rfl rfl rfl ?_ ?_|refine f_new rfl rfl rfl rfl ?_|(refine f_end (And.intro ?_ ?_)<;>simp only [List.foldl_nil,List.foldl_cons,recS_mk,AB,Nat.reduceEqDiff,↓reduceIte,Nat.reduceAdd,Nat.reduceMul,Nat.reducePow,Nat.reduceLeDiff,Nat.reduceLT])|apply k_nil|refine k_cons rfl rfl ?_ ?_|apply g_nil|refine g_op0 rfl ?_|refine g_opC rfl ?_|refine p_bq_other (by decide) ?_|refine p_cond rfl ?_ ?_|refine p_op rfl ?_|refine d_op rfl rfl ?_|refine d_eff rfl ?_|refine p_opg rfl rfl rfl ?_ ?_|refine d_opg rfl rfl rfl rfl ?_ ?_|((first|refine p_opgU rfl rfl rfl ?_|refine d_opgU rfl rfl rfl rfl ?_);try simp only [put_some])|(refine fun (K1:St→Prop) hK1=>?_;simp (disch := omega) only [AB,Nat.reduceEqDiff,↓reduceIte,Nat.reduceAdd,Nat.reduceMul,Nat.reducePow,Nat.reduceLeDiff,Nat.reduceLT];(try simp (disch := omega) only [AC]);(try simp only [AM]))|(refine hK1 _ ?_;clear hK1 K1)|refine And.intro (by omega) ?_|apply And.intro|(refine fun (hb:(_:Bool)=_)=>?_;(try simp only [HS] at hb);(try (change True at hb;clear hb));first|(exfalso;first|omega|contradiction)|(try simp only [put_some])))
 refine p_sop rfl (fun K1 hK1 => ?_)
 refine nil_eq (i := ti174) (e := 103) rfl rfl rfl rfl (fun he => ?_) ?_ <;> refine hK1 _ ?_ <;> clear hK1 K1 <;> simp only [put_some]
 · repeat'(with_reducible first|apply p_seq|apply p_sq|apply p_reg|apply p_nil|apply p_skip|apply p_block|apply p_bq|apply p_ret|apply p_exit|apply p_sq_ret|apply p_sq_exit|apply p_bq_ret|apply p_bq_this|apply p_lq_ret|apply p_lq_exit|apply d_nil|refine p_drw (by decide +kernel) ?_|refine f_op rfl rfl ?_|refine f_opg rfl rfl rfl rfl ?_ ?_|refine f_new rfl rfl rfl rfl ?_|(refine f_end (And.intro ?_ ?_)<;>simp only [List.foldl_nil,List.foldl_cons,recS_mk,AB,Nat.reduceEqDiff,↓reduceIte,Nat.reduceAdd,Nat.reduceMul,Nat.reducePow,Nat.reduceLeDiff,Nat.reduceLT])|apply k_nil|refine k_cons rfl rfl ?_ ?_|apply g_nil|refine g_op0 rfl ?_|refine g_opC rfl ?_|refine p_bq_other (by decide) ?_|refine p_cond rfl ?_ ?_|refine p_op rfl ?_|refine d_op rfl rfl ?_|refine d_eff rfl ?_|refine p_opg rfl rfl rfl ?_ ?_|refine d_opg rfl rfl rfl rfl ?_ ?_|((first|refine p_opgU rfl rfl rfl ?_|refine d_opgU rfl rfl rfl rfl ?_);try simp only [put_some])|(refine fun (K1:St→Prop) hK1=>?_;simp (disch := omega) only [AB,Nat.reduceEqDiff,↓reduceIte,Nat.reduceAdd,Nat.reduceMul,Nat.reducePow,Nat.reduceLeDiff,Nat.reduceLT];(try simp (disch := omega) only [AC]);(try simp only [AM]))|(refine hK1 _ ?_;clear hK1 K1)|refine And.intro (by omega) ?_|apply And.intro|(refine fun (hb:(_:Bool)=_)=>?_;(try simp only [HS] at hb);(try (change True at hb;clear hb));first|(exfalso;first|omega|contradiction)|(try simp only [put_some])))
   simp only [res1,res2,res3,AB,Nat.reduceEqDiff,↓reduceIte,Nat.reduceAdd,Nat.reduceMul,Nat.reducePow,Nat.reduceLeDiff,Nat.reduceLT]
   rw [he]
 · repeat'(with_reducible first|apply p_seq|apply p_sq|apply p_reg|apply p_nil|apply p_skip|apply p_block|apply p_bq|apply p_ret|apply p_exit|apply p_sq_ret|apply p_sq_exit|apply p_bq_ret|apply p_bq_this|apply p_lq_ret|apply p_lq_exit|apply d_nil|refine p_drw (by decide +kernel) ?_|refine f_op rfl rfl ?_|refine f_opg rfl rfl rfl rfl ?_ ?_|refine f_new rfl rfl rfl rfl ?_|(refine f_end (And.intro ?_ ?_)<;>simp only [List.foldl_nil,List.foldl_cons,recS_mk,AB,Nat.reduceEqDiff,↓reduceIte,Nat.reduceAdd,Nat.reduceMul,Nat.reducePow,Nat.reduceLeDiff,Nat.reduceLT])|apply k_nil|refine k_cons rfl rfl ?_ ?_|apply g_nil|refine g_op0 rfl ?_|refine g_opC rfl ?_|refine p_bq_other (by decide) ?_|refine p_cond rfl ?_ ?_|refine p_op rfl ?_|refine d_op rfl rfl ?_|refine d_eff rfl ?_|refine p_opg rfl rfl rfl ?_ ?_|refine d_opg rfl rfl rfl rfl ?_ ?_|((first|refine p_opgU rfl rfl rfl ?_|refine d_opgU rfl rfl rfl rfl ?_);try simp only [put_some])|(refine fun (K1:St→Prop) hK1=>?_;simp (disch := omega) only [AB,Nat.reduceEqDiff,↓reduceIte,Nat.reduceAdd,Nat.reduceMul,Nat.reducePow,Nat.reduceLeDiff,Nat.reduceLT];(try simp (disch := omega) only [AC]);(try simp only [AM]))|(refine hK1 _ ?_;clear hK1 K1)|refine And.intro (by omega) ?_|apply And.intro|(refine fun (hb:(_:Bool)=_)=>?_;(try simp only [HS] at hb);(try (change True at hb;clear hb));first|(exfalso;first|omega|contradiction)|(try simp only [put_some])))
   simp only [res1,res2,res3,AB,Nat.reduceEqDiff,↓reduceIte,Nat.reduceAdd,Nat.reduceMul,Nat.reducePow,Nat.reduceLeDiff,Nat.reduceLT]
theorem con_clone219 : Con E 219 [.sl []] (.sl []) := con_clone219x [] (by decide)
def k0 : Fact := ⟨176, [.sl [[vi 0], [vi 0]]], .val (.string ⟨#[0, 0, 0, 0, 0, 0]⟩)⟩
theorem k0_ok : Con E k0.g k0.vs k0.d := con_key [0, 0] (by decide) (by decide) (by decide)
def k1 : Fact := ⟨176, [.sl [[vi 1], [vi 0]]], .val (.string ⟨#[0, 0, 1, 0, 0, 0]⟩)⟩
theorem k1_ok : Con E k1.g k1.vs k1.d := con_key [1, 0] (by decide) (by decide) (by decide)
def k2 : Fact := ⟨176, [.sl [[vi 0], [vi 1]]], .val (.string ⟨#[0, 0, 0, 0, 0, 1]⟩)⟩
theorem k2_ok : Con E k2.g k2.vs k2.d := con_key [0, 1] (by decide) (by decide) (by decide)
def k3 : Fact := ⟨176, [.sl [[vi 0], [vi 2]]], .val (.string ⟨#[0, 0, 0, 0, 0, 2]⟩)⟩
theorem k3_ok : Con E k3.g k3.vs k3.d := con_key [0, 2] (by decide) (by decide) (by decide)
def k4 : Fact := ⟨176, [.sl [[vi 0], [vi 4]]], .val (.string ⟨#[0, 0, 0, 0, 0, 4]⟩)⟩
theorem k4_ok : Con E k4.g k4.vs k4.d := con_key [0, 4] (by decide) (by decide) (by decide)
def k5 : Fact := ⟨176, [.sl [[vi 1], [vi 1]]], .val (.string ⟨#[0, 0, 1, 0, 0, 1]⟩)⟩
theorem k5_ok : Con E k5.g k5.vs k5.d := con_key [1, 1] (by decide) (by decide) (by decide)
def c65 : Fact := ⟨65, [.sl []], .sl []⟩
theorem c65_ok : Con E c65.g c65.vs c65.d := con_clone [] (by decide)
def c219 : Fact := ⟨219, [.sl []], .sl []⟩
theorem c219_ok : Con E c219.g c219.vs c219.d := con_clone219
def G0 : List Fact := [k0, k1, k2, k3, k4, k5, c65, c219]
theorem G0_ok : FcOk G0 := FcOk.cons k0_ok (FcOk.cons k1_ok (FcOk.cons k2_ok (FcOk.cons k3_ok (FcOk.cons k4_ok (FcOk.cons k5_ok (FcOk.cons c65_ok (FcOk.cons c219_ok (FcOk.nil))))))))
def q0 : Fact := ⟨60, [.agg [vi 2, .sl [[vi 1, vi 0, vi 0, vi 0, vb false, .sl [], .sl []], [vi 1, vi 0, vi 0, vi 0, vb false, .sl [], .sl []], [vi 6, vi 0, vi 1, vi 0, vb false, .sl [], .sl []]], .sl [[vi 2]]]], vi 0⟩
theorem q0_ok : Con E q0.g q0.vs q0.d := ev_call FL_ok G0_ok 1000 40 (by decide +kernel)
def G1 : List Fact := q0 :: G0
theorem G1_ok : FcOk G1 := FcOk.cons q0_ok G0_ok
def q1 : Fact := ⟨81, [.sl [[vi 0, vb false, .sl [[vu 1]], .sl [[vu 1]]], [vi 0, vb false, .sl [[vu 2]], .sl [[vu 1]]]], vi 2, vb false], vi 0⟩
theorem q1_ok : Con E q1.g q1.vs q1.d := ev_call FL_ok G1_ok 1000 40 (by decide +kernel)
def G2 : List Fact := q1 :: G1
theorem G2_ok : FcOk G2 := FcOk.cons q1_ok G1_ok
def q2 : Fact := ⟨242, [vi 2, vi 0], .tup [.agg [vi 2, .sl [[.sl [[vi 1], [vi 0]], vi 0, vb false, .sl [[vu 1]], .sl [[vu 1]]]]], vi 0]⟩
theorem q2_ok : Con E q2.g q2.vs q2.d := ev_call FL_ok G2_ok 1000 40 (by decide +kernel)
def G3 : List Fact := q2 :: G2
theorem G3_ok : FcOk G3 := FcOk.cons q2_ok G2_ok
def q3 : Fact := ⟨243, [vi 2, .agg [vi 0, vb false, .sl [[vu 1]], .sl [[vu 1]]]], .tup [.agg [vi 2, .sl [[.sl [[vi 0], [vi 0]], vi 0, vb false, .sl [[vu 1]], .sl [[vu 1]]]]], vi 0]⟩
theorem q3_ok : Con E q3.g q3.vs q3.d := ev_call FL_ok G3_ok 1000 40 (by decide +kernel)
def G4 : List Fact := q3 :: G3
theorem G4_ok : FcOk G4 := FcOk.cons q3_ok G3_ok
def q4 : Fact := ⟨242, [vi 2, vi 1], .tup [.agg [vi 2, .sl [[.sl [[vi 0], [vi 1]], vi 0, vb false, .sl [[vu 1]], .sl [[vu 1]]]]], vi 0]⟩
theorem q4_ok : Con E q4.g q4.vs q4.d := ev_call FL_ok G4_ok 1000 40 (by decide +kernel)
def G5 : List Fact := q4 :: G4
theorem G5_ok : FcOk G5 := FcOk.cons q4_ok G4_ok
def q5 : Fact := ⟨116, [.agg [vi 2, .sl [[.sl [[vi 1], [vi 0]], vi 0, vb false, .sl [[vu 1]], .sl [[vu 1]]]]], .agg [vi 2, .sl [[.sl [[vi 0], [vi 0]], vi 0, vb false, .sl [[vu 1]], .sl [[vu 1]]]]]], .tup [.agg [vi 2, .sl [[.sl [[vi 1], [vi 0]], vi 0, vb false, .sl [[vu 1]], .sl [[vu 1]]]]], vi 0]⟩
theorem q5_ok : Con E q5.g q5.vs q5.d := ev_call FL_ok G5_ok 1000 40 (by decide +kernel)
def G6 : List Fact := q5 :: G5
theorem G6_ok : FcOk G6 := FcOk.cons q5_ok G5_ok
def q6 : Fact := ⟨116, [.agg [vi 2, .sl [[.sl [[vi 0], [vi 0]], vi 0, vb false, .sl [[vu 1]], .sl [[vu 1]]]]], .agg [vi 2, .sl [[.sl [[vi 0], [vi 1]], vi 0, vb false, .sl [[vu 1]], .sl [[vu 1]]]]]], .tup [.agg [vi 2, .sl [[.sl [[vi 0], [vi 1]], vi 0, vb false, .sl [[vu 1]], .sl [[vu 1]]]]], vi 0]⟩
theorem q6_ok : Con E q6.g q6.vs q6.d := ev_call FL_ok G6_ok 1000 40 (by decide +kernel)
def G7 : List Fact := q6 :: G6
theorem G7_ok : FcOk G7 := FcOk.cons q6_ok G6_ok
def q7 : Fact := ⟨68, [.agg [vi 2, .sl [[vi 1, vi 0, vi 0, vi 0, vb false, .sl [], .sl []], [vi 1, vi 0, vi 0, vi 0, vb false, .sl [], .sl []], [vi 6, vi 0, vi 1, vi 0, vb false, .sl [], .sl []]], .sl [[vi 2]]]], .tup [.sl [[vi 2, .sl [[.sl [[vi 1], [vi 0]], vi 0, vb false, .sl [[vu 1]], .sl [[vu 1]]]], vi 2, .sl [[.sl [[vi 0], [vi 1]], vi 0, vb false, .sl [[vu 1]], .sl [[vu 1]]]]]], vi 0]⟩
theorem q7_ok : Con E q7.g q7.vs q7.d := ev_call FL_ok G7_ok 1000 40 (by decide +kernel)
def G8 : List Fact := q7 :: G7
theorem G8_ok : FcOk G8 := FcOk.cons q7_ok G7_ok
def q8 : Fact := ⟨112, [.agg [vi 2, .sl [[.sl [[vi 1], [vi 0]], vi 0, vb false, .sl [[vu 1]], .sl [[vu 1]]]]], vi 0], .tup [.agg [vi 2, .sl [[.sl [[vi 0], [vi 0]], vi 0, vb false, .sl [[vu 1]], .sl [[vu 1]]]]], vi 0]⟩
theorem q8_ok : Con E q8.g q8.vs q8.d := ev_call FL_ok G8_ok 1000 40 (by decide +kernel)
def G9 : List Fact := q8 :: G8
theorem G9_ok : FcOk G9 := FcOk.cons q8_ok G8_ok
def q9 : Fact := ⟨112, [.agg [vi 2, .sl [[.sl [[vi 0], [vi 1]], vi 0, vb false, .sl [[vu 1]], .sl [[vu 1]]]]], vi 0], .tup [.agg [vi 2, .sl []], vi 0]⟩
theorem q9_ok : Con E q9.g q9.vs q9.d := ev_call FL_ok G9_ok 1000 40 (by decide +kernel)
def G10 : List Fact := q9 :: G9
theorem G10_ok : FcOk G10 := FcOk.cons q9_ok G9_ok
def q10 : Fact := ⟨61, [.agg [vi 2, .sl [[.sl [[vi 1], [vi 0]], vi 0, vb false, .sl [[vu 1]], .sl [[vu 1]]]], vi 2, .sl [[.sl [[vi 0], [vi 1]], vi 0, vb false, .sl [[vu 1]], .sl [[vu 1]]]]], vi 0], .tup [.agg [vi 2, .sl [[.sl [[vi 0], [vi 0]], vi 0, vb false, .sl [[vu 1]], .sl [[vu 1]]]], vi 2, .sl [[.sl [[vi 0], [vi 1]], vi 0, vb false, .sl [[vu 1]], .sl [[vu 1]]]]], vi 0]⟩
theorem q10_ok : Con E q10.g q10.vs q10.d := ev_call FL_ok G10_ok 1000 40 (by decide +kernel)
def G11 : List Fact := q10 :: G10
theorem G11_ok : FcOk G11 := FcOk.cons q10_ok G10_ok
def q11 : Fact := ⟨112, [.agg [vi 2, .sl [[.sl [[vi 1], [vi 0]], vi 0, vb false, .sl [[vu 1]], .sl [[vu 1]]]]], vi 1], .tup [.agg [vi 2, .sl []], vi 0]⟩
theorem q11_ok : Con E q11.g q11.vs q11.d := ev_call FL_ok G11_ok 1000 40 (by decide +kernel)
def G12 : List Fact := q11 :: G11
theorem G12_ok : FcOk G12 := FcOk.cons q11_ok G11_ok
def q12 : Fact := ⟨112, [.agg [vi 2, .sl [[.sl [[vi 0], [vi 1]], vi 0, vb false, .sl [[vu 1]], .sl [[vu 1]]]]], vi 1], .tup [.agg [vi 2, .sl [[.sl [[vi 0], [vi 0]], vi 0, vb false, .sl [[vu 1]], .sl [[vu 1]]]]], vi 0]⟩
theorem q12_ok : Con E q12.g q12.vs q12.d := ev_call FL_ok G12_ok 1000 40 (by decide +kernel)
def G13 : List Fact := q12 :: G12
theorem G13_ok : FcOk G13 := FcOk.cons q12_ok G12_ok
def q13 : Fact := ⟨116, [.agg [vi 2, .sl []], .agg [vi 2, .sl [[.sl [[vi 0], [vi 1]], vi 0, vb false, .sl [[vu 1]], .sl [[vu 1]]]]]], .tup [.agg [vi 2, .sl []], vi 0]⟩
theorem q13_ok : Con E q13.g q13.vs q13.d := ev_call FL_ok G13_ok 1000 40 (by decide +kernel)
def G14 : List Fact := q13 :: G13
theorem G14_ok : FcOk G14 := FcOk.cons q13_ok G13_ok
def q14 : Fact := ⟨117, [.agg [vi 2, .sl []], .agg [vi 2, .sl [[.sl [[vi 1], [vi 0]], vi 0, vb false, .sl [[vu 1]], .sl [[vu 1]]]]]], .tup [.agg [vi 2, .sl [[.sl [[vi 1], [vi 0]], vi 0, vb true, .sl [[vu 1]], .sl [[vu 1]]]]], vi 0]⟩
theorem q14_ok : Con E q14.g q14.vs q14.d := ev_call FL_ok G14_ok 1000 40 (by decide +kernel)
def G15 : List Fact := q14 :: G14
theorem G15_ok : FcOk G15 := FcOk.cons q14_ok G14_ok
def q15 : Fact := ⟨116, [.agg [vi 2, .sl [[.sl [[vi 0], [vi 1]], vi 0, vb false, .sl [[vu 1]], .sl [[vu 1]]]]], .agg [vi 2, .sl [[.sl [[vi 0], [vi 1]], vi 0, vb false, .sl [[vu 1]], .sl [[vu 1]]]]]], .tup [.agg [vi 2, .sl [[.sl [[vi 0], [vi 2]], vi 0, vb false, .sl [[vu 1]], .sl [[vu 1]]]]], vi 0]⟩
theorem q15_ok : Con E q15.g q15.vs q15.d := ev_call FL_ok G15_ok 1000 40 (by decide +kernel)
def G16 : List Fact := q15 :: G15
theorem G16_ok : FcOk G16 := FcOk.cons q15_ok G15_ok
def q16 : Fact := ⟨61, [.agg [vi 2, .sl [[.sl [[vi 1], [vi 0]], vi 0, vb false, .sl [[vu 1]], .sl [[vu 1]]]], vi 2, .sl [[.sl [[vi 0], [vi 1]], vi 0, vb false, .sl [[vu 1]], .sl [[vu 1]]]]], vi 1], .tup [.agg [vi 2, .sl [[.sl [[vi 1], [vi 0]], vi 0, vb true, .sl [[vu 1]], .sl [[vu 1]]]], vi 2, .sl [[.sl [[vi 0], [vi 2]], vi 0, vb false, .sl [[vu 1]], .sl [[vu 1]]]]], vi 0]⟩
theorem q16_ok : Con E q16.g q16.vs q16.d := ev_call FL_ok G16_ok 1000 40 (by decide +kernel)
def G17 : List Fact := q16 :: G16
theorem G17_ok : FcOk G17 := FcOk.cons q16_ok G16_ok
def q17 : Fact := ⟨91, [.agg [vi 2, .sl [[.sl [[vi 0], [vi 1]], vi 0, vb false, .sl [[vu 1]], .sl [[vu 1]]]]], .sl [[vi 0, vb false, .sl [[vu 1]], .sl [[vu 1]]], [vi 0, vb false, .sl [[vu 2]], .sl [[vu 1]]]]], .tup [.agg [vi 0, vb false, .sl [[vu 2]], .sl [[vu 1]]], vi 0]⟩
theorem q17_ok : Con E q17.g q17.vs q17.d := ev_call FL_ok G17_ok 1000 40 (by decide +kernel)
def G18 : List Fact := q17 :: G17
theorem G18_ok : FcOk G18 := FcOk.cons q17_ok G17_ok
def q18 : Fact := ⟨91, [.agg [vi 2, .sl [[.sl [[vi 0], [vi 0]], vi 0, vb false, .sl [[vu 1]], .sl [[vu 1]]]]], .sl [[vi 0, vb false, .sl [[vu 1]], .sl [[vu 1]]], [vi 0, vb false, .sl [[vu 2]], .sl [[vu 1]]]]], .tup [.agg [vi 0, vb false, .sl [[vu 1]], .sl [[vu 1]]], vi 0]⟩
theorem q18_ok : Con E q18.g q18.vs q18.d := ev_call FL_ok G18_ok 1000 40 (by decide +kernel)
def G19 : List Fact := q18 :: G18
theorem G19_ok : FcOk G19 := FcOk.cons q18_ok G18_ok
def q19 : Fact := ⟨47, [.agg [vi 2, .sl [[.sl [[vi 0], [vi 0]], vi 0, vb false, .sl [[vu 1]], .sl [[vu 1]]]], vi 2, .sl [[.sl [[vi 0], [vi 1]], vi 0, vb false, .sl [[vu 1]], .sl [[vu 1]]]]], .sl [[vi 0, vb false, .sl [[vu 1]], .sl [[vu 1]]], [vi 0, vb false, .sl [[vu 2]], .sl [[vu 1]]]]], .tup [.agg [vi 0, vb false, .sl [[vu 1]], .sl [[vu 2]]], vi 0]⟩
theorem q19_ok : Con E q19.g q19.vs q19.d := ev_call FL_ok G19_ok 1000 40 (by decide +kernel)
def G20 : List Fact := q19 :: G19
theorem G20_ok : FcOk G20 := FcOk.cons q19_ok G19_ok
def q20 : Fact := ⟨91, [.agg [vi 2, .sl [[.sl [[vi 1], [vi 0]], vi 0, vb true, .sl [[vu 1]], .sl [[vu 1]]]]], .sl [[vi 0, vb false, .sl [[vu 1]], .sl [[vu 1]]], [vi 0, vb false, .sl [[vu 2]], .sl [[vu 1]]]]], .tup [.agg [vi 0, vb true, .sl [[vu 1]], .sl [[vu 1]]], vi 0]⟩
theorem q20_ok : Con E q20.g q20.vs q20.d := ev_call FL_ok G20_ok 1000 40 (by decide +kernel)
def G21 : List Fact := q20 :: G20
theorem G21_ok : FcOk G21 := FcOk.cons q20_ok G20_ok
def q21 : Fact := ⟨91, [.agg [vi 2, .sl [[.sl [[vi 0], [vi 2]], vi 0, vb false, .sl [[vu 1]], .sl [[vu 1]]]]], .sl [[vi 0, vb false, .sl [[vu 1]], .sl [[vu 1]]], [vi 0, vb false, .sl [[vu 2]], .sl [[vu 1]]]]], .tup [.agg [vi 0, vb false, .sl [[vu 4]], .sl [[vu 1]]], vi 0]⟩
theorem q21_ok : Con E q21.g q21.vs q21.d := ev_call FL_ok G21_ok 1000 40 (by decide +kernel)
def G22 : List Fact := q21 :: G21
theorem G22_ok : FcOk G22 := FcOk.cons q21_ok G21_ok
def q22 : Fact := ⟨47, [.agg [vi 2, .sl [[.sl [[vi 1], [vi 0]], vi 0, vb true, .sl [[vu 1]], .sl [[vu 1]]]], vi 2, .sl [[.sl [[vi 0], [vi 2]], vi 0, vb false, .sl [[vu 1]], .sl [[vu 1]]]]], .sl [[vi 0, vb false, .sl [[vu 1]], .sl [[vu 1]]], [vi 0, vb false, .sl [[vu 2]], .sl [[vu 1]]]]], .tup [.agg [vi 0, vb true, .sl [[vu 1]], .sl [[vu 4]]], vi 0]⟩
theorem q22_ok : Con E q22.g q22.vs q22.d := ev_call FL_ok G22_ok 1000 40 (by decide +kernel)
def G23 : List Fact := q22 :: G22
theorem G23_ok : FcOk G23 := FcOk.cons q22_ok G22_ok
def q23 : Fact := ⟨62, [.sl [[vi 2, .sl [[.sl [[vi 1], [vi 0]], vi 0, vb false, .sl [[vu 1]], .sl [[vu 1]]]], vi 2, .sl [[.sl [[vi 0], [vi 1]], vi 0, vb false, .sl [[vu 1]], .sl [[vu 1]]]]]], .sl [[.sl [[vi 2, .sl [[.sl [[vi 0], [vi 0]], vi 0, vb false, .sl [[vu 1]], .sl [[vu 1]]]], vi 2, .sl [[.sl [[vi 0], [vi 1]], vi 0, vb false, .sl [[vu 1]], .sl [[vu 1]]]]], [vi 2, .sl [[.sl [[vi 1], [vi 0]], vi 0, vb true, .sl [[vu 1]], .sl [[vu 1]]]], vi 2, .sl [[.sl [[vi 0], [vi 2]], vi 0, vb false, .sl [[vu 1]], .sl [[vu 1]]]]]]]], .sl [[vi 0, vb false, .sl [[vu 1]], .sl [[vu 1]]], [vi 0, vb false, .sl [[vu 2]], .sl [[vu 1]]]]], .tup [.sl [[.sl [[vi 0, vb false, .sl [[vu 1]], .sl [[vu 2]]], [vi 0, vb true, .sl [[vu 1]], .sl [[vu 4]]]]]], vi 0]⟩
theorem q23_ok : Con E q23.g q23.vs q23.d := ev_call FL_ok G23_ok 1000 40 (by decide +kernel)
def G24 : List Fact := q23 :: G23
theorem G24_ok : FcOk G24 := FcOk.cons q23_ok G23_ok
def q24 : Fact := ⟨56, [.sl [[vi 2, .sl [[.sl [[vi 1], [vi 0]], vi 0, vb false, .sl [[vu 1]], .sl [[vu 1]]]], vi 2, .sl [[.sl [[vi 0], [vi 1]], vi 0, vb false, .sl [[vu 1]], .sl [[vu 1]]]]]], .sl [[vi 0, vb false, .sl [[vu 1]], .sl [[vu 1]]], [vi 0, vb false, .sl [[vu 2]], .sl [[vu 1]]]]], .tup [.sl [[.sl [[vi 0, vb false, .sl [[vu 1]], .sl [[vu 2]]], [vi 0, vb true, .sl [[vu 1]], .sl [[vu 4]]]]]], vi 0]⟩
theorem q24_ok : Con E q24.g q24.vs q24.d := ev_call FL_ok G24_ok 1000 40 (by decide +kernel)
def G25 : List Fact := q24 :: G24
theorem G25_ok : FcOk G25 := FcOk.cons q24_ok G24_ok
def q25 : Fact := ⟨18, [.agg [vi 2, .sl [[vi 1, vi 0, vi 0, vi 0, vb false, .sl [], .sl []], [vi 1, vi 0, vi 0, vi 0, vb false, .sl [], .sl []], [vi 6, vi 0, vi 1, vi 0, vb false, .sl [], .sl []]], .sl [[vi 2]]], .sl [[vi 0, vb false, .sl [[vu 1]], .sl [[vu 1]]], [vi 0, vb false, .sl [[vu 2]], .sl [[vu 1]]]]], .tup [.sl [[.sl [[vi 0, vb false, .sl [[vu 1]], .sl [[vu 2]]], [vi 0, vb true, .sl [[vu 1]], .sl [[vu 4]]]]]], vi 0]⟩
theorem q25_ok : Con E q25.g q25.vs q25.d := ev_call FL_ok G25_ok 1000 40 (by decide +kernel)
def G26 : List Fact := q25 :: G25
theorem G26_ok : FcOk G26 := FcOk.cons q25_ok G25_ok
def q26 : Fact := ⟨112, [.agg [vi 2, .sl [[.sl [[vi 0], [vi 0]], vi 0, vb false, .sl [[vu 1]], .sl [[vu 1]]]]], vi 0], .tup [.agg [vi 2, .sl []], vi 0]⟩
theorem q26_ok : Con E q26.g q26.vs q26.d := ev_call FL_ok G26_ok 1000 40 (by decide +kernel)
def G27 : List Fact := q26 :: G26
theorem G27_ok : FcOk G27 := FcOk.cons q26_ok G26_ok
def q27 : Fact := ⟨61, [.agg [vi 2, .sl [[.sl [[vi 0], [vi 0]], vi 0, vb false, .sl [[vu 1]], .sl [[vu 1]]]], vi 2, .sl [[.sl [[vi 0], [vi 1]], vi 0, vb false, .sl [[vu 1]], .sl [[vu 1]]]]], vi 0], .tup [.agg [vi 2, .sl [], vi 2, .sl [[.sl [[vi 0], [vi 1]], vi 0, vb false, .sl [[vu 1]], .sl [[vu 1]]]]], vi 0]⟩
theorem q27_ok : Con E q27.g q27.vs q27.d := ev_call FL_ok G27_ok 1000 40 (by decide +kernel)
def G28 : List Fact := q27 :: G27
theorem G28_ok : FcOk G28 := FcOk.cons q27_ok G27_ok
def q28 : Fact := ⟨112, [.agg [vi 2, .sl [[.sl [[vi 0], [vi 0]], vi 0, vb false, .sl [[vu 1]], .sl [[vu 1]]]]], vi 1], .tup [.agg [vi 2, .sl []], vi 0]⟩
theorem q28_ok : Con E q28.g q28.vs q28.d := ev_call FL_ok G28_ok 1000 40 (by decide +kernel)
def G29 : List Fact := q28 :: G28
theorem G29_ok : FcOk G29 := FcOk.cons q28_ok G28_ok
def q29 : Fact := ⟨116, [.agg [vi 2, .sl [[.sl [[vi 0], [vi 0]], vi 0, vb false, .sl [[vu 1]], .sl [[vu 1]]]]], .agg [vi 2, .sl [[.sl [[vi 0], [vi 0]], vi 0, vb false, .sl [[vu 1]], .sl [[vu 1]]]]]], .tup [.agg [vi 2, .sl [[.sl [[vi 0], [vi 0]], vi 0, vb false, .sl [[vu 1]], .sl [[vu 1]]]]], vi 0]⟩
theorem q29_ok : Con E q29.g q29.vs q29.d := ev_call FL_ok G29_ok 1000 40 (by decide +kernel)
def G30 : List Fact := q29 :: G29
theorem G30_ok : FcOk G30 := FcOk.cons q29_ok G29_ok
def q30 : Fact := ⟨117, [.agg [vi 2, .sl []], .agg [vi 2, .sl [[.sl [[vi 0], [vi 0]], vi 0, vb false, .sl [[vu 1]], .sl [[vu 1]]]]]], .tup [.agg [vi 2, .sl [[.sl [[vi 0], [vi 0]], vi 0, vb true, .sl [[vu 1]], .sl [[vu 1]]]]], vi 0]⟩
theorem q30_ok : Con E q30.g q30.vs q30.d := ev_call FL_ok G30_ok 1000 40 (by decide +kernel)
def G31 : List Fact := q30 :: G30
theorem G31_ok : FcOk G31 := FcOk.cons q30_ok G30_ok
def q31 : Fact := ⟨61, [.agg [vi 2, .sl [[.sl [[vi 0], [vi 0]], vi 0, vb false, .sl [[vu 1]], .sl [[vu 1]]]], vi 2, .sl [[.sl [[vi 0], [vi 1]], vi 0, vb false, .sl [[vu 1]], .sl [[vu 1]]]]], vi 1], .tup [.agg [vi 2, .sl [[.sl [[vi 0], [vi 0]], vi 0, vb true, .sl [[vu 1]], .sl [[vu 1]]]], vi 2, .sl [[.sl [[vi 0], [vi 2]], vi 0, vb false, .sl [[vu 1]], .sl [[vu 1]]]]], vi 0]⟩
theorem q31_ok : Con E q31.g q31.vs q31.d := ev_call FL_ok G31_ok 1000 40 (by decide +kernel)
def G32 : List Fact := q31 :: G31
theorem G32_ok : FcOk G32 := FcOk.cons q31_ok G31_ok
def q32 : Fact := ⟨112, [.agg [vi 2, .sl [[.sl [[vi 1], [vi 0]], vi 0, vb true, .sl [[vu 1]], .sl [[vu 1]]]]], vi 0], .tup [.agg [vi 2, .sl [[.sl [[vi 0], [vi 0]], vi 0, vb true, .sl [[vu 1]], .sl [[vu 1]]]]], vi 0]⟩
theorem q32_ok : Con E q32.g q32.vs q32.d := ev_call FL_ok G32_ok 1000 40 (by decide +kernel)
def G33 : List Fact := q32 :: G32
theorem G33_ok : FcOk G33 := FcOk.cons q32_ok G32_ok
def q33 : Fact := ⟨112, [.agg [vi 2, .sl [[.sl [[vi 0], [vi 2]], vi 0, vb false, .sl [[vu 1]], .sl [[vu 1]]]]], vi 0], .tup [.agg [vi 2, .sl []], vi 0]⟩
theorem q33_ok : Con E q33.g q33.vs q33.d := ev_call FL_ok G33_ok 1000 40 (by decide +kernel)
def G34 : List Fact := q33 :: G33
theorem G34_ok : FcOk G34 := FcOk.cons q33_ok G33_ok
def q34 : Fact := ⟨61, [.agg [vi 2, .sl [[.sl [[vi 1], [vi 0]], vi 0, vb true, .sl [[vu 1]], .sl [[vu 1]]]], vi 2, .sl [[.sl [[vi 0], [vi 2]], vi 0, vb false, .sl [[vu 1]], .sl [[vu 1]]]]], vi 0], .tup [.agg [vi 2, .sl [[.sl [[vi 0], [vi 0]], vi 0, vb true, .sl [[vu 1]], .sl [[vu 1]]]], vi 2, .sl [[.sl [[vi 0], [vi 2]], vi 0, vb false, .sl [[vu 1]], .sl [[vu 1]]]]], vi 0]⟩
theorem q34_ok : Con E q34.g q34.vs q34.d := ev_call FL_ok G34_ok 1000 40 (by decide +kernel)
def G35 : List Fact := q34 :: G34
theorem G35_ok : FcOk G35 := FcOk.cons q34_ok G34_ok
def q35 : Fact := ⟨112, [.agg [vi 2, .sl [[.sl [[vi 1], [vi 0]], vi 0, vb true, .sl [[vu 1]], .sl [[vu 1]]]]], vi 1], .tup [.agg [vi 2, .sl []], vi 0]⟩
theorem q35_ok : Con E q35.g q35.vs q35.d := ev_call FL_ok G35_ok 1000 40 (by decide +kernel)
def G36 : List Fact := q35 :: G35
theorem G36_ok : FcOk G36 := FcOk.cons q35_ok G35_ok
def q36 : Fact := ⟨112, [.agg [vi 2, .sl [[.sl [[vi 0], [vi 2]], vi 0, vb false, .sl [[vu 1]], .sl [[vu 1]]]]], vi 1], .tup [.agg [vi 2, .sl [[.sl [[vi 0], [vi 1]], vi 0, vb false, .sl [[vu 2]], .sl [[vu 1]]]]], vi 0]⟩
theorem q36_ok : Con E q36.g q36.vs q36.d := ev_call FL_ok G36_ok 1000 40 (by decide +kernel)
def G37 : List Fact := q36 :: G36
theorem G37_ok : FcOk G37 := FcOk.cons q36_ok G36_ok
def q37 : Fact := ⟨116, [.agg [vi 2, .sl []], .agg [vi 2, .sl [[.sl [[vi 0], [vi 2]], vi 0, vb false, .sl [[vu 1]], .sl [[vu 1]]]]]], .tup [.agg [vi 2, .sl []], vi 0]⟩
theorem q37_ok : Con E q37.g q37.vs q37.d := ev_call FL_ok G37_ok 1000 40 (by decide +kernel)
def G38 : List Fact := q37 :: G37
theorem G38_ok : FcOk G38 := FcOk.cons q37_ok G37_ok
def q38 : Fact := ⟨116, [.agg [vi 2, .sl [[.sl [[vi 1], [vi 0]], vi 0, vb true, .sl [[vu 1]], .sl [[vu 1]]]]], .agg [vi 2, .sl [[.sl [[vi 0], [vi 1]], vi 0, vb false, .sl [[vu 2]], .sl [[vu 1]]]]]], .tup [.agg [vi 2, .sl [[.sl [[vi 1], [vi 1]], vi 0, vb true, .sl [[vu 2]], .sl [[vu 1]]]]], vi 0]⟩
theorem q38_ok : Con E q38.g q38.vs q38.d := ev_call FL_ok G38_ok 1000 40 (by decide +kernel)
def G39 : List Fact := q38 :: G38
theorem G39_ok : FcOk G39 := FcOk.cons q38_ok G38_ok
def q39 : Fact := ⟨117, [.agg [vi 2, .sl []], .agg [vi 2, .sl [[.sl [[vi 1], [vi 1]], vi 0, vb true, .sl [[vu 2]], .sl [[vu 1]]]]]], .tup [.agg [vi 2, .sl [[.sl [[vi 1], [vi 1]], vi 0, vb false, .sl [[vu 2]], .sl [[vu 1]]]]], vi 0]⟩
theorem q39_ok : Con E q39.g q39.vs q39.d := ev_call FL_ok G39_ok 1000 40 (by decide +kernel)
def G40 : List Fact := q39 :: G39
theorem G40_ok : FcOk G40 := FcOk.cons q39_ok G39_ok
def q40 : Fact := ⟨116, [.agg [vi 2, .sl [[.sl [[vi 0], [vi 2]], vi 0, vb false, .sl [[vu 1]], .sl [[vu 1]]]]], .agg [vi 2, .sl [[.sl [[vi 0], [vi 2]], vi 0, vb false, .sl [[vu 1]], .sl [[vu 1]]]]]], .tup [.agg [vi 2, .sl [[.sl [[vi 0], [vi 4]], vi 0, vb false, .sl [[vu 1]], .sl [[vu 1]]]]], vi 0]⟩
theorem q40_ok : Con E q40.g q40.vs q40.d := ev_call FL_ok G40_ok 1000 40 (by decide +kernel)
def G41 : List Fact := q40 :: G40
theorem G41_ok : FcOk G41 := FcOk.cons q40_ok G40_ok
def q41 : Fact := ⟨61, [.agg [vi 2, .sl [[.sl [[vi 1], [vi 0]], vi 0, vb true, .sl [[vu 1]], .sl [[vu 1]]]], vi 2, .sl [[.sl [[vi 0], [vi 2]], vi 0, vb false, .sl [[vu 1]], .sl [[vu 1]]]]], vi 1], .tup [.agg [vi 2, .sl [[.sl [[vi 1], [vi 1]], vi 0, vb false, .sl [[vu 2]], .sl [[vu 1]]]], vi 2, .sl [[.sl [[vi 0], [vi 4]], vi 0, vb false, .sl [[vu 1]], .sl [[vu 1]]]]], vi 0]⟩
theorem q41_ok : Con E q41.g q41.vs q41.d := ev_call FL_ok G41_ok 1000 40 (by decide +kernel)
def G42 : List Fact := q41 :: G41
theorem G42_ok : FcOk G42 := FcOk.cons q41_ok G41_ok
def q42 : Fact := ⟨91, [.agg [vi 2, .sl []], .sl [[vi 0, vb false, .sl [[vu 1]], .sl [[vu 1]]], [vi 0, vb false, .sl [[vu 2]], .sl [[vu 1]]]]], .tup [.agg [vi 0, vb false, .sl [], .sl [[vu 1]]], vi 0]⟩
theorem q42_ok : Con E q42.g q42.vs q42.d := ev_call FL_ok G42_ok 1000 40 (by decide +kernel)
def G43 : List Fact := q42 :: G42
theorem G43_ok : FcOk G43 := FcOk.cons q42_ok G42_ok
def q43 : Fact := ⟨47, [.agg [vi 2, .sl [], vi 2, .sl [[.sl [[vi 0], [vi 1]], vi 0, vb false, .sl [[vu 1]], .sl [[vu 1]]]]], .sl [[vi 0, vb false, .sl [[vu 1]], .sl [[vu 1]]], [vi 0, vb false, .sl [[vu 2]], .sl [[vu 1]]]]], .tup [.agg [vi 0, vb false, .sl [], .sl [[vu 1]]], vi 0]⟩
theorem q43_ok : Con E q43.g q43.vs q43.d := ev_call FL_ok G43_ok 1000 40 (by decide +kernel)
def G44 : List Fact := q43 :: G43
theorem G44_ok : FcOk G44 := FcOk.cons q43_ok G43_ok
def q44 : Fact := ⟨91, [.agg [vi 2, .sl [[.sl [[vi 0], [vi 0]], vi 0, vb true, .sl [[vu 1]], .sl [[vu 1]]]]], .sl [[vi 0, vb false, .sl [[vu 1]], .sl [[vu 1]]], [vi 0, vb false, .sl [[vu 2]], .sl [[vu 1]]]]], .tup [.agg [vi 0, vb true, .sl [[vu 1]], .sl [[vu 1]]], vi 0]⟩
theorem q44_ok : Con E q44.g q44.vs q44.d := ev_call FL_ok G44_ok 1000 40 (by decide +kernel)
def G45 : List Fact := q44 :: G44
theorem G45_ok : FcOk G45 := FcOk.cons q44_ok G44_ok
def q45 : Fact := ⟨47, [.agg [vi 2, .sl [[.sl [[vi 0], [vi 0]], vi 0, vb true, .sl [[vu 1]], .sl [[vu 1]]]], vi 2, .sl [[.sl [[vi 0], [vi 2]], vi 0, vb false, .sl [[vu 1]], .sl [[vu 1]]]]], .sl [[vi 0, vb false, .sl [[vu 1]], .sl [[vu 1]]], [vi 0, vb false, .sl [[vu 2]], .sl [[vu 1]]]]], .tup [.agg [vi 0, vb true, .sl [[vu 1]], .sl [[vu 4]]], vi 0]⟩
theorem q45_ok : Con E q45.g q45.vs q45.d := ev_call FL_ok G45_ok 1000 40 (by decide +kernel)
def G46 : List Fact := q45 :: G45
theorem G46_ok : FcOk G46 := FcOk.cons q45_ok G45_ok
def q46 : Fact := ⟨91, [.agg [vi 2, .sl [[.sl [[vi 1], [vi 1]], vi 0, vb false, .sl [[vu 2]], .sl [[vu 1]]]]], .sl [[vi 0, vb false, .sl [[vu 1]], .sl [[vu 1]]], [vi 0, vb false, .sl [[vu 2]], .sl [[vu 1]]]]], .tup [.agg [vi 0, vb false, .sl [[vu 4]], .sl [[vu 1]]], vi 0]⟩
theorem q46_ok : Con E q46.g q46.vs q46.d := ev_call FL_ok G46_ok 1000 40 (by decide +kernel)
def G47 : List Fact := q46 :: G46
theorem G47_ok : FcOk G47 := FcOk.cons q46_ok G46_ok
def q47 : Fact := ⟨91, [.agg [vi 2, .sl [[.sl [[vi 0], [vi 4]], vi 0, vb false, .sl [[vu 1]], .sl [[vu 1]]]]], .sl [[vi 0, vb false, .sl [[vu 1]], .sl [[vu 1]]], [vi 0, vb false, .sl [[vu 2]], .sl [[vu 1]]]]], .tup [.agg [vi 0, vb false, .sl [[vu 16]], .sl [[vu 1]]], vi 0]⟩
theorem q47_ok : Con E q47.g q47.vs q47.d := ev_call FL_ok G47_ok 1000 40 (by decide +kernel)
def G48 : List Fact := q47 :: G47
theorem G48_ok : FcOk G48 := FcOk.cons q47_ok G47_ok
def q48 : Fact := ⟨47, [.agg [vi 2, .sl [[.sl [[vi 1], [vi 1]], vi 0, vb false, .sl [[vu 2]], .sl [[vu 1]]]], vi 2, .sl [[.sl [[vi 0], [vi 4]], vi 0, vb false, .sl [[vu 1]], .sl [[vu 1]]]]], .sl [[vi 0, vb false, .sl [[vu 1]], .sl [[vu 1]]], [vi 0, vb false, .sl [[vu 2]], .sl [[vu 1]]]]], .tup [.agg [vi 0, vb false, .sl [[vu 1]], .sl [[vu 4]]], vi 0]⟩
theorem q48_ok : Con E q48.g q48.vs q48.d := ev_call FL_ok G48_ok 1000 40 (by decide +kernel)
def G49 : List Fact := q48 :: G48
theorem G49_ok : FcOk G49 := FcOk.cons q48_ok G48_ok
def q49 : Fact := ⟨62, [.sl [[vi 2, .sl [[.sl [[vi 1], [vi 0]], vi 0, vb false, .sl [[vu 1]], .sl [[vu 1]]]], vi 2, .sl [[.sl [[vi 0], [vi 1]], vi 0, vb false, .sl [[vu 1]], .sl [[vu 1]]]]]], .sl [[.sl [[vi 2, .sl [], vi 2, .sl [[.sl [[vi 0], [vi 1]], vi 0, vb false, .sl [[vu 1]], .sl [[vu 1]]]]], [vi 2, .sl [[.sl [[vi 0], [vi 0]], vi 0, vb true, .sl [[vu 1]], .sl [[vu 1]]]], vi 2, .sl [[.sl [[vi 0], [vi 2]], vi 0, vb false, .sl [[vu 1]], .sl [[vu 1]]]]]]], [.sl [[vi 2, .sl [[.sl [[vi 0], [vi 0]], vi 0, vb true, .sl [[vu 1]], .sl [[vu 1]]]], vi 2, .sl [[.sl [[vi 0], [vi 2]], vi 0, vb false, .sl [[vu 1]], .sl [[vu 1]]]]], [vi 2, .sl [[.sl [[vi 1], [vi 1]], vi 0, vb false, .sl [[vu 2]], .sl [[vu 1]]]], vi 2, .sl [[.sl [[vi 0], [vi 4]], vi 0, vb false, .sl [[vu 1]], .sl [[vu 1]]]]]]]], .sl [[vi 0, vb false, .sl [[vu 1]], .sl [[vu 1]]], [vi 0, vb false, .sl [[vu 2]], .sl [[vu 1]]]]], .tup [.sl [[.sl [[vi 0, vb false, .sl [], .sl [[vu 1]]], [vi 0, vb true, .sl [[vu 1]], .sl [[vu 4]]]]], [.sl [[vi 0, vb true, .sl [[vu 1]], .sl [[vu 4]]], [vi 0, vb false, .sl [[vu 1]], .sl [[vu 4]]]]]], vi 0]⟩
theorem q49_ok : Con E q49.g q49.vs q49.d := ev_call FL_ok G49_ok 1000 40 (by decide +kernel)
def G50 : List Fact := q49 :: G49
theorem G50_ok : FcOk G50 := FcOk.cons q49_ok G49_ok
def q50 : Fact := ⟨22, [.agg [vi 2, .sl [[vi 1, vi 0, vi 0, vi 0, vb false, .sl [], .sl []], [vi 1, vi 0, vi 0, vi 0, vb false, .sl [], .sl []], [vi 6, vi 0, vi 1, vi 0, vb false, .sl [], .sl []]], .sl [[vi 2]]], vi 0, .sl [[vi 0, vb false, .sl [[vu 1]], .sl [[vu 1]]], [vi 0, vb false, .sl [[vu 2]], .sl [[vu 1]]]]], .tup [.sl [[.sl [[vi 0, vb false, .sl [], .sl [[vu 1]]], [vi 0, vb true, .sl [[vu 1]], .sl [[vu 4]]]]], [.sl [[vi 0, vb true, .sl [[vu 1]], .sl [[vu 4]]], [vi 0, vb false, .sl [[vu 1]], .sl [[vu 4]]]]]], vi 0]⟩
theorem q50_ok : Con E q50.g q50.vs q50.d := ev_call FL_ok G50_ok 1000 40 (by decide +kernel)
def G51 : List Fact := q50 :: G50
theorem G51_ok : FcOk G51 := FcOk.cons q50_ok G50_ok
def q51 : Fact := ⟨64, [.sl [[.sl [[vi 0, vb false, .sl [[vu 1]], .sl [[vu 2]]], [vi 0, vb true, .sl [[vu 1]], .sl [[vu 4]]]]]], vi 2], vi 0⟩
theorem q51_ok : Con E q51.g q51.vs q51.d := ev_call FL_ok G51_ok 1000 40 (by decide +kernel)
def G52 : List Fact := q51 :: G51
theorem G52_ok : FcOk G52 := FcOk.cons q51_ok G51_ok
def q52 : Fact := ⟨27, [.sl [[.sl [[vi 0, vb false, .sl [[vu 1]], .sl [[vu 2]]], [vi 0, vb true, .sl [[vu 1]], .sl [[vu 4]]]]]], vi 2], .tup [.sl [[.sl [[vi 0, vb false, .sl [[vu 1]], .sl [[vu 2]]]]], [.sl [[vi 0, vb true, .sl [[vu 1]], .sl [[vu 4]]]]]], vi 0]⟩
theorem q52_ok : Con E q52.g q52.vs q52.d := ev_call FL_ok G52_ok 1000 40 (by decide +kernel)
def G53 : List Fact := q52 :: G52
theorem G53_ok : FcOk G53 := FcOk.cons q52_ok G52_ok
theorem con_alive : Con E 17 [] (.val (.bool true)) := ev_call FL_ok G53_ok 1000 40 (by decide +kernel)
end Go.Pw
