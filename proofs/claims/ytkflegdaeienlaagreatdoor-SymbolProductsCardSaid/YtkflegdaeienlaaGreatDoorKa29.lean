/- Merged from the working texts PlB Pn4 Pn5. -/
import Derived.Shelf.Small.Bits
import Derived.Test.YtkflegdaeienlaaGreatDoorKa27
import Derived.Test.YtkflegdaeienlaaGreatDoorKa25
import Derived.Test.YtkflegdaeienlaaGreatDoorKa28
import Derived.Test.YtkflegdaeienlaaGreatDoorKa24
import Derived.Test.YtkflegdaeienlaaGreatDoorKa17
set_option linter.all false
set_option maxHeartbeats 400000
namespace Go.Proofs
open Go.Shelf
def Tryz.lren : Ren := { f := fun x => match x with | 128 => 295 | 129 => 296 | 167 => 233 | 169 => 234 | 240 => 266 | 276 => 286 | n => n, t := fun x => match x with | 37 => 238 | 46 => 51 | 51 => 103 | 53 => 136 | 70 => 237 | 72 => 240 | 75 => 242 | 80 => 244 | 127 => 267 | 164 => 280 | n => n, g := fun n => n }
theorem Tryz.k128 : Lays.n128 Tryz.prog Tryz.lren := { mixed := by kernel_rfl, f128 := by kernel_rfl, t3 := Tryz.underlying3, a3 := Tryz.isAgg3, z3 := Tryz.sizeOf3, v3 := Tryz.zeroValue3, t4 := Tryz.underlying4, a4 := Tryz.isAgg4, z4 := Tryz.sizeOf4, v4 := Tryz.zeroValue4, t5 := Tryz.underlying5, a5 := Tryz.isAgg5, z5 := Tryz.sizeOf5, v5 := Tryz.zeroValue5, t9 := Tryz.underlying9, a9 := Tryz.isAgg9, z9 := Tryz.sizeOf9, v9 := Tryz.zeroValue9, t46 := Tryz.underlying51, a46 := Tryz.isAgg51, z46 := Tryz.sizeOf51, v46 := Tryz.zeroValue51, t51 := Tryz.underlying103, a51 := Tryz.isAgg103, z51 := Tryz.sizeOf103, v51 := Tryz.zeroValue103 }
theorem Tryz.bits_Len32 (x : Int) (w : World) (h0 : 0 ≤ x) (h1 : x ≤ 4294967295) :
   Calls Tryz.prog 295 #[.int .u32 x] w fun e w' => e = .returned (.int .i64 (Lib.bitLen x.toNat)) ∧ w' = w := Any.bits_Len32 Tryz.k128 x w h0 h1
end Go.Proofs
namespace Go.Pw
open Go Go.Proofs Go.RowKit
theorem con_lib {E : Env} {f : FuncId} {fn : Func} {c : Code} {args : List PV} {d : PV} (hf : E.P.funcs[f]? = some fn) (hname : (fn.name == "runtime.NumGoroutine") = false) (hb : fn.body = some c)
    (h : ∀ (w : World) (A : Nat → Prop) (vs : Array Value), vs.size = args.length → (∀ j x, args[j]? = some x → R w A (vs.getD j undef) x) → Calls E.P f vs w fun e w' => (∃ v, e = .returned v ∧ R w A v d) ∧ w' = w) : Con E f args d := by
  refine ⟨fun vs w => ?_, fun w A vs hn hR hA hG => ?_⟩
  · have h1 : fn.name ≠ "runtime.NumGoroutine" := by simpa using hname
    simp [callFunc, hf, h1, hb]
  · refine (h w A vs hn hR).mono ?_
    rintro e w' ⟨⟨v, hv, hr⟩, rfl⟩
    exact ⟨v, hv, hr, Below.refl _ _⟩
theorem R.val_inv {w : World} {A : Nat → Prop} {v u : Value} (h : R w A v (.val u)) : v = u := by cases h; rfl
theorem bitLenAux_bl : ∀ (f n : Nat), n < 2 ^ f → Lib.bitLenAux f n = bl n
 | 0, n, h => by
   have : n = 0 := by simp at h; omega
   subst this; rw [bl_zero]; rfl
 | f + 1, n, h => by
   rw [Lib.bitLenAux]
   by_cases h0 : n = 0
   · subst h0; rw [bl_zero]; rfl
   · rw [if_neg h0, bl_pos h0, bitLenAux_bl f (n / 2) (by rw [Nat.pow_succ] at h; omega)]
     omega
theorem con_Len32 (n : Nat) (h : n < 4294967296) : Con E 295 [.val (.int .u32 n)] (vI (bl n)) := by
 refine con_lib Tryz.func295 (by kernel_rfl) rfl (fun w A vs hn hR => ?_)
 have h0 := (hR 0 _ rfl).val_inv
 have : vs = #[.int .u32 (n : Int)] := by
   apply Array.ext (by simpa using hn)
   intro i hi hi2
   have : i = 0 := by simp at hi2; omega
   subst this
   rw [Array.getD_eq_getD_getElem?, Array.getElem?_eq_getElem hi] at h0
   exact h0
 subst this
 refine (Tryz.bits_Len32 n w (by omega) (by omega)).mono ?_
 rintro e w' ⟨he, hw⟩
 refine ⟨⟨_, he, ?_⟩, hw⟩
 rw [Int.toNat_natCast, Lib.bitLen, bitLenAux_bl 64 n (by omega)]
 exact .val _
end Go.Pw
set_option maxRecDepth 100000
set_option linter.unusedVariables false
set_option linter.unusedSimpArgs false
namespace Go.Pw
open Go Go.Proofs
theorem con_size (n : Nat) (h : (dg n).length < 2 ^ 40) : Con E 269 [cN (dg n)] (vI (bl n)) := by
 refine con_of2 mixed (fn := Tryz.f269) (rs := [.tmp 2]) Tryz.func269 (by kernel_rfl) rfl (by kernel_rfl) rfl rfl ?_
 have hz := @dg_ne_nil n
 have hbl := bl_dg n
 have hok := dok_dg n
 generalize dg n = x at *
 simp only [argE, Nat.reduceAdd, cN, vI]
 repeat'(with_reducible first|apply p_seq|apply p_sq|apply p_reg|apply p_nil|apply p_skip|apply p_block|apply p_bq|apply p_ret|apply p_exit|apply p_sq_ret|apply p_sq_exit|apply p_bq_ret|apply p_bq_this|apply p_lq_ret|apply p_lq_exit|apply d_nil|refine p_drw (by decide +kernel) ?_|refine f_op rfl rfl ?_|refine f_opg rfl rfl rfl rfl ?_ ?_|refine f_new rfl rfl rfl rfl ?_|(refine f_end (And.intro ?_ ?_)<;>simp only [List.foldl_nil,List.foldl_cons,recS_mk,AB,Nat.reduceEqDiff,↓reduceIte,Nat.reduceAdd,Nat.reduceMul,Nat.reducePow,Nat.reduceLeDiff,Nat.reduceLT])|apply k_nil|refine k_cons rfl rfl ?_ ?_|apply g_nil|refine g_op0 rfl ?_|refine g_opC rfl ?_|refine p_bq_other (by decide) ?_|refine p_cond rfl ?_ ?_|refine p_op rfl ?_|refine d_op rfl rfl ?_|refine d_eff rfl ?_|refine p_opg rfl rfl rfl ?_ ?_|refine d_opg rfl rfl rfl rfl ?_ ?_|((first|refine p_opgU rfl rfl rfl ?_|refine d_opgU rfl rfl rfl rfl ?_);try simp only [put_some])|(refine fun (K1:St→Prop) hK1=>?_;simp (disch := omega) only [AB,Nat.reduceEqDiff,↓reduceIte,Nat.reduceAdd,Nat.reduceMul,Nat.reducePow,Nat.reduceLeDiff,Nat.reduceLT];(try simp (disch := omega) only [AC]);(try simp only [AM]))|(refine hK1 _ ?_;clear hK1 K1)|refine And.intro (by omega) ?_|apply And.intro|(refine fun (hb:(_:Bool)=_)=>?_;(try simp only [HS] at hb);(try (change True at hb;clear hb));first|(exfalso;first|omega|contradiction)|(try simp only [put_some])))
 · simp only [res1,res2,res3,AB,Nat.reduceEqDiff,↓reduceIte,Nat.reduceAdd,Nat.reduceMul,Nat.reducePow,Nat.reduceLeDiff,Nat.reduceLT]
   have : x = [] := List.length_eq_zero_iff.1 (by omega)
   rw [hz.1 this, bl_zero]
   all_goals rfl
 · have hlt := getD_lt (x.length - 1) hok
   have e1 : ((x.length : Int) - 1).toNat = x.length - 1 := by omega
   rw [e1]
   (refine ⟨_,con_Len32 _ hlt,hK1 _ ?_⟩;clear hK1 K1;try simp only [put_some,cN,vI,vB,cR])
   have hbb : bl (x.getD (x.length - 1) 0) ≤ 32 := (bl_le_iff _ _).2 hlt
   (refine SA ?_;intros)
   simp only [res1,res2,res3,AB,Nat.reduceEqDiff,↓reduceIte,Nat.reduceAdd,Nat.reduceMul,Nat.reducePow,Nat.reduceLeDiff,Nat.reduceLT]
   have hn : n ≠ 0 := fun e => by have := hz.2 e; subst this; simp at hb
   rw [hbl hn]
   simp; omega
theorem getD_zero_set {l : List Nat} {i k d : Nat} (h : l.getD k 0 = 0) (hk : k ≠ i) : (l.set i d).getD k 0 = 0 := by
 simp only [List.getD_eq_getElem?_getD, List.getElem?_set_ne (Ne.symm hk)] at *
 exact h
def Hid (p : Prop) : Prop := p
theorem vals_N (l : List Nat) : ((l.map fun (x : Nat) => [PV.val (.int .u32 (x : Int))]).all fun r => r.all PV.isVal) = true := by
 simp [PV.isVal]
theorem con_left (x : List Nat) (n : Nat) (hx : dok x) (hn : n < 32) (h : x.length < 2 ^ 39) : ConO E 282 [cN x, vI n] 103 1 ((fd (x.length + 1) (val x * 2 ^ n)).map fun (x : Nat) => [PV.val (.int .u32 (x : Int))]) := by
 refine conO_of mixed (fn := Tryz.f282) (t := 4) (k := 12) Tryz.func282 (by kernel_rfl) rfl (by kernel_rfl) rfl rfl (vals_N _) ?_
 simp only [argE, Nat.reduceAdd, cN, vI]
 (refine SA ?_;intros)
 have hn1 : ((x.length : Int) + 1).toNat = x.length + 1 := by omega
 rw [hn1]
 refine p_loopx (fun (a : Nat × List Nat) => [(15, .sh (vI a.1)), (14, .sh (vI x.length)), (13, .sh (cN x)), (5, .row 12), (1, .sh (vI n))]) (fun a => [(12, some (.rw 103 1 (SR ((a.2).map fun (x : Nat) => [PV.val (.int .u32 (x : Int))]))))]) (fun a => x.length - a.1)
   (fun a => a.1 ≤ x.length ∧ a.2.length = x.length + 1 ∧ dok a.2 ∧ a.2.getD a.1 0 < 2 ^ n ∧ (∀ k, a.1 < k → a.2.getD k 0 = 0) ∧ val a.2 = val x % 4294967296 ^ a.1 * 2 ^ n) (0, List.replicate (x.length + 1) 0) (Weak.list ⟨rfl, rfl, rfl, rfl, rfl, trivial⟩ ⟨rfl, trivial⟩) ⟨by simp, by simp, dok_replicate _, by simp [List.getD_eq_getElem?_getD, Nat.pow_pos], fun k _ => by simp [List.getD_eq_getElem?_getD, List.getElem?_replicate]; split <;> rfl, by simp [val_replicate, Nat.mod_one]⟩ ?_
 rintro ⟨i, out⟩ ⟨hi, hl, hok, ho, hz, hI⟩
 simp only [cN, vI] at *
 have lx := getD_lt i hx
 have gx := getD_val i hx
 have hw : shL (x.getD i 0) n < 9223372036854775808 := wide_lt hn lx
 have hwd := wide_div (n := n) lx
 obtain ⟨ho1, ho2⟩ := left_or (d := x.getD i 0) hn ho
 have hms := mod_succ (val x) i
 rw [← gx] at hms
 have hst := left_step (o := 0) (X := val x % 4294967296 ^ (i + 1)) (by simpa using hI) hms
 have hid : Hid (_ ∧ _ ∧ _ ∧ _ ∧ _ ∧ _ ∧ _ ∧ _) := ⟨hI, hst, hms, gx, ho, hwd, ho1, ho2⟩
 clear hI hst hms gx ho hwd ho1 ho2
 have lo := getD_lt i hok
 have hi1 : ((i : Int) + 1).toNat = i + 1 := by omega
 have e0 : (((shL (x.getD i 0) n : Nat) : Int) % 4294967296).toNat = x.getD i 0 * 2 ^ n % 4294967296 := rfl
 have e1 : (((shL (x.getD i 0) n : Nat) : Int) / 4294967296).toNat = x.getD i 0 * 2 ^ n / 4294967296 := rfl
 repeat'(with_reducible first|apply p_seq|apply p_sq|apply p_reg|apply p_nil|apply p_skip|apply p_block|apply p_bq|apply p_ret|apply p_exit|apply p_sq_ret|apply p_sq_exit|apply p_bq_ret|apply p_bq_this|apply p_lq_ret|apply p_lq_exit|apply d_nil|refine p_drw (by decide +kernel) ?_|refine f_op rfl rfl ?_|refine f_opg rfl rfl rfl rfl ?_ ?_|refine f_new rfl rfl rfl rfl ?_|(refine f_end (And.intro ?_ ?_)<;>simp only [List.foldl_nil,List.foldl_cons,recS_mk,AB,Nat.reduceEqDiff,↓reduceIte,Nat.reduceAdd,Nat.reduceMul,Nat.reducePow,Nat.reduceLeDiff,Nat.reduceLT])|apply k_nil|refine k_cons rfl rfl ?_ ?_|apply g_nil|refine g_op0 rfl ?_|refine g_opC rfl ?_|refine p_bq_other (by decide) ?_|refine p_cond rfl ?_ ?_|refine p_op rfl ?_|refine d_op rfl rfl ?_|refine d_eff rfl ?_|refine p_opg rfl rfl rfl ?_ ?_|refine d_opg rfl rfl rfl rfl ?_ ?_|((first|refine p_opgU rfl rfl rfl ?_|refine d_opgU rfl rfl rfl rfl ?_);try simp only [put_some])|(refine fun (K1:St→Prop) hK1=>?_;simp (disch := omega) only [AB,Nat.reduceEqDiff,↓reduceIte,Nat.reduceAdd,Nat.reduceMul,Nat.reducePow,Nat.reduceLeDiff,Nat.reduceLT];(try simp (disch := omega) only [AC]);(try simp only [AM]))|(refine hK1 _ ?_;clear hK1 K1)|refine And.intro (by omega) ?_|apply And.intro|(refine fun (hb:(_:Bool)=_)=>?_;(try simp only [HS] at hb);(try (change True at hb;clear hb));first|(exfalso;first|omega|contradiction)|(try simp only [put_some])))
 · obtain ⟨hI, hst, hms, gx, ho, hwd, ho1, ho2⟩ := hid
   rw [e0, e1, hi1, ho1]
   refine p_lx _ _ _ _ (i + 1, (out.set i (out.getD i 0 + x.getD i 0 * 2 ^ n % 4294967296)).set (i + 1) (x.getD i 0 * 2 ^ n / 4294967296)) ?_ ⟨?_, ?_, ?_, ?_, ?_, ?_⟩ (Weak.list ⟨int_eq ?_, rfl, rfl, rfl, rfl, trivial⟩ ⟨rfl, trivial⟩) <;> dsimp only
   · omega
   · omega
   · simp [hl]
   · exact dok_set (dok_set hok i ho2) _ (Nat.lt_of_lt_of_le hwd (Nat.le_trans (Nat.pow_le_pow_right (by omega) (Nat.le_of_lt hn)) (by decide)))
   · rw [getD_set _ _ _ (by simp [hl]; omega), if_pos rfl]; exact hwd
   · intro k hk
     exact getD_zero_set (getD_zero_set (hz k (by omega)) (by omega)) (by omega)
   · have v1 := val_set (l := out.set i (out.getD i 0 + x.getD i 0 * 2 ^ n % 4294967296)) (i := i + 1) (by simp [hl]; omega) (x.getD i 0 * 2 ^ n / 4294967296)
     have v2 := val_set (l := out) (i := i) (by omega) (out.getD i 0 + x.getD i 0 * 2 ^ n % 4294967296)
     rw [getD_zero_set (hz (i + 1) (by omega)) (by omega)] at v1
     rw [Nat.mul_add] at v2
     rw [Nat.zero_add] at hst
     omega
   · omega
 · have ei : i = x.length := by omega
   subst ei
   refine ⟨rfl, ?_⟩
   obtain ⟨hI, _⟩ := hid
   have hv : val out = val x * 2 ^ n := by rw [hI, Nat.mod_eq_of_lt (val_lt hx)]
   rw [← hv, ← hl, fd_of hok]
   rfl
end Go.Pw
set_option maxRecDepth 100000
set_option linter.unusedVariables false
set_option linter.unusedSimpArgs false
namespace Go.Pw
open Go Go.Proofs
theorem shI_up (a n : Nat) : shI ((a : Int) * 4294967296) n = ((a * 4294967296 / 2 ^ n : Nat) : Int) := by
 unfold shI
 rw [Int.natCast_ediv, Int.natCast_mul]
 simp
theorem con_right (x : List Nat) (n : Nat) (hx : dok x) (hn : n < 32) (h : x.length < 2 ^ 39) : Con E 285 [cN x, vI n] (cN (dg (val x / 2 ^ n))) := by
 refine con_of2 mixed (fn := Tryz.f285) (rs := [.tmp 4]) Tryz.func285 (by kernel_rfl) rfl (by kernel_rfl) rfl rfl ?_
 simp only [argE, Nat.reduceAdd, cN, vI]
 (refine SA ?_;intros)
 refine p_loopx (fun (a : Nat × List Nat) => [(13, .sh (vI a.1)), (12, .sh (vI x.length)), (11, .sh (cN x)), (5, .row 10), (1, .sh (vI n))]) (fun a => [(10, some (.rw 103 1 (SR ((a.2).map fun (x : Nat) => [PV.val (.int .u32 (x : Int))]))))]) (fun a => x.length - a.1)
   (fun a => a.1 ≤ x.length ∧ a.2.length = x.length ∧ dok a.2 ∧ (∀ k, a.1 ≤ k → a.2.getD k 0 = 0) ∧ (∀ k, a.1 = k + 1 → a.2.getD k 0 < 2 ^ (32 - n)) ∧ val a.2 = val x % 4294967296 ^ a.1 / 2 ^ n) (0, List.replicate x.length 0) (Weak.list ⟨rfl, rfl, rfl, rfl, rfl, trivial⟩ ⟨rfl, trivial⟩) ⟨by simp, by simp, dok_replicate _, fun k _ => by simp [List.getD_eq_getElem?_getD, List.getElem?_replicate]; split <;> rfl, fun k hk => by simp at hk, by simp [val_replicate, Nat.mod_one]⟩ ?_
 rintro ⟨i, out⟩ ⟨hi, hl, hok, hz, ho, hI⟩
 simp only [cN, vI] at *
 have lx := getD_lt i hx
 have gx := getD_val i hx
 have lo := getD_lt i hok
 have hms := mod_succ (val x) i
 rw [← gx] at hms
 have h0 := hz i (Nat.le_refl _)
 have e0 : (shI ((x.getD i 0 : Nat) : Int) n).toNat = x.getD i 0 / 2 ^ n := by rw [shI_nat]; exact Int.toNat_natCast _
 have e1 : (shI (((x.getD i 0 : Nat) : Int) * 4294967296) n % 4294967296).toNat = x.getD i 0 * 4294967296 / 2 ^ n % 4294967296 := by rw [shI_up]; generalize x.getD i 0 * 4294967296 / 2 ^ n = N; omega
 have e2 := low_up (d := x.getD i 0) hn
 have p0 : x.getD i 0 / 2 ^ n < 4294967296 := Nat.lt_of_le_of_lt (Nat.div_le_self _ _) lx
 have p1 : (0 : Int) ≤ shI ((x.getD i 0 : Nat) : Int) n := by rw [shI_nat]; exact Int.natCast_nonneg _
 have p2 : shI ((x.getD i 0 : Nat) : Int) n < 4294967296 := by rw [shI_nat]; exact Int.ofNat_lt.2 p0
 have p3 : (0 : Int) ≤ shI (((x.getD i 0 : Nat) : Int) * 4294967296) n := by rw [shI_up]; exact Int.natCast_nonneg _
 have lo1 : (out.set i (out.getD i 0 ||| (shI ((x.getD i 0 : Nat) : Int) n).toNat)).getD ((i : Int) - 1).toNat 0 < 4294967296 := getD_lt _ (dok_set hok _ (by rw [e0, h0, Nat.zero_or]; exact p0))
 have hid : Hid (_ ∧ _ ∧ _ ∧ _ ∧ _ ∧ _ ∧ _ ∧ _ ∧ _) := ⟨hI, hms, gx, ho, e2, e1, p0, e0, hz⟩
 clear hI hms gx ho e2 e1 p0 e0 hz
 repeat'(with_reducible first|apply p_seq|apply p_sq|apply p_reg|apply p_nil|apply p_skip|apply p_block|apply p_bq|apply p_ret|apply p_exit|apply p_sq_ret|apply p_sq_exit|apply p_bq_ret|apply p_bq_this|apply p_lq_ret|apply p_lq_exit|apply d_nil|refine p_drw (by decide +kernel) ?_|refine f_op rfl rfl ?_|refine f_opg rfl rfl rfl rfl ?_ ?_|refine f_new rfl rfl rfl rfl ?_|(refine f_end (And.intro ?_ ?_)<;>simp only [List.foldl_nil,List.foldl_cons,recS_mk,AB,Nat.reduceEqDiff,↓reduceIte,Nat.reduceAdd,Nat.reduceMul,Nat.reducePow,Nat.reduceLeDiff,Nat.reduceLT])|apply k_nil|refine k_cons rfl rfl ?_ ?_|apply g_nil|refine g_op0 rfl ?_|refine g_opC rfl ?_|refine p_bq_other (by decide) ?_|refine p_cond rfl ?_ ?_|refine p_op rfl ?_|refine d_op rfl rfl ?_|refine d_eff rfl ?_|refine p_opg rfl rfl rfl ?_ ?_|refine d_opg rfl rfl rfl rfl ?_ ?_|((first|refine p_opgU rfl rfl rfl ?_|refine d_opgU rfl rfl rfl rfl ?_);try simp only [put_some])|(refine fun (K1:St→Prop) hK1=>?_;simp (disch := omega) only [AB,Nat.reduceEqDiff,↓reduceIte,Nat.reduceAdd,Nat.reduceMul,Nat.reducePow,Nat.reduceLeDiff,Nat.reduceLT];(try simp (disch := omega) only [AC]);(try simp only [AM]))|(refine hK1 _ ?_;clear hK1 K1)|refine And.intro (by omega) ?_|apply And.intro|(refine fun (hb:(_:Bool)=_)=>?_;(try simp only [HS] at hb);(try (change True at hb;clear hb));first|(exfalso;first|omega|contradiction)|(try simp only [put_some])))
 · obtain ⟨hI, hms, gx, ho, e2, e1, p0, e0, hz⟩ := hid
   obtain ⟨j, rfl⟩ : ∃ j, i = j + 1 := ⟨i - 1, by omega⟩
   have hj : ((j + 1 : Nat) : Int) - 1 = (j : Int) := by omega
   have hjn : ((j : Int)).toNat = j := rfl
   have hoj := ho j rfl
   obtain ⟨ho1, ho2⟩ := right_or (d := x.getD (j + 1) 0) hn hoj
   have hg : (out.set (j + 1) (x.getD (j + 1) 0 / 2 ^ n)).getD j 0 = out.getD j 0 := by rw [getD_set _ _ _ (by omega), if_neg (by omega)]
   rw [e0, e1, e2, h0, Nat.zero_or, hj, hjn, hg, ho1]
   refine p_lx _ _ _ _ (j + 2, (out.set (j + 1) (x.getD (j + 1) 0 / 2 ^ n)).set j (out.getD j 0 + x.getD (j + 1) 0 % 2 ^ n * 2 ^ (32 - n))) ?_ ⟨?_, ?_, ?_, ?_, ?_, ?_⟩ (Weak.list ⟨int_eq ?_, rfl, rfl, rfl, rfl, trivial⟩ ⟨rfl, trivial⟩) <;> dsimp only
   · omega
   · omega
   · simp [hl]
   · exact dok_set (dok_set hok _ p0) _ ho2
   · intro k hk
     exact getD_zero_set (getD_zero_set (hz k (by omega)) (by omega)) (by omega)
   · intro k hk
     obtain rfl : k = j + 1 := by omega
     rw [getD_set _ _ _ (by simp [hl]; omega), if_neg (by omega), getD_set _ _ _ (by omega), if_pos rfl, Nat.div_lt_iff_lt_mul (Nat.pow_pos (by omega)), ← p32 hn]
     exact lx
   · have v1 := val_set (l := out.set (j + 1) (x.getD (j + 1) 0 / 2 ^ n)) (i := j) (by simp; omega) (out.getD j 0 + x.getD (j + 1) 0 % 2 ^ n * 2 ^ (32 - n))
     have v2 := val_set (l := out) (i := j + 1) (by omega) (x.getD (j + 1) 0 / 2 ^ n)
     have hst := right_step (A := val x % 4294967296 ^ (j + 1)) (i := j) (d := x.getD (j + 1) 0) hn
     rw [hg, Nat.mul_add] at v1
     rw [h0, Nat.mul_zero] at v2
     rw [hms, ← hst, ← hI]
     clear hms hst hI gx ho e2 e1 p0 e0 hz
     generalize val ((out.set (j + 1) (x.getD (j + 1) 0 / 2 ^ n)).set j (out.getD j 0 + x.getD (j + 1) 0 % 2 ^ n * 2 ^ (32 - n))) = a1 at *
     generalize val (out.set (j + 1) (x.getD (j + 1) 0 / 2 ^ n)) = a2 at *
     generalize 4294967296 ^ j * out.getD j 0 = a3 at *
     generalize 4294967296 ^ j * (x.getD (j + 1) 0 % 2 ^ n * 2 ^ (32 - n)) = a4 at *
     generalize 4294967296 ^ (j + 1) * (x.getD (j + 1) 0 / 2 ^ n) = a5 at *
     omega
   · omega
 · obtain ⟨hI, hms, gx, ho, e2, e1, p0, e0, hz⟩ := hid
   obtain rfl : i = 0 := by omega
   rw [e0, h0, Nat.zero_or]
   refine p_lx _ _ _ _ (1, out.set 0 (x.getD 0 0 / 2 ^ n)) ?_ ⟨?_, ?_, ?_, ?_, ?_, ?_⟩ (Weak.list ⟨int_eq ?_, rfl, rfl, rfl, rfl, trivial⟩ ⟨rfl, trivial⟩) <;> dsimp only
   · omega
   · omega
   · simp [hl]
   · exact dok_set hok _ p0
   · intro k hk
     exact getD_zero_set (hz k (by omega)) (by omega)
   · intro k hk
     obtain rfl : k = 0 := by omega
     rw [getD_set _ _ _ (by omega), if_pos rfl, Nat.div_lt_iff_lt_mul (Nat.pow_pos (by omega)), ← p32 hn]
     exact lx
   · have v2 := val_set (l := out) (i := 0) (by omega) (x.getD 0 0 / 2 ^ n)
     rw [h0] at v2
     simp only [Nat.pow_zero, Nat.mod_one, Nat.zero_div, Nat.mul_zero, Nat.add_zero, Nat.one_mul, Nat.zero_add] at hI v2 hms
     rw [v2, hI, Nat.zero_add, hms]
   · omega
 · obtain ⟨hI, _⟩ := hid
   obtain rfl : i = x.length := by omega
   (refine ⟨_,con_trim out hok (by omega),hK1 _ ?_⟩;clear hK1 K1;try simp only [put_some,cN,vI,vB,cR])
   (refine SA ?_;intros)
   simp only [res1,res2,res3,AB,Nat.reduceEqDiff,↓reduceIte,Nat.reduceAdd,Nat.reduceMul,Nat.reducePow,Nat.reduceLeDiff,Nat.reduceLT]
   rw [hI, Nat.mod_eq_of_lt (val_lt hx)]
   all_goals rfl
end Go.Pw
