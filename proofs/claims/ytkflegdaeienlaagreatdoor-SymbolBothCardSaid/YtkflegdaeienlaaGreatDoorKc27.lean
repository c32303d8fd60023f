/- Merged from the working texts Pn2 Pn3 PlB Pn4 Pn5. -/
import Derived.Test.YtkflegdaeienlaaGreatDoorKc25
import Derived.Test.YtkflegdaeienlaaGreatDoorKc26
import Derived.Shelf.Small.Bits
import Derived.Test.YtkflegdaeienlaaGreatDoorKc24
import Derived.Test.YtkflegdaeienlaaGreatDoorKc17
set_option linter.all false
set_option maxHeartbeats 400000
set_option maxRecDepth 100000
set_option linter.unusedVariables false
set_option linter.unusedSimpArgs false
namespace Go.Pw
open Go Go.Proofs
theorem con_nmul (x y : List Nat) (hx : dok x) (hy : dok y) (h : x.length < 2 ^ 39) (h' : y.length < 2 ^ 39) : Con E 224 [cN x, cN y] (cN (dg (val x * val y))) := by
 refine con_of2 mixed (fn := Tryz.f224) (rs := [.tmp 4]) Tryz.func224 (by kernel_rfl) rfl (by kernel_rfl) rfl rfl ?_
 simp only [argE, Nat.reduceAdd, cN]
 (refine SA ?_;intros)
 have hn : ((x.length : Int) + y.length).toNat = x.length + y.length := by omega
 rw [hn]
 refine p_loopx (fun (a : Nat × List Nat) => [(19, .sh (vI a.1)), (18, .sh (vI x.length)), (17, .sh (cN x)), (5, .row 16), (0, .sh (cN x)), (1, .sh (cN y))]) (fun a => [(16, some (.rw 103 1 (SR ((a.2).map fun (x : Nat) => [PV.val (.int .u32 (x : Int))]))))]) (fun a => x.length - a.1)
   (fun a => a.1 ≤ x.length ∧ a.2.length = x.length + y.length ∧ dok a.2 ∧ val a.2 = val x % 4294967296 ^ a.1 * val y) (0, List.replicate (x.length + y.length) 0) (Weak.list ⟨rfl, rfl, rfl, rfl, rfl, rfl, trivial⟩ ⟨rfl, trivial⟩) ⟨by simp, by simp, dok_replicate _, by simp [val_replicate, Nat.mod_one]⟩ ?_
 rintro ⟨i, out⟩ ⟨hi, hl, hok, hI⟩
 simp only [cN, vI] at *
 (refine WA ?_ ?_<;>intros;rename_i hb;rotate_left;rename_i hb K1 hK1;rotate_right)
 · have ga := getD_val i hx
   have la := getD_lt i hx
   generalize x.getD i 0 = p at *
   have hd0 : val (out.drop (i + y.length)) = 0 := by
     rw [val_drop _ hok, hI, Nat.div_eq_of_lt]
     rw [Nat.pow_add]
     exact Nat.mul_lt_mul'' (Nat.mod_lt _ (pow_pos' _)) (val_lt hy)
   refine p_loopx (fun (a : Nat × List Nat × Nat) => [(26, .sh (vI a.1)), (25, .sh (vI y.length)), (24, .sh (cN y)), (8, .sh (.val (.int .u64 (a.2.2 : Nat)))), (7, .sh (.val (.int .u32 (p : Nat)))), (6, .sh (vI i)), (5, .row 16), (19, .sh (vI i)), (18, .sh (vI x.length)), (17, .sh (cN x)), (0, .sh (cN x)), (1, .sh (cN y))]) (fun a => [(16, some (.rw 103 1 (SR ((a.2.1).map fun (x : Nat) => [PV.val (.int .u32 (x : Int))]))))]) (fun a => y.length - a.1)
     (fun a => a.1 ≤ y.length ∧ a.2.1.length = x.length + y.length ∧ dok a.2.1 ∧ a.2.2 < 4294967296 ∧ val (a.2.1.drop (i + y.length)) = 0 ∧ val a.2.1 + a.2.2 * 4294967296 ^ (i + a.1) = val x % 4294967296 ^ i * val y + 4294967296 ^ i * p * (val y % 4294967296 ^ a.1)) (0, out, 0) (Weak.list ⟨rfl, rfl, rfl, rfl, rfl, rfl, rfl, rfl, rfl, rfl, rfl, rfl, trivial⟩ ⟨rfl, trivial⟩) ⟨by simp, by simpa using hl, hok, by simp, hd0, by simp [hI, Nat.mod_one]⟩ ?_
   rintro ⟨k, o, c⟩ ⟨hk, hol, hook, hc, hd, hJ⟩
   simp only [cN, vI] at *
   have gy := getD_val k hy
   have ly := getD_lt k hy
   have lo := getD_lt (i + k) hook
   have e1 : ((i : Int) + k).toNat = i + k := by omega
   have hpq := mul_bound la ly
   have hpq' : ((p * y.getD k 0 : Nat) : Int) = (p : Int) * (y.getD k 0 : Nat) := Int.natCast_mul p _
   have lo' : o.getD ((i : Int) + k).toNat 0 < 4294967296 := by rw [e1]; exact lo
   have hstep : i + k < o.length → val (o.set (i + k) ((o.getD (i + k) 0 + p * y.getD k 0 + c) % 4294967296)) + (o.getD (i + k) 0 + p * y.getD k 0 + c) / 4294967296 * 4294967296 ^ (i + (k + 1)) = val x % 4294967296 ^ i * val y + 4294967296 ^ i * p * (val y % 4294967296 ^ (k + 1)) := by
     intro hlt
     have := mul_step (val_set hlt ((o.getD (i + k) 0 + p * y.getD k 0 + c) % 4294967296)) hJ (c' := (o.getD (i + k) 0 + p * y.getD k 0 + c) / 4294967296) (p := p) (q := y.getD k 0) (by have := Nat.mod_add_div (o.getD (i + k) 0 + p * y.getD k 0 + c) 4294967296; omega)
     rw [← Nat.add_assoc, Nat.pow_succ 4294967296 (i + k), this, mod_succ, ← gy]
     congr 1
     rw [Nat.mul_add, Nat.pow_add]
     congr 1
     simp only [Nat.mul_assoc, Nat.mul_left_comm, Nat.mul_comm]
   (refine WA ?_ ?_<;>intros<;>rename_i hb)
   · have hst := hstep (by omega)
     clear hI hJ hstep
     rw [e1]
     have hdd : List.drop (i + y.length) (o.set (i + k) ((o.getD (i + k) 0 + p * y.getD k 0 + c) % 4294967296)) = List.drop (i + y.length) o := by rw [List.drop_set_of_lt (by omega)]
     generalize y.getD k 0 = q at *
     generalize o.getD (i + k) 0 = w at *
     refine p_lx _ _ _ _ (k + 1, o.set (i + k) ((w + p * q + c) % 4294967296), (w + p * q + c) / 4294967296) ?_ ⟨?_, ?_, ?_, ?_, ?_, ?_⟩ (Weak.list ⟨int_eq ?_, rfl, rfl, int_eq ?_, rfl, rfl, rfl, rfl, rfl, rfl, rfl, rfl, trivial⟩ ⟨rw_eq ?_, trivial⟩) <;> dsimp only
     · omega
     · omega
     · simp [hol]
     · exact dok_set hook _ (Nat.mod_lt _ (by omega))
     · omega
     · rw [hdd]; exact hd
     · exact hst
     · omega
     · omega
     · congr 1 <;> omega
   · have ek : k = y.length := by omega
     subst ek
     have e2 : ((i : Int) + y.length).toNat = i + y.length := by omega
     rw [Nat.mod_eq_of_lt (val_lt hy), ← Nat.add_mul, ga, ← mod_succ] at hJ
     have hold : o.getD (i + y.length) 0 = 0 := by
       rw [getD_val _ hook, ← val_drop _ hook, hd]
     have hvs := val_set (l := o) (i := i + y.length) (by omega) c
     rw [hold] at hvs
     refine p_lx _ _ _ _ (i + 1, o.set (i + y.length) c) ?_ ⟨?_, ?_, ?_, ?_⟩ (Weak.list ⟨int_eq ?_, rfl, rfl, rfl, rfl, rfl, trivial⟩ ⟨rw_eq ?_, trivial⟩) <;> dsimp only
     · omega
     · omega
     · simp [hol]
     · exact dok_set hook _ hc
     · rw [← hJ, Nat.mul_comm c]; omega
     · omega
     · congr 1
 · (refine ⟨_,con_trim out hok (by omega),hK1 _ ?_⟩;clear hK1 K1;try simp only [put_some,cN,vI,vB,cR])
   (refine SA ?_;intros)
   simp only [res1,res2,res3,AB,Nat.reduceEqDiff,↓reduceIte,Nat.reduceAdd,Nat.reduceMul,Nat.reducePow,Nat.reduceLeDiff,Nat.reduceLT]
   have ei : i = x.length := by omega
   subst ei
   rw [Nat.mod_eq_of_lt (val_lt hx)] at hI
   rw [hI]
end Go.Pw
set_option maxRecDepth 100000
set_option linter.unusedVariables false
set_option linter.unusedSimpArgs false
namespace Go.Pw
open Go Go.Proofs
def fe (l : List Nat) : Int := if l.length > 512 then 3 else if l.length > 0 ∧ l.getD (l.length - 1) 0 = 0 then 5 else 0
def formR : List (List Nat) → Int
 | [] => 0
 | l :: r => if fe l = 0 then formR r else fe l
theorem con_form (ls : List (List Nat)) (h : ls.length < 2 ^ 40) (h' : ∀ l ∈ ls, l.length < 2 ^ 40) : Con E 223 [.sl (ls.map fun x => [cN x])] (vI (formR ls)) := by
 refine con_of2 mixed (fn := Tryz.f223) (rs := [.tmp 2]) Tryz.func223 (by kernel_rfl) rfl (by kernel_rfl) rfl rfl ?_
 simp only [argE, Nat.reduceAdd]
 (refine SA ?_;intros)
 refine p_loopx (fun (i : Nat) => [(7, .sh (vI i)), (6, .sh (vI ls.length)), (5, .sh (.sl (ls.map fun x => [cN x])))]) (fun _ => []) (fun i => ls.length - i) (fun i => i ≤ ls.length ∧ formR ls = formR (ls.drop i)) 0 (Weak.list ⟨rfl, rfl, rfl, trivial⟩ trivial) ⟨Nat.zero_le _, rfl⟩ ?_
 rintro i ⟨hi, hI⟩
 simp only [vI] at *
 have hl : (ls.getD i []).length < 2 ^ 40 := by
   rw [List.getD_eq_getElem?_getD]
   cases hq : ls[i]? with
   | none => simp
   | some y => exact h' _ (List.mem_of_getElem? hq)
 have hd : i < ls.length → formR ls = if fe (ls.getD i []) = 0 then formR (ls.drop (i + 1)) else fe (ls.getD i []) := fun hlt => by
   rw [hI, List.drop_eq_getElem_cons hlt, List.getD_eq_getElem?_getD, List.getElem?_eq_getElem hlt]
   rfl
 have e1 : (((ls.getD i []).length : Int) - 1).toNat = (ls.getD i []).length - 1 := by omega
 repeat'(with_reducible first|apply p_seq|apply p_sq|apply p_reg|apply p_nil|apply p_skip|apply p_block|apply p_bq|apply p_ret|apply p_exit|apply p_sq_ret|apply p_sq_exit|apply p_bq_ret|apply p_bq_this|apply p_lq_ret|apply p_lq_exit|apply d_nil|refine p_drw (by decide +kernel) ?_|refine f_op rfl rfl ?_|refine f_opg rfl rfl rfl rfl ?_ ?_|refine f_new rfl rfl rfl rfl ?_|(refine f_end (And.intro ?_ ?_)<;>simp only [List.foldl_nil,List.foldl_cons,recS_mk,AB,Nat.reduceEqDiff,↓reduceIte,Nat.reduceAdd,Nat.reduceMul,Nat.reducePow,Nat.reduceLeDiff,Nat.reduceLT])|apply k_nil|refine k_cons rfl rfl ?_ ?_|apply g_nil|refine g_op0 rfl ?_|refine g_opC rfl ?_|refine p_bq_other (by decide) ?_|refine p_cond rfl ?_ ?_|refine p_op rfl ?_|refine d_op rfl rfl ?_|refine d_eff rfl ?_|refine p_opg rfl rfl rfl ?_ ?_|refine d_opg rfl rfl rfl rfl ?_ ?_|((first|refine p_opgU rfl rfl rfl ?_|refine d_opgU rfl rfl rfl rfl ?_);try simp only [put_some])|(refine fun (K1:St→Prop) hK1=>?_;simp (disch := omega) only [AB,Nat.reduceEqDiff,↓reduceIte,Nat.reduceAdd,Nat.reduceMul,Nat.reducePow,Nat.reduceLeDiff,Nat.reduceLT];(try simp (disch := omega) only [AC]);(try simp only [AM]))|(refine hK1 _ ?_;clear hK1 K1)|refine And.intro (by omega) ?_|apply And.intro|(refine fun (hb:(_:Bool)=_)=>?_;(try simp only [HS] at hb);(try (change True at hb;clear hb));first|(exfalso;first|omega|contradiction)|(try simp only [put_some])))
 · simp only [res1,res2,res3,AB,Nat.reduceEqDiff,↓reduceIte,Nat.reduceAdd,Nat.reduceMul,Nat.reducePow,Nat.reduceLeDiff,Nat.reduceLT]
   have hf : fe (ls.getD i []) = 3 := by unfold fe; rw [if_pos (by omega)]
   rw [hd (by omega), hf]
   all_goals rfl
 · simp only [res1,res2,res3,AB,Nat.reduceEqDiff,↓reduceIte,Nat.reduceAdd,Nat.reduceMul,Nat.reducePow,Nat.reduceLeDiff,Nat.reduceLT]
   rw [e1] at hb
   have hf : fe (ls.getD i []) = 5 := by unfold fe; rw [if_neg (by omega), if_pos ⟨by omega, by omega⟩]
   rw [hd (by omega), hf]
   all_goals rfl
 · rw [e1] at hb
   have hf : fe (ls.getD i []) = 0 := by unfold fe; rw [if_neg (by omega), if_neg (by omega)]
   have hI2 := hd (by omega)
   rw [hf] at hI2
   refine p_lx _ _ _ _ (i + 1) ?_ ⟨?_, ?_⟩ (Weak.list ⟨int_eq ?_, rfl, rfl, trivial⟩ trivial)
   · omega
   · omega
   · simpa using hI2
   · omega
 · have hf : fe (ls.getD i []) = 0 := by unfold fe; rw [if_neg (by omega), if_neg (by omega)]
   have hI2 := hd (by omega)
   rw [hf] at hI2
   refine p_lx _ _ _ _ (i + 1) ?_ ⟨?_, ?_⟩ (Weak.list ⟨int_eq ?_, rfl, rfl, trivial⟩ trivial)
   · omega
   · omega
   · simpa using hI2
   · omega
 · simp only [res1,res2,res3,AB,Nat.reduceEqDiff,↓reduceIte,Nat.reduceAdd,Nat.reduceMul,Nat.reducePow,Nat.reduceLeDiff,Nat.reduceLT]
   rw [hI, List.drop_eq_nil_of_le (by omega)]
   all_goals rfl
theorem or_sum32 {m b : Nat} (h : b < 4294967296) : (m * 4294967296 ||| b) = m * 4294967296 + b := or_sum (i := 32) h
theorem short_step {X r q y a : Nat} (hy : 0 < y) (hr : r = X / 4294967296 % y) (hq : q = X / 4294967296 / y) (ha : a = X % 4294967296) : (r * 4294967296 + a) % y = X % y ∧ (r * 4294967296 + a) / y + 4294967296 * q = X / y ∧ (r * 4294967296 + a) / y < 4294967296 := by
 have h1 := Nat.div_add_mod (X / 4294967296) y
 rw [← hr, ← hq] at h1
 have hlt : r < y := by rw [hr]; exact Nat.mod_lt _ hy
 have e : X = y * (4294967296 * q) + (r * 4294967296 + a) := by
   rw [Nat.mul_left_comm]
   have := Nat.div_add_mod X 4294967296
   omega
 have ha' : a < 4294967296 := by rw [ha]; exact Nat.mod_lt _ (by omega)
 refine ⟨?_, ?_, ?_⟩
 · conv => rhs; rw [e]
   rw [Nat.mul_add_mod]
 · conv => rhs; rw [e]
   rw [Nat.mul_add_div hy, Nat.add_comm]
 · rw [Nat.div_lt_iff_lt_mul hy]
   have : r * 4294967296 + 4294967296 ≤ y * 4294967296 := by rw [← Nat.succ_mul]; exact Nat.mul_le_mul_right _ hlt
   rw [Nat.mul_comm]
   omega
theorem con_nshort (x : List Nat) (y : Nat) (hx : dok x) (hy : 0 < y) (hy' : y < 4294967296) (h : x.length < 2 ^ 40) : Con E 281 [cN x, .val (.int .u32 y)] (.tup [cN (dg (val x / y)), .val (.int .u32 (val x % y : Nat))]) := by
 refine con_of2 mixed (fn := Tryz.f281) (rs := [.tmp 4, .tmp 5]) Tryz.func281 (by kernel_rfl) rfl (by kernel_rfl) rfl rfl ?_
 simp only [argE, Nat.reduceAdd, cN]
 (refine SA ?_;intros)
 refine p_loopx (fun (a : Nat × List Nat) => [(8, .sh (vI ((a.1 : Int) - 1))), (7, .sh (.val (.int .u64 (val x / 4294967296 ^ a.1 % y : Nat)))), (6, .row 11), (0, .sh (cN x)), (1, .sh (.val (.int .u32 y)))]) (fun a => [(11, some (.rw 103 1 (SR ((a.2).map fun (x : Nat) => [PV.val (.int .u32 (x : Int))]))))]) (fun a => a.1)
   (fun a => a.1 ≤ x.length ∧ a.2.length = x.length ∧ dok a.2 ∧ val (a.2.drop a.1) = val x / 4294967296 ^ a.1 / y) (x.length, List.replicate x.length 0) (Weak.list ⟨rfl, int_eq (by rw [Nat.div_eq_of_lt (val_lt hx)]; simp), rfl, rfl, rfl, trivial⟩ ⟨rfl, trivial⟩) ⟨by simp, by simp, dok_replicate _, by simp [Nat.div_eq_of_lt (val_lt hx), val]⟩ ?_
 rintro ⟨k, out⟩ ⟨hk, hl, hok, hI⟩
 simp only [cN, vI] at *
 cases k with
 | zero =>
   (refine SA ?_;intros;rename_i hb K1 hK1)
   (refine ⟨_,con_trim out hok (by omega),hK1 _ ?_⟩;clear hK1 K1;try simp only [put_some,cN,vI,vB,cR])
   simp only [List.drop_zero, Nat.pow_zero, Nat.div_one] at *
   have : val x % y < y := Nat.mod_lt _ hy
   (refine SA ?_;intros)
   simp only [res1,res2,res3,AB,Nat.reduceEqDiff,↓reduceIte,Nat.reduceAdd,Nat.reduceMul,Nat.reducePow,Nat.reduceLeDiff,Nat.reduceLT]
   rw [hI]
   all_goals rfl
 | succ k =>
   have hk1 : ((k + 1 : Nat) : Int) - 1 = (k : Int) := by omega
   have ga := getD_val k hx
   have la := getD_lt k hx
   have hq : val x / 4294967296 ^ (k + 1) = val x / 4294967296 ^ k / 4294967296 := by rw [Nat.pow_succ, Nat.div_div_eq_div_mul]
   rw [hq] at hI ⊢
   generalize hX : val x / 4294967296 ^ k = X at *
   have hr : X / 4294967296 % y < y := Nat.mod_lt _ hy
   obtain ⟨h7, h8, h9⟩ := short_step hy (rfl : X / 4294967296 % y = _) hI ga
   generalize X / 4294967296 % y = r at *
   simp only [hk1]
   have lp := getD_lt k hx
   have e3 : ((x.getD k 0 : Nat) : Int).toNat = x.getD k 0 := rfl
   have e1 : ((r : Int) * 4294967296).toNat = r * 4294967296 := rfl
   have e2 := or_sum32 (m := r) (b := x.getD k 0) la
   clear hq ga
   (refine SA ?_;intros;rename_i hb)
   simp only [Int.toNat_natCast, e1, e2, ← Int.natCast_ediv, ← Int.natCast_emod]
   have e4 : (((r * 4294967296 + x.getD k 0) / y : Nat) : Int) % 18446744073709551616 % 4294967296 = (((r * 4294967296 + x.getD k 0) / y : Nat) : Int) := by
     generalize (r * 4294967296 + x.getD k 0) / y = D at *
     clear h7 h8 hI hX e1 e2 e3 lp la
     omega
   refine p_lx _ _ _ _ (k, out.set k ((r * 4294967296 + x.getD k 0) / y)) ?_ ⟨?_, ?_, ?_, ?_⟩ (Weak.list ⟨int_eq ?_, int_eq ?_, rfl, rfl, rfl, trivial⟩ ⟨rw_eq ?_, trivial⟩) <;> dsimp only
   · omega
   · omega
   · simp [hl]
   · exact dok_set hok k h9
   · rw [drop_set (by omega), hX]; exact h8
   · rw [h7, hX]
   · rw [e4, Int.toNat_natCast]
end Go.Pw
namespace Go.Proofs
open Go.Shelf
def Tryz.lren : Ren := { f := fun x => match x with | 128 => 295 | 129 => 296 | 167 => 233 | 169 => 234 | 240 => 266 | 276 => 286 | n => n, t := fun x => match x with | 37 => 238 | 46 => 51 | 51 => 103 | 53 => 136 | 70 => 237 | 72 => 240 | 75 => 242 | 80 => 244 | 127 => 267 | 164 => 280 | n => n, g := fun n => n }
theorem Tryz.k128 : Lays.n128 Tryz.prog Tryz.lren := { mixed := by kernel_rfl, f128 := by kernel_rfl, t3 := Tryz.underlying3, a3 := Tryz.isAgg3, z3 := Tryz.sizeOf3, v3 := Tryz.zeroValue3, t4 := Tryz.underlying4, a4 := Tryz.isAgg4, z4 := Tryz.sizeOf4, v4 := Tryz.zeroValue4, t5 := Tryz.underlying5, a5 := Tryz.isAgg5, z5 := Tryz.sizeOf5, v5 := Tryz.zeroValue5, t9 := Tryz.underlying9, a9 := Tryz.isAgg9, z9 := Tryz.sizeOf9, v9 := Tryz.zeroValue9, t46 := Tryz.underlying51, a46 := Tryz.isAgg51, z46 := Tryz.sizeOf51, v46 := Tryz.zeroValue51, t51 := Tryz.underlying103, a51 := Tryz.isAgg103, z51 := Tryz.sizeOf103, v51 := Tryz.zeroValue103 }
theorem Tryz.bits_Len32 (x : Int) (w : World) (h0 : 0 ≤ x) (h1 : x ≤ 4294967295) :
   Calls Tryz.prog 295 #[.int .u32 x] w fun e w' => e = .returned (.int .i64 (Lib.bitLen x.toNat)) ∧ w' = w := Any.bits_Len32 Tryz.k128 x w h0 h1
end Go.Proofs
namespace Go.Pw
open Go Go.Proofs Go.RowKit
theorem con_lib {E : Env} {f : FuncId} {fn : Func} {c : Code} {args : List PV} {d : PV} (hf : E.P.funcs[f]? = some fn) (hname : (fn.name == "runtime.NumGoroutine") = false) (hb : fn.body = some c)
    (h : ∀ (w : World) (A : Nat → Prop) (vs : Array Value), vs.size = args.length → (∀ j x, args[j]? = some x → R w A (vs.getD j undef) x) → Calls E.P f vs w fun e w' => (∃ v, e = .returned v ∧ R w A v d) ∧ w' = w) : Con E f args d := by
  refine ⟨fun vs w => ?_, fun w A vs hn hR hA hG => ?_⟩
  · have h1 : fn.name ≠ "runtime.NumGoroutine" := by simpa using hname
    simp [callFunc, hf, h1, hb]
  · refine (h w A vs hn hR).mono ?_
    rintro e w' ⟨⟨v, hv, hr⟩, rfl⟩
    exact ⟨v, hv, hr, Below.refl _ _⟩
theorem R.val_inv {w : World} {A : Nat → Prop} {v u : Value} (h : R w A v (.val u)) : v = u := by cases h; rfl
theorem bitLenAux_bl : ∀ (f n : Nat), n < 2 ^ f → Lib.bitLenAux f n = bl n
 | 0, n, h => by
   have : n = 0 := by simp at h; omega
   subst this; rw [bl_zero]; rfl
 | f + 1, n, h => by
   rw [Lib.bitLenAux]
   by_cases h0 : n = 0
   · subst h0; rw [bl_zero]; rfl
   · rw [if_neg h0, bl_pos h0, bitLenAux_bl f (n / 2) (by rw [Nat.pow_succ] at h; omega)]
     omega
theorem con_Len32 (n : Nat) (h : n < 4294967296) : Con E 295 [.val (.int .u32 n)] (vI (bl n)) := by
 refine con_lib Tryz.func295 (by kernel_rfl) rfl (fun w A vs hn hR => ?_)
 have h0 := (hR 0 _ rfl).val_inv
 have : vs = #[.int .u32 (n : Int)] := by
   apply Array.ext (by simpa using hn)
   intro i hi hi2
   have : i = 0 := by simp at hi2; omega
   subst this
   rw [Array.getD_eq_getD_getElem?, Array.getElem?_eq_getElem hi] at h0
   exact h0
 subst this
 refine (Tryz.bits_Len32 n w (by omega) (by omega)).mono ?_
 rintro e w' ⟨he, hw⟩
 refine ⟨⟨_, he, ?_⟩, hw⟩
 rw [Int.toNat_natCast, Lib.bitLen, bitLenAux_bl 64 n (by omega)]
 exact .val _
end Go.Pw
set_option maxRecDepth 100000
set_option linter.unusedVariables false
set_option linter.unusedSimpArgs false
namespace Go.Pw
open Go Go.Proofs
theorem con_size (n : Nat) (h : (dg n).length < 2 ^ 40) : Con E 269 [cN (dg n)] (vI (bl n)) := by
 refine con_of2 mixed (fn := Tryz.f269) (rs := [.tmp 2]) Tryz.func269 (by kernel_rfl) rfl (by kernel_rfl) rfl rfl ?_
 have hz := @dg_ne_nil n
 have hbl := bl_dg n
 have hok := dok_dg n
 generalize dg n = x at *
 simp only [argE, Nat.reduceAdd, cN, vI]
 (refine WA ?_ ?_<;>intros;rename_i hb;rotate_left;rename_i hb K1 hK1;rotate_right)
 · simp only [res1,res2,res3,AB,Nat.reduceEqDiff,↓reduceIte,Nat.reduceAdd,Nat.reduceMul,Nat.reducePow,Nat.reduceLeDiff,Nat.reduceLT]
   have : x = [] := List.length_eq_zero_iff.1 (by omega)
   rw [hz.1 this, bl_zero]
   all_goals rfl
 · have hlt := getD_lt (x.length - 1) hok
   have e1 : ((x.length : Int) - 1).toNat = x.length - 1 := by omega
   rw [e1]
   (refine ⟨_,con_Len32 _ hlt,hK1 _ ?_⟩;clear hK1 K1;try simp only [put_some,cN,vI,vB,cR])
   have hbb : bl (x.getD (x.length - 1) 0) ≤ 32 := (bl_le_iff _ _).2 hlt
   (refine SA ?_;intros)
   simp only [res1,res2,res3,AB,Nat.reduceEqDiff,↓reduceIte,Nat.reduceAdd,Nat.reduceMul,Nat.reducePow,Nat.reduceLeDiff,Nat.reduceLT]
   have hn : n ≠ 0 := fun e => by have := hz.2 e; subst this; simp at hb
   rw [hbl hn]
   simp; omega
theorem getD_zero_set {l : List Nat} {i k d : Nat} (h : l.getD k 0 = 0) (hk : k ≠ i) : (l.set i d).getD k 0 = 0 := by
 simp only [List.getD_eq_getElem?_getD, List.getElem?_set_ne (Ne.symm hk)] at *
 exact h
def Hid (p : Prop) : Prop := p
theorem vals_N (l : List Nat) : ((l.map fun (x : Nat) => [PV.val (.int .u32 (x : Int))]).all fun r => r.all PV.isVal) = true := by
 simp [PV.isVal]
theorem con_left (x : List Nat) (n : Nat) (hx : dok x) (hn : n < 32) (h : x.length < 2 ^ 39) : ConO E 282 [cN x, vI n] 103 1 ((fd (x.length + 1) (val x * 2 ^ n)).map fun (x : Nat) => [PV.val (.int .u32 (x : Int))]) := by
 refine conO_of mixed (fn := Tryz.f282) (t := 4) (k := 12) Tryz.func282 (by kernel_rfl) rfl (by kernel_rfl) rfl rfl (vals_N _) ?_
 simp only [argE, Nat.reduceAdd, cN, vI]
 (refine SA ?_;intros)
 have hn1 : ((x.length : Int) + 1).toNat = x.length + 1 := by omega
 rw [hn1]
 refine p_loopx (fun (a : Nat × List Nat) => [(15, .sh (vI a.1)), (14, .sh (vI x.length)), (13, .sh (cN x)), (5, .row 12), (1, .sh (vI n))]) (fun a => [(12, some (.rw 103 1 (SR ((a.2).map fun (x : Nat) => [PV.val (.int .u32 (x : Int))]))))]) (fun a => x.length - a.1)
   (fun a => a.1 ≤ x.length ∧ a.2.length = x.length + 1 ∧ dok a.2 ∧ a.2.getD a.1 0 < 2 ^ n ∧ (∀ k, a.1 < k → a.2.getD k 0 = 0) ∧ val a.2 = val x % 4294967296 ^ a.1 * 2 ^ n) (0, List.replicate (x.length + 1) 0) (Weak.list ⟨rfl, rfl, rfl, rfl, rfl, trivial⟩ ⟨rfl, trivial⟩) ⟨by simp, by simp, dok_replicate _, by simp [List.getD_eq_getElem?_getD, Nat.pow_pos], fun k _ => by simp [List.getD_eq_getElem?_getD, List.getElem?_replicate]; split <;> rfl, by simp [val_replicate, Nat.mod_one]⟩ ?_
 rintro ⟨i, out⟩ ⟨hi, hl, hok, ho, hz, hI⟩
 simp only [cN, vI] at *
 have lx := getD_lt i hx
 have gx := getD_val i hx
 have hw : shL (x.getD i 0) n < 9223372036854775808 := wide_lt hn lx
 have hwd := wide_div (n := n) lx
 obtain ⟨ho1, ho2⟩ := left_or (d := x.getD i 0) hn ho
 have hms := mod_succ (val x) i
 rw [← gx] at hms
 have hst := left_step (o := 0) (X := val x % 4294967296 ^ (i + 1)) (by simpa using hI) hms
 have hid : Hid (_ ∧ _ ∧ _ ∧ _ ∧ _ ∧ _ ∧ _ ∧ _) := ⟨hI, hst, hms, gx, ho, hwd, ho1, ho2⟩
 clear hI hst hms gx ho hwd ho1 ho2
 have lo := getD_lt i hok
 have hi1 : ((i : Int) + 1).toNat = i + 1 := by omega
 have e0 : (((shL (x.getD i 0) n : Nat) : Int) % 4294967296).toNat = x.getD i 0 * 2 ^ n % 4294967296 := rfl
 have e1 : (((shL (x.getD i 0) n : Nat) : Int) / 4294967296).toNat = x.getD i 0 * 2 ^ n / 4294967296 := rfl
 (refine WA ?_ ?_<;>intros<;>rename_i hb)
 · obtain ⟨hI, hst, hms, gx, ho, hwd, ho1, ho2⟩ := hid
   rw [e0, e1, hi1, ho1]
   refine p_lx _ _ _ _ (i + 1, (out.set i (out.getD i 0 + x.getD i 0 * 2 ^ n % 4294967296)).set (i + 1) (x.getD i 0 * 2 ^ n / 4294967296)) ?_ ⟨?_, ?_, ?_, ?_, ?_, ?_⟩ (Weak.list ⟨int_eq ?_, rfl, rfl, rfl, rfl, trivial⟩ ⟨rfl, trivial⟩) <;> dsimp only
   · omega
   · omega
   · simp [hl]
   · exact dok_set (dok_set hok i ho2) _ (Nat.lt_of_lt_of_le hwd (Nat.le_trans (Nat.pow_le_pow_right (by omega) (Nat.le_of_lt hn)) (by decide)))
   · rw [getD_set _ _ _ (by simp [hl]; omega), if_pos rfl]; exact hwd
   · intro k hk
     exact getD_zero_set (getD_zero_set (hz k (by omega)) (by omega)) (by omega)
   · have v1 := val_set (l := out.set i (out.getD i 0 + x.getD i 0 * 2 ^ n % 4294967296)) (i := i + 1) (by simp [hl]; omega) (x.getD i 0 * 2 ^ n / 4294967296)
     have v2 := val_set (l := out) (i := i) (by omega) (out.getD i 0 + x.getD i 0 * 2 ^ n % 4294967296)
     rw [getD_zero_set (hz (i + 1) (by omega)) (by omega)] at v1
     rw [Nat.mul_add] at v2
     rw [Nat.zero_add] at hst
     omega
   · omega
 · have ei : i = x.length := by omega
   subst ei
   refine ⟨rfl, ?_⟩
   obtain ⟨hI, _⟩ := hid
   have hv : val out = val x * 2 ^ n := by rw [hI, Nat.mod_eq_of_lt (val_lt hx)]
   rw [← hv, ← hl, fd_of hok]
   rfl
end Go.Pw
set_option maxRecDepth 100000
set_option linter.unusedVariables false
set_option linter.unusedSimpArgs false
namespace Go.Pw
open Go Go.Proofs
theorem shI_up (a n : Nat) : shI ((a : Int) * 4294967296) n = ((a * 4294967296 / 2 ^ n : Nat) : Int) := by
 unfold shI
 rw [Int.natCast_ediv, Int.natCast_mul]
 simp
theorem con_right (x : List Nat) (n : Nat) (hx : dok x) (hn : n < 32) (h : x.length < 2 ^ 39) : Con E 285 [cN x, vI n] (cN (dg (val x / 2 ^ n))) := by
 refine con_of2 mixed (fn := Tryz.f285) (rs := [.tmp 4]) Tryz.func285 (by kernel_rfl) rfl (by kernel_rfl) rfl rfl ?_
 simp only [argE, Nat.reduceAdd, cN, vI]
 (refine SA ?_;intros)
 refine p_loopx (fun (a : Nat × List Nat) => [(13, .sh (vI a.1)), (12, .sh (vI x.length)), (11, .sh (cN x)), (5, .row 10), (1, .sh (vI n))]) (fun a => [(10, some (.rw 103 1 (SR ((a.2).map fun (x : Nat) => [PV.val (.int .u32 (x : Int))]))))]) (fun a => x.length - a.1)
   (fun a => a.1 ≤ x.length ∧ a.2.length = x.length ∧ dok a.2 ∧ (∀ k, a.1 ≤ k → a.2.getD k 0 = 0) ∧ (∀ k, a.1 = k + 1 → a.2.getD k 0 < 2 ^ (32 - n)) ∧ val a.2 = val x % 4294967296 ^ a.1 / 2 ^ n) (0, List.replicate x.length 0) (Weak.list ⟨rfl, rfl, rfl, rfl, rfl, trivial⟩ ⟨rfl, trivial⟩) ⟨by simp, by simp, dok_replicate _, fun k _ => by simp [List.getD_eq_getElem?_getD, List.getElem?_replicate]; split <;> rfl, fun k hk => by simp at hk, by simp [val_replicate, Nat.mod_one]⟩ ?_
 rintro ⟨i, out⟩ ⟨hi, hl, hok, hz, ho, hI⟩
 simp only [cN, vI] at *
 have lx := getD_lt i hx
 have gx := getD_val i hx
 have lo := getD_lt i hok
 have hms := mod_succ (val x) i
 rw [← gx] at hms
 have h0 := hz i (Nat.le_refl _)
 have e0 : (shI ((x.getD i 0 : Nat) : Int) n).toNat = x.getD i 0 / 2 ^ n := by rw [shI_nat]; exact Int.toNat_natCast _
 have e1 : (shI (((x.getD i 0 : Nat) : Int) * 4294967296) n % 4294967296).toNat = x.getD i 0 * 4294967296 / 2 ^ n % 4294967296 := by rw [shI_up]; generalize x.getD i 0 * 4294967296 / 2 ^ n = N; omega
 have e2 := low_up (d := x.getD i 0) hn
 have p0 : x.getD i 0 / 2 ^ n < 4294967296 := Nat.lt_of_le_of_lt (Nat.div_le_self _ _) lx
 have p1 : (0 : Int) ≤ shI ((x.getD i 0 : Nat) : Int) n := by rw [shI_nat]; exact Int.natCast_nonneg _
 have p2 : shI ((x.getD i 0 : Nat) : Int) n < 4294967296 := by rw [shI_nat]; exact Int.ofNat_lt.2 p0
 have p3 : (0 : Int) ≤ shI (((x.getD i 0 : Nat) : Int) * 4294967296) n := by rw [shI_up]; exact Int.natCast_nonneg _
 have lo1 : (out.set i (out.getD i 0 ||| (shI ((x.getD i 0 : Nat) : Int) n).toNat)).getD ((i : Int) - 1).toNat 0 < 4294967296 := getD_lt _ (dok_set hok _ (by rw [e0, h0, Nat.zero_or]; exact p0))
 have hid : Hid (_ ∧ _ ∧ _ ∧ _ ∧ _ ∧ _ ∧ _ ∧ _ ∧ _) := ⟨hI, hms, gx, ho, e2, e1, p0, e0, hz⟩
 clear hI hms gx ho e2 e1 p0 e0 hz
 (refine VA ?_ ?_ ?_<;>intros;rename_i hb;rotate_left;rename_i hb;rotate_left;rename_i hb K1 hK1;rotate_right 2)
 · obtain ⟨hI, hms, gx, ho, e2, e1, p0, e0, hz⟩ := hid
   obtain ⟨j, rfl⟩ : ∃ j, i = j + 1 := ⟨i - 1, by omega⟩
   have hj : ((j + 1 : Nat) : Int) - 1 = (j : Int) := by omega
   have hjn : ((j : Int)).toNat = j := rfl
   have hoj := ho j rfl
   obtain ⟨ho1, ho2⟩ := right_or (d := x.getD (j + 1) 0) hn hoj
   have hg : (out.set (j + 1) (x.getD (j + 1) 0 / 2 ^ n)).getD j 0 = out.getD j 0 := by rw [getD_set _ _ _ (by omega), if_neg (by omega)]
   rw [e0, e1, e2, h0, Nat.zero_or, hj, hjn, hg, ho1]
   refine p_lx _ _ _ _ (j + 2, (out.set (j + 1) (x.getD (j + 1) 0 / 2 ^ n)).set j (out.getD j 0 + x.getD (j + 1) 0 % 2 ^ n * 2 ^ (32 - n))) ?_ ⟨?_, ?_, ?_, ?_, ?_, ?_⟩ (Weak.list ⟨int_eq ?_, rfl, rfl, rfl, rfl, trivial⟩ ⟨rfl, trivial⟩) <;> dsimp only
   · omega
   · omega
   · simp [hl]
   · exact dok_set (dok_set hok _ p0) _ ho2
   · intro k hk
     exact getD_zero_set (getD_zero_set (hz k (by omega)) (by omega)) (by omega)
   · intro k hk
     obtain rfl : k = j + 1 := by omega
     rw [getD_set _ _ _ (by simp [hl]; omega), if_neg (by omega), getD_set _ _ _ (by omega), if_pos rfl, Nat.div_lt_iff_lt_mul (Nat.pow_pos (by omega)), ← p32 hn]
     exact lx
   · have v1 := val_set (l := out.set (j + 1) (x.getD (j + 1) 0 / 2 ^ n)) (i := j) (by simp; omega) (out.getD j 0 + x.getD (j + 1) 0 % 2 ^ n * 2 ^ (32 - n))
     have v2 := val_set (l := out) (i := j + 1) (by omega) (x.getD (j + 1) 0 / 2 ^ n)
     have hst := right_step (A := val x % 4294967296 ^ (j + 1)) (i := j) (d := x.getD (j + 1) 0) hn
     rw [hg, Nat.mul_add] at v1
     rw [h0, Nat.mul_zero] at v2
     rw [hms, ← hst, ← hI]
     clear hms hst hI gx ho e2 e1 p0 e0 hz
     generalize val ((out.set (j + 1) (x.getD (j + 1) 0 / 2 ^ n)).set j (out.getD j 0 + x.getD (j + 1) 0 % 2 ^ n * 2 ^ (32 - n))) = a1 at *
     generalize val (out.set (j + 1) (x.getD (j + 1) 0 / 2 ^ n)) = a2 at *
     generalize 4294967296 ^ j * out.getD j 0 = a3 at *
     generalize 4294967296 ^ j * (x.getD (j + 1) 0 % 2 ^ n * 2 ^ (32 - n)) = a4 at *
     generalize 4294967296 ^ (j + 1) * (x.getD (j + 1) 0 / 2 ^ n) = a5 at *
     omega
   · omega
 · obtain ⟨hI, hms, gx, ho, e2, e1, p0, e0, hz⟩ := hid
   obtain rfl : i = 0 := by omega
   rw [e0, h0, Nat.zero_or]
   refine p_lx _ _ _ _ (1, out.set 0 (x.getD 0 0 / 2 ^ n)) ?_ ⟨?_, ?_, ?_, ?_, ?_, ?_⟩ (Weak.list ⟨int_eq ?_, rfl, rfl, rfl, rfl, trivial⟩ ⟨rfl, trivial⟩) <;> dsimp only
   · omega
   · omega
   · simp [hl]
   · exact dok_set hok _ p0
   · intro k hk
     exact getD_zero_set (hz k (by omega)) (by omega)
   · intro k hk
     obtain rfl : k = 0 := by omega
     rw [getD_set _ _ _ (by omega), if_pos rfl, Nat.div_lt_iff_lt_mul (Nat.pow_pos (by omega)), ← p32 hn]
     exact lx
   · have v2 := val_set (l := out) (i := 0) (by omega) (x.getD 0 0 / 2 ^ n)
     rw [h0] at v2
     simp only [Nat.pow_zero, Nat.mod_one, Nat.zero_div, Nat.mul_zero, Nat.add_zero, Nat.one_mul, Nat.zero_add] at hI v2 hms
     rw [v2, hI, Nat.zero_add, hms]
   · omega
 · obtain ⟨hI, _⟩ := hid
   obtain rfl : i = x.length := by omega
   (refine ⟨_,con_trim out hok (by omega),hK1 _ ?_⟩;clear hK1 K1;try simp only [put_some,cN,vI,vB,cR])
   (refine SA ?_;intros)
   simp only [res1,res2,res3,AB,Nat.reduceEqDiff,↓reduceIte,Nat.reduceAdd,Nat.reduceMul,Nat.reducePow,Nat.reduceLeDiff,Nat.reduceLT]
   rw [hI, Nat.mod_eq_of_lt (val_lt hx)]
   all_goals rfl
end Go.Pw
