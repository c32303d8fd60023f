/- Merged from the working texts Pr1 Pr2 Pr3 Pr4 Pr5 Pn1. -/
import Derived.Test.YtkflegdaeienlaaGreatDoorKc25
import Derived.Test.YtkflegdaeienlaaGreatDoorKc23
import Derived.Test.YtkflegdaeienlaaGreatDoorKc24
set_option linter.all false
set_option maxHeartbeats 400000
set_option maxRecDepth 100000
set_option linter.unusedVariables false
set_option linter.unusedSimpArgs false
namespace Go.Pw
open Go Go.Proofs
theorem cmp_step {X Y k : Nat} (h : X / 4294967296 ^ (k + 1) = Y / 4294967296 ^ (k + 1)) (hd : X / 4294967296 ^ k % 4294967296 < Y / 4294967296 ^ k % 4294967296) : X < Y := by
 apply Nat.lt_of_not_le
 intro hle
 have h1 : Y / 4294967296 ^ k ≤ X / 4294967296 ^ k := Nat.div_le_div_right hle
 rw [Nat.pow_succ, ← Nat.div_div_eq_div_mul, ← Nat.div_div_eq_div_mul] at h
 omega
theorem cmp_keep {X Y k : Nat} (h : X / 4294967296 ^ (k + 1) = Y / 4294967296 ^ (k + 1)) (hd : X / 4294967296 ^ k % 4294967296 = Y / 4294967296 ^ k % 4294967296) : X / 4294967296 ^ k = Y / 4294967296 ^ k := by
 rw [Nat.pow_succ, ← Nat.div_div_eq_div_mul, ← Nat.div_div_eq_div_mul] at h
 omega
def cmpI (a b : Nat) : Int := if a < b then -1 else if b < a then 1 else 0
theorem con_Compare (a b : Nat) (h : (dg a).length < 2 ^ 40) (hy : (dg b).length < 2 ^ 40) : Con E 204 [cN (dg a), cN (dg b)] (vI (cmpI a b)) := by
 refine con_of2 mixed (fn := Tryz.f204) (rs := [.tmp 4]) Tryz.func204 (by kernel_rfl) rfl (by kernel_rfl) rfl rfl ?_
 have hx1 := dok_dg a
 have hy1 := dok_dg b
 have hx2 := val_dg a
 have hy2 := val_dg b
 have hl := @lt_of_len a b
 have hl' := @lt_of_len b a
 have la := @len_dg_le a
 have lb := @len_dg_le b
 generalize dg a = xs at *
 generalize dg b = ys at *
 simp only [argE, Nat.reduceAdd, cN]
 (refine VA ?_ ?_ ?_<;>intros<;>rename_i hb)
 · simp only [res1,res2,res3,AB,Nat.reduceEqDiff,↓reduceIte,Nat.reduceAdd,Nat.reduceMul,Nat.reducePow,Nat.reduceLeDiff,Nat.reduceLT]; simp only [vI, cmpI]; have := hl (by omega); rw [if_pos (by omega)]
 · simp only [res1,res2,res3,AB,Nat.reduceEqDiff,↓reduceIte,Nat.reduceAdd,Nat.reduceMul,Nat.reducePow,Nat.reduceLeDiff,Nat.reduceLT]; simp only [vI, cmpI]; have := hl' (by omega); rw [if_neg (by omega), if_pos (by omega)]
 · refine p_loopx (fun (k : Nat) => [(5, .sh (vI ((k : Int) - 1))), (0, .sh (cN xs)), (1, .sh (cN ys))]) (fun _ => []) (fun k => k) (fun k => k ≤ xs.length ∧ a / 4294967296 ^ k = b / 4294967296 ^ k) xs.length (Weak.list ⟨rfl, rfl, rfl, trivial⟩ trivial) ⟨Nat.le_refl _, ?_⟩ ?_
   · rw [Nat.div_eq_of_lt (la.1 (Nat.le_refl _)), Nat.div_eq_of_lt (lb.1 (by omega))]
   rintro k ⟨hk, hI⟩
   simp only [cN, vI]
   cases k with
   | zero =>
     (refine SA ?_;intros;rename_i hb)
     · simp only [res1,res2,res3,AB,Nat.reduceEqDiff,↓reduceIte,Nat.reduceAdd,Nat.reduceMul,Nat.reducePow,Nat.reduceLeDiff,Nat.reduceLT]; simp only [cmpI]; simp at hI; rw [if_neg (by omega), if_neg (by omega)]
   | succ k =>
     have hk1 : ((k + 1 : Nat) : Int) - 1 = (k : Int) := by omega
     rw [hk1]
     have gx := getD_val k hx1
     have gy := getD_val k hy1
     rw [hx2] at gx
     rw [hy2] at gy
     (refine VA ?_ ?_ ?_<;>intros<;>rename_i hb)
     · simp only [res1,res2,res3,AB,Nat.reduceEqDiff,↓reduceIte,Nat.reduceAdd,Nat.reduceMul,Nat.reducePow,Nat.reduceLeDiff,Nat.reduceLT]; simp only [cmpI]; have := cmp_step hI (by omega); rw [if_pos (by omega)]
     · simp only [res1,res2,res3,AB,Nat.reduceEqDiff,↓reduceIte,Nat.reduceAdd,Nat.reduceMul,Nat.reducePow,Nat.reduceLeDiff,Nat.reduceLT]; simp only [cmpI]; have := cmp_step hI.symm (by omega); rw [if_neg (by omega), if_pos (by omega)]
     · skip
       exact p_lx _ _ _ _ k (Nat.lt_succ_self k) ⟨by omega, cmp_keep hI (by omega)⟩ (Weak.list ⟨rfl, rfl, rfl, trivial⟩ trivial)
end Go.Pw
set_option maxRecDepth 100000
set_option linter.unusedVariables false
set_option linter.unusedSimpArgs false
namespace Go.Pw
open Go Go.Proofs
theorem con_short (l : List Nat) (hl : dok l) (h : l.length < 2 ^ 42) : Con E 163 [cN l] (cN (dg (val l))) := by
 refine con_of2 mixed (fn := Tryz.f163) (rs := [.tmp 2]) Tryz.func163 (by kernel_rfl) rfl (by kernel_rfl) rfl rfl ?_
 simp only [argE, Nat.reduceAdd, cN]
 (refine SA ?_;intros)
 refine p_loopx (fun (k : Nat) => [(3, .sh (vI k)), (0, .sh (cN l))]) (fun _ => []) (fun k => k) (fun k => k ≤ l.length ∧ dg (val l) = dg (val (l.take k))) l.length (Weak.list ⟨rfl, rfl, trivial⟩ trivial) ⟨Nat.le_refl _, by simp⟩ ?_
 rintro k ⟨hk, hI⟩
 simp only [cN, vI]
 (refine VA ?_ ?_ ?_<;>intros<;>rename_i hb)
 · cases k with
   | zero => omega
   | succ k =>
     have e : ((k + 1 : Nat) : Int) - 1 = (k : Int) := by omega
     simp only [e, Int.toNat_natCast] at *
     exact p_lx _ _ _ _ k (Nat.lt_succ_self k) ⟨by omega, trim_step l k (by omega) (by omega) hI⟩ (Weak.list ⟨rfl, rfl, trivial⟩ trivial)
 · simp only [res1,res2,res3,AB,Nat.reduceEqDiff,↓reduceIte,Nat.reduceAdd,Nat.reduceMul,Nat.reducePow,Nat.reduceLeDiff,Nat.reduceLT]
   have e : ((k : Int) - 1).toNat = k - 1 := by omega
   rw [e] at hb
   rw [trim_done l hl k hk (.inr (by omega)) hI]
 · simp only [res1,res2,res3,AB,Nat.reduceEqDiff,↓reduceIte,Nat.reduceAdd,Nat.reduceMul,Nat.reducePow,Nat.reduceLeDiff,Nat.reduceLT]
   rw [trim_done l hl k hk (.inl (by omega)) hI]
theorem con_digit (l : List Nat) (i : Nat) (hl : dok l) (h : l.length < 2 ^ 40) : Con E 231 [cN l, vI i] (.val (.int .u64 (l.getD i 0 : Nat))) := by
 refine con_of2 mixed (fn := Tryz.f231) (rs := [.tmp 4]) Tryz.func231 (by kernel_rfl) rfl (by kernel_rfl) rfl rfl ?_
 simp only [argE, Nat.reduceAdd, cN, vI]
 have := getD_lt i hl
 (refine WA ?_ ?_<;>intros<;>rename_i hb)
 · simp only [res1,res2,res3,AB,Nat.reduceEqDiff,↓reduceIte,Nat.reduceAdd,Nat.reduceMul,Nat.reducePow,Nat.reduceLeDiff,Nat.reduceLT]
 · simp only [res1,res2,res3,AB,Nat.reduceEqDiff,↓reduceIte,Nat.reduceAdd,Nat.reduceMul,Nat.reducePow,Nat.reduceLeDiff,Nat.reduceLT]
   rw [getD_default (by omega)]; rfl
theorem add_step {X Y P i c a b : Nat} (h : P + c * 4294967296 ^ i = X % 4294967296 ^ i + Y % 4294967296 ^ i) (ha : a = X / 4294967296 ^ i % 4294967296) (hb : b = Y / 4294967296 ^ i % 4294967296) :
   P + 4294967296 ^ i * ((a + b + c) % 4294967296) + (a + b + c) / 4294967296 * 4294967296 ^ (i + 1) = X % 4294967296 ^ (i + 1) + Y % 4294967296 ^ (i + 1) := by
 rw [mod_succ, mod_succ, ← ha, ← hb, Nat.pow_succ]
 have e := Nat.div_add_mod (a + b + c) 4294967296
 generalize (a + b + c) / 4294967296 = q at *
 generalize (a + b + c) % 4294967296 = r at *
 generalize 4294967296 ^ i = p at *
 have : p * (4294967296 * q + r) = p * (a + b + c) := by rw [e]
 simp only [Nat.mul_add] at this
 have e1 : q * (p * 4294967296) = p * (4294967296 * q) := by rw [Nat.mul_left_comm, Nat.mul_comm q]
 rw [Nat.mul_comm c p] at h
 omega
end Go.Pw
set_option maxRecDepth 100000
set_option linter.unusedVariables false
set_option linter.unusedSimpArgs false
namespace Go.Pw
open Go Go.Proofs
theorem or_sum {m b i : Nat} (h : b < 2 ^ i) : (m * 2 ^ i ||| b) = m * 2 ^ i + b := by
 rw [← Nat.shiftLeft_eq, Nat.shiftLeft_add_eq_or_of_lt h]
theorem or_sum31 {m b : Nat} (h : b < 2147483648) : (m * 2147483648 ||| b) = m * 2147483648 + b := or_sum (i := 31) h
theorem sub_step {X Y P i c a b : Nat} (h : P + Y % 4294967296 ^ i = X % 4294967296 ^ i + c * 4294967296 ^ i) (ha : a = X / 4294967296 ^ i % 4294967296) (hb : b = Y / 4294967296 ^ i % 4294967296) {d c' : Nat} (hd : d + b + c = a + c' * 4294967296) :
   P + 4294967296 ^ i * d + Y % 4294967296 ^ (i + 1) = X % 4294967296 ^ (i + 1) + c' * 4294967296 ^ (i + 1) := by
 rw [mod_succ, mod_succ, ← ha, ← hb, Nat.pow_succ]
 generalize 4294967296 ^ i = p at *
 have : p * (d + b + c) = p * (a + c' * 4294967296) := by rw [hd]
 simp only [Nat.mul_add] at this
 have e1 : c' * (p * 4294967296) = p * (c' * 4294967296) := by rw [Nat.mul_left_comm]
 rw [Nat.mul_comm c p] at h
 omega
theorem con_Sub (x y : List Nat) (hx : dok x) (hy : dok y) (hle : val y ≤ val x) (h : x.length < 2 ^ 40) (h' : y.length < 2 ^ 40) : Con E 205 [cN x, cN y] (cN (dg (val x - val y))) := by
 refine con_of2 mixed (fn := Tryz.f205) (rs := [.tmp 4]) Tryz.func205 (by kernel_rfl) rfl (by kernel_rfl) rfl rfl ?_
 simp only [argE, Nat.reduceAdd, cN]
 (refine SA ?_;intros)
 refine p_loopx (fun (a : Nat × List Nat × Nat) => [(7, .sh (vI a.1)), (6, .sh (.val (.int .u64 (a.2.2 : Nat)))), (5, .row 11), (0, .sh (cN x)), (1, .sh (cN y))]) (fun a => [(11, some (.rw 103 1 (SR ((a.2.1).map fun (x : Nat) => [PV.val (.int .u32 (x : Int))]))))]) (fun a => x.length - a.1)
   (fun a => a.1 ≤ x.length ∧ a.2.1.length = x.length ∧ dok a.2.1 ∧ a.2.2 ≤ 1 ∧ val (a.2.1.take a.1) + val y % 4294967296 ^ a.1 = val x % 4294967296 ^ a.1 + a.2.2 * 4294967296 ^ a.1) (0, List.replicate x.length 0, 0) (Weak.list ⟨rfl, rfl, rfl, rfl, rfl, trivial⟩ ⟨rfl, trivial⟩) ⟨by simp, by simp, dok_replicate _, by simp, by simp [val, Nat.mod_one]⟩ ?_
 rintro ⟨i, out, c⟩ ⟨hi, hl, hok, hc, hI⟩
 simp only [cN, vI] at *
 (refine WA ?_ ?_<;>intros<;>rename_i hb K1 hK1)
 · have ga := getD_val i hx
   have gb := getD_val i hy
   have la := getD_lt i hx
   have lb := getD_lt i hy
   (refine ⟨_,con_digit y i hy h',hK1 _ ?_⟩;clear hK1 K1;try simp only [put_some,cN,vI,vB,cR])
   generalize x.getD i 0 = p at *
   generalize y.getD i 0 = q at *
   (refine SA ?_;intros)
   have hd : ∃ d c' : Nat, d < 4294967296 ∧ c' ≤ 1 ∧ d + q + c = p + c' * 4294967296 := by
     by_cases hlt : q + c ≤ p
     · exact ⟨p - q - c, 0, by omega, by omega, by omega⟩
     · exact ⟨p + 4294967296 - q - c, 1, by omega, by omega, by omega⟩
   obtain ⟨d, c', hd1, hd2, hd3⟩ := hd
   have hs := sub_step hI ga gb hd3
   refine p_lx _ _ _ _ (i + 1, out.set i d, c') ?_ ⟨?_, ?_, ?_, ?_, ?_⟩ (Weak.list ⟨int_eq ?_, int_eq ?_, rfl, rfl, rfl, trivial⟩ ⟨rw_eq ?_, trivial⟩) <;> dsimp only
   · omega
   · omega
   · simp [hl]
   · exact dok_set hok i hd1
   · omega
   · rw [val_take_set (by omega)]; exact hs
   · omega
   · omega
   · congr 1; omega
 · (refine ⟨_,con_short out hok (by omega),hK1 _ ?_⟩;clear hK1 K1;try simp only [put_some,cN,vI,vB,cR])
   (refine SA ?_;intros)
   simp only [res1,res2,res3,AB,Nat.reduceEqDiff,↓reduceIte,Nat.reduceAdd,Nat.reduceMul,Nat.reducePow,Nat.reduceLeDiff,Nat.reduceLT]
   have ei : i = x.length := by omega
   subst ei
   have hX := val_lt hx
   have hO := val_lt hok
   rw [hl] at hO
   rw [List.take_of_length_le (by omega), Nat.mod_eq_of_lt hX, Nat.mod_eq_of_lt (by omega)] at hI
   have hc0 : c = 0 := by
     rcases Nat.lt_or_ge c 1 with h9 | h9
     · omega
     · have : c = 1 := by omega
       subst this
       omega
   subst hc0
   rw [show val out = val x - val y by omega]
   all_goals rfl
theorem twice_step {X P i c a b : Nat} (h : P + c * 4294967296 ^ i = 2 * (X % 4294967296 ^ i) + b) (ha : a = X / 4294967296 ^ i % 4294967296) {d c' : Nat} (hd : d + c' * 4294967296 = 2 * a + c) :
   P + 4294967296 ^ i * d + c' * 4294967296 ^ (i + 1) = 2 * (X % 4294967296 ^ (i + 1)) + b := by
 rw [mod_succ, ← ha, Nat.pow_succ]
 generalize 4294967296 ^ i = p at *
 have : p * (d + c' * 4294967296) = p * (2 * a + c) := by rw [hd]
 simp only [Nat.mul_add] at this
 have e1 : c' * (p * 4294967296) = p * (c' * 4294967296) := by rw [Nat.mul_left_comm]
 have e2 : p * (2 * a) = 2 * (p * a) := by rw [Nat.mul_left_comm]
 rw [Nat.mul_comm c p] at h
 omega
theorem con_twice (x : List Nat) (b : Nat) (hx : dok x) (hb : b < 2) (h : x.length < 2 ^ 40) : Con E 206 [cN x, .val (.int .u32 b)] (cN (dg (2 * val x + b))) := by
 refine con_of2 mixed (fn := Tryz.f206) (rs := [.tmp 4]) Tryz.func206 (by kernel_rfl) rfl (by kernel_rfl) rfl rfl ?_
 simp only [argE, Nat.reduceAdd, cN]
 (refine SA ?_;intros)
 have hn : ((x.length : Int) + 1).toNat = x.length + 1 := by omega
 rw [hn]
 refine p_loopx (fun (a : Nat × List Nat × Nat) => [(6, .sh (vI a.1)), (1, .sh (.val (.int .u32 (a.2.2 : Nat)))), (5, .row 10), (0, .sh (cN x))]) (fun a => [(10, some (.rw 103 1 (SR ((a.2.1).map fun (x : Nat) => [PV.val (.int .u32 (x : Int))]))))]) (fun a => x.length - a.1)
   (fun a => a.1 ≤ x.length ∧ a.2.1.length = x.length + 1 ∧ dok a.2.1 ∧ a.2.2 < 2 ∧ val (a.2.1.take a.1) + a.2.2 * 4294967296 ^ a.1 = 2 * (val x % 4294967296 ^ a.1) + b) (0, List.replicate (x.length + 1) 0, b) (Weak.list ⟨rfl, rfl, rfl, rfl, trivial⟩ ⟨rfl, trivial⟩) ⟨by simp, by simp, dok_replicate _, by simpa using hb, by simp [val, Nat.mod_one]⟩ ?_
 rintro ⟨i, out, c⟩ ⟨hi, hl, hok, hc, hI⟩
 simp only [cN, vI] at *
 (refine WA ?_ ?_<;>intros;rename_i hb;rotate_left;rename_i hb K1 hK1;rotate_right)
 · have ga := getD_val i hx
   have la := getD_lt i hx
   generalize x.getD i 0 = p at *
   have e1 : ((p : Int) * 2 % 4294967296).toNat = (p % 2147483648) * 2 ^ 1 := by omega
   have e2 := or_sum (m := p % 2147483648) (b := c) (i := 1) (by omega)
   have hs := twice_step hI ga (d := p % 2147483648 * 2 ^ 1 + c) (c' := p / 2147483648) (by omega)
   refine p_lx _ _ _ _ (i + 1, out.set i (p % 2147483648 * 2 ^ 1 + c), p / 2147483648) ?_ ⟨?_, ?_, ?_, ?_, ?_⟩ (Weak.list ⟨int_eq ?_, int_eq ?_, rfl, rfl, trivial⟩ ⟨rw_eq ?_, trivial⟩) <;> dsimp only
   · omega
   · omega
   · simp [hl]
   · exact dok_set hok i (by omega)
   · omega
   · rw [val_take_set (by omega)]; exact hs
   · omega
   · omega
   · simp only [Int.toNat_natCast, e1, e2]
 · (refine ⟨_,con_short (out.set x.length c) (dok_set hok _ (by omega)) (by simp [hl]; omega),hK1 _ ?_⟩;clear hK1 K1;try simp only [put_some,cN,vI,vB,cR])
   (refine SA ?_;intros)
   simp only [res1,res2,res3,AB,Nat.reduceEqDiff,↓reduceIte,Nat.reduceAdd,Nat.reduceMul,Nat.reducePow,Nat.reduceLeDiff,Nat.reduceLT]
   have ei : i = x.length := by omega
   subst ei
   have e : val (out.set x.length c) = 2 * val x + b := by
     have := val_take_set (l := out) (i := x.length) (by omega) c
     rw [List.take_of_length_le (by simp [hl])] at this
     rw [this, Nat.mul_comm]
     rw [Nat.mod_eq_of_lt (val_lt hx)] at hI
     exact hI
   rw [e]
   all_goals rfl
theorem half_step {X k b q a : Nat} (hb : b = X / 4294967296 ^ (k + 1) % 2) (hq : q = X / 4294967296 ^ (k + 1) / 2) (ha : a = X / 4294967296 ^ k % 4294967296) :
   a % 2 = X / 4294967296 ^ k % 2 ∧ (a / 2 + b * 2147483648) + 4294967296 * q = X / 4294967296 ^ k / 2 := by
 rw [Nat.pow_succ, ← Nat.div_div_eq_div_mul] at hb hq
 omega
theorem drop_set {l : List Nat} {k : Nat} (hk : k < l.length) (d : Nat) : (l.set k d).drop k = d :: l.drop (k + 1) := by
 rw [List.drop_eq_getElem_cons (by simpa using hk)]
 simp [List.drop_set]
theorem con_half (x : List Nat) (hx : dok x) (h : x.length < 2 ^ 40) : Con E 203 [cN x] (cN (dg (val x / 2))) := by
 refine con_of2 mixed (fn := Tryz.f203) (rs := [.tmp 2]) Tryz.func203 (by kernel_rfl) rfl (by kernel_rfl) rfl rfl ?_
 simp only [argE, Nat.reduceAdd, cN]
 (refine SA ?_;intros)
 refine p_loopx (fun (a : Nat × List Nat × Nat) => [(5, .sh (vI ((a.1 : Int) - 1))), (4, .sh (.val (.int .u32 (a.2.2 : Nat)))), (3, .row 8), (0, .sh (cN x))]) (fun a => [(8, some (.rw 103 1 (SR ((a.2.1).map fun (x : Nat) => [PV.val (.int .u32 (x : Int))]))))]) (fun a => a.1)
   (fun a => a.1 ≤ x.length ∧ a.2.1.length = x.length ∧ dok a.2.1 ∧ a.2.2 = val x / 4294967296 ^ a.1 % 2 ∧ val (a.2.1.drop a.1) = val x / 4294967296 ^ a.1 / 2) (x.length, List.replicate x.length 0, 0) (Weak.list ⟨rfl, rfl, rfl, rfl, trivial⟩ ⟨rfl, trivial⟩) ⟨by simp, by simp, dok_replicate _, by simp [Nat.div_eq_of_lt (val_lt hx)], by simp [Nat.div_eq_of_lt (val_lt hx), val]⟩ ?_
 rintro ⟨k, out, c⟩ ⟨hk, hl, hok, hc, hI⟩
 simp only [cN, vI] at *
 have hc2 : c < 2 := by rw [hc]; exact Nat.mod_lt _ (by omega)
 cases k with
 | zero =>
   (refine SA ?_;intros;rename_i hb K1 hK1)
   (refine ⟨_,con_short out hok (by omega),hK1 _ ?_⟩;clear hK1 K1;try simp only [put_some,cN,vI,vB,cR])
   (refine SA ?_;intros)
   simp only [res1,res2,res3,AB,Nat.reduceEqDiff,↓reduceIte,Nat.reduceAdd,Nat.reduceMul,Nat.reducePow,Nat.reduceLeDiff,Nat.reduceLT]
   simp only [List.drop_zero, Nat.pow_zero, Nat.div_one] at hI
   rw [hI]
   all_goals rfl
 | succ k =>
   have hk1 : ((k + 1 : Nat) : Int) - 1 = (k : Int) := by omega
   have ga := getD_val k hx
   have la := getD_lt k hx
   have hgd : x.getD k 0 = x.getD k 0 := rfl
   generalize hp : x.getD k 0 = p at ga la
   obtain ⟨h8, h9⟩ := half_step hc hI ga
   have e1 : ((p : Int) / 2).toNat = p / 2 := by omega
   have e2 : ((c : Int) * 2147483648).toNat = c * 2147483648 := by clear hc hI h8 h9 ga; omega
   have e3 := or_sum31 (m := c) (b := p / 2) (by clear hc hI h8 h9 ga; omega)
   have hpp : (((x.getD k 0 : Nat) : Int)) = (p : Int) := by rw [hp]
   simp only [hk1]
   clear hc hI
   (refine SA ?_;intros;rename_i hb)
   refine p_lx _ _ _ _ (k, out.set k (p / 2 + c * 2147483648), p % 2) ?_ ⟨?_, ?_, ?_, ?_, ?_⟩ (Weak.list ⟨int_eq ?_, int_eq ?_, rfl, rfl, trivial⟩ ⟨rw_eq ?_, trivial⟩) <;> dsimp only
   · omega
   · omega
   · simp [hl]
   · exact dok_set hok k (by clear h8 h9 ga; omega)
   · exact h8
   · rw [drop_set (by omega)]; exact h9
   · rw [hp]; omega
   · rw [hp, e1, e2, Nat.or_comm, e3, Nat.add_comm]
end Go.Pw
set_option maxRecDepth 100000
set_option linter.unusedVariables false
set_option linter.unusedSimpArgs false
namespace Go.Pw
open Go Go.Proofs
theorem pow_split (i : Nat) : 2 ^ i = 4294967296 ^ (i / 32) * 2 ^ (i % 32) := by
 rw [show (4294967296 : Nat) = 2 ^ 32 from rfl, ← Nat.pow_mul, ← Nat.pow_add]
 congr 1
 omega
theorem bit_eq {x : List Nat} (hx : dok x) (i : Nat) : x.getD (i / 32) 0 / 2 ^ (i % 32) % 2 = val x / 2 ^ i % 2 := by
 rw [getD_val _ hx, pow_split i, ← Nat.div_div_eq_div_mul]
 generalize val x / 4294967296 ^ (i / 32) = n
 have hr : i % 32 < 32 := Nat.mod_lt _ (by omega)
 generalize i % 32 = r at *
 have e : (4294967296 : Nat) = 2 ^ r * 2 ^ (32 - r) := by rw [← Nat.pow_add, show r + (32 - r) = 32 by omega]
 rw [e, Nat.mod_mul_right_div_self, Nat.mod_mod_of_dvd]
 exact ⟨2 ^ (31 - r), by rw [Nat.mul_comm, ← Nat.pow_succ]; congr 1; omega⟩
def bl (n : Nat) : Nat := if h : n = 0 then 0 else bl (n / 2) + 1
termination_by n
decreasing_by omega
theorem bl_zero : bl 0 = 0 := by rw [bl]; simp
theorem bl_pos {n : Nat} (h : n ≠ 0) : bl n = bl (n / 2) + 1 := by rw [bl]; simp [h]
theorem bl_div : ∀ (k n : Nat), n / 2 ^ k ≠ 0 → bl n = bl (n / 2 ^ k) + k
 | 0, n, h => by simp
 | k + 1, n, h => by
   rw [Nat.pow_succ, ← Nat.div_div_eq_div_mul] at h ⊢
   have h1 : n / 2 ^ k ≠ 0 := by intro e; rw [e] at h; exact h rfl
   rw [bl_div k n h1, bl_pos h1]
   omega
theorem bl_dg : ∀ (n : Nat), n ≠ 0 → bl n = 32 * ((dg n).length - 1) + bl ((dg n).getD ((dg n).length - 1) 0) := by
 intro n
 induction n using Nat.strongRecOn with
 | _ n ih =>
   intro h
   rw [dg_pos h]
   by_cases h2 : n / 4294967296 = 0
   · rw [h2, dg_zero]
     simp only [List.length_cons, List.length_nil, List.getD_cons_zero]
     rw [Nat.mod_eq_of_lt (by omega)]
     simp
   · have := ih (n / 4294967296) (by omega) h2
     have hl : (dg (n / 4294967296)).length ≠ 0 := fun e => h2 (dg_ne_nil.1 (List.length_eq_zero_iff.1 e))
     have e1 : bl n = bl (n / 4294967296) + 32 := bl_div 32 n h2
     rw [e1, this]
     simp only [List.length_cons, Nat.add_sub_cancel]
     obtain ⟨m, hm⟩ := Nat.exists_eq_succ_of_ne_zero hl
     rw [hm]
     simp only [Nat.succ_eq_add_one, Nat.add_sub_cancel, List.getD_cons_succ]
     omega
theorem bl_lt : ∀ n, n < 2 ^ bl n := by
 intro n
 induction n using Nat.strongRecOn with
 | _ n ih =>
   by_cases h : n = 0
   · subst h; rw [bl_zero]; simp
   · have := ih (n / 2) (by omega)
     rw [bl_pos h, Nat.pow_succ]
     omega
theorem bl_le_iff (n k : Nat) : bl n ≤ k ↔ n < 2 ^ k := by
 constructor
 · intro h; exact Nat.lt_of_lt_of_le (bl_lt n) (Nat.pow_le_pow_right (by omega) h)
 · intro h
   induction n using Nat.strongRecOn generalizing k with
   | _ n ih =>
     by_cases h0 : n = 0
     · subst h0; rw [bl_zero]; omega
     · cases k with
       | zero => simp at h; omega
       | succ k =>
         rw [bl_pos h0]
         have := ih (n / 2) (by omega) k (by rw [Nat.pow_succ] at h; omega)
         omega
theorem con_bit (x : List Nat) (i : Nat) (hx : dok x) (hi : i / 32 < x.length) (h : x.length < 2 ^ 40) : Con E 265 [cN x, vI i] (.val (.int .u32 (val x / 2 ^ i % 2 : Nat))) := by
 refine con_of2 mixed (fn := Tryz.f265) (rs := [.tmp 4]) Tryz.func265 (by kernel_rfl) rfl (by kernel_rfl) rfl rfl ?_
 simp only [argE, Nat.reduceAdd, cN, vI]
 (refine SA ?_;intros)
 simp only [res1,res2,res3,AB,Nat.reduceEqDiff,↓reduceIte,Nat.reduceAdd,Nat.reduceMul,Nat.reducePow,Nat.reduceLeDiff,Nat.reduceLT]
 have e1 : ((i : Int) / 32).toNat = i / 32 := by omega
 have e2 : min ((i : Int) % 32).toNat IntKind.u32.bits = i % 32 := by
   have : IntKind.u32.bits = 32 := rfl
   rw [this]; omega
 rw [e1, e2, ← bit_eq hx i]
 generalize x.getD (i / 32) 0 = p
 have e3 : (2 : Int) ^ (i % 32) = ((2 ^ (i % 32) : Nat) : Int) := by simp
 rw [e3, Int.fdiv_eq_ediv_of_nonneg _ (Int.natCast_nonneg _), ← Int.natCast_ediv, Int.tmod_eq_emod_of_nonneg (Int.natCast_nonneg _)]
 all_goals rfl
theorem con_Bits (n : Nat) (h : (dg n).length < 2 ^ 40) : Con E 264 [cN (dg n)] (vI (bl n)) := by
 refine con_of2 mixed (fn := Tryz.f264) (rs := [.tmp 2]) Tryz.func264 (by kernel_rfl) rfl (by kernel_rfl) rfl rfl ?_
 have hz := @dg_ne_nil n
 have hbl := bl_dg n
 have hok := dok_dg n
 generalize dg n = x at *
 simp only [argE, Nat.reduceAdd, cN, vI]
 (refine WA ?_ ?_<;>intros<;>rename_i hb)
 · simp only [res1,res2,res3,AB,Nat.reduceEqDiff,↓reduceIte,Nat.reduceAdd,Nat.reduceMul,Nat.reducePow,Nat.reduceLeDiff,Nat.reduceLT]
   have : x = [] := List.length_eq_zero_iff.1 (by omega)
   rw [hz.1 this, bl_zero]
   all_goals rfl
 · have hn : n ≠ 0 := fun e => by have := hz.2 e; subst this; simp at hb
   have hbl := hbl hn
   have e1 : ((x.length : Int) - 1).toNat = x.length - 1 := by omega
   have hlt := getD_lt (x.length - 1) hok
   rw [e1]
   generalize x.getD (x.length - 1) 0 = d0 at *
   refine p_loopx (fun (a : Nat × Nat) => [(3, .sh (vI a.1)), (4, .sh (.val (.int .u32 (a.2 : Nat))))]) (fun a => []) (fun a => a.2)
     (fun a => a.1 + bl a.2 = bl n ∧ a.2 < 4294967296) (32 * (x.length - 1), d0) (Weak.list ⟨int_eq (by simp; omega), rfl, trivial⟩ trivial) ⟨by simp; omega, by simpa using hlt⟩ ?_
   have hbb : bl n < 2 ^ 50 := by
     have : bl d0 ≤ 32 := (bl_le_iff _ _).2 hlt
     omega
   rintro ⟨m, d⟩ ⟨hI, hd⟩
   simp only [cN, vI] at *
   (refine WA ?_ ?_<;>intros<;>rename_i hb)
   · have := bl_pos (n := d) (by omega)
     refine p_lx _ _ _ _ (m + 1, d / 2) ?_ ⟨?_, ?_⟩ (Weak.list ⟨int_eq ?_, int_eq ?_, trivial⟩ trivial) <;> dsimp only <;> omega
   · simp only [res1,res2,res3,AB,Nat.reduceEqDiff,↓reduceIte,Nat.reduceAdd,Nat.reduceMul,Nat.reducePow,Nat.reduceLeDiff,Nat.reduceLT]
     have : d = 0 := by omega
     subst this
     rw [bl_zero] at hI
     rw [← hI]
     all_goals rfl
theorem con_Of (n : Nat) (h : n < 18446744073709551616) : Con E 96 [.val (.int .u64 n)] (cN (dg n)) := by
 refine con_of2 mixed (fn := Tryz.f96) (rs := [.tmp 2]) Tryz.func96 (by kernel_rfl) rfl (by kernel_rfl) rfl rfl ?_
 simp only [argE, Nat.reduceAdd, cN, vI]
 (refine SA ?_;intros;rename_i K1 hK1)
 (refine ⟨_,con_short [n % 4294967296, n / 4294967296] (by simp [dok]; omega) (by simp),hK1 _ ?_⟩;clear hK1 K1;try simp only [put_some,cN,vI,vB,cR])
 (refine SA ?_;intros)
 simp only [res1,res2,res3,AB,Nat.reduceEqDiff,↓reduceIte,Nat.reduceAdd,Nat.reduceMul,Nat.reducePow,Nat.reduceLeDiff,Nat.reduceLT]
 have : val [n % 4294967296, n / 4294967296] = n := by simp only [val]; omega
 rw [this]
 all_goals rfl
end Go.Pw
set_option maxRecDepth 100000
set_option linter.unusedVariables false
set_option linter.unusedSimpArgs false
namespace Go.Pw
open Go Go.Proofs
theorem mul_step {V V' P o d c c' p q O Z : Nat} (hset : V' + P * o = V + P * d) (hI : V + c * P = O + Z) (hd : o + p * q + c = d + c' * 4294967296) : V' + c' * (P * 4294967296) = O + (Z + P * (p * q)) := by
 have : P * (o + p * q + c) = P * (d + c' * 4294967296) := by rw [hd]
 simp only [Nat.mul_add] at this
 have e1 : c' * (P * 4294967296) = P * (c' * 4294967296) := by rw [Nat.mul_left_comm]
 rw [Nat.mul_comm c P] at hI
 omega
theorem mul_bound {p q : Nat} (hp : p < 4294967296) (hq : q < 4294967296) : p * q ≤ 18446744065119617025 := Nat.mul_le_mul (show p ≤ 4294967295 by omega) (show q ≤ 4294967295 by omega)
end Go.Pw
set_option maxRecDepth 100000
set_option linter.unusedVariables false
set_option linter.unusedSimpArgs false
namespace Go.Pw
open Go Go.Proofs
theorem con_trim (l : List Nat) (hl : dok l) (h : l.length < 2 ^ 42) : Con E 263 [cN l] (cN (dg (val l))) := by
 refine con_of2 mixed (fn := Tryz.f263) (rs := [.tmp 2]) Tryz.func263 (by kernel_rfl) rfl (by kernel_rfl) rfl rfl ?_
 simp only [argE, Nat.reduceAdd, cN]
 (refine SA ?_;intros)
 refine p_loopx (fun (m : List Nat) => [(0, .sh (cN m))]) (fun _ => []) (fun m => m.length) (fun m => m.length ≤ l.length ∧ dok m ∧ dg (val l) = dg (val m)) l (Weak.list ⟨rfl, trivial⟩ trivial) ⟨Nat.le_refl _, hl, rfl⟩ ?_
 rintro m ⟨hm, hok, hI⟩
 have e1 : ((m.length : Int) - 1).toNat = m.length - 1 := by omega
 simp only [cN, vI]
 (refine VA ?_ ?_ ?_<;>intros<;>rename_i hb)
 · rw [e1] at hb
   have hs := trim_step m (m.length - 1) (by omega) (by omega) (by rw [List.take_of_length_le (by omega)])
   refine p_lx _ _ _ _ (m.take (m.length - 1)) ?_ ⟨?_, ?_, ?_⟩ (Weak.list ⟨sl_eq' ?_, trivial⟩ trivial)
   · simp; omega
   · simp; omega
   · exact dok_take hok _
   · rw [hI]; exact hs
   · rw [e1]
 · simp only [res1,res2,res3,AB,Nat.reduceEqDiff,↓reduceIte,Nat.reduceAdd,Nat.reduceMul,Nat.reducePow,Nat.reduceLeDiff,Nat.reduceLT]
   rw [e1] at hb
   have := trim_done m hok m.length (Nat.le_refl _) (.inr (by omega)) (by rw [List.take_of_length_le (Nat.le_refl _)])
   rw [List.take_of_length_le (Nat.le_refl _)] at this
   rw [hI, ← this]
 · simp only [res1,res2,res3,AB,Nat.reduceEqDiff,↓reduceIte,Nat.reduceAdd,Nat.reduceMul,Nat.reducePow,Nat.reduceLeDiff,Nat.reduceLT]
   have : m = [] := List.length_eq_zero_iff.1 (by omega)
   subst this
   rw [hI]
   simp [val, dg_zero]
theorem con_at (l : List Nat) (i : Nat) (hl : dok l) (h : l.length < 2 ^ 40) : Con E 303 [cN l, vI i] (.val (.int .u64 (l.getD i 0 : Nat))) := by
 refine con_of2 mixed (fn := Tryz.f303) (rs := [.tmp 4]) Tryz.func303 (by kernel_rfl) rfl (by kernel_rfl) rfl rfl ?_
 simp only [argE, Nat.reduceAdd, cN, vI]
 have := getD_lt i hl
 (refine WA ?_ ?_<;>intros<;>rename_i hb)
 · simp only [res1,res2,res3,AB,Nat.reduceEqDiff,↓reduceIte,Nat.reduceAdd,Nat.reduceMul,Nat.reducePow,Nat.reduceLeDiff,Nat.reduceLT]
 · simp only [res1,res2,res3,AB,Nat.reduceEqDiff,↓reduceIte,Nat.reduceAdd,Nat.reduceMul,Nat.reducePow,Nat.reduceLeDiff,Nat.reduceLT]
   rw [getD_default (by omega)]
   all_goals rfl
theorem con_compare (a b : Nat) (h : (dg a).length < 2 ^ 40) (hy : (dg b).length < 2 ^ 40) : Con E 280 [cN (dg a), cN (dg b)] (vI (cmpI a b)) := by
 refine con_of2 mixed (fn := Tryz.f280) (rs := [.tmp 4]) Tryz.func280 (by kernel_rfl) rfl (by kernel_rfl) rfl rfl ?_
 have hx1 := dok_dg a
 have hy1 := dok_dg b
 have hx2 := val_dg a
 have hy2 := val_dg b
 have hl := @lt_of_len a b
 have hl' := @lt_of_len b a
 have la := @len_dg_le a
 have lb := @len_dg_le b
 generalize dg a = xs at *
 generalize dg b = ys at *
 simp only [argE, Nat.reduceAdd, cN]
 (refine VA ?_ ?_ ?_<;>intros<;>rename_i hb)
 · simp only [res1,res2,res3,AB,Nat.reduceEqDiff,↓reduceIte,Nat.reduceAdd,Nat.reduceMul,Nat.reducePow,Nat.reduceLeDiff,Nat.reduceLT]; simp only [vI, cmpI]; have := hl (by omega); rw [if_pos (by omega)]
 · simp only [res1,res2,res3,AB,Nat.reduceEqDiff,↓reduceIte,Nat.reduceAdd,Nat.reduceMul,Nat.reducePow,Nat.reduceLeDiff,Nat.reduceLT]; simp only [vI, cmpI]; have := hl' (by omega); rw [if_neg (by omega), if_pos (by omega)]
 · refine p_loopx (fun (k : Nat) => [(5, .sh (vI ((k : Int) - 1))), (0, .sh (cN xs)), (1, .sh (cN ys))]) (fun _ => []) (fun k => k) (fun k => k ≤ xs.length ∧ a / 4294967296 ^ k = b / 4294967296 ^ k) xs.length (Weak.list ⟨rfl, rfl, rfl, trivial⟩ trivial) ⟨Nat.le_refl _, ?_⟩ ?_
   · rw [Nat.div_eq_of_lt (la.1 (Nat.le_refl _)), Nat.div_eq_of_lt (lb.1 (by omega))]
   rintro k ⟨hk, hI⟩
   simp only [cN, vI]
   cases k with
   | zero =>
     (refine SA ?_;intros;rename_i hb)
     · simp only [res1,res2,res3,AB,Nat.reduceEqDiff,↓reduceIte,Nat.reduceAdd,Nat.reduceMul,Nat.reducePow,Nat.reduceLeDiff,Nat.reduceLT]; simp only [cmpI]; simp at hI; rw [if_neg (by omega), if_neg (by omega)]
   | succ k =>
     have hk1 : ((k + 1 : Nat) : Int) - 1 = (k : Int) := by omega
     rw [hk1]
     have gx := getD_val k hx1
     have gy := getD_val k hy1
     rw [hx2] at gx
     rw [hy2] at gy
     (refine VA ?_ ?_ ?_<;>intros<;>rename_i hb)
     · simp only [res1,res2,res3,AB,Nat.reduceEqDiff,↓reduceIte,Nat.reduceAdd,Nat.reduceMul,Nat.reducePow,Nat.reduceLeDiff,Nat.reduceLT]; simp only [cmpI]; have := cmp_step hI (by omega); rw [if_pos (by omega)]
     · simp only [res1,res2,res3,AB,Nat.reduceEqDiff,↓reduceIte,Nat.reduceAdd,Nat.reduceMul,Nat.reducePow,Nat.reduceLeDiff,Nat.reduceLT]; simp only [cmpI]; have := cmp_step hI.symm (by omega); rw [if_neg (by omega), if_pos (by omega)]
     · skip
       exact p_lx _ _ _ _ k (Nat.lt_succ_self k) ⟨by omega, cmp_keep hI (by omega)⟩ (Weak.list ⟨rfl, rfl, rfl, trivial⟩ trivial)
theorem con_nadd (x y : List Nat) (hx : dok x) (hy : dok y) (h : x.length < 2 ^ 39) (h' : y.length < 2 ^ 39) : Con E 301 [cN x, cN y] (cN (dg (val x + val y))) := by
 refine con_of2 mixed (fn := Tryz.f301) (rs := [.tmp 4]) Tryz.func301 (by kernel_rfl) rfl (by kernel_rfl) rfl rfl ?_
 simp only [argE, Nat.reduceAdd, cN]
 (refine SA ?_;intros)
 have hn : ∃ n : Nat, max (x.length : Int) y.length = (n : Int) ∧ x.length ≤ n ∧ y.length ≤ n ∧ n < 2 ^ 39 := ⟨max x.length y.length, by omega, by omega, by omega, by omega⟩
 obtain ⟨n, e, h1, h2, h3⟩ := hn
 simp only [e]
 refine p_loopx (fun (a : Nat × List Nat × Nat) => [(20, .sh (vI a.1)), (19, .sh (vI n)), (6, .sh (.val (.int .u64 (a.2.2 : Nat)))), (5, .row 14), (0, .sh (cN x)), (1, .sh (cN y))]) (fun a => [(14, some (.rw 103 1 (SR ((a.2.1).map fun (x : Nat) => [PV.val (.int .u32 (x : Int))]))))]) (fun a => n - a.1)
   (fun a => a.1 ≤ n ∧ a.2.1.length = a.1 ∧ dok a.2.1 ∧ a.2.2 ≤ 1 ∧ val a.2.1 + a.2.2 * 4294967296 ^ a.1 = val x % 4294967296 ^ a.1 + val y % 4294967296 ^ a.1) (0, [], 0) (Weak.list ⟨rfl, rfl, rfl, rfl, rfl, rfl, trivial⟩ ⟨rfl, trivial⟩) ⟨by simp, by simp, dok_nil, by simp, by simp [val, Nat.mod_one]⟩ ?_
 rintro ⟨i, out, c⟩ ⟨hi, hl, hok, hc, hI⟩
 simp only [cN, vI] at *
 have ga := getD_val i hx
 have gb := getD_val i hy
 have la := getD_lt i hx
 have lb := getD_lt i hy
 (refine WA ?_ ?_<;>intros<;>rename_i hb K1 hK1)
 · (refine ⟨_,con_at x i hx (by omega),hK1 _ ?_⟩;clear hK1 K1;try simp only [put_some,cN,vI,vB,cR])
   (refine SA ?_;intros;rename_i K1 hK1)
   (refine ⟨_,con_at y i hy (by omega),hK1 _ ?_⟩;clear hK1 K1;try simp only [put_some,cN,vI,vB,cR])
   generalize x.getD i 0 = p at *
   generalize y.getD i 0 = q at *
   (refine SA ?_;intros)
   have hs := add_step hI ga gb
   refine p_lx _ _ _ _ (i + 1, out ++ [(p + q + c) % 4294967296], (p + q + c) / 4294967296) ?_ ⟨?_, ?_, ?_, ?_, ?_⟩ (Weak.list ⟨int_eq ?_, rfl, int_eq ?_, rfl, rfl, rfl, trivial⟩ ⟨rw_eq ?_, trivial⟩) <;> dsimp only
   · omega
   · omega
   · simp [hl]
   · exact dok_append.2 ⟨hok, dok_cons.2 ⟨Nat.mod_lt _ (by omega), dok_nil⟩⟩
   · omega
   · rw [val_append, hl]; simp only [val, Nat.mul_zero, Nat.add_zero]; exact hs
   · omega
   · omega
   · congr 2; omega
 · (refine ⟨_,con_trim (out ++ [c]) (dok_append.2 ⟨hok, dok_cons.2 ⟨by omega, dok_nil⟩⟩) (by simp; omega),hK1 _ ?_⟩;clear hK1 K1;try simp only [put_some,cN,vI,vB,cR])
   (refine SA ?_;intros)
   simp only [res1,res2,res3,AB,Nat.reduceEqDiff,↓reduceIte,Nat.reduceAdd,Nat.reduceMul,Nat.reducePow,Nat.reduceLeDiff,Nat.reduceLT]
   have ei : i = n := by omega
   subst ei
   rw [Nat.mod_eq_of_lt (Nat.lt_of_lt_of_le (val_lt hx) (Nat.pow_le_pow_right (by omega) (by omega))), Nat.mod_eq_of_lt (Nat.lt_of_lt_of_le (val_lt hy) (Nat.pow_le_pow_right (by omega) (by omega)))] at hI
   have : val (out ++ [c]) = val x + val y := by
     rw [val_append, hl]; simp only [val, Nat.mul_zero, Nat.add_zero]; rw [← hI, Nat.mul_comm]
   rw [this]
theorem con_nsub (x y : List Nat) (hx : dok x) (hy : dok y) (hle : val y ≤ val x) (h : x.length < 2 ^ 39) (h' : y.length < 2 ^ 39) : Con E 302 [cN x, cN y] (cN (dg (val x - val y))) := by
 refine con_of2 mixed (fn := Tryz.f302) (rs := [.tmp 4]) Tryz.func302 (by kernel_rfl) rfl (by kernel_rfl) rfl rfl ?_
 simp only [argE, Nat.reduceAdd, cN]
 (refine SA ?_;intros)
 refine p_loopx (fun (a : Nat × List Nat × Nat) => [(14, .sh (vI a.1)), (13, .sh (vI x.length)), (6, .sh (.val (.int .u64 (a.2.2 : Nat)))), (5, .row 11), (0, .sh (cN x)), (1, .sh (cN y))]) (fun a => [(11, some (.rw 103 1 (SR ((a.2.1).map fun (x : Nat) => [PV.val (.int .u32 (x : Int))]))))]) (fun a => x.length - a.1)
   (fun a => a.1 ≤ x.length ∧ a.2.1.length = a.1 ∧ dok a.2.1 ∧ a.2.2 ≤ 1 ∧ val a.2.1 + val y % 4294967296 ^ a.1 = val x % 4294967296 ^ a.1 + a.2.2 * 4294967296 ^ a.1) (0, [], 0) (Weak.list ⟨rfl, rfl, rfl, rfl, rfl, rfl, trivial⟩ ⟨rfl, trivial⟩) ⟨by simp, by simp, dok_nil, by simp, by simp [val, Nat.mod_one]⟩ ?_
 rintro ⟨i, out, c⟩ ⟨hi, hl, hok, hc, hI⟩
 simp only [cN, vI] at *
 have ga := getD_val i hx
 have gb := getD_val i hy
 have la := getD_lt i hx
 have lb := getD_lt i hy
 (refine WA ?_ ?_<;>intros<;>rename_i hb K1 hK1)
 · (refine ⟨_,con_at x i hx (by omega),hK1 _ ?_⟩;clear hK1 K1;try simp only [put_some,cN,vI,vB,cR])
   (refine SA ?_;intros;rename_i K1 hK1)
   (refine ⟨_,con_at y i hy (by omega),hK1 _ ?_⟩;clear hK1 K1;try simp only [put_some,cN,vI,vB,cR])
   generalize x.getD i 0 = p at *
   generalize y.getD i 0 = q at *
   (refine SA ?_;intros)
   have hd : ∃ d c' : Nat, d < 4294967296 ∧ c' ≤ 1 ∧ d + q + c = p + c' * 4294967296 := by
     by_cases hlt : q + c ≤ p
     · exact ⟨p - q - c, 0, by omega, by omega, by omega⟩
     · exact ⟨p + 4294967296 - q - c, 1, by omega, by omega, by omega⟩
   obtain ⟨d, c', hd1, hd2, hd3⟩ := hd
   have hs := sub_step hI ga gb hd3
   refine p_lx _ _ _ _ (i + 1, out ++ [d], c') ?_ ⟨?_, ?_, ?_, ?_, ?_⟩ (Weak.list ⟨int_eq ?_, rfl, int_eq ?_, rfl, rfl, rfl, trivial⟩ ⟨rw_eq ?_, trivial⟩) <;> dsimp only
   · omega
   · omega
   · simp [hl]
   · exact dok_append.2 ⟨hok, dok_cons.2 ⟨hd1, dok_nil⟩⟩
   · omega
   · rw [val_append, hl]; simp only [val, Nat.mul_zero, Nat.add_zero]; exact hs
   · omega
   · omega
   · congr 2; omega
 · (refine ⟨_,con_trim out hok (by omega),hK1 _ ?_⟩;clear hK1 K1;try simp only [put_some,cN,vI,vB,cR])
   (refine SA ?_;intros)
   simp only [res1,res2,res3,AB,Nat.reduceEqDiff,↓reduceIte,Nat.reduceAdd,Nat.reduceMul,Nat.reducePow,Nat.reduceLeDiff,Nat.reduceLT]
   have ei : i = x.length := by omega
   subst ei
   have hX := val_lt hx
   have hO := val_lt hok
   rw [hl] at hO
   rw [Nat.mod_eq_of_lt hX, Nat.mod_eq_of_lt (by omega)] at hI
   have hc0 : c = 0 := by
     rcases Nat.lt_or_ge c 1 with h9 | h9
     · omega
     · have : c = 1 := by omega
       subst this
       omega
   subst hc0
   rw [show val out = val x - val y by omega]
end Go.Pw
