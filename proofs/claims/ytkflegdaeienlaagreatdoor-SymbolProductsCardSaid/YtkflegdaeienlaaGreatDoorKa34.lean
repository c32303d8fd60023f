/- Merged from the working texts Pr6. -/
import Derived.Test.YtkflegdaeienlaaGreatDoorKa25
import Derived.Test.YtkflegdaeienlaaGreatDoorKa27
set_option linter.all false
set_option maxHeartbeats 400000
set_option maxRecDepth 100000
set_option linter.unusedVariables false
set_option linter.unusedSimpArgs false
namespace Go.Pw
open Go Go.Proofs
theorem div_next (a b k : Nat) (hb : b ≠ 0) : (b ≤ 2 * (a / 2 ^ (k + 1) % b) + a / 2 ^ k % 2 → a / 2 ^ k % b = 2 * (a / 2 ^ (k + 1) % b) + a / 2 ^ k % 2 - b ∧ a / 2 ^ k / b = 2 * (a / 2 ^ (k + 1) / b) + 1) ∧
   (2 * (a / 2 ^ (k + 1) % b) + a / 2 ^ k % 2 < b → a / 2 ^ k % b = 2 * (a / 2 ^ (k + 1) % b) + a / 2 ^ k % 2 ∧ a / 2 ^ k / b = 2 * (a / 2 ^ (k + 1) / b)) := by
 have e1 : a / 2 ^ (k + 1) = a / 2 ^ k / 2 := by rw [Nat.pow_succ, Nat.div_div_eq_div_mul]
 rw [e1]
 generalize a / 2 ^ k = n
 have h1 := Nat.div_add_mod (n / 2) b
 have h2 := Nat.mod_lt (n / 2) (Nat.pos_of_ne_zero hb)
 generalize n / 2 / b = q at *
 generalize n / 2 % b = r at *
 have h3 : n = b * (2 * q) + (2 * r + n % 2) := by rw [Nat.mul_left_comm]; omega
 constructor
 · intro h
   have h4 : n = b * (2 * q + 1) + (2 * r + n % 2 - b) := by rw [Nat.mul_add]; omega
   have hlt : 2 * r + n % 2 - b < b := by omega
   generalize 2 * r + n % 2 - b = s at *
   rw [h4, Nat.mul_add_mod, Nat.mod_eq_of_lt hlt, Nat.mul_add_div (by omega), Nat.div_eq_of_lt hlt]
   exact ⟨rfl, rfl⟩
 · intro h
   generalize 2 * r + n % 2 = s at *
   rw [h3, Nat.mul_add_mod, Nat.mod_eq_of_lt h, Nat.mul_add_div (by omega), Nat.div_eq_of_lt h]
   exact ⟨rfl, rfl⟩
theorem or_final (w k : Nat) (hw : w < 4294967296) (hd : w % 2 ^ (k % 32 + 1) = 0) : (((BitVec.ofInt IntKind.u32.bits (w : Int) ||| BitVec.ofInt IntKind.u32.bits (1 * 2 ^ min ((k : Int) % 32).toNat IntKind.u32.bits % 4294967296)).toNat : Int) % 4294967296).toNat = w + 2 ^ (k % 32) := by
 have hr : k % 32 < 32 := Nat.mod_lt _ (by omega)
 have e1 : min ((k : Int) % 32).toNat IntKind.u32.bits = k % 32 := by
   have : IntKind.u32.bits = 32 := rfl
   rw [this]; omega
 rw [e1]
 generalize k % 32 = r at *
 have hp : 2 ^ r < 2 ^ 32 := Nat.pow_lt_pow_right (by omega) hr
 have e2 : (1 * 2 ^ r % 4294967296 : Int) = ((2 ^ r : Nat) : Int) := by
   have : (2 : Int) ^ r = ((2 ^ r : Nat) : Int) := by simp
   rw [this]; omega
 rw [e2, or_nat IntKind.u32.bits w (2 ^ r) hw hp]
 have hw2 : w = w / 2 ^ (r + 1) * 2 ^ (r + 1) := by
   have := Nat.div_add_mod w (2 ^ (r + 1))
   rw [hd, Nat.mul_comm] at this
   omega
 have e3 := or_sum (m := w / 2 ^ (r + 1)) (b := 2 ^ r) (i := r + 1) (Nat.pow_lt_pow_right (by omega) (by omega))
 rw [← hw2] at e3
 have := Nat.or_lt_two_pow (n := 32) hw hp
 rw [e3] at this ⊢
 omega
theorem bit_free (Q k : Nat) : Q * 2 ^ (k + 1) / 4294967296 ^ (k / 32) % 4294967296 % 2 ^ (k % 32 + 1) = 0 := by
 have hr : k % 32 < 32 := Nat.mod_lt _ (by omega)
 rw [Nat.pow_succ, pow_split k]
 generalize k % 32 = r at *
 have e : Q * (4294967296 ^ (k / 32) * 2 ^ r * 2) = 4294967296 ^ (k / 32) * (Q * 2 ^ (r + 1)) := by rw [Nat.pow_succ]; simp only [Nat.mul_assoc, Nat.mul_left_comm]
 rw [e, Nat.mul_div_cancel_left _ (pow_pos' _), show (4294967296 : Nat) = 2 ^ (r + 1) * 2 ^ (31 - r) by rw [← Nat.pow_add, show r + 1 + (31 - r) = 32 by omega], Nat.mod_mul_right_mod, Nat.mul_mod_left]
theorem cmpI_ge (a b : Nat) : 0 ≤ cmpI a b ↔ b ≤ a := by unfold cmpI; split <;> (try split) <;> omega
theorem cmpI_gt (a b : Nat) : 0 < cmpI a b ↔ b < a := by unfold cmpI; split <;> (try split) <;> omega
theorem con_Div (a b : Nat) (hb0 : b ≠ 0) (h : (dg a).length < 2 ^ 39) (h' : (dg b).length < 2 ^ 39) : Con E 227 [cN (dg a), cN (dg b)] (.tup [cN (dg (a / b)), cN (dg (a % b))]) := by
 refine con_of2 mixed (fn := Tryz.f227) (rs := [.tmp 4, .tmp 5]) Tryz.func227 (by kernel_rfl) rfl (by kernel_rfl) rfl rfl ?_
 simp only [argE, Nat.reduceAdd]
 have hlen : bl a ≤ 32 * (dg a).length := by
   rw [bl_le_iff, Nat.pow_mul]
   exact len_dg_le.1 (Nat.le_refl _)
 simp only [cN]
 (refine SA ?_;intros;rename_i K1 hK1)
 (refine ⟨_,con_Bits a (by omega),hK1 _ ?_⟩;clear hK1 K1;try simp only [put_some,cN,vI,vB,cR])
 (refine SA ?_;intros)
 refine p_loopx (fun (s : Nat × List Nat) => [(8, .sh (vI ((s.1 : Int) - 1))), (7, .sh (cN (dg (a / 2 ^ s.1 % b)))), (6, .row 11), (0, .sh (cN (dg a))), (1, .sh (cN (dg b)))]) (fun s => [(11, some (.rw 103 1 (SR ((s.2).map fun (x : Nat) => [PV.val (.int .u32 (x : Int))]))))]) (fun s => s.1)
   (fun s => s.1 ≤ bl a ∧ s.2.length = (dg a).length ∧ dok s.2 ∧ val s.2 = a / 2 ^ s.1 / b * 2 ^ s.1) (bl a, List.replicate (dg a).length 0) (Weak.trans (Weak.nil 7 rfl) (Weak.list ⟨rfl, ?_, rfl, rfl, rfl, trivial⟩ ⟨rfl, trivial⟩)) ⟨by simp, by simp, dok_replicate _, ?_⟩ ?_
 · rw [Nat.div_eq_of_lt (bl_lt a)]; simp [dg_zero, cN, getS]
 · rw [Nat.div_eq_of_lt (bl_lt a)]; simp [val_replicate]
 rintro ⟨k, q⟩ ⟨hk, hl, hok, hI⟩
 simp only [vI] at *
 cases k with
 | zero =>
   simp only [cN]
   (refine SA ?_;intros;rename_i K1 hK1)
   (refine ⟨_,con_short q hok (by omega),hK1 _ ?_⟩;clear hK1 K1;try simp only [put_some,cN,vI,vB,cR])
   (refine SA ?_;intros)
   simp only [res1,res2,res3,AB,Nat.reduceEqDiff,↓reduceIte,Nat.reduceAdd,Nat.reduceMul,Nat.reducePow,Nat.reduceLeDiff,Nat.reduceLT]
   simp only [Nat.pow_zero, Nat.div_one, Nat.mul_one] at *
   rw [hI]
 | succ k =>
   have hk1 : ((k + 1 : Nat) : Int) - 1 = (k : Int) := by omega
   have hkl : k / 32 < (dg a).length := by omega
   simp only [hk1]
   simp only [cN]
   (refine SA ?_;intros;rename_i K1 hK1)
   (refine ⟨_,con_bit (dg a) k (dok_dg a) hkl (by omega),hK1 _ ?_⟩;clear hK1 K1;try simp only [put_some,cN,vI,vB,cR])
   have hbit : val (dg a) / 2 ^ k % 2 < 2 := Nat.mod_lt _ (by omega)
   rw [val_dg] at *
   have hRl : (dg (a / 2 ^ (k + 1) % b)).length ≤ (dg b).length := dg_mono (Nat.le_of_lt (Nat.mod_lt _ (Nat.pos_of_ne_zero hb0)))
   (refine SA ?_;intros;rename_i K1 hK1)
   (refine ⟨_,con_twice (dg (a / 2 ^ (k + 1) % b)) (a / 2 ^ k % 2) (dok_dg _) hbit (by omega),hK1 _ ?_⟩;clear hK1 K1;try simp only [put_some,cN,vI,vB,cR])
   rw [val_dg]
   obtain ⟨hn1, hn2⟩ := div_next a b k hb0
   have hR2 : 2 * (a / 2 ^ (k + 1) % b) + a / 2 ^ k % 2 < 2 * b := by have := Nat.mod_lt (a / 2 ^ (k + 1)) (Nat.pos_of_ne_zero hb0); omega
   generalize hR : 2 * (a / 2 ^ (k + 1) % b) + a / 2 ^ k % 2 = R at *
   have hRl2 : (dg R).length ≤ (dg b).length + 1 := by
     refine len_dg_le.2 (Nat.lt_of_lt_of_le hR2 ?_)
     have := len_dg_le (n := b) (k := (dg b).length)
     have := this.1 (Nat.le_refl _)
     rw [Nat.pow_succ]; omega
   (refine SA ?_;intros;rename_i K1 hK1)
   (refine ⟨_,con_Compare R b (by omega) (by omega),hK1 _ ?_⟩;clear hK1 K1;try simp only [put_some,cN,vI,vB,cR])
   have hge := cmpI_ge R b
   (refine WA ?_ ?_<;>intros<;>try rename_i K1 hK1)
   · obtain ⟨hm1, hm2⟩ := hn1 (by omega)
     (refine ⟨_,con_Sub (dg R) (dg b) (dok_dg _) (dok_dg _) (by rw [val_dg, val_dg]; omega) (by omega) (by omega),hK1 _ ?_⟩;clear hK1 K1;try simp only [put_some,cN,vI,vB,cR])
     rw [val_dg, val_dg]
     have e1 : ((k : Int) / 32).toNat = k / 32 := by omega
     have lq := getD_lt (k / 32) hok
     (refine SA ?_;intros)
     have hfree : q.getD (k / 32) 0 % 2 ^ (k % 32 + 1) = 0 := by
       rw [getD_val _ hok, hI]; exact bit_free _ _
     have hor := or_final (q.getD (k / 32) 0) k lq hfree
     have hlt : q.getD (k / 32) 0 + 2 ^ (k % 32) < 4294967296 := by
       rw [← hor]
       have : ∀ z : Int, (z % 4294967296).toNat < 4294967296 := fun z => by omega
       exact this _
     have hvs := val_set (l := q) (i := k / 32) (by omega) (q.getD (k / 32) 0 + 2 ^ (k % 32))
     have hps := pow_split k
     rw [Nat.mul_add] at hvs
     refine p_lx _ _ _ _ (k, q.set (k / 32) (q.getD (k / 32) 0 + 2 ^ (k % 32))) ?_ ⟨?_, ?_, ?_, ?_⟩ (Weak.list ⟨int_eq ?_, sl_eq' ?_, rfl, rfl, rfl, trivial⟩ ⟨rw_eq ?_, trivial⟩) <;> dsimp only
     · omega
     · omega
     · simp [hl]
     · exact dok_set hok _ hlt
     · rw [hm2, Nat.add_mul, Nat.one_mul, hps, ← hps]
       have e5 : 2 * (a / 2 ^ (k + 1) / b) * 2 ^ k = a / 2 ^ (k + 1) / b * 2 ^ (k + 1) := by rw [Nat.pow_succ]; simp only [Nat.mul_assoc, Nat.mul_left_comm, Nat.mul_comm]
       rw [e5, ← hI]
       omega
     · rw [hm1]
     · rw [e1, hor]
   · obtain ⟨hm1, hm2⟩ := hn2 (by omega)
     refine p_lx _ _ _ _ (k, q) ?_ ⟨?_, ?_, ?_, ?_⟩ (Weak.list ⟨int_eq ?_, sl_eq' ?_, rfl, rfl, rfl, trivial⟩ ⟨rfl, trivial⟩) <;> dsimp only
     all_goals first | omega | exact hl | exact hok | rw [hm1] | (rw [hI, hm2, Nat.pow_succ]; simp only [Nat.mul_assoc, Nat.mul_left_comm, Nat.mul_comm])
end Go.Pw
