/- Merged from the working texts Pr6 Pr7 Ps1. -/
import Derived.Test.YtkflegdaeienlaaGreatDoorKc25
import Derived.Test.YtkflegdaeienlaaGreatDoorKc26
import Derived.Test.YtkflegdaeienlaaGreatDoorKc23
import Derived.Test.YtkflegdaeienlaaGreatDoorKc30
set_option linter.all false
set_option maxHeartbeats 400000
set_option maxRecDepth 100000
set_option linter.unusedVariables false
set_option linter.unusedSimpArgs false
namespace Go.Pw
open Go Go.Proofs
theorem div_next (a b k : Nat) (hb : b ≠ 0) : (b ≤ 2 * (a / 2 ^ (k + 1) % b) + a / 2 ^ k % 2 → a / 2 ^ k % b = 2 * (a / 2 ^ (k + 1) % b) + a / 2 ^ k % 2 - b ∧ a / 2 ^ k / b = 2 * (a / 2 ^ (k + 1) / b) + 1) ∧
   (2 * (a / 2 ^ (k + 1) % b) + a / 2 ^ k % 2 < b → a / 2 ^ k % b = 2 * (a / 2 ^ (k + 1) % b) + a / 2 ^ k % 2 ∧ a / 2 ^ k / b = 2 * (a / 2 ^ (k + 1) / b)) := by
 have e1 : a / 2 ^ (k + 1) = a / 2 ^ k / 2 := by rw [Nat.pow_succ, Nat.div_div_eq_div_mul]
 rw [e1]
 generalize a / 2 ^ k = n
 have h1 := Nat.div_add_mod (n / 2) b
 have h2 := Nat.mod_lt (n / 2) (Nat.pos_of_ne_zero hb)
 generalize n / 2 / b = q at *
 generalize n / 2 % b = r at *
 have h3 : n = b * (2 * q) + (2 * r + n % 2) := by rw [Nat.mul_left_comm]; omega
 constructor
 · intro h
   have h4 : n = b * (2 * q + 1) + (2 * r + n % 2 - b) := by rw [Nat.mul_add]; omega
   have hlt : 2 * r + n % 2 - b < b := by omega
   generalize 2 * r + n % 2 - b = s at *
   rw [h4, Nat.mul_add_mod, Nat.mod_eq_of_lt hlt, Nat.mul_add_div (by omega), Nat.div_eq_of_lt hlt]
   exact ⟨rfl, rfl⟩
 · intro h
   generalize 2 * r + n % 2 = s at *
   rw [h3, Nat.mul_add_mod, Nat.mod_eq_of_lt h, Nat.mul_add_div (by omega), Nat.div_eq_of_lt h]
   exact ⟨rfl, rfl⟩
theorem or_final (w k : Nat) (hw : w < 4294967296) (hd : w % 2 ^ (k % 32 + 1) = 0) : (((BitVec.ofInt IntKind.u32.bits (w : Int) ||| BitVec.ofInt IntKind.u32.bits (1 * 2 ^ min ((k : Int) % 32).toNat IntKind.u32.bits % 4294967296)).toNat : Int) % 4294967296).toNat = w + 2 ^ (k % 32) := by
 have hr : k % 32 < 32 := Nat.mod_lt _ (by omega)
 have e1 : min ((k : Int) % 32).toNat IntKind.u32.bits = k % 32 := by
   have : IntKind.u32.bits = 32 := rfl
   rw [this]; omega
 rw [e1]
 generalize k % 32 = r at *
 have hp : 2 ^ r < 2 ^ 32 := Nat.pow_lt_pow_right (by omega) hr
 have e2 : (1 * 2 ^ r % 4294967296 : Int) = ((2 ^ r : Nat) : Int) := by
   have : (2 : Int) ^ r = ((2 ^ r : Nat) : Int) := by simp
   rw [this]; omega
 rw [e2, or_nat IntKind.u32.bits w (2 ^ r) hw hp]
 have hw2 : w = w / 2 ^ (r + 1) * 2 ^ (r + 1) := by
   have := Nat.div_add_mod w (2 ^ (r + 1))
   rw [hd, Nat.mul_comm] at this
   omega
 have e3 := or_sum (m := w / 2 ^ (r + 1)) (b := 2 ^ r) (i := r + 1) (Nat.pow_lt_pow_right (by omega) (by omega))
 rw [← hw2] at e3
 have := Nat.or_lt_two_pow (n := 32) hw hp
 rw [e3] at this ⊢
 omega
theorem bit_free (Q k : Nat) : Q * 2 ^ (k + 1) / 4294967296 ^ (k / 32) % 4294967296 % 2 ^ (k % 32 + 1) = 0 := by
 have hr : k % 32 < 32 := Nat.mod_lt _ (by omega)
 rw [Nat.pow_succ, pow_split k]
 generalize k % 32 = r at *
 have e : Q * (4294967296 ^ (k / 32) * 2 ^ r * 2) = 4294967296 ^ (k / 32) * (Q * 2 ^ (r + 1)) := by rw [Nat.pow_succ]; simp only [Nat.mul_assoc, Nat.mul_left_comm]
 rw [e, Nat.mul_div_cancel_left _ (pow_pos' _), show (4294967296 : Nat) = 2 ^ (r + 1) * 2 ^ (31 - r) by rw [← Nat.pow_add, show r + 1 + (31 - r) = 32 by omega], Nat.mod_mul_right_mod, Nat.mul_mod_left]
theorem cmpI_ge (a b : Nat) : 0 ≤ cmpI a b ↔ b ≤ a := by unfold cmpI; split <;> (try split) <;> omega
theorem cmpI_gt (a b : Nat) : 0 < cmpI a b ↔ b < a := by unfold cmpI; split <;> (try split) <;> omega
theorem con_Div (a b : Nat) (hb0 : b ≠ 0) (h : (dg a).length < 2 ^ 39) (h' : (dg b).length < 2 ^ 39) : Con E 227 [cN (dg a), cN (dg b)] (.tup [cN (dg (a / b)), cN (dg (a % b))]) := by
 refine con_of2 mixed (fn := Tryz.f227) (rs := [.tmp 4, .tmp 5]) Tryz.func227 (by kernel_rfl) rfl (by kernel_rfl) rfl rfl ?_
 simp only [argE, Nat.reduceAdd]
 have hlen : bl a ≤ 32 * (dg a).length := by
   rw [bl_le_iff, Nat.pow_mul]
   exact len_dg_le.1 (Nat.le_refl _)
 simp only [cN]
 (refine SA ?_;intros;rename_i K1 hK1)
 (refine ⟨_,con_Bits a (by omega),hK1 _ ?_⟩;clear hK1 K1;try simp only [put_some,cN,vI,vB,cR])
 (refine SA ?_;intros)
 refine p_loopx (fun (s : Nat × List Nat) => [(8, .sh (vI ((s.1 : Int) - 1))), (7, .sh (cN (dg (a / 2 ^ s.1 % b)))), (6, .row 11), (0, .sh (cN (dg a))), (1, .sh (cN (dg b)))]) (fun s => [(11, some (.rw 103 1 (SR ((s.2).map fun (x : Nat) => [PV.val (.int .u32 (x : Int))]))))]) (fun s => s.1)
   (fun s => s.1 ≤ bl a ∧ s.2.length = (dg a).length ∧ dok s.2 ∧ val s.2 = a / 2 ^ s.1 / b * 2 ^ s.1) (bl a, List.replicate (dg a).length 0) (Weak.trans (Weak.nil 7 rfl) (Weak.list ⟨rfl, ?_, rfl, rfl, rfl, trivial⟩ ⟨rfl, trivial⟩)) ⟨by simp, by simp, dok_replicate _, ?_⟩ ?_
 · rw [Nat.div_eq_of_lt (bl_lt a)]; simp [dg_zero, cN, getS]
 · rw [Nat.div_eq_of_lt (bl_lt a)]; simp [val_replicate]
 rintro ⟨k, q⟩ ⟨hk, hl, hok, hI⟩
 simp only [vI] at *
 cases k with
 | zero =>
   simp only [cN]
   (refine SA ?_;intros;rename_i K1 hK1)
   (refine ⟨_,con_short q hok (by omega),hK1 _ ?_⟩;clear hK1 K1;try simp only [put_some,cN,vI,vB,cR])
   (refine SA ?_;intros)
   simp only [res1,res2,res3,AB,Nat.reduceEqDiff,↓reduceIte,Nat.reduceAdd,Nat.reduceMul,Nat.reducePow,Nat.reduceLeDiff,Nat.reduceLT]
   simp only [Nat.pow_zero, Nat.div_one, Nat.mul_one] at *
   rw [hI]
 | succ k =>
   have hk1 : ((k + 1 : Nat) : Int) - 1 = (k : Int) := by omega
   have hkl : k / 32 < (dg a).length := by omega
   simp only [hk1]
   simp only [cN]
   (refine SA ?_;intros;rename_i K1 hK1)
   (refine ⟨_,con_bit (dg a) k (dok_dg a) hkl (by omega),hK1 _ ?_⟩;clear hK1 K1;try simp only [put_some,cN,vI,vB,cR])
   have hbit : val (dg a) / 2 ^ k % 2 < 2 := Nat.mod_lt _ (by omega)
   rw [val_dg] at *
   have hRl : (dg (a / 2 ^ (k + 1) % b)).length ≤ (dg b).length := dg_mono (Nat.le_of_lt (Nat.mod_lt _ (Nat.pos_of_ne_zero hb0)))
   (refine SA ?_;intros;rename_i K1 hK1)
   (refine ⟨_,con_twice (dg (a / 2 ^ (k + 1) % b)) (a / 2 ^ k % 2) (dok_dg _) hbit (by omega),hK1 _ ?_⟩;clear hK1 K1;try simp only [put_some,cN,vI,vB,cR])
   rw [val_dg]
   obtain ⟨hn1, hn2⟩ := div_next a b k hb0
   have hR2 : 2 * (a / 2 ^ (k + 1) % b) + a / 2 ^ k % 2 < 2 * b := by have := Nat.mod_lt (a / 2 ^ (k + 1)) (Nat.pos_of_ne_zero hb0); omega
   generalize hR : 2 * (a / 2 ^ (k + 1) % b) + a / 2 ^ k % 2 = R at *
   have hRl2 : (dg R).length ≤ (dg b).length + 1 := by
     refine len_dg_le.2 (Nat.lt_of_lt_of_le hR2 ?_)
     have := len_dg_le (n := b) (k := (dg b).length)
     have := this.1 (Nat.le_refl _)
     rw [Nat.pow_succ]; omega
   (refine SA ?_;intros;rename_i K1 hK1)
   (refine ⟨_,con_Compare R b (by omega) (by omega),hK1 _ ?_⟩;clear hK1 K1;try simp only [put_some,cN,vI,vB,cR])
   have hge := cmpI_ge R b
   (refine WA ?_ ?_<;>intros<;>try rename_i K1 hK1)
   · obtain ⟨hm1, hm2⟩ := hn1 (by omega)
     (refine ⟨_,con_Sub (dg R) (dg b) (dok_dg _) (dok_dg _) (by rw [val_dg, val_dg]; omega) (by omega) (by omega),hK1 _ ?_⟩;clear hK1 K1;try simp only [put_some,cN,vI,vB,cR])
     rw [val_dg, val_dg]
     have e1 : ((k : Int) / 32).toNat = k / 32 := by omega
     have lq := getD_lt (k / 32) hok
     (refine SA ?_;intros)
     have hfree : q.getD (k / 32) 0 % 2 ^ (k % 32 + 1) = 0 := by
       rw [getD_val _ hok, hI]; exact bit_free _ _
     have hor := or_final (q.getD (k / 32) 0) k lq hfree
     have hlt : q.getD (k / 32) 0 + 2 ^ (k % 32) < 4294967296 := by
       rw [← hor]
       have : ∀ z : Int, (z % 4294967296).toNat < 4294967296 := fun z => by omega
       exact this _
     have hvs := val_set (l := q) (i := k / 32) (by omega) (q.getD (k / 32) 0 + 2 ^ (k % 32))
     have hps := pow_split k
     rw [Nat.mul_add] at hvs
     refine p_lx _ _ _ _ (k, q.set (k / 32) (q.getD (k / 32) 0 + 2 ^ (k % 32))) ?_ ⟨?_, ?_, ?_, ?_⟩ (Weak.list ⟨int_eq ?_, sl_eq' ?_, rfl, rfl, rfl, trivial⟩ ⟨rw_eq ?_, trivial⟩) <;> dsimp only
     · omega
     · omega
     · simp [hl]
     · exact dok_set hok _ hlt
     · rw [hm2, Nat.add_mul, Nat.one_mul, hps, ← hps]
       have e5 : 2 * (a / 2 ^ (k + 1) / b) * 2 ^ k = a / 2 ^ (k + 1) / b * 2 ^ (k + 1) := by rw [Nat.pow_succ]; simp only [Nat.mul_assoc, Nat.mul_left_comm, Nat.mul_comm]
       rw [e5, ← hI]
       omega
     · rw [hm1]
     · rw [e1, hor]
   · obtain ⟨hm1, hm2⟩ := hn2 (by omega)
     refine p_lx _ _ _ _ (k, q) ?_ ⟨?_, ?_, ?_, ?_⟩ (Weak.list ⟨int_eq ?_, sl_eq' ?_, rfl, rfl, rfl, trivial⟩ ⟨rfl, trivial⟩) <;> dsimp only
     all_goals first | omega | exact hl | exact hok | rw [hm1] | (rw [hI, hm2, Nat.pow_succ]; simp only [Nat.mul_assoc, Nat.mul_left_comm, Nat.mul_comm])
end Go.Pw
set_option maxHeartbeats 2000000
set_option maxRecDepth 100000
set_option linter.unusedVariables false
set_option linter.unusedSimpArgs false
namespace Go.Pw
open Go Go.Proofs
theorem gcd_half {X Y G : Nat} (hG : G % 2 = 1) (he : X % 2 = 0) (h : Nat.gcd X Y = G) : Nat.gcd (X / 2) Y = G := by
 have hx : X = 2 * (X / 2) := by omega
 have hc : Nat.Coprime G 2 := by
   have := Nat.gcd_rec 2 G
   rw [hG] at this
   show Nat.gcd G 2 = 1
   rw [Nat.gcd_comm, this, Nat.gcd_one_left]
 apply Nat.dvd_antisymm
 · rw [← h]
   exact Nat.dvd_gcd (Nat.dvd_trans (Nat.gcd_dvd_left _ _) ⟨2, by omega⟩) (Nat.gcd_dvd_right _ _)
 · refine Nat.dvd_gcd ?_ (h ▸ Nat.gcd_dvd_right X Y)
   have h1 : G ∣ 2 * (X / 2) := by rw [← hx, ← h]; exact Nat.gcd_dvd_left _ _
   exact hc.dvd_of_dvd_mul_left h1
theorem gcd_half' {X Y G : Nat} (hG : G % 2 = 1) (he : Y % 2 = 0) (h : Nat.gcd X Y = G) : Nat.gcd X (Y / 2) = G := by
 rw [Nat.gcd_comm] at h ⊢; exact gcd_half hG he h
theorem dg_head {n : Nat} (h : n ≠ 0) : (dg n).getD 0 0 = n % 4294967296 ∧ 0 < (dg n).length := by rw [dg_pos h]; simp
theorem con_Gcd (a b : Nat) (h : (dg a).length < 2 ^ 39) (h' : (dg b).length < 2 ^ 39) : Con E 140 [cN (dg a), cN (dg b)] (cN (dg (Nat.gcd a b))) := by
 refine con_of2 mixed (fn := Tryz.f140) (rs := [.tmp 4]) Tryz.func140 (by kernel_rfl) rfl (by kernel_rfl) rfl rfl ?_
 simp only [argE, Nat.reduceAdd, cN]
 (refine VA ?_ ?_ ?_<;>intros<;>rename_i hb)
 · simp (disch := omega) only [res1,res2,res3,AB,Nat.reduceEqDiff,↓reduceIte,Nat.reduceAdd,Nat.reduceMul,Nat.reducePow,Nat.reduceLeDiff,Nat.reduceLT]
   have : a = 0 := dg_ne_nil.1 (List.length_eq_zero_iff.1 (by omega))
   subst this
   simp
 · simp (disch := omega) only [res1,res2,res3,AB,Nat.reduceEqDiff,↓reduceIte,Nat.reduceAdd,Nat.reduceMul,Nat.reducePow,Nat.reduceLeDiff,Nat.reduceLT]
   have : b = 0 := dg_ne_nil.1 (List.length_eq_zero_iff.1 (by omega))
   subst this
   simp
 · have ha0 : a ≠ 0 := fun e => by subst e; simp [dg_zero] at *
   have hb0 : b ≠ 0 := fun e => by subst e; simp [dg_zero] at *
   have hlen : bl a ≤ 32 * (dg a).length := by
     rw [bl_le_iff, Nat.pow_mul]
     exact len_dg_le.1 (Nat.le_refl _)
   refine p_loopx (fun (s : Nat × Nat × Nat) => [(0, .sh (cN (dg s.1))), (1, .sh (cN (dg s.2.1))), (5, .sh (vI s.2.2))]) (fun s => []) (fun s => s.1)
     (fun s => s.1 ≠ 0 ∧ s.2.1 ≠ 0 ∧ s.1 * 2 ^ s.2.2 ≤ a ∧ s.2.1 ≤ b ∧ Nat.gcd s.1 s.2.1 * 2 ^ s.2.2 = Nat.gcd a b) (a, b, 0) (Weak.list ⟨rfl, rfl, rfl, trivial⟩ trivial) ⟨ha0, hb0, by simp, by simp, by simp⟩ ?_
   rintro ⟨X, Y, t⟩ ⟨hX, hY, hXa, hYb, hI⟩
   simp only [cN, vI] at *
   obtain ⟨hx1, hx2⟩ := dg_head hX
   obtain ⟨hy1, hy2⟩ := dg_head hY
   have ht : t < bl a := by
     have h1 : 2 ^ t ≤ X * 2 ^ t := Nat.le_mul_of_pos_left _ (by omega)
     apply Nat.lt_of_not_le
     intro hle
     have := (bl_le_iff a t).1 hle
     omega
   have hxl : (dg X).length < 2 ^ 39 := Nat.lt_of_le_of_lt (dg_mono (Nat.le_trans (Nat.le_mul_of_pos_right _ (Nat.pow_pos (by omega))) hXa)) h
   have hyl : (dg Y).length < 2 ^ 39 := Nat.lt_of_le_of_lt (dg_mono hYb) h'
   (refine VA ?_ ?_ ?_<;>intros;rename_i hb K1 hK1;rotate_left;rename_i hb;rotate_left;rename_i hb;rotate_right 2)
   · (refine ⟨_,con_half (dg X) (dok_dg X) (by omega),hK1 _ ?_⟩;clear hK1 K1;try simp only [put_some,cN,vI,vB,cR])
     rw [val_dg]
     (refine SA ?_;intros;rename_i K1 hK1)
     (refine ⟨_,con_half (dg Y) (dok_dg Y) (by omega),hK1 _ ?_⟩;clear hK1 K1;try simp only [put_some,cN,vI,vB,cR])
     rw [val_dg]
     (refine SA ?_;intros)
     refine p_lx _ _ _ _ (X / 2, Y / 2, t + 1) ?_ ⟨?_, ?_, ?_, ?_, ?_⟩ (Weak.list ⟨rfl, rfl, int_eq ?_, trivial⟩ trivial) <;> dsimp only
     · omega
     · omega
     · omega
     · have : X / 2 * 2 ^ (t + 1) ≤ X * 2 ^ t := by
         rw [Nat.pow_succ, Nat.mul_comm (2 ^ t), ← Nat.mul_assoc]
         exact Nat.mul_le_mul_right _ (Nat.div_mul_le_self X 2)
       omega
     · omega
     · have h1 : Nat.gcd X Y = Nat.gcd (X / 2) (Y / 2) * 2 := by
         rw [← Nat.gcd_mul_right]
         congr 1 <;> omega
       rw [← hI, h1, Nat.pow_succ]; simp only [Nat.mul_assoc, Nat.mul_left_comm, Nat.mul_comm]
     · omega
   · have hodd : Nat.gcd X Y % 2 = 1 := by
       apply Classical.byContradiction
       intro hc
       have h2 : 2 ∣ Nat.gcd X Y := by omega
       have h3 := Nat.dvd_trans h2 (Nat.gcd_dvd_left X Y)
       have h4 := Nat.dvd_trans h2 (Nat.gcd_dvd_right X Y)
       clear hI hXa
       omega
     generalize hG : Nat.gcd X Y = G at *
     have hGa : G * 2 ^ t ≤ a := by rw [hI]; exact Nat.gcd_le_left _ (by omega)
     clear hXa hYb hx1 hx2 hy1 hy2
     refine p_loopx (fun (s : Nat × Nat) => [(0, .sh (cN (dg s.1))), (1, .sh (cN (dg s.2))), (5, .sh (vI t))]) (fun s => []) (fun s => s.1 + s.2)
       (fun s => s.1 ≠ 0 ∧ Nat.gcd s.1 s.2 = G ∧ (dg s.1).length < 2 ^ 39 ∧ (dg s.2).length < 2 ^ 39) (X, Y) (Weak.list ⟨rfl, rfl, rfl, trivial⟩ trivial) ⟨hX, hG, hxl, hyl⟩ ?_
     rintro ⟨X, Y⟩ ⟨hX, hG, hxl, hyl⟩
     simp only [cN, vI] at *
     (refine WA ?_ ?_<;>intros<;>rename_i hb)
     · have hY : Y ≠ 0 := fun e => by subst e; simp [dg_zero] at *
       refine p_loopx (fun (s : Nat) => [(0, .sh (cN (dg s))), (1, .sh (cN (dg Y))), (5, .sh (vI t))]) (fun s => []) (fun s => s)
         (fun s => s ≠ 0 ∧ Nat.gcd s Y = G ∧ (dg s).length < 2 ^ 39 ∧ s ≤ X) X (Weak.list ⟨rfl, rfl, rfl, trivial⟩ trivial) ⟨hX, hG, hxl, Nat.le_refl _⟩ ?_
       rintro Z ⟨hZ, hZG, hzl, hZX⟩
       simp only [cN, vI] at *
       obtain ⟨hz1, hz2⟩ := dg_head hZ
       (refine WA ?_ ?_<;>intros;rename_i hb K1 hK1;rotate_left;rename_i hb;rotate_right)
       · (refine ⟨_,con_half (dg Z) (dok_dg Z) (by omega),hK1 _ ?_⟩;clear hK1 K1;try simp only [put_some,cN,vI,vB,cR])
         rw [val_dg]
         rw [hz1] at hb
         (refine SA ?_;intros)
         refine p_lx _ _ _ _ (Z / 2) ?_ ⟨?_, ?_, ?_, ?_⟩ (Weak.list ⟨rfl, rfl, rfl, trivial⟩ trivial)
         · omega
         · omega
         · exact gcd_half hodd (by omega) hZG
         · exact Nat.lt_of_le_of_lt (dg_mono (Nat.div_le_self _ _)) hzl
         · omega
       · refine p_loopx (fun (s : Nat) => [(0, .sh (cN (dg Z))), (1, .sh (cN (dg s))), (5, .sh (vI t))]) (fun s => []) (fun s => s)
           (fun s => s ≠ 0 ∧ Nat.gcd Z s = G ∧ (dg s).length < 2 ^ 39 ∧ s ≤ Y) Y (Weak.list ⟨rfl, rfl, rfl, trivial⟩ trivial) ⟨hY, hZG, hyl, Nat.le_refl _⟩ ?_
         rintro W ⟨hW, hWG, hwl, hWY⟩
         simp only [cN, vI] at *
         obtain ⟨hw1, hw2⟩ := dg_head hW
         (refine WA ?_ ?_<;>intros<;>rename_i hb K1 hK1)
         · (refine ⟨_,con_half (dg W) (dok_dg W) (by omega),hK1 _ ?_⟩;clear hK1 K1;try simp only [put_some,cN,vI,vB,cR])
           rw [val_dg]
           rw [hw1] at hb
           (refine SA ?_;intros)
           refine p_lx _ _ _ _ (W / 2) ?_ ⟨?_, ?_, ?_, ?_⟩ (Weak.list ⟨rfl, rfl, rfl, trivial⟩ trivial)
           · omega
           · omega
           · exact gcd_half' hodd (by omega) hWG
           · exact Nat.lt_of_le_of_lt (dg_mono (Nat.div_le_self _ _)) hwl
           · omega
         · (refine ⟨_,con_Compare Z W (by omega) (by omega),hK1 _ ?_⟩;clear hK1 K1;try simp only [put_some,cN,vI,vB,cR])
           have hgt := cmpI_gt Z W
           (refine WA ?_ ?_<;>intros<;>rename_i hb K1 hK1)
           · (refine ⟨_,con_Sub (dg Z) (dg W) (dok_dg _) (dok_dg _) (by rw [val_dg, val_dg]; omega) (by omega) (by omega),hK1 _ ?_⟩;clear hK1 K1;try simp only [put_some,cN,vI,vB,cR])
             rw [val_dg, val_dg]
             (refine SA ?_;intros)
             refine p_lx _ _ _ _ (W, Z - W) ?_ ⟨?_, ?_, ?_, ?_⟩ (Weak.list ⟨rfl, rfl, rfl, trivial⟩ trivial) <;> dsimp only
             · omega
             · exact hW
             · rw [Nat.gcd_sub_self_right (by omega), Nat.gcd_comm]; exact hWG
             · exact hwl
             · exact Nat.lt_of_le_of_lt (dg_mono (Nat.sub_le _ _)) hzl
           · (refine ⟨_,con_Sub (dg W) (dg Z) (dok_dg _) (dok_dg _) (by rw [val_dg, val_dg]; omega) (by omega) (by omega),hK1 _ ?_⟩;clear hK1 K1;try simp only [put_some,cN,vI,vB,cR])
             rw [val_dg, val_dg]
             (refine SA ?_;intros)
             refine p_lx _ _ _ _ (Z, W - Z) ?_ ⟨?_, ?_, ?_, ?_⟩ (Weak.list ⟨rfl, rfl, rfl, trivial⟩ trivial) <;> dsimp only
             · omega
             · exact hZ
             · rw [Nat.gcd_sub_self_right (by omega)]; exact hWG
             · exact hzl
             · exact Nat.lt_of_le_of_lt (dg_mono (Nat.sub_le _ _)) hwl
     · have hY : Y = 0 := dg_ne_nil.1 (List.length_eq_zero_iff.1 (by omega))
       subst hY
       rw [Nat.gcd_zero_right] at hG
       subst hG
       refine p_loopx (fun (s : Nat) => [(0, .sh (cN (dg (X * 2 ^ s)))), (7, .sh (vI s)), (5, .sh (vI t))]) (fun s => []) (fun s => t - s)
         (fun s => s ≤ t) 0 (Weak.list ⟨by simp [cN, getS], rfl, rfl, trivial⟩ trivial) (Nat.zero_le _) ?_
       rintro s hs
       simp only [cN, vI] at *
       have hsl : (dg (X * 2 ^ s)).length < 2 ^ 39 := Nat.lt_of_le_of_lt (dg_mono (Nat.le_trans (Nat.mul_le_mul_left X (Nat.pow_le_pow_right (by omega) hs)) hGa)) h
       (refine WA ?_ ?_<;>intros;rename_i hb K1 hK1;rotate_left;rename_i hb;rotate_right)
       · (refine ⟨_,con_twice (dg (X * 2 ^ s)) 0 (dok_dg _) (by omega) (by omega),hK1 _ ?_⟩;clear hK1 K1;try simp only [put_some,cN,vI,vB,cR])
         rw [val_dg]
         (refine SA ?_;intros)
         refine p_lx _ _ _ _ (s + 1) ?_ ?_ (Weak.list ⟨sl_eq' ?_, int_eq ?_, rfl, trivial⟩ trivial)
         · omega
         · omega
         · rw [Nat.add_zero, Nat.pow_succ]; congr 1; simp only [Nat.mul_assoc, Nat.mul_left_comm, Nat.mul_comm]
         · omega
       · have : s = t := by omega
         subst this
         simp (disch := omega) only [res1,res2,res3,AB,Nat.reduceEqDiff,↓reduceIte,Nat.reduceAdd,Nat.reduceMul,Nat.reducePow,Nat.reduceLeDiff,Nat.reduceLT]
         rw [hI]
   · have hodd : Nat.gcd X Y % 2 = 1 := by
       apply Classical.byContradiction
       intro hc
       have h2 : 2 ∣ Nat.gcd X Y := by omega
       have h3 := Nat.dvd_trans h2 (Nat.gcd_dvd_left X Y)
       have h4 := Nat.dvd_trans h2 (Nat.gcd_dvd_right X Y)
       clear hI hXa
       omega
     generalize hG : Nat.gcd X Y = G at *
     have hGa : G * 2 ^ t ≤ a := by rw [hI]; exact Nat.gcd_le_left _ (by omega)
     clear hXa hYb hx1 hx2 hy1 hy2
     refine p_loopx (fun (s : Nat × Nat) => [(0, .sh (cN (dg s.1))), (1, .sh (cN (dg s.2))), (5, .sh (vI t))]) (fun s => []) (fun s => s.1 + s.2)
       (fun s => s.1 ≠ 0 ∧ Nat.gcd s.1 s.2 = G ∧ (dg s.1).length < 2 ^ 39 ∧ (dg s.2).length < 2 ^ 39) (X, Y) (Weak.list ⟨rfl, rfl, rfl, trivial⟩ trivial) ⟨hX, hG, hxl, hyl⟩ ?_
     rintro ⟨X, Y⟩ ⟨hX, hG, hxl, hyl⟩
     simp only [cN, vI] at *
     (refine WA ?_ ?_<;>intros<;>rename_i hb)
     · have hY : Y ≠ 0 := fun e => by subst e; simp [dg_zero] at *
       refine p_loopx (fun (s : Nat) => [(0, .sh (cN (dg s))), (1, .sh (cN (dg Y))), (5, .sh (vI t))]) (fun s => []) (fun s => s)
         (fun s => s ≠ 0 ∧ Nat.gcd s Y = G ∧ (dg s).length < 2 ^ 39 ∧ s ≤ X) X (Weak.list ⟨rfl, rfl, rfl, trivial⟩ trivial) ⟨hX, hG, hxl, Nat.le_refl _⟩ ?_
       rintro Z ⟨hZ, hZG, hzl, hZX⟩
       simp only [cN, vI] at *
       obtain ⟨hz1, hz2⟩ := dg_head hZ
       (refine WA ?_ ?_<;>intros;rename_i hb K1 hK1;rotate_left;rename_i hb;rotate_right)
       · (refine ⟨_,con_half (dg Z) (dok_dg Z) (by omega),hK1 _ ?_⟩;clear hK1 K1;try simp only [put_some,cN,vI,vB,cR])
         rw [val_dg]
         rw [hz1] at hb
         (refine SA ?_;intros)
         refine p_lx _ _ _ _ (Z / 2) ?_ ⟨?_, ?_, ?_, ?_⟩ (Weak.list ⟨rfl, rfl, rfl, trivial⟩ trivial)
         · omega
         · omega
         · exact gcd_half hodd (by omega) hZG
         · exact Nat.lt_of_le_of_lt (dg_mono (Nat.div_le_self _ _)) hzl
         · omega
       · refine p_loopx (fun (s : Nat) => [(0, .sh (cN (dg Z))), (1, .sh (cN (dg s))), (5, .sh (vI t))]) (fun s => []) (fun s => s)
           (fun s => s ≠ 0 ∧ Nat.gcd Z s = G ∧ (dg s).length < 2 ^ 39 ∧ s ≤ Y) Y (Weak.list ⟨rfl, rfl, rfl, trivial⟩ trivial) ⟨hY, hZG, hyl, Nat.le_refl _⟩ ?_
         rintro W ⟨hW, hWG, hwl, hWY⟩
         simp only [cN, vI] at *
         obtain ⟨hw1, hw2⟩ := dg_head hW
         (refine WA ?_ ?_<;>intros<;>rename_i hb K1 hK1)
         · (refine ⟨_,con_half (dg W) (dok_dg W) (by omega),hK1 _ ?_⟩;clear hK1 K1;try simp only [put_some,cN,vI,vB,cR])
           rw [val_dg]
           rw [hw1] at hb
           (refine SA ?_;intros)
           refine p_lx _ _ _ _ (W / 2) ?_ ⟨?_, ?_, ?_, ?_⟩ (Weak.list ⟨rfl, rfl, rfl, trivial⟩ trivial)
           · omega
           · omega
           · exact gcd_half' hodd (by omega) hWG
           · exact Nat.lt_of_le_of_lt (dg_mono (Nat.div_le_self _ _)) hwl
           · omega
         · (refine ⟨_,con_Compare Z W (by omega) (by omega),hK1 _ ?_⟩;clear hK1 K1;try simp only [put_some,cN,vI,vB,cR])
           have hgt := cmpI_gt Z W
           (refine WA ?_ ?_<;>intros<;>rename_i hb K1 hK1)
           · (refine ⟨_,con_Sub (dg Z) (dg W) (dok_dg _) (dok_dg _) (by rw [val_dg, val_dg]; omega) (by omega) (by omega),hK1 _ ?_⟩;clear hK1 K1;try simp only [put_some,cN,vI,vB,cR])
             rw [val_dg, val_dg]
             (refine SA ?_;intros)
             refine p_lx _ _ _ _ (W, Z - W) ?_ ⟨?_, ?_, ?_, ?_⟩ (Weak.list ⟨rfl, rfl, rfl, trivial⟩ trivial) <;> dsimp only
             · omega
             · exact hW
             · rw [Nat.gcd_sub_self_right (by omega), Nat.gcd_comm]; exact hWG
             · exact hwl
             · exact Nat.lt_of_le_of_lt (dg_mono (Nat.sub_le _ _)) hzl
           · (refine ⟨_,con_Sub (dg W) (dg Z) (dok_dg _) (dok_dg _) (by rw [val_dg, val_dg]; omega) (by omega) (by omega),hK1 _ ?_⟩;clear hK1 K1;try simp only [put_some,cN,vI,vB,cR])
             rw [val_dg, val_dg]
             (refine SA ?_;intros)
             refine p_lx _ _ _ _ (Z, W - Z) ?_ ⟨?_, ?_, ?_, ?_⟩ (Weak.list ⟨rfl, rfl, rfl, trivial⟩ trivial) <;> dsimp only
             · omega
             · exact hZ
             · rw [Nat.gcd_sub_self_right (by omega)]; exact hWG
             · exact hzl
             · exact Nat.lt_of_le_of_lt (dg_mono (Nat.sub_le _ _)) hwl
     · have hY : Y = 0 := dg_ne_nil.1 (List.length_eq_zero_iff.1 (by omega))
       subst hY
       rw [Nat.gcd_zero_right] at hG
       subst hG
       refine p_loopx (fun (s : Nat) => [(0, .sh (cN (dg (X * 2 ^ s)))), (7, .sh (vI s)), (5, .sh (vI t))]) (fun s => []) (fun s => t - s)
         (fun s => s ≤ t) 0 (Weak.list ⟨by simp [cN, getS], rfl, rfl, trivial⟩ trivial) (Nat.zero_le _) ?_
       rintro s hs
       simp only [cN, vI] at *
       have hsl : (dg (X * 2 ^ s)).length < 2 ^ 39 := Nat.lt_of_le_of_lt (dg_mono (Nat.le_trans (Nat.mul_le_mul_left X (Nat.pow_le_pow_right (by omega) hs)) hGa)) h
       (refine WA ?_ ?_<;>intros;rename_i hb K1 hK1;rotate_left;rename_i hb;rotate_right)
       · (refine ⟨_,con_twice (dg (X * 2 ^ s)) 0 (dok_dg _) (by omega) (by omega),hK1 _ ?_⟩;clear hK1 K1;try simp only [put_some,cN,vI,vB,cR])
         rw [val_dg]
         (refine SA ?_;intros)
         refine p_lx _ _ _ _ (s + 1) ?_ ?_ (Weak.list ⟨sl_eq' ?_, int_eq ?_, rfl, trivial⟩ trivial)
         · omega
         · omega
         · rw [Nat.add_zero, Nat.pow_succ]; congr 1; simp only [Nat.mul_assoc, Nat.mul_left_comm, Nat.mul_comm]
         · omega
       · have : s = t := by omega
         subst this
         simp (disch := omega) only [res1,res2,res3,AB,Nat.reduceEqDiff,↓reduceIte,Nat.reduceAdd,Nat.reduceMul,Nat.reducePow,Nat.reduceLeDiff,Nat.reduceLT]
         rw [hI]
end Go.Pw
set_option maxRecDepth 100000
set_option linter.unusedVariables false
set_option linter.unusedSimpArgs false
namespace Go.Pw
open Go Go.Proofs
theorem con_rone : Con E 226 [] (cN [1]) := by
 refine con_of2 mixed (fn := Tryz.f226) (rs := [.tmp 0]) Tryz.func226 (by kernel_rfl) rfl (by kernel_rfl) rfl rfl ?_
 simp only [argE, Nat.reduceAdd, cN, vI, vB]
 (refine SD ?_;intros)
 simp (disch := omega) only [res1,res2,res3,AB,AD,Nat.reduceEqDiff,↓reduceIte,Nat.reduceAdd,Nat.reduceMul,Nat.reducePow,Nat.reduceLeDiff,Nat.reduceLT]
 all_goals rfl
theorem con_rFault (e : Int) : Con E 118 [vI e] (.agg (cR (flt e))) := by
 refine con_of2 mixed (fn := Tryz.f118) (rs := [.cell 2 80]) Tryz.func118 (by kernel_rfl) rfl (by kernel_rfl) rfl rfl ?_
 simp only [argE, Nat.reduceAdd, cN, vI, vB]
 (refine SD ?_;intros)
 simp (disch := omega) only [resc1,resc2,rescc,rest1c,AB,AD,Nat.reduceEqDiff,↓reduceIte,Nat.reduceAdd,Nat.reduceMul,Nat.reducePow,Nat.reduceLeDiff,Nat.reduceLT]
 all_goals rfl
theorem con_rLong (n : Nat) (h : (dg n).length < 2 ^ 40) : Con E 225 [cN (dg n)] (vB (decide (4096 < bl n))) := by
 refine con_of2 mixed (fn := Tryz.f225) (rs := [.tmp 2]) Tryz.func225 (by kernel_rfl) rfl (by kernel_rfl) rfl rfl ?_
 simp only [argE, Nat.reduceAdd, cN, vI, vB]
 (refine SD ?_;intros;rename_i K1 hK1)
 (refine ⟨_,con_Bits n h,hK1 _ ?_⟩;clear hK1 K1;try simp only [put_some,cN,vI,vB,cR])
 (refine SD ?_;intros)
 simp only [res1,res2,res3,AB,AD,Nat.reduceEqDiff,↓reduceIte,Nat.reduceAdd,Nat.reduceMul,Nat.reducePow,Nat.reduceLeDiff,Nat.reduceLT]
 congr 2
 rw [decide_eq_decide]
 omega
theorem con_rExact (s : Bool) (n d : Nat) (hd0 : d ≠ 0) (h : (dg n).length < 2 ^ 38) (h' : (dg d).length < 2 ^ 38) : Con E 162 [vB s, cN (dg n), cN (dg d)] (.agg (cR ⟨0, s && decide (n / Nat.gcd n d ≠ 0), dg (n / Nat.gcd n d), dg (d / Nat.gcd n d)⟩)) := by
 refine con_of2 mixed (fn := Tryz.f162) (rs := [.cell 6 80]) Tryz.func162 (by kernel_rfl) rfl (by kernel_rfl) rfl rfl ?_
 simp only [argE, Nat.reduceAdd, cN, vI, vB]
 by_cases n0 : n = 0
 · subst n0
   rw [Nat.gcd_zero_left, Nat.zero_div, Nat.div_self (Nat.pos_of_ne_zero hd0), dg_zero, dg_one]
   (refine SD ?_;intros;rename_i hb K1 hK1)
   (refine ⟨_,con_rone,hK1 _ ?_⟩;clear hK1 K1;try simp only [put_some,cN,vI,vB,cR])
   (refine SD ?_;intros)
   simp (disch := omega) only [resc1,resc2,rescc,rest1c,AB,AD,Nat.reduceEqDiff,↓reduceIte,Nat.reduceAdd,Nat.reduceMul,Nat.reducePow,Nat.reduceLeDiff,Nat.reduceLT]
   cases s <;> rfl
 have hn0 : (dg n).length ≠ 0 := fun e => n0 (dg_ne_nil.1 (List.length_eq_zero_iff.1 e))
 have hg : Nat.gcd n d ≠ 0 := by have := gcd_div_pos (n := n) hd0; omega
 have hgl : (dg (Nat.gcd n d)).length ≠ 0 := fun e => hg (dg_ne_nil.1 (List.length_eq_zero_iff.1 e))
 have hgm := dg_mono (Nat.gcd_le_right n (Nat.pos_of_ne_zero hd0))
 have hng : (s && decide (n / Nat.gcd n d ≠ 0)) = s := by
   have := Nat.div_pos (Nat.gcd_le_left d (Nat.pos_of_ne_zero n0)) (Nat.pos_of_ne_zero hg)
   rw [decide_eq_true (by omega), Bool.and_true]
 rw [hng]
 (refine SD ?_;intros;rename_i hb K1 hK1)
 have l1 := dg_mono (Nat.div_le_self n (Nat.gcd n d))
 have l2 := dg_mono (Nat.div_le_self d (Nat.gcd n d))
 have htp := topne hg
 have hone := dgone hg
 (refine ⟨_,con_Gcd n d (by omega) (by omega),hK1 _ ?_⟩;clear hK1 K1;try simp only [put_some,cN,vI,vB,cR])
 (refine VD ?_ ?_ ?_<;>intros;rename_i hb K1 hK1;rotate_left;rename_i hb;rotate_left;rename_i hb K1 hK1;rotate_right 2)
 · (refine ⟨_,con_Div n (Nat.gcd n d) hg (by omega) (by omega),hK1 _ ?_⟩;clear hK1 K1;try simp only [put_some,cN,vI,vB,cR])
   (refine SD ?_;intros;rename_i K1 hK1)
   (refine ⟨_,con_Div d (Nat.gcd n d) hg (by omega) (by omega),hK1 _ ?_⟩;clear hK1 K1;try simp only [put_some,cN,vI,vB,cR])
   (refine SD ?_;intros)
   simp (disch := omega) only [resc1,resc2,rescc,rest1c,AB,AD,Nat.reduceEqDiff,↓reduceIte,Nat.reduceAdd,Nat.reduceMul,Nat.reducePow,Nat.reduceLeDiff,Nat.reduceLT]
   all_goals rfl
 · have hl1 : (dg (Nat.gcd n d)).length = 1 := by omega
   simp only [hl1, Nat.sub_self] at htp
   have hg1 := hone.1 ⟨hl1, by omega⟩
   simp (disch := omega) only [resc1,resc2,rescc,rest1c,AB,AD,Nat.reduceEqDiff,↓reduceIte,Nat.reduceAdd,Nat.reduceMul,Nat.reducePow,Nat.reduceLeDiff,Nat.reduceLT]
   rw [hg1, Nat.div_one, Nat.div_one]
   all_goals rfl
 · (refine ⟨_,con_Div n (Nat.gcd n d) hg (by omega) (by omega),hK1 _ ?_⟩;clear hK1 K1;try simp only [put_some,cN,vI,vB,cR])
   (refine SD ?_;intros;rename_i K1 hK1)
   (refine ⟨_,con_Div d (Nat.gcd n d) hg (by omega) (by omega),hK1 _ ?_⟩;clear hK1 K1;try simp only [put_some,cN,vI,vB,cR])
   (refine SD ?_;intros)
   simp (disch := omega) only [resc1,resc2,rescc,rest1c,AB,AD,Nat.reduceEqDiff,↓reduceIte,Nat.reduceAdd,Nat.reduceMul,Nat.reducePow,Nat.reduceLeDiff,Nat.reduceLT]
   all_goals rfl
theorem con_rBound (x : Rt) (n d : Nat) (hn : x.num = dg n) (hd : x.den = dg d) (h : (dg n).length < 2 ^ 40) (h' : (dg d).length < 2 ^ 40) : Con E 161 [.agg (cR x)] (.agg (cR (if 4096 < bl n ∨ 4096 < bl d then flt 4 else x))) := by
 obtain ⟨fault, neg, num, den⟩ := x
 dsimp only at hn hd
 subst hn
 subst hd
 refine con_of2 mixed (fn := Tryz.f161) (rs := [.cell 2 80]) Tryz.func161 (by kernel_rfl) rfl (by kernel_rfl) rfl rfl ?_
 simp only [argE, Nat.reduceAdd, cN, vI, vB, cR]
 have c1 := con_rLong n h
 have c2 := con_rLong d h'
 by_cases b1 : 4096 < bl n
 · rw [decide_eq_true b1] at c1
   rw [if_pos (Or.inl b1)]
   (refine SD ?_;intros;rename_i K1 hK1)
   (refine ⟨_,c1,hK1 _ ?_⟩;clear hK1 K1;try simp only [put_some,cN,vI,vB,cR])
   (refine SD ?_;intros;rename_i K1 hK1)
   (refine ⟨_,con_rFault 4,hK1 _ ?_⟩;clear hK1 K1;try simp only [put_some,cN,vI,vB,cR])
   (refine SD ?_;intros)
   simp (disch := omega) only [resc1,resc2,rescc,rest1c,AB,AD,Nat.reduceEqDiff,↓reduceIte,Nat.reduceAdd,Nat.reduceMul,Nat.reducePow,Nat.reduceLeDiff,Nat.reduceLT]
   all_goals rfl
 rw [decide_eq_false b1] at c1
 by_cases b2 : 4096 < bl d
 · rw [decide_eq_true b2] at c2
   rw [if_pos (Or.inr b2)]
   (refine SD ?_;intros;rename_i K1 hK1)
   (refine ⟨_,c1,hK1 _ ?_⟩;clear hK1 K1;try simp only [put_some,cN,vI,vB,cR])
   (refine SD ?_;intros;rename_i K1 hK1)
   (refine ⟨_,c2,hK1 _ ?_⟩;clear hK1 K1;try simp only [put_some,cN,vI,vB,cR])
   (refine SD ?_;intros;rename_i K1 hK1)
   (refine ⟨_,con_rFault 4,hK1 _ ?_⟩;clear hK1 K1;try simp only [put_some,cN,vI,vB,cR])
   (refine SD ?_;intros)
   simp (disch := omega) only [resc1,resc2,rescc,rest1c,AB,AD,Nat.reduceEqDiff,↓reduceIte,Nat.reduceAdd,Nat.reduceMul,Nat.reducePow,Nat.reduceLeDiff,Nat.reduceLT]
   all_goals rfl
 rw [decide_eq_false b2] at c2
 rw [if_neg (by omega)]
 (refine SD ?_;intros;rename_i K1 hK1)
 (refine ⟨_,c1,hK1 _ ?_⟩;clear hK1 K1;try simp only [put_some,cN,vI,vB,cR])
 (refine SD ?_;intros;rename_i K1 hK1)
 (refine ⟨_,c2,hK1 _ ?_⟩;clear hK1 K1;try simp only [put_some,cN,vI,vB,cR])
 (refine SD ?_;intros)
 simp (disch := omega) only [resc1,resc2,rescc,rest1c,AB,AD,Nat.reduceEqDiff,↓reduceIte,Nat.reduceAdd,Nat.reduceMul,Nat.reducePow,Nat.reduceLeDiff,Nat.reduceLT]
 all_goals rfl
theorem con_rRatio (s : Bool) (n d : Nat) (h : (dg n).length < 2 ^ 38) (h' : (dg d).length < 2 ^ 38) : Con E 95 [vB s, cN (dg n), cN (dg d)] (.agg (cR (nrat s n d))) := by
 refine con_of2 mixed (fn := Tryz.f95) (rs := [.cell 6 80]) Tryz.func95 (by kernel_rfl) rfl (by kernel_rfl) rfl rfl ?_
 simp only [argE, Nat.reduceAdd, cN, vI, vB]
 unfold nrat
 by_cases d0 : d = 0
 · subst d0
   rw [if_pos rfl, dg_zero]
   (refine SD ?_;intros;rename_i hb K1 hK1)
   (refine ⟨_,con_rFault 11,hK1 _ ?_⟩;clear hK1 K1;try simp only [put_some,cN,vI,vB,cR])
   (refine SD ?_;intros)
   simp (disch := omega) only [resc1,resc2,rescc,rest1c,AB,AD,Nat.reduceEqDiff,↓reduceIte,Nat.reduceAdd,Nat.reduceMul,Nat.reducePow,Nat.reduceLeDiff,Nat.reduceLT]
   all_goals rfl
 have hd0 : (dg d).length ≠ 0 := fun e => d0 (dg_ne_nil.1 (List.length_eq_zero_iff.1 e))
 have l1 := dg_mono (Nat.div_le_self n (Nat.gcd n d))
 have l2 := dg_mono (Nat.div_le_self d (Nat.gcd n d))
 have cb := con_rBound ⟨0, s && decide (n / Nat.gcd n d ≠ 0), dg (n / Nat.gcd n d), dg (d / Nat.gcd n d)⟩ _ _ rfl rfl (by omega) (by omega)
 rw [if_neg d0]
 (refine SD ?_;intros;rename_i hb K1 hK1)
 (refine ⟨_,con_rExact s n d d0 h h',hK1 _ ?_⟩;clear hK1 K1;try simp only [put_some,cN,vI,vB,cR])
 (refine SD ?_;intros;rename_i K1 hK1)
 (refine ⟨_,cb,hK1 _ ?_⟩;clear hK1 K1;try simp only [put_some,cN,vI,vB,cR])
 (refine SD ?_;intros)
 simp (disch := omega) only [resc1,resc2,rescc,rest1c,AB,AD,Nat.reduceEqDiff,↓reduceIte,Nat.reduceAdd,Nat.reduceMul,Nat.reducePow,Nat.reduceLeDiff,Nat.reduceLT]
 all_goals rfl
theorem con_rsize (n : Int) (h1 : -9223372036854775808 ≤ n) (h2 : n ≤ 9223372036854775807) : Con E 97 [vI n] (.val (.int .u64 (n.natAbs : Nat))) := by
 refine con_of2 mixed (fn := Tryz.f97) (rs := [.tmp 2]) Tryz.func97 (by kernel_rfl) rfl (by kernel_rfl) rfl rfl ?_
 simp only [argE, Nat.reduceAdd, cN, vI, vB]
 (refine WD ?_ ?_<;>intros<;>rename_i hb)
 · simp only [res1,res2,res3,AB,AD,Nat.reduceEqDiff,↓reduceIte,Nat.reduceAdd,Nat.reduceMul,Nat.reducePow,Nat.reduceLeDiff,Nat.reduceLT]
   congr 2; omega
 · simp only [res1,res2,res3,AB,AD,Nat.reduceEqDiff,↓reduceIte,Nat.reduceAdd,Nat.reduceMul,Nat.reducePow,Nat.reduceLeDiff,Nat.reduceLT]
   congr 2; omega
end Go.Pw
