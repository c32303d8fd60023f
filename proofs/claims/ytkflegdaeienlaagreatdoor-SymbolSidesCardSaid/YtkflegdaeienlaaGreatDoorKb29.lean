/- Merged from the working texts PnC. -/
import Derived.Test.YtkflegdaeienlaaGreatDoorKb28
set_option linter.all false
set_option maxHeartbeats 400000
set_option linter.unusedVariables false
set_option linter.unusedSimpArgs false
set_option maxRecDepth 100000
namespace Go.Pw
theorem win_win {u l l' : List Nat} {i : Nat} (h : i + l.length ≤ u.length) (hl : l'.length = l.length) : win (win u i l) i l' = win u i l' := by
 have e1 : (win u i l).take i = u.take i := by
   simp only [win, List.append_assoc]
   rw [List.take_append_of_le_length (by simp; omega), List.take_take, Nat.min_self]
 have e2 : (win u i l).drop (i + l.length) = u.drop (i + l.length) := by
   simp only [win]
   rw [List.drop_append_of_le_length (by simp; omega), List.drop_eq_nil_of_le (by simp; omega), List.nil_append]
 unfold win at *
 rw [e1, hl, e2]
theorem win_part {u l : List Nat} {i : Nat} (h : i + l.length ≤ u.length) : ((win u i l).drop i).take l.length = l := by
 simp only [win, List.append_assoc]
 rw [List.drop_append_of_le_length (by simp; omega), List.drop_eq_nil_of_le (by simp; omega), List.nil_append, List.take_append_of_le_length (by omega), List.take_of_length_le (by omega)]
theorem win_val {u l : List Nat} {i : Nat} (hu : dok u) (h : i + l.length ≤ u.length) (ht : val u < 4294967296 ^ (i + l.length)) : val (win u i l) = val u % 4294967296 ^ i + 4294967296 ^ i * val l := by
 simp only [win]
 rw [val_append, val_append, List.length_append, List.length_take, Nat.min_eq_left (by omega), val_take _ hu, val_drop _ hu, Nat.div_eq_of_lt ht, Nat.mul_zero, Nat.add_zero]
theorem div_step {u : List Nat} (hu : dok u) {j s V q : Nat} (hl : j + s + 1 ≤ u.length) (hV : V < 4294967296 ^ s) (h : val u < V * 4294967296 ^ (j + 1)) (h1 : val u / 4294967296 ^ j < (q + 1) * V) (h2 : q * V < val u / 4294967296 ^ j + V) :
   ((decide (q * V ≤ val ((u.drop j).take (s + 1))) = true → tk u j (s + 1) q V = win u j (fd (s + 1) (val u / 4294967296 ^ j % V)) ∧ q = val u / 4294967296 ^ j / V) ∧
    (decide (q * V ≤ val ((u.drop j).take (s + 1))) = false → gk (tk u j (s + 1) q V) j (s + 1) V = win u j (fd (s + 1) (val u / 4294967296 ^ j % V)) ∧ q ≠ 0 ∧ q - 1 = val u / 4294967296 ^ j / V)) := by
 obtain ⟨hw, hW⟩ := val_window hu hl hV h
 have hVp : 0 < V := by
   rcases Nat.eq_zero_or_pos V with e | e
   · subst e; simp at h
   · exact e
 have hWP : val u / 4294967296 ^ j < 4294967296 ^ (s + 1) := by
   refine Nat.lt_trans hW ?_
   rw [Nat.pow_succ, Nat.mul_comm]
   exact Nat.mul_lt_mul_of_pos_right hV (by omega)
 have hVP : V < 4294967296 ^ (s + 1) := Nat.lt_trans hV (Nat.pow_lt_pow_right (by omega) (by omega))
 unfold gk tk
 rw [hw]
 generalize val u / 4294967296 ^ j = W at *
 generalize hP : 4294967296 ^ (s + 1) = P at *
 constructor
 · intro hd
   have hle : q * V ≤ W := by simpa using hd
   have hq := quo_of hle h1
   have hm : W % V = W - q * V := by
     have := Nat.mod_add_div W V
     rw [hq, Nat.mul_comm V] at this
     omega
   refine ⟨?_, hq.symm⟩
   congr 2
   rw [hm, show W + P - q * V = (W - q * V) + P by omega, Nat.add_mod_right, Nat.mod_eq_of_lt (by omega)]
 · intro hd
   have hlt : ¬ q * V ≤ W := by simpa using hd
   have hq0 : q ≠ 0 := fun e => by subst e; simp at hlt
   obtain ⟨p, rfl⟩ := Nat.exists_eq_succ_of_ne_zero hq0
   rw [Nat.succ_eq_add_one] at *
   have e : (p + 1) * V = p * V + V := Nat.succ_mul _ _
   have hq := quo_of (q := p) (V := V) (W := W) (by omega) (by omega)
   have hm : W % V = W - p * V := by
     have := Nat.mod_add_div W V
     rw [hq, Nat.mul_comm V] at this
     omega
   have hfl := fd_len (s + 1) ((W + P - (p + 1) * V) % P)
   refine ⟨?_, hq0, by rw [Nat.add_sub_cancel]; exact hq.symm⟩
   rw [win_win (by rw [hfl]; omega) (by rw [hfl, fd_len])]
   congr 2
   have hp := win_part (u := u) (l := fd (s + 1) ((W + P - (p + 1) * V) % P)) (i := j) (by rw [hfl]; omega)
   rw [hfl] at hp
   rw [hp, fd_val, hP, Nat.mod_mod, Nat.mod_eq_of_lt (show W + P - (p + 1) * V < P by omega), hm, show W + P - (p + 1) * V + V = (W - p * V) + P by omega, Nat.add_mod_right, Nat.mod_eq_of_lt (by omega)]
theorem div_keep {u out : List Nat} (hu : dok u) {j s V A : Nat} (hl : j + s + 1 ≤ u.length) (hV : V < 4294967296 ^ s) (h : val u < V * 4294967296 ^ (j + 1)) (hj : j < out.length)
   (hI : val u + V * (4294967296 ^ (j + 1) * val (out.drop (j + 1))) = A) :
   val (win u j (fd (s + 1) (val u / 4294967296 ^ j % V))) + V * (4294967296 ^ j * val ((out.set j (val u / 4294967296 ^ j / V)).drop j)) = A ∧ val (win u j (fd (s + 1) (val u / 4294967296 ^ j % V))) < V * 4294967296 ^ j ∧ val u / 4294967296 ^ j / V < 4294967296 := by
 obtain ⟨hw, hW⟩ := val_window hu hl hV h
 have hVp : 0 < V := by
   rcases Nat.eq_zero_or_pos V with e | e
   · subst e; simp at h
   · exact e
 have hVP : V < 4294967296 ^ (s + 1) := Nat.lt_trans hV (Nat.pow_lt_pow_right (by omega) (by omega))
 have hmod : val u / 4294967296 ^ j % V < V := Nat.mod_lt _ hVp
 have hut : val u < 4294967296 ^ (j + (fd (s + 1) (val u / 4294967296 ^ j % V)).length) := by
   rw [fd_len]
   refine Nat.lt_trans h ?_
   rw [show j + (s + 1) = s + (j + 1) by omega, Nat.pow_add 4294967296 s (j + 1)]
   exact Nat.mul_lt_mul_of_pos_right hV (Nat.pow_pos (by omega))
 have hv := win_val (l := fd (s + 1) (val u / 4294967296 ^ j % V)) (i := j) hu (by rw [fd_len]; omega) hut
 rw [fd_val, Nat.mod_eq_of_lt (Nat.lt_trans hmod hVP)] at hv
 have hlow := Nat.mod_lt (val u) (pow_pos' j)
 have hsplit := Nat.mod_add_div (val u) (4294967296 ^ j)
 have hq := Nat.mod_add_div (val u / 4294967296 ^ j) V
 refine ⟨?_, ?_, ?_⟩
 · rw [hv, drop_set hj, ← hI]
   simp only [val]
   rw [Nat.pow_succ]
   generalize val u / 4294967296 ^ j = W at *
   generalize val u % 4294967296 ^ j = lo at *
   generalize 4294967296 ^ j = P at *
   generalize W / V = q at *
   generalize W % V = r at *
   generalize val (out.drop (j + 1)) = D at *
   rw [← hsplit, ← hq]
   simp only [Nat.mul_add, Nat.mul_assoc, Nat.mul_left_comm, Nat.mul_comm]
   omega
 · rw [hv]
   generalize val u / 4294967296 ^ j % V = r at *
   generalize 4294967296 ^ j = P at *
   have : P * (r + 1) ≤ P * V := Nat.mul_le_mul_left _ hmod
   rw [Nat.mul_add] at this
   rw [Nat.mul_comm V]
   omega
 · rw [Nat.div_lt_iff_lt_mul hVp]
   exact hW
theorem cmpI_lt0 (a b : Nat) : cmpI a b < 0 ↔ a < b := by unfold cmpI; split <;> (try split) <;> omega
theorem top_ne {b : Nat} (h : b ≠ 0) : (dg b).getD ((dg b).length - 1) 0 ≠ 0 := by
 have h1 : dg b ≠ [] := fun e => h (dg_ne_nil.1 e)
 have h2 := (can_dg b).2 h1
 rw [List.getLast_eq_getElem] at h2
 rw [List.getD_eq_getElem?_getD, List.getElem?_eq_getElem (by have := List.length_pos_iff.2 h1; omega)]
 exact h2
theorem moved_len {b : Nat} (h : b ≠ 0) : (dg (b * 2 ^ (32 - bl ((dg b).getD ((dg b).length - 1) 0)))).length = (dg b).length := by
 apply Nat.le_antisymm
 · have hpos : (dg b).length ≠ 0 := fun e => h (dg_ne_nil.1 (List.length_eq_zero_iff.1 e))
   have hbl := bl_dg b h
   have hlt := bl_lt b
   have htop : bl ((dg b).getD ((dg b).length - 1) 0) ≤ 32 := (bl_le_iff _ _).2 (getD_lt _ (dok_dg b))
   generalize bl ((dg b).getD ((dg b).length - 1) 0) = t at *
   rw [len_dg_le]
   have e : (4294967296 : Nat) ^ (dg b).length = 2 ^ (bl b) * 2 ^ (32 - t) := by
     rw [← Nat.pow_add, show (4294967296 : Nat) = 2 ^ 32 from rfl, ← Nat.pow_mul]
     congr 1
     omega
   rw [e]
   exact Nat.mul_lt_mul_of_pos_right hlt (Nat.pow_pos (by omega))
 · exact dg_mono (Nat.le_mul_of_pos_right _ (Nat.pow_pos (by omega)))
theorem dg_len_le {l : List Nat} (h : dok l) : (dg (val l)).length ≤ l.length := len_dg_le.2 (val_lt h)
theorem div_fits {a b : Nat} (hb : b ≠ 0) (h : (dg b).length ≤ (dg a).length) (n : Nat) : a * 2 ^ n < b * 2 ^ n * 4294967296 ^ ((dg a).length + 1 - (dg b).length) := by
 have h1 : a < 4294967296 ^ (dg a).length := len_dg_le.1 (Nat.le_refl _)
 have hpos : (dg b).length ≠ 0 := fun e => hb (dg_ne_nil.1 (List.length_eq_zero_iff.1 e))
 have h2 : 4294967296 ^ ((dg b).length - 1) ≤ b := by
   apply Nat.le_of_not_lt
   intro hlt
   have := len_dg_le.2 hlt
   omega
 rw [Nat.mul_right_comm]
 refine Nat.mul_lt_mul_of_pos_right ?_ (Nat.pow_pos (by omega))
 refine Nat.lt_of_lt_of_le h1 ?_
 have e : (dg a).length = ((dg b).length - 1) + ((dg a).length + 1 - (dg b).length) := by omega
 conv => lhs; rw [e, Nat.pow_add]
 exact Nat.mul_le_mul_right _ h2
theorem top2 {V s : Nat} (hs : 2 ≤ s) (hV : V < 4294967296 ^ s) : V / 4294967296 ^ (s - 2) = V / 4294967296 ^ (s - 1) % 4294967296 * 4294967296 + V / 4294967296 ^ (s - 2) % 4294967296 := by
 obtain ⟨t, rfl⟩ : ∃ t, s = t + 2 := ⟨s - 2, by omega⟩
 have e : V / 4294967296 ^ (t + 2 - 1) = V / 4294967296 ^ t / 4294967296 := by rw [show t + 2 - 1 = t + 1 from rfl, Nat.pow_succ, Nat.div_div_eq_div_mul]
 rw [e, show t + 2 - 2 = t from rfl]
 have h2 : V / 4294967296 ^ t < 4294967296 * 4294967296 := by
   rw [Nat.div_lt_iff_lt_mul (pow_pos' t)]
   rw [Nat.pow_succ, Nat.pow_succ, Nat.mul_assoc, Nat.mul_comm] at hV
   exact hV
 generalize V / 4294967296 ^ t = X at *
 clear hV
 omega
def V1 (W t : Nat) : Prop := W / 4294967296 ^ (t + 2 - 1) = W / 4294967296 ^ t / 4294967296
theorem top3 {W s : Nat} (hs : 2 ≤ s) (hW : W < 4294967296 ^ (s + 1)) : W / 4294967296 ^ (s - 2) = (W / 4294967296 ^ s % 4294967296 * 4294967296 + W / 4294967296 ^ (s - 1) % 4294967296) * 4294967296 + W / 4294967296 ^ (s - 2) % 4294967296 := by
 obtain ⟨t, rfl⟩ : ∃ t, s = t + 2 := ⟨s - 2, by omega⟩
 have e : V1 W t := by
   unfold V1
   rw [show t + 2 - 1 = t + 1 from rfl, Nat.pow_succ, Nat.div_div_eq_div_mul]
 have e' : W / 4294967296 ^ (t + 2) = W / 4294967296 ^ t / 4294967296 / 4294967296 := by rw [Nat.pow_succ, Nat.pow_succ, Nat.div_div_eq_div_mul, Nat.div_div_eq_div_mul, Nat.mul_assoc]
 unfold V1 at e
 rw [e, e', show t + 2 - 2 = t from rfl]
 have h2 : W / 4294967296 ^ t < 4294967296 * 4294967296 * 4294967296 := by
   rw [Nat.div_lt_iff_lt_mul (pow_pos' t)]
   rw [Nat.pow_succ, Nat.pow_succ, Nat.pow_succ, Nat.mul_assoc, Nat.mul_assoc, Nat.mul_comm, ← Nat.mul_assoc] at hW
   exact hW
 generalize W / 4294967296 ^ t = X at *
 clear hW e e'
 omega
theorem quo_nat {x y : Nat} (h : x < 18446744073709551616) : ((x : Nat) : Int) / ((y : Nat) : Int) % 18446744073709551616 = ((x / y : Nat) : Int) := by
 rw [← Int.natCast_ediv]
 have := Nat.div_le_self x y
 generalize x / y = z at *
 omega
theorem guess_setup {u : List Nat} (hu : dok u) {j s V : Nat} (hl : j + s + 1 ≤ u.length) (hs : 2 ≤ s) (hV : V < 4294967296 ^ s) (h : val u < V * 4294967296 ^ (j + 1)) (hv : (dg V).getD (s - 1) 0 ≠ 0) :
   (val u / 4294967296 ^ j < ((u.getD (j + s) 0 * 4294967296 + u.getD (j + s - 1) 0) / (dg V).getD (s - 1) 0 + 1) * V) ∧
   (∀ q r, r + q * (dg V).getD (s - 1) 0 = u.getD (j + s) 0 * 4294967296 + u.getD (j + s - 1) 0 → (r * 4294967296 + u.getD (j + s - 2) 0 < q * (dg V).getD (s - 2) 0 → val u / 4294967296 ^ j < q * V) ∧
     (q < 4294967296 → ¬ (r * 4294967296 + u.getD (j + s - 2) 0 < q * (dg V).getD (s - 2) 0) → q * V < val u / 4294967296 ^ j + V)) ∧
   u.getD (j + s) 0 * 4294967296 + u.getD (j + s - 1) 0 < ((dg V).getD (s - 1) 0 + 1) * 4294967296 := by
 obtain ⟨_, hW⟩ := val_window hu hl hV h
 have hWs : val u / 4294967296 ^ j < 4294967296 ^ (s + 1) := by
   refine Nat.lt_trans hW ?_
   rw [Nat.pow_succ, Nat.mul_comm]
   exact Nat.mul_lt_mul_of_pos_right hV (by omega)
 have g : ∀ t, u.getD (j + t) 0 = val u / 4294967296 ^ j / 4294967296 ^ t % 4294967296 := fun t => by rw [getD_val _ hu, Nat.pow_add, Nat.div_div_eq_div_mul]
 have gv : ∀ t, (dg V).getD t 0 = V / 4294967296 ^ t % 4294967296 := fun t => by rw [getD_val _ (dok_dg V), val_dg]
 have t2 := top2 hs hV
 have t3 := top3 hs hWs
 rw [← gv, ← gv] at t2
 rw [← g, ← g, ← g] at t3
 rw [show j + s - 1 = j + (s - 1) by omega, show j + s - 2 = j + (s - 2) by omega]
 have l3 := getD_lt (j + (s - 2)) hu
 have dV := Nat.mod_add_div V (4294967296 ^ (s - 2))
 have dW := Nat.mod_add_div (val u / 4294967296 ^ j) (4294967296 ^ (s - 2))
 have mV := Nat.mod_lt V (pow_pos' (s - 2))
 have mW := Nat.mod_lt (val u / 4294967296 ^ j) (pow_pos' (s - 2))
 rw [t2, Nat.mul_comm, Nat.add_comm] at dV
 rw [t3, Nat.mul_comm, Nat.add_comm] at dW
 have hV' : 4294967296 ≤ (dg V).getD (s - 1) 0 * 4294967296 + (dg V).getD (s - 2) 0 := by omega
 obtain ⟨two, htw⟩ : ∃ two, two = u.getD (j + s) 0 * 4294967296 + u.getD (j + (s - 1)) 0 := ⟨_, rfl⟩
 obtain ⟨u3, hu3⟩ : ∃ u3, u3 = u.getD (j + (s - 2)) 0 := ⟨_, rfl⟩
 rw [← htw, ← hu3] at dW
 rw [← hu3] at l3
 rw [← htw, ← hu3]
 obtain ⟨W, hWe⟩ : ∃ W, W = val u / 4294967296 ^ j := ⟨_, rfl⟩
 rw [← hWe] at dW mW ⊢
 have hi : ∀ q, two * 4294967296 + u3 < q * ((dg V).getD (s - 1) 0 * 4294967296 + (dg V).getD (s - 2) 0) → W < q * V := fun q hq => by
   have := guess_hi (v := V % 4294967296 ^ (s - 2)) hq mW
   rw [dV, dW] at this
   exact this
 refine ⟨hi _ ?_, fun q r hqr => ⟨fun ht => hi q ((guess_test hqr).1 ht), fun hq ht => ?_⟩, ?_⟩
 rotate_left
 rotate_left
 · have h5 : two * 4294967296 < 4294967296 * ((dg V).getD (s - 1) 0 * 4294967296 + (dg V).getD (s - 2) 0 + 1) := by
     apply Nat.lt_of_not_le
     intro hle
     rw [← hWe] at hW
     have h7 : V < ((dg V).getD (s - 1) 0 * 4294967296 + (dg V).getD (s - 2) 0 + 1) * 4294967296 ^ (s - 2) := by
       rw [Nat.add_mul _ 1, Nat.one_mul]
       exact Nat.lt_of_le_of_lt (Nat.le_of_eq dV.symm) (Nat.add_lt_add_left mV _)
     have h8 := Nat.lt_trans hW (Nat.mul_lt_mul_of_pos_left h7 (show 0 < 4294967296 by omega))
     rw [← Nat.mul_assoc] at h8
     have h9 := Nat.mul_le_mul_right (4294967296 ^ (s - 2)) hle
     have h10 : two * 4294967296 * 4294967296 ^ (s - 2) ≤ W := by
       refine Nat.le_trans ?_ (Nat.le_of_eq dW)
       refine Nat.le_trans (Nat.mul_le_mul_right _ (Nat.le_add_right _ u3)) (Nat.le_add_right _ _)
     exact Nat.lt_irrefl _ (Nat.lt_of_lt_of_le h8 (Nat.le_trans h9 h10))
   have l4 := getD_lt (s - 2) (dok_dg V)
   omega
 · have h1 := Nat.lt_mul_div_succ two (show 0 < (dg V).getD (s - 1) 0 by omega)
   rw [Nat.mul_comm] at h1
   generalize two / (dg V).getD (s - 1) 0 + 1 = q at *
   rw [Nat.mul_add, ← Nat.mul_assoc]
   have h2 : (two + 1) * 4294967296 ≤ q * (dg V).getD (s - 1) 0 * 4294967296 := Nat.mul_le_mul_right _ h1
   omega
 · have h3 : q * ((dg V).getD (s - 1) 0 * 4294967296 + (dg V).getD (s - 2) 0) ≤ two * 4294967296 + u3 := Nat.le_of_not_lt fun h => ht ((guess_test hqr).2 h)
   have := guess_lo (w := W % 4294967296 ^ (s - 2)) h3 hq mV hV'
   rw [dV, dW] at this
   exact this
end Go.Pw
