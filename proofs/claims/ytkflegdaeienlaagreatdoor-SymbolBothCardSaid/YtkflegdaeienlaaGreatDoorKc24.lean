/- Merged from the working texts PnA PnB MaZ SZ. -/
import Derived.Test.YtkflegdaeienlaaGreatDoorKc01
import Derived.Test.YtkflegdaeienlaaGreatDoorKc23
set_option linter.all false
set_option maxHeartbeats 400000
set_option linter.unusedVariables false
set_option linter.unusedSimpArgs false
namespace Go.Pw
def val : List Nat → Nat
 | [] => 0
 | d :: r => d + 4294967296 * val r
def dok (l : List Nat) : Prop := ∀ d ∈ l, d < 4294967296
def dg (n : Nat) : List Nat := if h : n = 0 then [] else n % 4294967296 :: dg (n / 4294967296)
termination_by n
decreasing_by omega
theorem dg_zero : dg 0 = [] := by rw [dg]; simp
theorem dg_pos {n : Nat} (h : n ≠ 0) : dg n = n % 4294967296 :: dg (n / 4294967296) := by rw [dg]; simp [h]
theorem dg_ne_nil {n : Nat} : dg n = [] ↔ n = 0 := by
 constructor
 · intro h
   by_cases e : n = 0
   · exact e
   · rw [dg_pos e] at h; cases h
 · rintro rfl; exact dg_zero
theorem val_dg (n : Nat) : val (dg n) = n := by
 induction n using Nat.strongRecOn with
 | _ n ih =>
   by_cases h : n = 0
   · subst h; rw [dg_zero]; rfl
   · rw [dg_pos h]
     simp only [val]
     rw [ih _ (by omega)]
     omega
theorem dok_nil : dok [] := by intro d h; cases h
theorem dok_cons {d : Nat} {l : List Nat} : dok (d :: l) ↔ d < 4294967296 ∧ dok l := by simp [dok]
theorem dok_append {l m : List Nat} : dok (l ++ m) ↔ dok l ∧ dok m := by
 simp only [dok, List.mem_append]
 exact ⟨fun h => ⟨fun d hd => h d (.inl hd), fun d hd => h d (.inr hd)⟩, fun h d hd => hd.elim (h.1 d) (h.2 d)⟩
theorem dok_dg (n : Nat) : dok (dg n) := by
 induction n using Nat.strongRecOn with
 | _ n ih =>
   by_cases h : n = 0
   · subst h; rw [dg_zero]; exact dok_nil
   · rw [dg_pos h]
     exact dok_cons.2 ⟨Nat.mod_lt _ (by omega), ih _ (by omega)⟩
theorem dok_take {l : List Nat} (h : dok l) (i : Nat) : dok (l.take i) := fun d hd => h d (List.mem_of_mem_take hd)
theorem dok_drop {l : List Nat} (h : dok l) (i : Nat) : dok (l.drop i) := fun d hd => h d (List.mem_of_mem_drop hd)
theorem dok_set {l : List Nat} (h : dok l) (i : Nat) {d : Nat} (hd : d < 4294967296) : dok (l.set i d) := fun x hx => by
 rcases List.mem_or_eq_of_mem_set hx with h1 | h1
 · exact h x h1
 · subst h1; exact hd
theorem dok_replicate (n : Nat) : dok (List.replicate n 0) := fun d hd => by rw [(List.mem_replicate.1 hd).2]; omega
theorem val_append : ∀ (l m : List Nat), val (l ++ m) = val l + 4294967296 ^ l.length * val m
 | [], m => by simp [val]
 | d :: l, m => by
   simp only [List.cons_append, val, val_append l m, List.length_cons, Nat.pow_succ]
   rw [Nat.mul_add, ← Nat.mul_assoc, Nat.mul_comm 4294967296 (4294967296 ^ l.length)]
   omega
theorem val_replicate : ∀ n : Nat, val (List.replicate n 0) = 0
 | 0 => rfl
 | n + 1 => by simp only [List.replicate_succ, val, val_replicate n]
theorem val_lt : ∀ {l : List Nat}, dok l → val l < 4294967296 ^ l.length
 | [], _ => by simp [val]
 | d :: l, h => by
   have ⟨h1, h2⟩ := dok_cons.1 h
   have := val_lt h2
   simp only [val, List.length_cons, Nat.pow_succ]
   rw [Nat.mul_comm (4294967296 ^ l.length)]
   omega
theorem val_take : ∀ {l : List Nat} (i : Nat), dok l → val (l.take i) = val l % 4294967296 ^ i
 | [], i, _ => by simp [val]
 | d :: l, 0, _ => by simp [val, Nat.mod_one]
 | d :: l, i + 1, h => by
   have ⟨h1, h2⟩ := dok_cons.1 h
   simp only [List.take_succ_cons, val, val_take i h2, Nat.pow_succ]
   rw [Nat.mul_comm (4294967296 ^ i), Nat.mod_mul, Nat.add_mul_mod_self_left, Nat.mod_eq_of_lt h1]
   congr 3
   omega
theorem val_drop : ∀ {l : List Nat} (i : Nat), dok l → val (l.drop i) = val l / 4294967296 ^ i
 | [], i, _ => by simp [val]
 | d :: l, 0, _ => by simp [val]
 | d :: l, i + 1, h => by
   have ⟨h1, h2⟩ := dok_cons.1 h
   simp only [List.drop_succ_cons, val, val_drop i h2, Nat.pow_succ]
   rw [Nat.mul_comm (4294967296 ^ i), ← Nat.div_div_eq_div_mul]
   congr 1
   omega
theorem getD_val : ∀ {l : List Nat} (i : Nat), dok l → l.getD i 0 = val l / 4294967296 ^ i % 4294967296
 | [], i, _ => by simp [val]
 | d :: l, 0, h => by
   have ⟨h1, h2⟩ := dok_cons.1 h
   simp [val]; omega
 | d :: l, i + 1, h => by
   have ⟨h1, h2⟩ := dok_cons.1 h
   simp only [List.getD_cons_succ, val, getD_val i h2, Nat.pow_succ]
   rw [Nat.mul_comm (4294967296 ^ i), ← Nat.div_div_eq_div_mul]
   congr 2
   omega
theorem getD_lt {l : List Nat} (i : Nat) (h : dok l) : l.getD i 0 < 4294967296 := by rw [getD_val i h]; exact Nat.mod_lt _ (by omega)
theorem pow_pos' (i : Nat) : 0 < 4294967296 ^ i := Nat.pow_pos (by omega)
theorem mod_succ (n i : Nat) : n % 4294967296 ^ (i + 1) = n % 4294967296 ^ i + 4294967296 ^ i * (n / 4294967296 ^ i % 4294967296) := by
 rw [Nat.pow_succ, Nat.mod_mul]
theorem val_set {l : List Nat} {i : Nat} (hi : i < l.length) (d : Nat) : val (l.set i d) + 4294967296 ^ i * l.getD i 0 = val l + 4294967296 ^ i * d := by
 induction l generalizing i with
 | nil => simp at hi
 | cons x l ih =>
   cases i with
   | zero => simp [val]; omega
   | succ i =>
     have := ih (i := i) (by simpa using hi)
     simp only [List.set_cons_succ, val, List.getD_cons_succ, Nat.pow_succ]
     rw [Nat.mul_comm (4294967296 ^ i), Nat.mul_assoc, Nat.mul_assoc]
     omega
theorem dg_val_last {l : List Nat} (h : dok l) {d : Nat} (hd : d < 4294967296) (h0 : d ≠ 0) : dg (val (l ++ [d])) = l ++ [d] := by
 induction l with
 | nil =>
   simp only [List.nil_append, val, Nat.mul_zero, Nat.add_zero]
   rw [dg_pos h0, Nat.mod_eq_of_lt hd, Nat.div_eq_of_lt hd, dg_zero]
 | cons x l ih =>
   have ⟨h1, h2⟩ := dok_cons.1 h
   have := ih h2
   have hp : val (l ++ [d]) ≠ 0 := by
     rw [val_append]; simp only [val, Nat.mul_zero, Nat.add_zero]
     have : 0 < 4294967296 ^ l.length * d := Nat.mul_pos (pow_pos' _) (by omega)
     omega
   simp only [List.cons_append, val]
   rw [dg_pos (by omega), Nat.add_mul_mod_self_left, Nat.mod_eq_of_lt h1, Nat.add_mul_div_left _ _ (by omega), Nat.div_eq_of_lt h1, Nat.zero_add, this]
def can (l : List Nat) : Prop := dok l ∧ ∀ h : l ≠ [], l.getLast h ≠ 0
theorem dg_val {l : List Nat} (h : can l) : dg (val l) = l := by
 rcases List.eq_nil_or_concat l with rfl | ⟨m, d, rfl⟩
 · exact dg_zero
 · rw [List.concat_eq_append] at h ⊢
   have hd := dok_append.1 h.1
   exact dg_val_last hd.1 (dok_cons.1 hd.2).1 (by simpa using h.2 (by simp))
theorem can_dg (n : Nat) : can (dg n) := by
 refine ⟨dok_dg n, ?_⟩
 induction n using Nat.strongRecOn with
 | _ n ih =>
   by_cases h : n = 0
   · subst h; intro h'; exact (h' dg_zero).elim
   · intro h'
     have e := dg_pos h
     by_cases h2 : n / 4294967296 = 0
     · have : dg n = [n % 4294967296] := by rw [e, h2, dg_zero]
       simp only [this, List.getLast_singleton]
       omega
     · have := ih (n / 4294967296) (by omega) (fun h3 => h2 (dg_ne_nil.1 h3))
       simp only [e]
       rw [List.getLast_cons (fun h3 => h2 (dg_ne_nil.1 h3))]
       exact this
theorem len_dg_le {n k : Nat} : (dg n).length ≤ k ↔ n < 4294967296 ^ k := by
 induction k generalizing n with
 | zero =>
   simp only [Nat.le_zero, List.length_eq_zero_iff, dg_ne_nil, Nat.pow_zero]
   omega
 | succ k ih =>
   by_cases h : n = 0
   · subst h; rw [dg_zero]; simp [pow_pos']
   · rw [dg_pos h, List.length_cons, Nat.succ_le_succ_iff, ih, Nat.pow_succ]
     exact Nat.div_lt_iff_lt_mul (by omega)
theorem dg_mono {a b : Nat} (h : a ≤ b) : (dg a).length ≤ (dg b).length := len_dg_le.2 (Nat.lt_of_le_of_lt h (len_dg_le.1 (Nat.le_refl _)))
theorem lt_of_len {a b : Nat} (h : (dg a).length < (dg b).length) : a < b := by
 apply Nat.lt_of_not_le
 intro hle
 have := dg_mono hle
 omega
theorem dg_one : dg 1 = [1] := by rw [dg_pos (by omega)]; rw [Nat.div_eq_of_lt (by omega), dg_zero]
theorem dg_small {n : Nat} (h0 : n ≠ 0) (h : n < 4294967296) : dg n = [n] := by rw [dg_pos h0, Nat.mod_eq_of_lt h, Nat.div_eq_of_lt h, dg_zero]
theorem trim_step (l : List Nat) (k : Nat) (hk : k < l.length) (h : l.getD k 0 = 0) (hz : dg (val l) = dg (val (l.take (k + 1)))) : dg (val l) = dg (val (l.take k)) := by
 rw [hz]
 have : l.take (k + 1) = l.take k ++ [l.getD k 0] := by
   rw [List.take_add_one, List.getD_eq_getElem?_getD, List.getElem?_eq_getElem hk]; rfl
 rw [this, h, val_append]; simp [val]
theorem trim_done (l : List Nat) (hok : dok l) (k : Nat) (hk : k ≤ l.length) (h : k = 0 ∨ l.getD (k - 1) 0 ≠ 0) (hz : dg (val l) = dg (val (l.take k))) : l.take k = dg (val l) := by
 rw [hz]
 symm
 refine dg_val ⟨dok_take hok k, fun hne => ?_⟩
 rcases h with rfl | h
 · simp at hne
 · have h0 : k ≠ 0 := fun e => by subst e; simp at hne
   rw [List.getLast_eq_getElem]
   simp only [List.length_take, Nat.min_eq_left hk, List.getElem_take]
   rw [List.getD_eq_getElem?_getD, List.getElem?_eq_getElem (by omega)] at h
   exact h
theorem take_set {l : List Nat} {i : Nat} (hi : i < l.length) (d : Nat) : (l.set i d).take (i + 1) = l.take i ++ [d] := by
 rw [List.take_add_one, List.getElem?_set_self hi, List.take_set_of_le (Nat.le_refl i)]
 rfl
theorem val_take_set {l : List Nat} {i : Nat} (hi : i < l.length) (d : Nat) : val ((l.set i d).take (i + 1)) = val (l.take i) + 4294967296 ^ i * d := by
 rw [take_set hi, val_append, List.length_take, Nat.min_eq_left (by omega)]
 simp [val]
theorem getD_default {l : List Nat} {i : Nat} (h : l.length ≤ i) : l.getD i 0 = 0 := by
 rw [List.getD_eq_getElem?_getD, List.getElem?_eq_none h]; rfl
end Go.Pw
set_option linter.unusedVariables false
namespace Go.Pw
theorem or_lo {m b i : Nat} (h : b < 2 ^ i) : (m * 2 ^ i ||| b) = m * 2 ^ i + b := by
 rw [← Nat.shiftLeft_eq, Nat.shiftLeft_add_eq_or_of_lt h]
theorem p32 {n : Nat} (h : n < 32) : 4294967296 = 2 ^ (32 - n) * 2 ^ n := by
 rw [← Nat.pow_add, Nat.sub_add_cancel (by omega)]
theorem wide_mod {d n : Nat} (h : n < 32) : d * 2 ^ n % 4294967296 = d % 2 ^ (32 - n) * 2 ^ n := by
 rw [p32 h, Nat.mul_mod_mul_right]
theorem wide_lt {d n : Nat} (h : n < 32) (hd : d < 4294967296) : d * 2 ^ n < 9223372036854775808 := by
 have : 2 ^ n ≤ 2 ^ 31 := Nat.pow_le_pow_right (by omega) (by omega)
 have h2 := Nat.mul_le_mul (Nat.le_of_lt_succ (show d < 4294967295 + 1 by omega)) this
 omega
theorem wide_div {d n : Nat} (hd : d < 4294967296) : d * 2 ^ n / 4294967296 < 2 ^ n := by
 rw [Nat.div_lt_iff_lt_mul (by omega), Nat.mul_comm]
 exact Nat.mul_lt_mul_of_pos_left hd (Nat.pow_pos (by omega))
theorem left_or {o d n : Nat} (h : n < 32) (ho : o < 2 ^ n) : (o ||| d * 2 ^ n % 4294967296) = o + d * 2 ^ n % 4294967296 ∧ o + d * 2 ^ n % 4294967296 < 4294967296 := by
 rw [wide_mod h]
 have h1 : d % 2 ^ (32 - n) < 2 ^ (32 - n) := Nat.mod_lt _ (Nat.pow_pos (by omega))
 refine ⟨by rw [Nat.or_comm, or_lo ho, Nat.add_comm], ?_⟩
 have h2 : (d % 2 ^ (32 - n) + 1) * 2 ^ n ≤ 2 ^ (32 - n) * 2 ^ n := Nat.mul_le_mul_right _ h1
 rw [← p32 h, Nat.add_mul] at h2
 omega
theorem getD_set {l : List Nat} (i k d : Nat) (hi : i < l.length) : (l.set i d).getD k 0 = if k = i then d else l.getD k 0 := by
 simp only [List.getD_eq_getElem?_getD, List.getElem?_set]
 by_cases h : i = k
 · subst h; simp [hi]
 · rw [if_neg h, if_neg (fun e => h e.symm)]
theorem left_step {V A X i o d n : Nat} (hV : V + 4294967296 ^ i * o = A * 2 ^ n) (hX : X = A + 4294967296 ^ i * d) : V + 4294967296 ^ i * (o + d * 2 ^ n % 4294967296) + 4294967296 ^ (i + 1) * (d * 2 ^ n / 4294967296) = X * 2 ^ n := by
 have h := Nat.mod_add_div (d * 2 ^ n) 4294967296
 have e : 4294967296 ^ i * (d * 2 ^ n % 4294967296) + 4294967296 ^ (i + 1) * (d * 2 ^ n / 4294967296) = 4294967296 ^ i * (d * 2 ^ n) := by
   rw [Nat.pow_succ, Nat.mul_assoc, ← Nat.mul_add, h]
 rw [hX, Nat.add_mul, ← hV, Nat.mul_add, Nat.mul_assoc]
 omega
theorem low_up {d n : Nat} (h : n < 32) : d * 4294967296 / 2 ^ n % 4294967296 = d % 2 ^ n * 2 ^ (32 - n) := by
 have e : d * 4294967296 / 2 ^ n = d * 2 ^ (32 - n) := by
   conv => lhs; rw [p32 h, ← Nat.mul_assoc]
   exact Nat.mul_div_cancel _ (Nat.pow_pos (by omega))
 rw [e]
 have e2 : 4294967296 = 2 ^ n * 2 ^ (32 - n) := by rw [Nat.mul_comm]; exact p32 h
 conv => lhs; rw [e2]
 exact Nat.mul_mod_mul_right _ _ _
theorem right_or {o d n : Nat} (h : n < 32) (ho : o < 2 ^ (32 - n)) : (o ||| d % 2 ^ n * 2 ^ (32 - n)) = o + d % 2 ^ n * 2 ^ (32 - n) ∧ o + d % 2 ^ n * 2 ^ (32 - n) < 4294967296 := by
 have h1 : d % 2 ^ n < 2 ^ n := Nat.mod_lt _ (Nat.pow_pos (by omega))
 refine ⟨by rw [Nat.or_comm, or_lo ho, Nat.add_comm], ?_⟩
 have h2 : (d % 2 ^ n + 1) * 2 ^ (32 - n) ≤ 2 ^ n * 2 ^ (32 - n) := Nat.mul_le_mul_right _ h1
 rw [Nat.mul_comm (2 ^ n), ← p32 h, Nat.add_mul] at h2
 omega
theorem right_step {A i d n : Nat} (h : n < 32) : A / 2 ^ n + 4294967296 ^ i * (d % 2 ^ n * 2 ^ (32 - n)) + 4294967296 ^ (i + 1) * (d / 2 ^ n) = (A + 4294967296 ^ (i + 1) * d) / 2 ^ n := by
 have e : 4294967296 ^ (i + 1) = 4294967296 ^ i * 2 ^ (32 - n) * 2 ^ n := by rw [Nat.pow_succ, Nat.mul_assoc, ← p32 h]
 have hp : 0 < 2 ^ n := Nat.pow_pos (by omega)
 have e2 : 4294967296 ^ (i + 1) * d = 4294967296 ^ i * 2 ^ (32 - n) * d * 2 ^ n := by rw [e, Nat.mul_right_comm]
 rw [e2, Nat.add_mul_div_right _ _ hp, e]
 have h1 := Nat.mod_add_div d (2 ^ n)
 generalize d / 2 ^ n = a at *
 generalize d % 2 ^ n = b at *
 rw [← h1]
 generalize 4294967296 ^ i = p
 generalize 2 ^ (32 - n) = r
 generalize 2 ^ n = s
 simp only [Nat.mul_add, Nat.add_assoc, Nat.mul_assoc, Nat.mul_comm, Nat.mul_left_comm]
theorem guess_hi {q V' W' P v w : Nat} (h : W' < q * V') (hw : w < P) : W' * P + w < q * (V' * P + v) := by
 have h1 : (W' + 1) * P ≤ q * V' * P := Nat.mul_le_mul_right _ h
 rw [Nat.add_mul] at h1
 rw [Nat.mul_add, ← Nat.mul_assoc]
 omega
theorem guess_lo {q V' W' P v w : Nat} (h : q * V' ≤ W') (hq : q < 4294967296) (hv : v < P) (hV : 4294967296 ≤ V') : q * (V' * P + v) < W' * P + w + (V' * P + v) := by
 have h1 : q * V' * P ≤ W' * P := Nat.mul_le_mul_right _ h
 have h2 : q * v ≤ q * P := Nat.mul_le_mul_left _ (Nat.le_of_lt hv)
 have h3 : (q + 1) * P ≤ V' * P := Nat.mul_le_mul_right _ (by omega)
 rw [Nat.add_mul] at h3
 rw [Nat.mul_add, ← Nat.mul_assoc]
 omega
theorem guess_test {q r v1 v2 u3 two : Nat} (h : r + q * v1 = two) : (r * 4294967296 + u3 < q * v2) ↔ two * 4294967296 + u3 < q * (v1 * 4294967296 + v2) := by
 rw [← h, Nat.mul_add, Nat.add_mul, ← Nat.mul_assoc]
 omega
theorem quo_of {q V W : Nat} (h1 : q * V ≤ W) (h2 : W < (q + 1) * V) : W / V = q := by
 apply Nat.le_antisymm
 · exact Nat.lt_succ_iff.1 ((Nat.div_lt_iff_lt_mul (by
     rcases Nat.eq_zero_or_pos V with rfl | h
     · simp at h2
     · exact h)).2 h2)
 · exact (Nat.le_div_iff_mul_le (by
     rcases Nat.eq_zero_or_pos V with rfl | h
     · simp at h2
     · exact h)).2 h1
def fd : Nat → Nat → List Nat
 | 0, _ => []
 | k + 1, n => n % 4294967296 :: fd k (n / 4294967296)
theorem fd_len : ∀ k n, (fd k n).length = k
 | 0, _ => rfl
 | k + 1, n => by simp [fd, fd_len k]
theorem fd_ok : ∀ k n, dok (fd k n)
 | 0, _ => dok_nil
 | k + 1, n => dok_cons.2 ⟨Nat.mod_lt _ (by omega), fd_ok k _⟩
theorem fd_val : ∀ k n, val (fd k n) = n % 4294967296 ^ k
 | 0, n => by simp [fd, val, Nat.mod_one]
 | k + 1, n => by
   rw [fd, val, fd_val k, Nat.pow_succ, Nat.mul_comm (4294967296 ^ k), Nat.mod_mul]
theorem fd_of : ∀ {l : List Nat}, dok l → fd l.length (val l) = l
 | [], _ => rfl
 | d :: l, h => by
   obtain ⟨h1, h2⟩ := dok_cons.1 h
   simp only [List.length_cons, fd, val]
   have e1 : (d + 4294967296 * val l) % 4294967296 = d := by omega
   have e2 : (d + 4294967296 * val l) / 4294967296 = val l := by omega
   rw [e1, e2, fd_of h2]
theorem val_window {u : List Nat} (hu : dok u) {i s V : Nat} (hs : i + s + 1 ≤ u.length) (hV : V < 4294967296 ^ s) (h : val u < V * 4294967296 ^ (i + 1)) :
   val ((u.drop i).take (s + 1)) = val u / 4294967296 ^ i ∧ val u / 4294967296 ^ i < 4294967296 * V := by
 have h2 : val u / 4294967296 ^ i < 4294967296 * V := by
   rw [Nat.div_lt_iff_lt_mul (pow_pos' i)]
   rw [Nat.pow_succ] at h
   rw [Nat.mul_right_comm, Nat.mul_comm (4294967296 * 4294967296 ^ i), Nat.mul_comm 4294967296]
   exact h
 refine ⟨?_, h2⟩
 rw [val_take _ (dok_drop hu i), val_drop i hu, Nat.mod_eq_of_lt]
 refine Nat.lt_trans h2 ?_
 rw [Nat.pow_succ, Nat.mul_comm]
 exact Nat.mul_lt_mul_of_pos_right hV (by omega)
end Go.Pw
set_option maxRecDepth 100000
namespace Go.Pw
open Go Go.Proofs
theorem Weak.adoptS {E : Env} {e : List (Nat × SV)} {o : List (Nat × Option Ob)} {e' : List (Nat × SV)} {o' : List (Nat × Option Ob)} (k t ty sz : Nat) (hsz : 0 < sz) (hk : k < 1000000) (ht : getS e t = .sh (.val (.slice none 0 0)))
   (h : sub e' ((t, .row k) :: mapE (SV.kill k) e)) (h' : subO o' ((k, some (.rw ty sz [])) :: mapO (Ob.kill k) o)) : Weak E (mkS e o) (mkS e' o') := by
 have h1 := Weak.adopt (E := E) (σ := mkS e o) k t ty sz hsz hk ht
 rw [make_mk, put_some] at h1
 exact h1.trans (Weak.list h h')
theorem k_cons2 {E : Env} {ops : Array Oper} {σ : St} {i d : Nat} {l : List Nat} {o : Oper} (ho : ops.toList[i]? = some o) (hd : o.dst = some d) (h : ∀ K' : SV → Prop, K' (σ.s d) → ppop E o.op σ K') (h2 : chks E ops l σ) : chks E ops (i :: l) σ :=
 k_cons (by rw [← Array.getElem?_toList]; exact ho) hd (h _ rfl) h2
theorem z_ti3 : ti3.zero = [.int .i64 0] := rfl
theorem z_ti4 : ti4.zero = [.bool false] := rfl
theorem z_ti5 : ti5.zero = [.int .u8 0] := rfl
theorem z_ti9 : ti9.zero = [.string ByteArray.empty] := rfl
theorem z_ti21 : ti21.zero = [.int .i32 0] := rfl
theorem z_ti22 : ti22.zero = [.slice none 0 0] := rfl
theorem z_ti23 : ti23.zero = [.slice none 0 0] := rfl
theorem z_ti25 : ti25.zero = [.int .i64 0, .slice none 0 0, .slice none 0 0] := rfl
theorem z_ti26 : ti26.zero = [.slice none 0 0] := rfl
theorem z_ti29 : ti29.zero = [.int .i64 0] := rfl
theorem z_ti33 : ti33.zero = [.slice none 0 0] := rfl
theorem z_ti36 : ti36.zero = [.slice none 0 0] := rfl
theorem z_ti44 : ti44.zero = [.slice none 0 0] := rfl
theorem z_ti46 : ti46.zero = [.int .i64 0, .slice none 0 0] := rfl
theorem z_ti48 : ti48.zero = [.int .i64 0, .slice none 0 0, .int .i64 0, .slice none 0 0] := rfl
theorem z_ti51 : ti51.zero = [.int .u64 0] := rfl
theorem z_ti78 : ti78.zero = [.slice none 0 0] := rfl
theorem z_ti80 : ti80.zero = [.int .i64 0, .bool false, .slice none 0 0, .slice none 0 0] := rfl
theorem z_ti90 : ti90.zero = [.int .i64 0, .int .i64 0, .int .i64 0, .int .i64 0, .bool false, .slice none 0 0, .slice none 0 0] := rfl
theorem z_ti101 : ti101.zero = [.slice none 0 0] := rfl
theorem z_ti103 : ti103.zero = [.int .u32 0] := rfl
theorem z_ti108 : ti108.zero = [.int .i64 0, .slice none 0 0, .slice none 0 0, .slice none 0 0] := rfl
theorem z_ti109 : ti109.zero = [.slice none 0 0] := rfl
theorem z_ti113 : ti113.zero = [.int .i64 0, .slice none 0 0, .int .i64 0, .slice none 0 0] := rfl
theorem z_ti115 : ti115.zero = [.slice none 0 0, .int .i64 0, .bool false, .slice none 0 0, .slice none 0 0] := rfl
theorem z_ti132 : ti132.zero = [.int .i64 0, .slice none 0 0, .slice none 0 0, .int .i64 0, .slice none 0 0, .slice none 0 0] := rfl
theorem z_ti136 : ti136.zero = [.int .u64 0] := rfl
theorem z_ti140 : ti140.zero = [.int .i64 0] := rfl
theorem z_ti152 : ti152.zero = [.int .i64 0] := rfl
theorem z_ti174 : ti174.zero = [.slice none 0 0] := rfl
theorem z_ti176 : ti176.zero = [.bool false, .slice none 0 0, .slice none 0 0] := rfl
theorem z_ti188 : ti188.zero = [.bool false, .slice none 0 0] := rfl
theorem z_ti193 : ti193.zero = [.bool false, .bool false, .bool false] := rfl
theorem z_ti194 : ti194.zero = [.bool false, .bool false, .bool false, .bool false, .bool false, .bool false, .bool false, .bool false, .bool false, .bool false, .bool false, .bool false, .bool false, .bool false, .bool false, .bool false, .bool false, .bool false, .bool false, .bool false, .bool false, .bool false, .bool false, .bool false] := rfl
theorem z_ti196 : ti196.zero = [.map none] := rfl
theorem z_ti198 : ti198.zero = [.int .i64 0, .map none] := rfl
theorem z_ti238 : ti238.zero = [.slice none 0 0] := rfl
theorem z_ti263 : ti263.zero = [.slice none 0 0] := rfl
theorem z_ti264 : ti264.zero = [.slice none 0 0] := rfl
theorem len_cR (x : Rt) : (cR x).length = 4 := rfl
theorem take_cR (x : Rt) : List.take 4 (cR x) = cR x := rfl
theorem len_cS (x : Sp) : (cS x).length = 7 := rfl
theorem take_cS (x : Sp) : List.take 7 (cS x) = cS x := rfl
theorem len_cT (x : Tm) : (cT x).length = 5 := rfl
theorem take_cT (x : Tm) : List.take 5 (cT x) = cT x := rfl
theorem len_cQ (x : Qt) : (cQ x).length = 4 := rfl
theorem take_cQ (x : Qt) : List.take 4 (cQ x) = cQ x := rfl
theorem len_cP (x : Py) : (cP x).length = 2 := rfl
theorem take_cP (x : Py) : List.take 2 (cP x) = cP x := rfl
theorem len_cTp (x : Tp) : (cTp x).length = 3 := rfl
theorem take_cTp (x : Tp) : List.take 3 (cTp x) = cTp x := rfl
theorem get_cR0 (x : Rt) : (cR x)[0]? = some (vI x.fault) := rfl
theorem get_cR1 (x : Rt) : (cR x)[1]? = some (vB x.neg) := rfl
theorem get_cR2 (x : Rt) : (cR x)[2]? = some (cN x.num) := rfl
theorem get_cR3 (x : Rt) : (cR x)[3]? = some (cN x.den) := rfl
theorem get_cT0 (x : Tm) : (cT x)[0]? = some (cI x.exps) := rfl
theorem get_cT1 (x : Tm) : (cT x)[1]? = some (vI x.num.fault) := rfl
theorem get_cT2 (x : Tm) : (cT x)[2]? = some (vB x.num.neg) := rfl
theorem get_cT3 (x : Tm) : (cT x)[3]? = some (cN x.num.num) := rfl
theorem get_cT4 (x : Tm) : (cT x)[4]? = some (cN x.num.den) := rfl
theorem get_cS0 (x : Sp) : (cS x)[0]? = some (vI x.kind) := rfl
theorem get_cS1 (x : Sp) : (cS x)[1]? = some (vI x.a) := rfl
theorem get_cS2 (x : Sp) : (cS x)[2]? = some (vI x.b) := rfl
theorem get_cS3 (x : Sp) : (cS x)[3]? = some (vI x.num.fault) := rfl
theorem get_cS4 (x : Sp) : (cS x)[4]? = some (vB x.num.neg) := rfl
theorem get_cS5 (x : Sp) : (cS x)[5]? = some (cN x.num.num) := rfl
theorem get_cS6 (x : Sp) : (cS x)[6]? = some (cN x.num.den) := rfl
theorem get_cP0 (x : Py) : (cP x)[0]? = some (vI x.vars) := rfl
theorem get_cP1 (x : Py) : (cP x)[1]? = some (cTs x.terms) := rfl
theorem get_cQ0 (x : Qt) : (cQ x)[0]? = some (vI x.num.vars) := rfl
theorem get_cQ1 (x : Qt) : (cQ x)[1]? = some (cTs x.num.terms) := rfl
theorem get_cQ2 (x : Qt) : (cQ x)[2]? = some (vI x.den.vars) := rfl
theorem get_cQ3 (x : Qt) : (cQ x)[3]? = some (cTs x.den.terms) := rfl
theorem get_cTp0 (x : Tp) : (cTp x)[0]? = some (vI x.inputs) := rfl
theorem get_cTp1 (x : Tp) : (cTp x)[1]? = some (.sl (x.steps.map cS)) := rfl
theorem get_cTp2 (x : Tp) : (cTp x)[2]? = some (cI x.outputs) := rfl
theorem td_T (x : Tm) : List.take 4 (List.drop 1 (cT x)) = cR x.num := rfl
theorem td_S (x : Sp) : List.take 4 (List.drop 3 (cS x)) = cR x.num := rfl
theorem td_Q1 (x : Qt) : List.take 2 (List.drop 2 (cQ x)) = cP x.den := rfl
theorem td_Q0 (x : Qt) : List.take 2 (cQ x) = cP x.num := rfl
theorem ms_cR (x : Rt) : List.map SV.sh (cR x) = [.sh (vI x.fault), .sh (vB x.neg), .sh (cN x.num), .sh (cN x.den)] := rfl
theorem ms_cT (x : Tm) : List.map SV.sh (cT x) = [.sh (cI x.exps), .sh (vI x.num.fault), .sh (vB x.num.neg), .sh (cN x.num.num), .sh (cN x.num.den)] := rfl
theorem ms_cS (x : Sp) : List.map SV.sh (cS x) = [.sh (vI x.kind), .sh (vI x.a), .sh (vI x.b), .sh (vI x.num.fault), .sh (vB x.num.neg), .sh (cN x.num.num), .sh (cN x.num.den)] := rfl
theorem ms_cP (x : Py) : List.map SV.sh (cP x) = [.sh (vI x.vars), .sh (cTs x.terms)] := rfl
theorem ms_cQ (x : Qt) : List.map SV.sh (cQ x) = [.sh (vI x.num.vars), .sh (cTs x.num.terms), .sh (vI x.den.vars), .sh (cTs x.den.terms)] := rfl
theorem ms_cTp (x : Tp) : List.map SV.sh (cTp x) = [.sh (vI x.inputs), .sh (.sl (x.steps.map cS)), .sh (cI x.outputs)] := rfl
theorem dg_cR1 (x : Rt) : (List.drop 1 (cR x))[0]? = some (vB x.neg) := rfl
theorem dg_cR2 (x : Rt) : (List.drop 2 (cR x))[0]? = some (cN x.num) := rfl
theorem dg_cR3 (x : Rt) : (List.drop 3 (cR x))[0]? = some (cN x.den) := rfl
theorem dg_cT1 (x : Tm) : (List.drop 1 (cT x))[0]? = some (vI x.num.fault) := rfl
theorem dg_cT2 (x : Tm) : (List.drop 2 (cT x))[0]? = some (vB x.num.neg) := rfl
theorem dg_cT3 (x : Tm) : (List.drop 3 (cT x))[0]? = some (cN x.num.num) := rfl
theorem dg_cT4 (x : Tm) : (List.drop 4 (cT x))[0]? = some (cN x.num.den) := rfl
theorem dg_cS1 (x : Sp) : (List.drop 1 (cS x))[0]? = some (vI x.a) := rfl
theorem dg_cS2 (x : Sp) : (List.drop 2 (cS x))[0]? = some (vI x.b) := rfl
theorem dg_cS3 (x : Sp) : (List.drop 3 (cS x))[0]? = some (vI x.num.fault) := rfl
theorem dg_cS4 (x : Sp) : (List.drop 4 (cS x))[0]? = some (vB x.num.neg) := rfl
theorem dg_cS5 (x : Sp) : (List.drop 5 (cS x))[0]? = some (cN x.num.num) := rfl
theorem dg_cS6 (x : Sp) : (List.drop 6 (cS x))[0]? = some (cN x.num.den) := rfl
theorem dg_cP1 (x : Py) : (List.drop 1 (cP x))[0]? = some (cTs x.terms) := rfl
theorem dg_cQ1 (x : Qt) : (List.drop 1 (cQ x))[0]? = some (cTs x.num.terms) := rfl
theorem dg_cQ2 (x : Qt) : (List.drop 2 (cQ x))[0]? = some (vI x.den.vars) := rfl
theorem dg_cQ3 (x : Qt) : (List.drop 3 (cQ x))[0]? = some (cTs x.den.terms) := rfl
theorem dg_cTp1 (x : Tp) : (List.drop 1 (cTp x))[0]? = some (.sl (x.steps.map cS)) := rfl
theorem dg_cTp2 (x : Tp) : (List.drop 2 (cTp x))[0]? = some (cI x.outputs) := rfl
theorem dd_cT11 (x : Tm) : (List.drop 1 (List.drop 1 (cT x)))[0]? = some (vB x.num.neg) := rfl
theorem dd_cT12 (x : Tm) : (List.drop 2 (List.drop 1 (cT x)))[0]? = some (cN x.num.num) := rfl
theorem dd_cT13 (x : Tm) : (List.drop 3 (List.drop 1 (cT x)))[0]? = some (cN x.num.den) := rfl
theorem dd_cS31 (x : Sp) : (List.drop 1 (List.drop 3 (cS x)))[0]? = some (vB x.num.neg) := rfl
theorem dd_cS32 (x : Sp) : (List.drop 2 (List.drop 3 (cS x)))[0]? = some (cN x.num.num) := rfl
theorem dd_cS33 (x : Sp) : (List.drop 3 (List.drop 3 (cS x)))[0]? = some (cN x.num.den) := rfl
theorem dd_cQ21 (x : Qt) : (List.drop 1 (List.drop 2 (cQ x)))[0]? = some (cTs x.den.terms) := rfl
theorem AZ : type_of% (And.intro @dg_cR1 (And.intro @dg_cR2 (And.intro @dg_cR3 (And.intro @dg_cT1 (And.intro @dg_cT2 (And.intro @dg_cT3 (And.intro @dg_cT4 (And.intro @dg_cS1 (And.intro @dg_cS2 (And.intro @dg_cS3 (And.intro @dg_cS4 (And.intro @dg_cS5 (And.intro @dg_cS6 (And.intro @dg_cP1 (And.intro @dg_cQ1 (And.intro @dg_cQ2 (And.intro @dg_cQ3 (And.intro @dg_cTp1 (And.intro @dg_cTp2 (And.intro @dd_cT11 (And.intro @dd_cT12 (And.intro @dd_cT13 (And.intro @dd_cS31 (And.intro @dd_cS32 (And.intro @dd_cS33 (And.intro @dd_cQ21 (And.intro @ms_cR (And.intro @ms_cT (And.intro @ms_cS (And.intro @ms_cP (And.intro @ms_cQ (And.intro @ms_cTp (And.intro @get_cR0 (And.intro @get_cR1 (And.intro @get_cR2 (And.intro @get_cR3 (And.intro @get_cT0 (And.intro @get_cT1 (And.intro @get_cT2 (And.intro @get_cT3 (And.intro @get_cT4 (And.intro @get_cS0 (And.intro @get_cS1 (And.intro @get_cS2 (And.intro @get_cS3 (And.intro @get_cS4 (And.intro @get_cS5 (And.intro @get_cS6 (And.intro @get_cP0 (And.intro @get_cP1 (And.intro @get_cQ0 (And.intro @get_cQ1 (And.intro @get_cQ2 (And.intro @get_cQ3 (And.intro @get_cTp0 (And.intro @get_cTp1 (And.intro @get_cTp2 (And.intro @td_T (And.intro @td_S (And.intro @td_Q1 (And.intro @td_Q0 (And.intro @len_cR (And.intro @take_cR (And.intro @len_cS (And.intro @take_cS (And.intro @len_cT (And.intro @take_cT (And.intro @len_cQ (And.intro @take_cQ (And.intro @len_cP (And.intro @take_cP (And.intro @len_cTp (And.intro @take_cTp (And.intro z_ti3 (And.intro z_ti4 (And.intro z_ti5 (And.intro z_ti9 (And.intro z_ti21 (And.intro z_ti22 (And.intro z_ti23 (And.intro z_ti25 (And.intro z_ti26 (And.intro z_ti29 (And.intro z_ti33 (And.intro z_ti36 (And.intro z_ti44 (And.intro z_ti46 (And.intro z_ti48 (And.intro z_ti51 (And.intro z_ti78 (And.intro z_ti80 (And.intro z_ti90 (And.intro z_ti101 (And.intro z_ti103 (And.intro z_ti108 (And.intro z_ti109 (And.intro z_ti113 (And.intro z_ti115 (And.intro z_ti132 (And.intro z_ti136 (And.intro z_ti140 (And.intro z_ti152 (And.intro z_ti174 (And.intro z_ti176 (And.intro z_ti188 (And.intro z_ti193 (And.intro z_ti194 (And.intro z_ti196 (And.intro z_ti198 (And.intro z_ti238 (And.intro z_ti263 (z_ti264)))))))))))))))))))))))))))))))))))))))))))))))))))))))))))))))))))))))))))))))))))))))))))))))))))))))))))))))) := And.intro @dg_cR1 (And.intro @dg_cR2 (And.intro @dg_cR3 (And.intro @dg_cT1 (And.intro @dg_cT2 (And.intro @dg_cT3 (And.intro @dg_cT4 (And.intro @dg_cS1 (And.intro @dg_cS2 (And.intro @dg_cS3 (And.intro @dg_cS4 (And.intro @dg_cS5 (And.intro @dg_cS6 (And.intro @dg_cP1 (And.intro @dg_cQ1 (And.intro @dg_cQ2 (And.intro @dg_cQ3 (And.intro @dg_cTp1 (And.intro @dg_cTp2 (And.intro @dd_cT11 (And.intro @dd_cT12 (And.intro @dd_cT13 (And.intro @dd_cS31 (And.intro @dd_cS32 (And.intro @dd_cS33 (And.intro @dd_cQ21 (And.intro @ms_cR (And.intro @ms_cT (And.intro @ms_cS (And.intro @ms_cP (And.intro @ms_cQ (And.intro @ms_cTp (And.intro @get_cR0 (And.intro @get_cR1 (And.intro @get_cR2 (And.intro @get_cR3 (And.intro @get_cT0 (And.intro @get_cT1 (And.intro @get_cT2 (And.intro @get_cT3 (And.intro @get_cT4 (And.intro @get_cS0 (And.intro @get_cS1 (And.intro @get_cS2 (And.intro @get_cS3 (And.intro @get_cS4 (And.intro @get_cS5 (And.intro @get_cS6 (And.intro @get_cP0 (And.intro @get_cP1 (And.intro @get_cQ0 (And.intro @get_cQ1 (And.intro @get_cQ2 (And.intro @get_cQ3 (And.intro @get_cTp0 (And.intro @get_cTp1 (And.intro @get_cTp2 (And.intro @td_T (And.intro @td_S (And.intro @td_Q1 (And.intro @td_Q0 (And.intro @len_cR (And.intro @take_cR (And.intro @len_cS (And.intro @take_cS (And.intro @len_cT (And.intro @take_cT (And.intro @len_cQ (And.intro @take_cQ (And.intro @len_cP (And.intro @take_cP (And.intro @len_cTp (And.intro @take_cTp (And.intro z_ti3 (And.intro z_ti4 (And.intro z_ti5 (And.intro z_ti9 (And.intro z_ti21 (And.intro z_ti22 (And.intro z_ti23 (And.intro z_ti25 (And.intro z_ti26 (And.intro z_ti29 (And.intro z_ti33 (And.intro z_ti36 (And.intro z_ti44 (And.intro z_ti46 (And.intro z_ti48 (And.intro z_ti51 (And.intro z_ti78 (And.intro z_ti80 (And.intro z_ti90 (And.intro z_ti101 (And.intro z_ti103 (And.intro z_ti108 (And.intro z_ti109 (And.intro z_ti113 (And.intro z_ti115 (And.intro z_ti132 (And.intro z_ti136 (And.intro z_ti140 (And.intro z_ti152 (And.intro z_ti174 (And.intro z_ti176 (And.intro z_ti188 (And.intro z_ti193 (And.intro z_ti194 (And.intro z_ti196 (And.intro z_ti198 (And.intro z_ti238 (And.intro z_ti263 (z_ti264)))))))))))))))))))))))))))))))))))))))))))))))))))))))))))))))))))))))))))))))))))))))))))))))))))))))))))))))
end Go.Pw
set_option maxRecDepth 100000
set_option linter.unusedVariables false
namespace Go.Pw
open Go Go.Proofs
theorem SZ {P Q : Prop} (kQ : Q) (h : (Unit → Q) → P := by
 intro hQ
 repeat'(with_reducible first|apply p_seq|apply p_sq|apply p_reg|apply p_nil|apply p_skip|apply p_block|apply p_bq|apply p_ret|apply p_exit|apply p_sq_ret|apply p_sq_exit|apply p_bq_ret|apply p_bq_this|apply p_lq_ret|apply p_lq_exit|apply d_nil|refine p_drw (by decide +kernel) ?_|refine f_op rfl rfl ?_|refine f_opg rfl rfl rfl rfl ?_ ?_|refine f_new rfl rfl rfl rfl ?_|(refine f_end (And.intro ?_ ?_)<;>simp only [List.foldl_nil,List.foldl_cons,recS_mk,AB,AD,AZ,Nat.reduceEqDiff,↓reduceIte,Nat.reduceAdd,Nat.reduceMul,Nat.reducePow,Nat.reduceLeDiff,Nat.reduceLT])|apply k_nil|refine k_cons2 rfl rfl ?_ ?_|(refine fun (K1:SV→Prop) hK1=>?_;simp (disch := omega) only [AB,AD,AZ,Nat.reduceEqDiff,↓reduceIte,Nat.reduceAdd,Nat.reduceMul,Nat.reducePow,Nat.reduceLeDiff,Nat.reduceLT];with_unfolding_all exact hK1)|(with_unfolding_all exact (rfl : true = true))|(with_unfolding_all exact (rfl : (0:Nat) = 0))|apply g_nil|refine g_op0 rfl ?_|refine g_opC rfl ?_|refine p_bq_other (by decide) ?_|refine p_cond rfl ?_ ?_|refine p_op rfl ?_|refine d_op rfl rfl ?_|refine d_eff rfl ?_|refine p_opg rfl rfl rfl ?_ ?_|refine d_opg rfl rfl rfl rfl ?_ ?_|((first|refine p_opgU rfl rfl rfl ?_|refine d_opgU rfl rfl rfl rfl ?_);try simp only [put_some])|(refine fun (K1:St→Prop) hK1=>?_;simp (disch := omega) only [AB,AD,AZ,Nat.reduceEqDiff,↓reduceIte,Nat.reduceAdd,Nat.reduceMul,Nat.reducePow,Nat.reduceLeDiff,Nat.reduceLT];(try simp (disch := omega) only [AC]);(try simp only [AM]))|(refine hK1 _ ?_;clear hK1 K1)|refine And.intro (by omega) ?_|apply And.intro|(refine fun (hZb:(_:Bool)=_)=>?_;(try simp only [HS] at hZb);(try (change True at hZb;clear hZb));first|(exfalso;first|omega|contradiction)|(try simp only [put_some])))
 all_goals ((try revert K1);(repeat revert hZb))
 exact hQ ()) : P := h (fun _ => kQ)
theorem WZ {P Q R : Prop} (kQ : Q) (kR : R) (h : (Unit → Q) → (Unit → R) → P := by
 intro hQ hR
 repeat'(with_reducible first|apply p_seq|apply p_sq|apply p_reg|apply p_nil|apply p_skip|apply p_block|apply p_bq|apply p_ret|apply p_exit|apply p_sq_ret|apply p_sq_exit|apply p_bq_ret|apply p_bq_this|apply p_lq_ret|apply p_lq_exit|apply d_nil|refine p_drw (by decide +kernel) ?_|refine f_op rfl rfl ?_|refine f_opg rfl rfl rfl rfl ?_ ?_|refine f_new rfl rfl rfl rfl ?_|(refine f_end (And.intro ?_ ?_)<;>simp only [List.foldl_nil,List.foldl_cons,recS_mk,AB,AD,AZ,Nat.reduceEqDiff,↓reduceIte,Nat.reduceAdd,Nat.reduceMul,Nat.reducePow,Nat.reduceLeDiff,Nat.reduceLT])|apply k_nil|refine k_cons2 rfl rfl ?_ ?_|(refine fun (K1:SV→Prop) hK1=>?_;simp (disch := omega) only [AB,AD,AZ,Nat.reduceEqDiff,↓reduceIte,Nat.reduceAdd,Nat.reduceMul,Nat.reducePow,Nat.reduceLeDiff,Nat.reduceLT];with_unfolding_all exact hK1)|(with_unfolding_all exact (rfl : true = true))|(with_unfolding_all exact (rfl : (0:Nat) = 0))|apply g_nil|refine g_op0 rfl ?_|refine g_opC rfl ?_|refine p_bq_other (by decide) ?_|refine p_cond rfl ?_ ?_|refine p_op rfl ?_|refine d_op rfl rfl ?_|refine d_eff rfl ?_|refine p_opg rfl rfl rfl ?_ ?_|refine d_opg rfl rfl rfl rfl ?_ ?_|((first|refine p_opgU rfl rfl rfl ?_|refine d_opgU rfl rfl rfl rfl ?_);try simp only [put_some])|(refine fun (K1:St→Prop) hK1=>?_;simp (disch := omega) only [AB,AD,AZ,Nat.reduceEqDiff,↓reduceIte,Nat.reduceAdd,Nat.reduceMul,Nat.reducePow,Nat.reduceLeDiff,Nat.reduceLT];(try simp (disch := omega) only [AC]);(try simp only [AM]))|(refine hK1 _ ?_;clear hK1 K1)|refine And.intro (by omega) ?_|apply And.intro|(refine fun (hZb:(_:Bool)=_)=>?_;(try simp only [HS] at hZb);(try (change True at hZb;clear hZb));first|(exfalso;first|omega|contradiction)|(try simp only [put_some])))
 all_goals ((try revert K1);(repeat revert hZb))
 exact hQ ()
 exact hR ()) : P := h (fun _ => kQ) (fun _ => kR)
theorem VZ {P Q R T : Prop} (kQ : Q) (kR : R) (kT : T) (h : (Unit → Q) → (Unit → R) → (Unit → T) → P := by
 intro hQ hR hT
 repeat'(with_reducible first|apply p_seq|apply p_sq|apply p_reg|apply p_nil|apply p_skip|apply p_block|apply p_bq|apply p_ret|apply p_exit|apply p_sq_ret|apply p_sq_exit|apply p_bq_ret|apply p_bq_this|apply p_lq_ret|apply p_lq_exit|apply d_nil|refine p_drw (by decide +kernel) ?_|refine f_op rfl rfl ?_|refine f_opg rfl rfl rfl rfl ?_ ?_|refine f_new rfl rfl rfl rfl ?_|(refine f_end (And.intro ?_ ?_)<;>simp only [List.foldl_nil,List.foldl_cons,recS_mk,AB,AD,AZ,Nat.reduceEqDiff,↓reduceIte,Nat.reduceAdd,Nat.reduceMul,Nat.reducePow,Nat.reduceLeDiff,Nat.reduceLT])|apply k_nil|refine k_cons2 rfl rfl ?_ ?_|(refine fun (K1:SV→Prop) hK1=>?_;simp (disch := omega) only [AB,AD,AZ,Nat.reduceEqDiff,↓reduceIte,Nat.reduceAdd,Nat.reduceMul,Nat.reducePow,Nat.reduceLeDiff,Nat.reduceLT];with_unfolding_all exact hK1)|(with_unfolding_all exact (rfl : true = true))|(with_unfolding_all exact (rfl : (0:Nat) = 0))|apply g_nil|refine g_op0 rfl ?_|refine g_opC rfl ?_|refine p_bq_other (by decide) ?_|refine p_cond rfl ?_ ?_|refine p_op rfl ?_|refine d_op rfl rfl ?_|refine d_eff rfl ?_|refine p_opg rfl rfl rfl ?_ ?_|refine d_opg rfl rfl rfl rfl ?_ ?_|((first|refine p_opgU rfl rfl rfl ?_|refine d_opgU rfl rfl rfl rfl ?_);try simp only [put_some])|(refine fun (K1:St→Prop) hK1=>?_;simp (disch := omega) only [AB,AD,AZ,Nat.reduceEqDiff,↓reduceIte,Nat.reduceAdd,Nat.reduceMul,Nat.reducePow,Nat.reduceLeDiff,Nat.reduceLT];(try simp (disch := omega) only [AC]);(try simp only [AM]))|(refine hK1 _ ?_;clear hK1 K1)|refine And.intro (by omega) ?_|apply And.intro|(refine fun (hZb:(_:Bool)=_)=>?_;(try simp only [HS] at hZb);(try (change True at hZb;clear hZb));first|(exfalso;first|omega|contradiction)|(try simp only [put_some])))
 all_goals ((try revert K1);(repeat revert hZb))
 exact hQ ()
 exact hR ()
 exact hT ()) : P := h (fun _ => kQ) (fun _ => kR) (fun _ => kT)
end Go.Pw
