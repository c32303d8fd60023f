/- Merged from the working texts Pn6 Pn7 PnC. -/
import Derived.Test.YtkflegdaeienlaaGreatDoorKc25
import Derived.Test.YtkflegdaeienlaaGreatDoorKc27
import Derived.Test.YtkflegdaeienlaaGreatDoorKc23
set_option linter.all false
set_option maxHeartbeats 400000
set_option maxRecDepth 100000
set_option linter.unusedVariables false
set_option linter.unusedSimpArgs false
namespace Go.Pw
open Go Go.Proofs
def win (u : List Nat) (i : Nat) (l : List Nat) : List Nat := u.take i ++ l ++ u.drop (i + l.length)
theorem plain_N (l : List Nat) : (Ob.rw 103 1 (SR (l.map fun (x : Nat) => [PV.val (.int .u32 (x : Int))]))).plain = true := allSh_SR _
theorem win_len {u l : List Nat} {i : Nat} (h : i + l.length ≤ u.length) : (win u i l).length = u.length := by
 simp only [win, List.length_append, List.length_take, List.length_drop]
 omega
theorem win_nil (u : List Nat) (i : Nat) : win u i [] = u := by simp [win]
theorem win_ok {u l : List Nat} (hu : dok u) (hl : dok l) (i : Nat) : dok (win u i l) := dok_append.2 ⟨dok_append.2 ⟨dok_take hu _, hl⟩, dok_drop hu _⟩
theorem win_get {u l : List Nat} {i : Nat} (h : i + l.length ≤ u.length) : (win u i l).getD (i + l.length) 0 = u.getD (i + l.length) 0 := by
 simp only [win, List.getD_eq_getElem?_getD]
 rw [List.getElem?_append_right (by simp; omega)]
 simp only [List.length_append, List.length_take, List.getElem?_drop]
 rw [Nat.min_eq_left (by omega), Nat.sub_self, Nat.add_zero]
theorem win_set {u l : List Nat} {i : Nat} (h : i + l.length < u.length) (d : Nat) : (win u i l).set (i + l.length) d = win u i (l ++ [d]) := by
 simp only [win]
 rw [List.set_append_right _ _ (by simp; omega)]
 simp only [List.length_append, List.length_take, List.length_cons, List.length_nil]
 rw [Nat.min_eq_left (by omega), Nat.sub_self, List.drop_eq_getElem_cons h]
 simp [Nat.add_assoc]
theorem part_get {u : List Nat} {i n k : Nat} (hk : k < n) : ((u.drop i).take n).getD k 0 = u.getD (i + k) 0 := by
 simp only [List.getD_eq_getElem?_getD, List.getElem?_take, List.getElem?_drop, if_pos hk]
theorem take_step {L q V W P b c d0 m uk vk b' c' : Nat} (hI : L + q * (V % P) = W % P + (b + c) * P) (h1 : d0 + m + b = uk + b' * 4294967296) (h2 : c + q * vk = m + c' * 4294967296) :
   L + P * d0 + q * (V % P + P * vk) = W % P + P * uk + (b' + c') * (P * 4294967296) := by
 have e1 : P * (d0 + m + b) = P * (uk + b' * 4294967296) := by rw [h1]
 have e2 : P * (c + q * vk) = P * (m + c' * 4294967296) := by rw [h2]
 simp only [Nat.mul_add, Nat.add_mul] at *
 rw [Nat.mul_comm b P, Nat.mul_comm c P] at hI
 have e3 : q * (P * vk) = P * (q * vk) := Nat.mul_left_comm _ _ _
 have e4 : b' * (P * 4294967296) = P * (b' * 4294967296) := Nat.mul_left_comm _ _ _
 have e5 : c' * (P * 4294967296) = P * (c' * 4294967296) := Nat.mul_left_comm _ _ _
 omega
theorem and_lo (n : Nat) : (n &&& 4294967295) = n % 4294967296 := Nat.and_two_pow_sub_one_eq_mod n 32
theorem rqo1 (t : Nat) (d : PV) (ob' : Ob) (e : List (Nat × SV)) (o : List (Nat × Option Ob)) : rqo [t] d ob' .ret (mkS e o) = withSh false (mkS e o) (getS e t) fun d' τ => d' = d ∧ τ.o 1000000 = some ob' := rfl
theorem rqo0 (d : PV) (ob' : Ob) (e : List (Nat × SV)) (o : List (Nat × Option Ob)) : rqo [] d ob' .normal (mkS e o) = (.tup [] = d ∧ (mkS e o).o 1000000 = some ob') := rfl
def tk (u : List Nat) (i n q V : Nat) : List Nat := win u i (fd n ((val ((u.drop i).take n) + 4294967296 ^ n - q * V) % 4294967296 ^ n))
theorem con_take (k0 : Nat) (u v : List Nat) (i n q : Nat) (hu : dok u) (hv : dok v) (hi : i + n ≤ u.length) (hn : v.length < n) (hq : q < 4294967296) (h : u.length < 2 ^ 39) :
   ConIO E 283 (.sub k0 1 i n) [cN v, .val (.int .u64 q)] (.rw 103 1 (SR (u.map fun (x : Nat) => [PV.val (.int .u32 (x : Int))]))) (.rw 103 1 (SR ((tk u i n q (val v)).map fun (x : Nat) => [PV.val (.int .u32 (x : Int))]))) (vB (decide (q * val v ≤ val ((u.drop i).take n)))) := by
 refine conIO_of mixed (fn := Tryz.f283) (ts := [6]) Tryz.func283 (by kernel_rfl) rfl (by kernel_rfl) rfl rfl (plain_N _) ?_
 simp only [argE, Nat.reduceAdd, cN, vI, SV.to]
 (refine SA ?_;intros)
 have hW : dok ((u.drop i).take n) := dok_take (dok_drop hu _) _
 have hWl : ((u.drop i).take n).length = n := by simp; omega
 refine p_loopx (fun (a : Nat × List Nat × Nat × Nat) => [(13, .sh (vI a.1)), (12, .sh (vI n)), (7, .sh (.val (.int .u64 a.2.2.1))), (8, .sh (.val (.int .u64 a.2.2.2))), (0, .sub 1000000 1 i n), (1, .sh (cN v)), (2, .sh (.val (.int .u64 q)))]) (fun a => [(1000000, some (.rw 103 1 (SR ((win u i a.2.1).map fun (x : Nat) => [PV.val (.int .u32 (x : Int))]))))]) (fun a => n - a.1)
   (fun a => a.1 ≤ n ∧ a.2.1.length = a.1 ∧ dok a.2.1 ∧ a.2.2.1 < 4294967296 ∧ a.2.2.2 ≤ 1 ∧ a.2.2.1 = q * (val v % 4294967296 ^ a.1) / 4294967296 ^ a.1 ∧ val a.2.1 + q * (val v % 4294967296 ^ a.1) = val ((u.drop i).take n) % 4294967296 ^ a.1 + (a.2.2.2 + a.2.2.1) * 4294967296 ^ a.1) (0, [], 0, 0) (Weak.list ⟨rfl, rfl, rfl, rfl, rfl, rfl, rfl, trivial⟩ ⟨by simp [win_nil, getO], trivial⟩) ⟨Nat.zero_le _, rfl, dok_nil, by simp, by simp, by simp [Nat.mod_one], by simp [val, Nat.mod_one]⟩ ?_
 rintro ⟨k, l, c, b⟩ ⟨hk, hl, hok, hc, hb, hcc, hI⟩
 simp only [cN, vI] at *
 have hlen := win_len (u := u) (l := l) (i := i) (by omega)
 have hlen2 : (win u i l).length < 2 ^ 39 := by omega
 have lo := getD_lt (i + k) (win_ok hu hok i)
 have lv := getD_lt k hv
 have hb1 := mul_bound hq lv
 have gu := getD_val k hW
 have gv := getD_val k hv
 have gw : (win u i l).getD (i + k) 0 = u.getD (i + k) 0 := by rw [← hl]; exact win_get (by omega)
 have hb2 : (0 : Int) ≤ (q : Int) * ((v.getD k 0 : Nat) : Int) := Int.natCast_nonneg (q * v.getD k 0)
 have hb3 : (q : Int) * ((v.getD k 0 : Nat) : Int) ≤ 18446744065119617025 := Int.ofNat_le.2 hb1
 have e1 : ((c : Int) + (q : Int) * ((v.getD k 0 : Nat) : Int)).toNat = c + q * v.getD k 0 := rfl
 have e2 := and_lo (c + q * v.getD k 0)
 have ek : ((k : Int)).toNat = k := rfl
 have hid : Hid (_ ∧ _ ∧ _ ∧ _ ∧ _) := ⟨hI, gu, gv, gw, hcc⟩
 clear hI gu gv gw hcc
 (refine WA ?_ ?_<;>intros;rename_i hb K1 hK1;rotate_left;rename_i hb;rotate_right)
 · (refine ⟨_,con_at v k hv (by omega),hK1 _ ?_⟩;clear hK1 K1;try simp only [put_some,cN,vI,vB,cR])
   (refine SA ?_;intros)
   obtain ⟨hI, gu, gv, gw, hcc⟩ := hid
   have e3 : Int.toNat 4294967295 = 4294967295 := rfl
   rw [e1, e3, e2, gw]
   rw [gw] at lo
   rw [part_get (by omega)] at gu
   have hm := Nat.mod_lt (c + q * v.getD k 0) (show 4294967296 > 0 by omega)
   have hdm := Nat.mod_add_div (c + q * v.getD k 0) 4294967296
   have hc' : (c + q * v.getD k 0) / 4294967296 < 4294967296 := Nat.div_lt_of_lt_mul (by omega)
   have eM : ((c : Int) + (q : Int) * ((v.getD k 0 : Nat) : Int)) / 4294967296 = (((c + q * v.getD k 0) / 4294967296 : Nat) : Int) := by
     rw [Int.natCast_ediv, Int.natCast_add, Int.natCast_mul]; rfl
   have hcn : (c + q * v.getD k 0) / 4294967296 = q * (val v % 4294967296 ^ (k + 1)) / 4294967296 ^ (k + 1) := by
     rw [mod_succ, ← gv, Nat.mul_add, Nat.mul_left_comm q, Nat.pow_succ, ← Nat.div_div_eq_div_mul, Nat.add_mul_div_left _ _ (pow_pos' k), ← hcc]
   have hd : ∃ d0 b' : Nat, d0 < 4294967296 ∧ b' ≤ 1 ∧ d0 + (c + q * v.getD k 0) % 4294967296 + b = u.getD (i + k) 0 + b' * 4294967296 := by
     generalize (c + q * v.getD k 0) % 4294967296 = m at *
     generalize u.getD (i + k) 0 = z at *
     by_cases hlt : m + b ≤ z
     · exact ⟨z - m - b, 0, by omega, by omega, by omega⟩
     · exact ⟨z + 4294967296 - m - b, 1, by omega, by omega, by omega⟩
   obtain ⟨d0, b', hd1, hd2, hd3⟩ := hd
   have hst := take_step hI hd3 (show c + q * v.getD k 0 = (c + q * v.getD k 0) % 4294967296 + (c + q * v.getD k 0) / 4294967296 * 4294967296 by rw [Nat.mul_comm ((c + q * v.getD k 0) / 4294967296)]; exact hdm.symm)
   rw [eM]
   have g1 : (((((u.getD (i + k) 0 : Nat) : Int) - (((c + q * v.getD k 0) % 4294967296 : Nat) : Int)) % 18446744073709551616 - (b : Int)) % 18446744073709551616 % 4294967296).toNat = d0 := by
     clear hI hst hcn gu gv hcc hdm eM
     generalize (c + q * v.getD k 0) % 4294967296 = m at *
     generalize u.getD (i + k) 0 = z at *
     omega
   have g2 : ((((u.getD (i + k) 0 : Nat) : Int) - (((c + q * v.getD k 0) % 4294967296 : Nat) : Int)) % 18446744073709551616 - (b : Int)) % 18446744073709551616 / 9223372036854775808 = (b' : Int) := by
     clear hI hst hcn gu gv hcc hdm eM g1
     generalize (c + q * v.getD k 0) % 4294967296 = m at *
     generalize u.getD (i + k) 0 = z at *
     omega
   rw [g1, g2]
   have hws : (win u i l).set (i + k) d0 = win u i (l ++ [d0]) := by rw [← hl]; exact win_set (by omega) d0
   rw [hws]
   clear g1 g2 hws
   refine p_lx _ _ _ _ (k + 1, l ++ [d0], (c + q * v.getD k 0) / 4294967296, b') ?_ ⟨?_, ?_, ?_, ?_, ?_, ?_, ?_⟩ (Weak.list ⟨int_eq ?_, rfl, rfl, rfl, rfl, rfl, rfl, trivial⟩ ⟨rfl, trivial⟩) <;> dsimp only
   · omega
   · omega
   · simp [hl]
   · exact dok_append.2 ⟨hok, dok_cons.2 ⟨hd1, dok_nil⟩⟩
   · exact hc'
   · exact hd2
   · exact hcn
   · rw [val_append, hl, mod_succ, mod_succ, ← gv, ← gu]
     simp only [val, Nat.mul_zero, Nat.add_zero]
     rw [Nat.pow_succ]
     exact hst
   · omega
 · simp only [rqo1, AB,Nat.reduceEqDiff,↓reduceIte,Nat.reduceAdd,Nat.reduceMul,Nat.reducePow,Nat.reduceLeDiff,Nat.reduceLT]
   obtain ⟨hI, gu, gv, gw, hcc⟩ := hid
   obtain rfl : k = n := by omega
   have hV : val v < 4294967296 ^ k := Nat.lt_of_lt_of_le (val_lt hv) (Nat.pow_le_pow_right (by omega) (by omega))
   have hqV : q * val v < 4294967296 ^ k := by
     obtain ⟨j, rfl⟩ : ∃ j, k = j + 1 := ⟨k - 1, by omega⟩
     have h1 : val v < 4294967296 ^ j := Nat.lt_of_lt_of_le (val_lt hv) (Nat.pow_le_pow_right (by omega) (by omega))
     rw [Nat.pow_succ, Nat.mul_comm (4294967296 ^ j)]
     exact Nat.lt_of_le_of_lt (Nat.mul_le_mul_right _ (Nat.le_of_lt hq)) (Nat.mul_lt_mul_of_pos_left h1 (by omega))
   have hWlt := val_lt hW
   rw [hWl] at hWlt
   rw [Nat.mod_eq_of_lt hV] at hcc hI
   rw [Nat.div_eq_of_lt hqV] at hcc
   subst hcc
   rw [Nat.mod_eq_of_lt hWlt, Nat.add_zero] at hI
   have hL := val_lt hok
   rw [hl] at hL
   have hfin : (b = 0 ↔ q * val v ≤ val ((u.drop i).take k)) ∧ val l = (val ((u.drop i).take k) + 4294967296 ^ k - q * val v) % 4294967296 ^ k := by
     rcases Nat.lt_or_ge b 1 with h1 | h1
     · obtain rfl : b = 0 := by omega
       rw [Nat.zero_mul, Nat.add_zero] at hI
       refine ⟨⟨fun _ => by omega, fun _ => rfl⟩, ?_⟩
       rw [← hI, show val l + q * val v + 4294967296 ^ k - q * val v = val l + 4294967296 ^ k by omega, Nat.add_mod_right, Nat.mod_eq_of_lt hL]
     · obtain rfl : b = 1 := by omega
       rw [Nat.one_mul] at hI
       refine ⟨⟨fun h => by omega, fun h => by omega⟩, ?_⟩
       rw [← hI, Nat.add_sub_cancel, Nat.mod_eq_of_lt hL]
   refine ⟨?_, ?_⟩
   · simp only [vB]
     congr 2
     rw [Bool.eq_iff_iff, beq_iff_eq, decide_eq_true_iff, ← hfin.1]
     omega
   · rw [tk, ← hfin.2, ← hl, fd_of hok]
theorem give_step {L V W P c d0 uk vk c' : Nat} (hI : L + c * P = W % P + V % P) (h2 : c + (uk + vk) = d0 + c' * 4294967296) :
   L + P * d0 + c' * (P * 4294967296) = W % P + P * uk + (V % P + P * vk) := by
 have e2 : P * (c + (uk + vk)) = P * (d0 + c' * 4294967296) := by rw [h2]
 simp only [Nat.mul_add] at *
 rw [Nat.mul_comm c P] at hI
 have e5 : c' * (P * 4294967296) = P * (c' * 4294967296) := Nat.mul_left_comm _ _ _
 omega
def gk (u : List Nat) (i n V : Nat) : List Nat := win u i (fd n ((val ((u.drop i).take n) + V) % 4294967296 ^ n))
theorem con_give (k0 : Nat) (u v : List Nat) (i n : Nat) (hu : dok u) (hv : dok v) (hi : i + n ≤ u.length) (hn : v.length < n) (h : u.length < 2 ^ 39) :
   ConIO E 284 (.sub k0 1 i n) [cN v] (.rw 103 1 (SR (u.map fun (x : Nat) => [PV.val (.int .u32 (x : Int))]))) (.rw 103 1 (SR ((gk u i n (val v)).map fun (x : Nat) => [PV.val (.int .u32 (x : Int))]))) (.tup []) := by
 refine conIO_of mixed (fn := Tryz.f284) (ts := []) Tryz.func284 (by kernel_rfl) rfl (by kernel_rfl) rfl rfl (plain_N _) ?_
 simp only [argE, Nat.reduceAdd, cN, vI, SV.to]
 (refine SA ?_;intros)
 have hW : dok ((u.drop i).take n) := dok_take (dok_drop hu _) _
 have hWl : ((u.drop i).take n).length = n := by simp; omega
 refine p_loopx (fun (a : Nat × List Nat × Nat) => [(8, .sh (vI a.1)), (7, .sh (vI n)), (4, .sh (.val (.int .u64 a.2.2))), (0, .sub 1000000 1 i n), (1, .sh (cN v))]) (fun a => [(1000000, some (.rw 103 1 (SR ((win u i a.2.1).map fun (x : Nat) => [PV.val (.int .u32 (x : Int))]))))]) (fun a => n - a.1)
   (fun a => a.1 ≤ n ∧ a.2.1.length = a.1 ∧ dok a.2.1 ∧ a.2.2 ≤ 1 ∧ val a.2.1 + a.2.2 * 4294967296 ^ a.1 = val ((u.drop i).take n) % 4294967296 ^ a.1 + val v % 4294967296 ^ a.1) (0, [], 0) (Weak.list ⟨rfl, rfl, rfl, rfl, rfl, trivial⟩ ⟨by simp [win_nil, getO], trivial⟩) ⟨Nat.zero_le _, rfl, dok_nil, by simp, by simp [val, Nat.mod_one]⟩ ?_
 rintro ⟨k, l, c⟩ ⟨hk, hl, hok, hc, hI⟩
 simp only [cN, vI] at *
 have hlen := win_len (u := u) (l := l) (i := i) (by omega)
 have hlen2 : (win u i l).length < 2 ^ 39 := by omega
 have lo := getD_lt (i + k) (win_ok hu hok i)
 have lv := getD_lt k hv
 have gu := getD_val k hW
 have gv := getD_val k hv
 have gw : (win u i l).getD (i + k) 0 = u.getD (i + k) 0 := by rw [← hl]; exact win_get (by omega)
 have ek : ((k : Int)).toNat = k := rfl
 have hid : Hid (_ ∧ _ ∧ _ ∧ _) := ⟨hI, gu, gv, gw⟩
 clear hI gu gv gw
 (refine WA ?_ ?_<;>intros;rename_i hb K1 hK1;rotate_left;rename_i hb;rotate_right)
 · (refine ⟨_,con_at v k hv (by omega),hK1 _ ?_⟩;clear hK1 K1;try simp only [put_some,cN,vI,vB,cR])
   (refine SA ?_;intros)
   obtain ⟨hI, gu, gv, gw⟩ := hid
   rw [gw]
   rw [gw] at lo
   rw [part_get (by omega)] at gu
   have hst := give_step hI (show c + (u.getD (i + k) 0 + v.getD k 0) = (c + (u.getD (i + k) 0 + v.getD k 0)) % 4294967296 + (c + (u.getD (i + k) 0 + v.getD k 0)) / 4294967296 * 4294967296 by clear hI gu gv; omega)
   have g1 : (((c : Int) + (((u.getD (i + k) 0 : Nat) : Int) + ((v.getD k 0 : Nat) : Int))) % 4294967296).toNat = (c + (u.getD (i + k) 0 + v.getD k 0)) % 4294967296 := by clear hI gu gv hst; omega
   rw [g1]
   have hd1 : (c + (u.getD (i + k) 0 + v.getD k 0)) % 4294967296 < 4294967296 := Nat.mod_lt _ (by omega)
   have hws : ∀ d0, (win u i l).set (i + k) d0 = win u i (l ++ [d0]) := fun d0 => by rw [← hl]; exact win_set (by omega) d0
   rw [hws]
   clear g1 hws
   refine p_lx _ _ _ _ (k + 1, l ++ [(c + (u.getD (i + k) 0 + v.getD k 0)) % 4294967296], (c + (u.getD (i + k) 0 + v.getD k 0)) / 4294967296) ?_ ⟨?_, ?_, ?_, ?_, ?_⟩ (Weak.list ⟨int_eq ?_, rfl, int_eq ?_, rfl, rfl, trivial⟩ ⟨rfl, trivial⟩) <;> dsimp only
   · omega
   · omega
   · simp [hl]
   · exact dok_append.2 ⟨hok, dok_cons.2 ⟨hd1, dok_nil⟩⟩
   · clear hI gu gv hst; omega
   · rw [val_append, hl, mod_succ, mod_succ, ← gv, ← gu]
     simp only [val, Nat.mul_zero, Nat.add_zero]
     rw [Nat.pow_succ]
     exact hst
   · omega
   · clear hI gu gv hst; omega
 · simp only [rqo0, AB,Nat.reduceEqDiff,↓reduceIte,Nat.reduceAdd,Nat.reduceMul,Nat.reducePow,Nat.reduceLeDiff,Nat.reduceLT]
   obtain ⟨hI, gu, gv, gw⟩ := hid
   obtain rfl : k = n := by omega
   have hV : val v < 4294967296 ^ k := Nat.lt_of_lt_of_le (val_lt hv) (Nat.pow_le_pow_right (by omega) (by omega))
   have hWlt := val_lt hW
   rw [hWl] at hWlt
   rw [Nat.mod_eq_of_lt hV, Nat.mod_eq_of_lt hWlt] at hI
   have hL := val_lt hok
   rw [hl] at hL
   rw [gk, ← hI, Nat.add_mul_mod_self_right, Nat.mod_eq_of_lt hL, ← hl, fd_of hok]
end Go.Pw
set_option maxRecDepth 100000
set_option linter.unusedVariables false
set_option linter.unusedSimpArgs false
namespace Go.Pw
open Go Go.Proofs
theorem con_clone (x : List Nat) (h : x.length < 2 ^ 39) : Con E 65 [cN x] (cN x) := by
 refine con_of2 mixed (fn := Tryz.f65) (rs := [.tmp 2]) Tryz.func65 (by kernel_rfl) rfl (by kernel_rfl) rfl rfl ?_
 simp only [argE, Nat.reduceAdd, cN, vI]
 iterate 13 (with_reducible first|apply p_seq|apply p_sq|apply p_reg|apply p_nil|apply p_skip|apply p_block|apply p_bq|apply p_ret|apply p_exit|apply p_sq_ret|apply p_sq_exit|apply p_bq_ret|apply p_bq_this|apply p_lq_ret|apply p_lq_exit|apply d_nil|refine p_drw (by decide +kernel) ?_|refine f_op rfl rfl ?_|refine f_opg rfl rfl rfl rfl ?_ ?_|refine f_new rfl rfl rfl rfl ?_|(refine f_end (And.intro ?_ ?_)<;>simp only [List.foldl_nil,List.foldl_cons,recS_mk,AB,Nat.reduceEqDiff,↓reduceIte,Nat.reduceAdd,Nat.reduceMul,Nat.reducePow,Nat.reduceLeDiff,Nat.reduceLT])|apply k_nil|refine k_cons rfl rfl ?_ ?_|apply g_nil|refine g_op0 rfl ?_|refine g_opC rfl ?_|refine p_bq_other (by decide) ?_|refine p_cond rfl ?_ ?_|refine p_op rfl ?_|refine d_op rfl rfl ?_|refine d_eff rfl ?_|refine p_opg rfl rfl rfl ?_ ?_|refine d_opg rfl rfl rfl rfl ?_ ?_|((first|refine p_opgU rfl rfl rfl ?_|refine d_opgU rfl rfl rfl rfl ?_);try simp only [put_some])|(refine fun (K1:St→Prop) hK1=>?_;simp (disch := omega) only [AB,Nat.reduceEqDiff,↓reduceIte,Nat.reduceAdd,Nat.reduceMul,Nat.reducePow,Nat.reduceLeDiff,Nat.reduceLT];(try simp (disch := omega) only [AC]);(try simp only [AM]))|(refine hK1 _ ?_;clear hK1 K1)|refine And.intro (by omega) ?_|apply And.intro|(refine fun (hb:(_:Bool)=_)=>?_;(try simp only [HS] at hb);(try (change True at hb;clear hb));first|(exfalso;first|omega|contradiction)|(try simp only [put_some])))
 refine p_sop rfl (fun K1 hK1 => ?_)
 refine nil_eq (i := ti78) (e := 103) rfl rfl rfl rfl (fun he => ?_) ?_ <;> refine hK1 _ ?_ <;> clear hK1 K1 <;> simp only [put_some]
 · (refine SA ?_;intros)
   simp only [res1,res2,res3,AB,Nat.reduceEqDiff,↓reduceIte,Nat.reduceAdd,Nat.reduceMul,Nat.reducePow,Nat.reduceLeDiff,Nat.reduceLT]
   rw [he]
 · (refine SA ?_;intros)
   simp only [res1,res2,res3,AB,Nat.reduceEqDiff,↓reduceIte,Nat.reduceAdd,Nat.reduceMul,Nat.reducePow,Nat.reduceLeDiff,Nat.reduceLT]
theorem con_lz (x : Nat) (h : x < 4294967296) : Con E 277 [.val (.int .u32 x)] (vI ((32 - bl x : Nat) : Int)) := by
 refine con_of2 mixed (fn := Tryz.f277) (rs := [.tmp 2]) Tryz.func277 (by kernel_rfl) rfl (by kernel_rfl) rfl rfl ?_
 simp only [argE, Nat.reduceAdd, cN, vI]
 (refine SA ?_;intros;rename_i K1 hK1)
 (refine ⟨_,con_Len32 x h,hK1 _ ?_⟩;clear hK1 K1;try simp only [put_some,cN,vI,vB,cR])
 have hb : bl x ≤ 32 := (bl_le_iff x 32).2 h
 (refine SA ?_;intros)
 simp only [res1,res2,res3,AB,Nat.reduceEqDiff,↓reduceIte,Nat.reduceAdd,Nat.reduceMul,Nat.reducePow,Nat.reduceLeDiff,Nat.reduceLT]
 have : (32 : Int) - (bl x : Int) = ((32 - bl x : Nat) : Int) := by omega
 rw [this]
end Go.Pw
set_option linter.unusedVariables false
set_option linter.unusedSimpArgs false
set_option maxRecDepth 100000
namespace Go.Pw
theorem win_win {u l l' : List Nat} {i : Nat} (h : i + l.length ≤ u.length) (hl : l'.length = l.length) : win (win u i l) i l' = win u i l' := by
 have e1 : (win u i l).take i = u.take i := by
   simp only [win, List.append_assoc]
   rw [List.take_append_of_le_length (by simp; omega), List.take_take, Nat.min_self]
 have e2 : (win u i l).drop (i + l.length) = u.drop (i + l.length) := by
   simp only [win]
   rw [List.drop_append_of_le_length (by simp; omega), List.drop_eq_nil_of_le (by simp; omega), List.nil_append]
 unfold win at *
 rw [e1, hl, e2]
theorem win_part {u l : List Nat} {i : Nat} (h : i + l.length ≤ u.length) : ((win u i l).drop i).take l.length = l := by
 simp only [win, List.append_assoc]
 rw [List.drop_append_of_le_length (by simp; omega), List.drop_eq_nil_of_le (by simp; omega), List.nil_append, List.take_append_of_le_length (by omega), List.take_of_length_le (by omega)]
theorem win_val {u l : List Nat} {i : Nat} (hu : dok u) (h : i + l.length ≤ u.length) (ht : val u < 4294967296 ^ (i + l.length)) : val (win u i l) = val u % 4294967296 ^ i + 4294967296 ^ i * val l := by
 simp only [win]
 rw [val_append, val_append, List.length_append, List.length_take, Nat.min_eq_left (by omega), val_take _ hu, val_drop _ hu, Nat.div_eq_of_lt ht, Nat.mul_zero, Nat.add_zero]
theorem div_step {u : List Nat} (hu : dok u) {j s V q : Nat} (hl : j + s + 1 ≤ u.length) (hV : V < 4294967296 ^ s) (h : val u < V * 4294967296 ^ (j + 1)) (h1 : val u / 4294967296 ^ j < (q + 1) * V) (h2 : q * V < val u / 4294967296 ^ j + V) :
   ((decide (q * V ≤ val ((u.drop j).take (s + 1))) = true → tk u j (s + 1) q V = win u j (fd (s + 1) (val u / 4294967296 ^ j % V)) ∧ q = val u / 4294967296 ^ j / V) ∧
    (decide (q * V ≤ val ((u.drop j).take (s + 1))) = false → gk (tk u j (s + 1) q V) j (s + 1) V = win u j (fd (s + 1) (val u / 4294967296 ^ j % V)) ∧ q ≠ 0 ∧ q - 1 = val u / 4294967296 ^ j / V)) := by
 obtain ⟨hw, hW⟩ := val_window hu hl hV h
 have hVp : 0 < V := by
   rcases Nat.eq_zero_or_pos V with e | e
   · subst e; simp at h
   · exact e
 have hWP : val u / 4294967296 ^ j < 4294967296 ^ (s + 1) := by
   refine Nat.lt_trans hW ?_
   rw [Nat.pow_succ, Nat.mul_comm]
   exact Nat.mul_lt_mul_of_pos_right hV (by omega)
 have hVP : V < 4294967296 ^ (s + 1) := Nat.lt_trans hV (Nat.pow_lt_pow_right (by omega) (by omega))
 unfold gk tk
 rw [hw]
 generalize val u / 4294967296 ^ j = W at *
 generalize hP : 4294967296 ^ (s + 1) = P at *
 constructor
 · intro hd
   have hle : q * V ≤ W := by simpa using hd
   have hq := quo_of hle h1
   have hm : W % V = W - q * V := by
     have := Nat.mod_add_div W V
     rw [hq, Nat.mul_comm V] at this
     omega
   refine ⟨?_, hq.symm⟩
   congr 2
   rw [hm, show W + P - q * V = (W - q * V) + P by omega, Nat.add_mod_right, Nat.mod_eq_of_lt (by omega)]
 · intro hd
   have hlt : ¬ q * V ≤ W := by simpa using hd
   have hq0 : q ≠ 0 := fun e => by subst e; simp at hlt
   obtain ⟨p, rfl⟩ := Nat.exists_eq_succ_of_ne_zero hq0
   rw [Nat.succ_eq_add_one] at *
   have e : (p + 1) * V = p * V + V := Nat.succ_mul _ _
   have hq := quo_of (q := p) (V := V) (W := W) (by omega) (by omega)
   have hm : W % V = W - p * V := by
     have := Nat.mod_add_div W V
     rw [hq, Nat.mul_comm V] at this
     omega
   have hfl := fd_len (s + 1) ((W + P - (p + 1) * V) % P)
   refine ⟨?_, hq0, by rw [Nat.add_sub_cancel]; exact hq.symm⟩
   rw [win_win (by rw [hfl]; omega) (by rw [hfl, fd_len])]
   congr 2
   have hp := win_part (u := u) (l := fd (s + 1) ((W + P - (p + 1) * V) % P)) (i := j) (by rw [hfl]; omega)
   rw [hfl] at hp
   rw [hp, fd_val, hP, Nat.mod_mod, Nat.mod_eq_of_lt (show W + P - (p + 1) * V < P by omega), hm, show W + P - (p + 1) * V + V = (W - p * V) + P by omega, Nat.add_mod_right, Nat.mod_eq_of_lt (by omega)]
theorem div_keep {u out : List Nat} (hu : dok u) {j s V A : Nat} (hl : j + s + 1 ≤ u.length) (hV : V < 4294967296 ^ s) (h : val u < V * 4294967296 ^ (j + 1)) (hj : j < out.length)
   (hI : val u + V * (4294967296 ^ (j + 1) * val (out.drop (j + 1))) = A) :
   val (win u j (fd (s + 1) (val u / 4294967296 ^ j % V))) + V * (4294967296 ^ j * val ((out.set j (val u / 4294967296 ^ j / V)).drop j)) = A ∧ val (win u j (fd (s + 1) (val u / 4294967296 ^ j % V))) < V * 4294967296 ^ j ∧ val u / 4294967296 ^ j / V < 4294967296 := by
 obtain ⟨hw, hW⟩ := val_window hu hl hV h
 have hVp : 0 < V := by
   rcases Nat.eq_zero_or_pos V with e | e
   · subst e; simp at h
   · exact e
 have hVP : V < 4294967296 ^ (s + 1) := Nat.lt_trans hV (Nat.pow_lt_pow_right (by omega) (by omega))
 have hmod : val u / 4294967296 ^ j % V < V := Nat.mod_lt _ hVp
 have hut : val u < 4294967296 ^ (j + (fd (s + 1) (val u / 4294967296 ^ j % V)).length) := by
   rw [fd_len]
   refine Nat.lt_trans h ?_
   rw [show j + (s + 1) = s + (j + 1) by omega, Nat.pow_add 4294967296 s (j + 1)]
   exact Nat.mul_lt_mul_of_pos_right hV (Nat.pow_pos (by omega))
 have hv := win_val (l := fd (s + 1) (val u / 4294967296 ^ j % V)) (i := j) hu (by rw [fd_len]; omega) hut
 rw [fd_val, Nat.mod_eq_of_lt (Nat.lt_trans hmod hVP)] at hv
 have hlow := Nat.mod_lt (val u) (pow_pos' j)
 have hsplit := Nat.mod_add_div (val u) (4294967296 ^ j)
 have hq := Nat.mod_add_div (val u / 4294967296 ^ j) V
 refine ⟨?_, ?_, ?_⟩
 · rw [hv, drop_set hj, ← hI]
   simp only [val]
   rw [Nat.pow_succ]
   generalize val u / 4294967296 ^ j = W at *
   generalize val u % 4294967296 ^ j = lo at *
   generalize 4294967296 ^ j = P at *
   generalize W / V = q at *
   generalize W % V = r at *
   generalize val (out.drop (j + 1)) = D at *
   rw [← hsplit, ← hq]
   simp only [Nat.mul_add, Nat.mul_assoc, Nat.mul_left_comm, Nat.mul_comm]
   omega
 · rw [hv]
   generalize val u / 4294967296 ^ j % V = r at *
   generalize 4294967296 ^ j = P at *
   have : P * (r + 1) ≤ P * V := Nat.mul_le_mul_left _ hmod
   rw [Nat.mul_add] at this
   rw [Nat.mul_comm V]
   omega
 · rw [Nat.div_lt_iff_lt_mul hVp]
   exact hW
theorem cmpI_lt0 (a b : Nat) : cmpI a b < 0 ↔ a < b := by unfold cmpI; split <;> (try split) <;> omega
theorem top_ne {b : Nat} (h : b ≠ 0) : (dg b).getD ((dg b).length - 1) 0 ≠ 0 := by
 have h1 : dg b ≠ [] := fun e => h (dg_ne_nil.1 e)
 have h2 := (can_dg b).2 h1
 rw [List.getLast_eq_getElem] at h2
 rw [List.getD_eq_getElem?_getD, List.getElem?_eq_getElem (by have := List.length_pos_iff.2 h1; omega)]
 exact h2
theorem moved_len {b : Nat} (h : b ≠ 0) : (dg (b * 2 ^ (32 - bl ((dg b).getD ((dg b).length - 1) 0)))).length = (dg b).length := by
 apply Nat.le_antisymm
 · have hpos : (dg b).length ≠ 0 := fun e => h (dg_ne_nil.1 (List.length_eq_zero_iff.1 e))
   have hbl := bl_dg b h
   have hlt := bl_lt b
   have htop : bl ((dg b).getD ((dg b).length - 1) 0) ≤ 32 := (bl_le_iff _ _).2 (getD_lt _ (dok_dg b))
   generalize bl ((dg b).getD ((dg b).length - 1) 0) = t at *
   rw [len_dg_le]
   have e : (4294967296 : Nat) ^ (dg b).length = 2 ^ (bl b) * 2 ^ (32 - t) := by
     rw [← Nat.pow_add, show (4294967296 : Nat) = 2 ^ 32 from rfl, ← Nat.pow_mul]
     congr 1
     omega
   rw [e]
   exact Nat.mul_lt_mul_of_pos_right hlt (Nat.pow_pos (by omega))
 · exact dg_mono (Nat.le_mul_of_pos_right _ (Nat.pow_pos (by omega)))
theorem dg_len_le {l : List Nat} (h : dok l) : (dg (val l)).length ≤ l.length := len_dg_le.2 (val_lt h)
theorem div_fits {a b : Nat} (hb : b ≠ 0) (h : (dg b).length ≤ (dg a).length) (n : Nat) : a * 2 ^ n < b * 2 ^ n * 4294967296 ^ ((dg a).length + 1 - (dg b).length) := by
 have h1 : a < 4294967296 ^ (dg a).length := len_dg_le.1 (Nat.le_refl _)
 have hpos : (dg b).length ≠ 0 := fun e => hb (dg_ne_nil.1 (List.length_eq_zero_iff.1 e))
 have h2 : 4294967296 ^ ((dg b).length - 1) ≤ b := by
   apply Nat.le_of_not_lt
   intro hlt
   have := len_dg_le.2 hlt
   omega
 rw [Nat.mul_right_comm]
 refine Nat.mul_lt_mul_of_pos_right ?_ (Nat.pow_pos (by omega))
 refine Nat.lt_of_lt_of_le h1 ?_
 have e : (dg a).length = ((dg b).length - 1) + ((dg a).length + 1 - (dg b).length) := by omega
 conv => lhs; rw [e, Nat.pow_add]
 exact Nat.mul_le_mul_right _ h2
theorem top2 {V s : Nat} (hs : 2 ≤ s) (hV : V < 4294967296 ^ s) : V / 4294967296 ^ (s - 2) = V / 4294967296 ^ (s - 1) % 4294967296 * 4294967296 + V / 4294967296 ^ (s - 2) % 4294967296 := by
 obtain ⟨t, rfl⟩ : ∃ t, s = t + 2 := ⟨s - 2, by omega⟩
 have e : V / 4294967296 ^ (t + 2 - 1) = V / 4294967296 ^ t / 4294967296 := by rw [show t + 2 - 1 = t + 1 from rfl, Nat.pow_succ, Nat.div_div_eq_div_mul]
 rw [e, show t + 2 - 2 = t from rfl]
 have h2 : V / 4294967296 ^ t < 4294967296 * 4294967296 := by
   rw [Nat.div_lt_iff_lt_mul (pow_pos' t)]
   rw [Nat.pow_succ, Nat.pow_succ, Nat.mul_assoc, Nat.mul_comm] at hV
   exact hV
 generalize V / 4294967296 ^ t = X at *
 clear hV
 omega
def V1 (W t : Nat) : Prop := W / 4294967296 ^ (t + 2 - 1) = W / 4294967296 ^ t / 4294967296
theorem top3 {W s : Nat} (hs : 2 ≤ s) (hW : W < 4294967296 ^ (s + 1)) : W / 4294967296 ^ (s - 2) = (W / 4294967296 ^ s % 4294967296 * 4294967296 + W / 4294967296 ^ (s - 1) % 4294967296) * 4294967296 + W / 4294967296 ^ (s - 2) % 4294967296 := by
 obtain ⟨t, rfl⟩ : ∃ t, s = t + 2 := ⟨s - 2, by omega⟩
 have e : V1 W t := by
   unfold V1
   rw [show t + 2 - 1 = t + 1 from rfl, Nat.pow_succ, Nat.div_div_eq_div_mul]
 have e' : W / 4294967296 ^ (t + 2) = W / 4294967296 ^ t / 4294967296 / 4294967296 := by rw [Nat.pow_succ, Nat.pow_succ, Nat.div_div_eq_div_mul, Nat.div_div_eq_div_mul, Nat.mul_assoc]
 unfold V1 at e
 rw [e, e', show t + 2 - 2 = t from rfl]
 have h2 : W / 4294967296 ^ t < 4294967296 * 4294967296 * 4294967296 := by
   rw [Nat.div_lt_iff_lt_mul (pow_pos' t)]
   rw [Nat.pow_succ, Nat.pow_succ, Nat.pow_succ, Nat.mul_assoc, Nat.mul_assoc, Nat.mul_comm, ← Nat.mul_assoc] at hW
   exact hW
 generalize W / 4294967296 ^ t = X at *
 clear hW e e'
 omega
theorem quo_nat {x y : Nat} (h : x < 18446744073709551616) : ((x : Nat) : Int) / ((y : Nat) : Int) % 18446744073709551616 = ((x / y : Nat) : Int) := by
 rw [← Int.natCast_ediv]
 have := Nat.div_le_self x y
 generalize x / y = z at *
 omega
theorem guess_setup {u : List Nat} (hu : dok u) {j s V : Nat} (hl : j + s + 1 ≤ u.length) (hs : 2 ≤ s) (hV : V < 4294967296 ^ s) (h : val u < V * 4294967296 ^ (j + 1)) (hv : (dg V).getD (s - 1) 0 ≠ 0) :
   (val u / 4294967296 ^ j < ((u.getD (j + s) 0 * 4294967296 + u.getD (j + s - 1) 0) / (dg V).getD (s - 1) 0 + 1) * V) ∧
   (∀ q r, r + q * (dg V).getD (s - 1) 0 = u.getD (j + s) 0 * 4294967296 + u.getD (j + s - 1) 0 → (r * 4294967296 + u.getD (j + s - 2) 0 < q * (dg V).getD (s - 2) 0 → val u / 4294967296 ^ j < q * V) ∧
     (q < 4294967296 → ¬ (r * 4294967296 + u.getD (j + s - 2) 0 < q * (dg V).getD (s - 2) 0) → q * V < val u / 4294967296 ^ j + V)) ∧
   u.getD (j + s) 0 * 4294967296 + u.getD (j + s - 1) 0 < ((dg V).getD (s - 1) 0 + 1) * 4294967296 := by
 obtain ⟨_, hW⟩ := val_window hu hl hV h
 have hWs : val u / 4294967296 ^ j < 4294967296 ^ (s + 1) := by
   refine Nat.lt_trans hW ?_
   rw [Nat.pow_succ, Nat.mul_comm]
   exact Nat.mul_lt_mul_of_pos_right hV (by omega)
 have g : ∀ t, u.getD (j + t) 0 = val u / 4294967296 ^ j / 4294967296 ^ t % 4294967296 := fun t => by rw [getD_val _ hu, Nat.pow_add, Nat.div_div_eq_div_mul]
 have gv : ∀ t, (dg V).getD t 0 = V / 4294967296 ^ t % 4294967296 := fun t => by rw [getD_val _ (dok_dg V), val_dg]
 have t2 := top2 hs hV
 have t3 := top3 hs hWs
 rw [← gv, ← gv] at t2
 rw [← g, ← g, ← g] at t3
 rw [show j + s - 1 = j + (s - 1) by omega, show j + s - 2 = j + (s - 2) by omega]
 have l3 := getD_lt (j + (s - 2)) hu
 have dV := Nat.mod_add_div V (4294967296 ^ (s - 2))
 have dW := Nat.mod_add_div (val u / 4294967296 ^ j) (4294967296 ^ (s - 2))
 have mV := Nat.mod_lt V (pow_pos' (s - 2))
 have mW := Nat.mod_lt (val u / 4294967296 ^ j) (pow_pos' (s - 2))
 rw [t2, Nat.mul_comm, Nat.add_comm] at dV
 rw [t3, Nat.mul_comm, Nat.add_comm] at dW
 have hV' : 4294967296 ≤ (dg V).getD (s - 1) 0 * 4294967296 + (dg V).getD (s - 2) 0 := by omega
 obtain ⟨two, htw⟩ : ∃ two, two = u.getD (j + s) 0 * 4294967296 + u.getD (j + (s - 1)) 0 := ⟨_, rfl⟩
 obtain ⟨u3, hu3⟩ : ∃ u3, u3 = u.getD (j + (s - 2)) 0 := ⟨_, rfl⟩
 rw [← htw, ← hu3] at dW
 rw [← hu3] at l3
 rw [← htw, ← hu3]
 obtain ⟨W, hWe⟩ : ∃ W, W = val u / 4294967296 ^ j := ⟨_, rfl⟩
 rw [← hWe] at dW mW ⊢
 have hi : ∀ q, two * 4294967296 + u3 < q * ((dg V).getD (s - 1) 0 * 4294967296 + (dg V).getD (s - 2) 0) → W < q * V := fun q hq => by
   have := guess_hi (v := V % 4294967296 ^ (s - 2)) hq mW
   rw [dV, dW] at this
   exact this
 refine ⟨hi _ ?_, fun q r hqr => ⟨fun ht => hi q ((guess_test hqr).1 ht), fun hq ht => ?_⟩, ?_⟩
 rotate_left
 rotate_left
 · have h5 : two * 4294967296 < 4294967296 * ((dg V).getD (s - 1) 0 * 4294967296 + (dg V).getD (s - 2) 0 + 1) := by
     apply Nat.lt_of_not_le
     intro hle
     rw [← hWe] at hW
     have h7 : V < ((dg V).getD (s - 1) 0 * 4294967296 + (dg V).getD (s - 2) 0 + 1) * 4294967296 ^ (s - 2) := by
       rw [Nat.add_mul _ 1, Nat.one_mul]
       exact Nat.lt_of_le_of_lt (Nat.le_of_eq dV.symm) (Nat.add_lt_add_left mV _)
     have h8 := Nat.lt_trans hW (Nat.mul_lt_mul_of_pos_left h7 (show 0 < 4294967296 by omega))
     rw [← Nat.mul_assoc] at h8
     have h9 := Nat.mul_le_mul_right (4294967296 ^ (s - 2)) hle
     have h10 : two * 4294967296 * 4294967296 ^ (s - 2) ≤ W := by
       refine Nat.le_trans ?_ (Nat.le_of_eq dW)
       refine Nat.le_trans (Nat.mul_le_mul_right _ (Nat.le_add_right _ u3)) (Nat.le_add_right _ _)
     exact Nat.lt_irrefl _ (Nat.lt_of_lt_of_le h8 (Nat.le_trans h9 h10))
   have l4 := getD_lt (s - 2) (dok_dg V)
   omega
 · have h1 := Nat.lt_mul_div_succ two (show 0 < (dg V).getD (s - 1) 0 by omega)
   rw [Nat.mul_comm] at h1
   generalize two / (dg V).getD (s - 1) 0 + 1 = q at *
   rw [Nat.mul_add, ← Nat.mul_assoc]
   have h2 : (two + 1) * 4294967296 ≤ q * (dg V).getD (s - 1) 0 * 4294967296 := Nat.mul_le_mul_right _ h1
   omega
 · have h3 : q * ((dg V).getD (s - 1) 0 * 4294967296 + (dg V).getD (s - 2) 0) ≤ two * 4294967296 + u3 := Nat.le_of_not_lt fun h => ht ((guess_test hqr).2 h)
   have := guess_lo (w := W % 4294967296 ^ (s - 2)) h3 hq mV hV'
   rw [dV, dW] at this
   exact this
end Go.Pw
