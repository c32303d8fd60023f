/- Merged from the working texts Pn5 Pn6 Pn7. -/
import Derived.Test.YtkflegdaeienlaaGreatDoorKb25
import Derived.Test.YtkflegdaeienlaaGreatDoorKb27
import Derived.Test.YtkflegdaeienlaaGreatDoorKb23
set_option linter.all false
set_option maxHeartbeats 400000
set_option maxRecDepth 100000
set_option linter.unusedVariables false
set_option linter.unusedSimpArgs false
namespace Go.Pw
open Go Go.Proofs
theorem shI_up (a n : Nat) : shI ((a : Int) * 4294967296) n = ((a * 4294967296 / 2 ^ n : Nat) : Int) := by
 unfold shI
 rw [Int.natCast_ediv, Int.natCast_mul]
 simp
theorem con_right (x : List Nat) (n : Nat) (hx : dok x) (hn : n < 32) (h : x.length < 2 ^ 39) : Con E 285 [cN x, vI n] (cN (dg (val x / 2 ^ n))) := by
 refine con_of2 mixed (fn := Tryz.f285) (rs := [.tmp 4]) Tryz.func285 (by kernel_rfl) rfl (by kernel_rfl) rfl rfl ?_
 simp only [argE, Nat.reduceAdd, cN, vI]
 (refine SA ?_;intros)
 refine p_loopx (fun (a : Nat × List Nat) => [(13, .sh (vI a.1)), (12, .sh (vI x.length)), (11, .sh (cN x)), (5, .row 10), (1, .sh (vI n))]) (fun a => [(10, some (.rw 103 1 (SR ((a.2).map fun (x : Nat) => [PV.val (.int .u32 (x : Int))]))))]) (fun a => x.length - a.1)
   (fun a => a.1 ≤ x.length ∧ a.2.length = x.length ∧ dok a.2 ∧ (∀ k, a.1 ≤ k → a.2.getD k 0 = 0) ∧ (∀ k, a.1 = k + 1 → a.2.getD k 0 < 2 ^ (32 - n)) ∧ val a.2 = val x % 4294967296 ^ a.1 / 2 ^ n) (0, List.replicate x.length 0) (Weak.list ⟨rfl, rfl, rfl, rfl, rfl, trivial⟩ ⟨rfl, trivial⟩) ⟨by simp, by simp, dok_replicate _, fun k _ => by simp [List.getD_eq_getElem?_getD, List.getElem?_replicate]; split <;> rfl, fun k hk => by simp at hk, by simp [val_replicate, Nat.mod_one]⟩ ?_
 rintro ⟨i, out⟩ ⟨hi, hl, hok, hz, ho, hI⟩
 simp only [cN, vI] at *
 have lx := getD_lt i hx
 have gx := getD_val i hx
 have lo := getD_lt i hok
 have hms := mod_succ (val x) i
 rw [← gx] at hms
 have h0 := hz i (Nat.le_refl _)
 have e0 : (shI ((x.getD i 0 : Nat) : Int) n).toNat = x.getD i 0 / 2 ^ n := by rw [shI_nat]; exact Int.toNat_natCast _
 have e1 : (shI (((x.getD i 0 : Nat) : Int) * 4294967296) n % 4294967296).toNat = x.getD i 0 * 4294967296 / 2 ^ n % 4294967296 := by rw [shI_up]; generalize x.getD i 0 * 4294967296 / 2 ^ n = N; omega
 have e2 := low_up (d := x.getD i 0) hn
 have p0 : x.getD i 0 / 2 ^ n < 4294967296 := Nat.lt_of_le_of_lt (Nat.div_le_self _ _) lx
 have p1 : (0 : Int) ≤ shI ((x.getD i 0 : Nat) : Int) n := by rw [shI_nat]; exact Int.natCast_nonneg _
 have p2 : shI ((x.getD i 0 : Nat) : Int) n < 4294967296 := by rw [shI_nat]; exact Int.ofNat_lt.2 p0
 have p3 : (0 : Int) ≤ shI (((x.getD i 0 : Nat) : Int) * 4294967296) n := by rw [shI_up]; exact Int.natCast_nonneg _
 have lo1 : (out.set i (out.getD i 0 ||| (shI ((x.getD i 0 : Nat) : Int) n).toNat)).getD ((i : Int) - 1).toNat 0 < 4294967296 := getD_lt _ (dok_set hok _ (by rw [e0, h0, Nat.zero_or]; exact p0))
 have hid : Hid (_ ∧ _ ∧ _ ∧ _ ∧ _ ∧ _ ∧ _ ∧ _ ∧ _) := ⟨hI, hms, gx, ho, e2, e1, p0, e0, hz⟩
 clear hI hms gx ho e2 e1 p0 e0 hz
 (refine VA ?_ ?_ ?_<;>intros;rename_i hb;rotate_left;rename_i hb;rotate_left;rename_i hb K1 hK1;rotate_right 2)
 · obtain ⟨hI, hms, gx, ho, e2, e1, p0, e0, hz⟩ := hid
   obtain ⟨j, rfl⟩ : ∃ j, i = j + 1 := ⟨i - 1, by omega⟩
   have hj : ((j + 1 : Nat) : Int) - 1 = (j : Int) := by omega
   have hjn : ((j : Int)).toNat = j := rfl
   have hoj := ho j rfl
   obtain ⟨ho1, ho2⟩ := right_or (d := x.getD (j + 1) 0) hn hoj
   have hg : (out.set (j + 1) (x.getD (j + 1) 0 / 2 ^ n)).getD j 0 = out.getD j 0 := by rw [getD_set _ _ _ (by omega), if_neg (by omega)]
   rw [e0, e1, e2, h0, Nat.zero_or, hj, hjn, hg, ho1]
   refine p_lx _ _ _ _ (j + 2, (out.set (j + 1) (x.getD (j + 1) 0 / 2 ^ n)).set j (out.getD j 0 + x.getD (j + 1) 0 % 2 ^ n * 2 ^ (32 - n))) ?_ ⟨?_, ?_, ?_, ?_, ?_, ?_⟩ (Weak.list ⟨int_eq ?_, rfl, rfl, rfl, rfl, trivial⟩ ⟨rfl, trivial⟩) <;> dsimp only
   · omega
   · omega
   · simp [hl]
   · exact dok_set (dok_set hok _ p0) _ ho2
   · intro k hk
     exact getD_zero_set (getD_zero_set (hz k (by omega)) (by omega)) (by omega)
   · intro k hk
     obtain rfl : k = j + 1 := by omega
     rw [getD_set _ _ _ (by simp [hl]; omega), if_neg (by omega), getD_set _ _ _ (by omega), if_pos rfl, Nat.div_lt_iff_lt_mul (Nat.pow_pos (by omega)), ← p32 hn]
     exact lx
   · have v1 := val_set (l := out.set (j + 1) (x.getD (j + 1) 0 / 2 ^ n)) (i := j) (by simp; omega) (out.getD j 0 + x.getD (j + 1) 0 % 2 ^ n * 2 ^ (32 - n))
     have v2 := val_set (l := out) (i := j + 1) (by omega) (x.getD (j + 1) 0 / 2 ^ n)
     have hst := right_step (A := val x % 4294967296 ^ (j + 1)) (i := j) (d := x.getD (j + 1) 0) hn
     rw [hg, Nat.mul_add] at v1
     rw [h0, Nat.mul_zero] at v2
     rw [hms, ← hst, ← hI]
     clear hms hst hI gx ho e2 e1 p0 e0 hz
     generalize val ((out.set (j + 1) (x.getD (j + 1) 0 / 2 ^ n)).set j (out.getD j 0 + x.getD (j + 1) 0 % 2 ^ n * 2 ^ (32 - n))) = a1 at *
     generalize val (out.set (j + 1) (x.getD (j + 1) 0 / 2 ^ n)) = a2 at *
     generalize 4294967296 ^ j * out.getD j 0 = a3 at *
     generalize 4294967296 ^ j * (x.getD (j + 1) 0 % 2 ^ n * 2 ^ (32 - n)) = a4 at *
     generalize 4294967296 ^ (j + 1) * (x.getD (j + 1) 0 / 2 ^ n) = a5 at *
     omega
   · omega
 · obtain ⟨hI, hms, gx, ho, e2, e1, p0, e0, hz⟩ := hid
   obtain rfl : i = 0 := by omega
   rw [e0, h0, Nat.zero_or]
   refine p_lx _ _ _ _ (1, out.set 0 (x.getD 0 0 / 2 ^ n)) ?_ ⟨?_, ?_, ?_, ?_, ?_, ?_⟩ (Weak.list ⟨int_eq ?_, rfl, rfl, rfl, rfl, trivial⟩ ⟨rfl, trivial⟩) <;> dsimp only
   · omega
   · omega
   · simp [hl]
   · exact dok_set hok _ p0
   · intro k hk
     exact getD_zero_set (hz k (by omega)) (by omega)
   · intro k hk
     obtain rfl : k = 0 := by omega
     rw [getD_set _ _ _ (by omega), if_pos rfl, Nat.div_lt_iff_lt_mul (Nat.pow_pos (by omega)), ← p32 hn]
     exact lx
   · have v2 := val_set (l := out) (i := 0) (by omega) (x.getD 0 0 / 2 ^ n)
     rw [h0] at v2
     simp only [Nat.pow_zero, Nat.mod_one, Nat.zero_div, Nat.mul_zero, Nat.add_zero, Nat.one_mul, Nat.zero_add] at hI v2 hms
     rw [v2, hI, Nat.zero_add, hms]
   · omega
 · obtain ⟨hI, _⟩ := hid
   obtain rfl : i = x.length := by omega
   (refine ⟨_,con_trim out hok (by omega),hK1 _ ?_⟩;clear hK1 K1;try simp only [put_some,cN,vI,vB,cR])
   (refine SA ?_;intros)
   simp only [res1,res2,res3,AB,Nat.reduceEqDiff,↓reduceIte,Nat.reduceAdd,Nat.reduceMul,Nat.reducePow,Nat.reduceLeDiff,Nat.reduceLT]
   rw [hI, Nat.mod_eq_of_lt (val_lt hx)]
   all_goals rfl
end Go.Pw
set_option maxRecDepth 100000
set_option linter.unusedVariables false
set_option linter.unusedSimpArgs false
namespace Go.Pw
open Go Go.Proofs
def win (u : List Nat) (i : Nat) (l : List Nat) : List Nat := u.take i ++ l ++ u.drop (i + l.length)
theorem plain_N (l : List Nat) : (Ob.rw 103 1 (SR (l.map fun (x : Nat) => [PV.val (.int .u32 (x : Int))]))).plain = true := allSh_SR _
theorem win_len {u l : List Nat} {i : Nat} (h : i + l.length ≤ u.length) : (win u i l).length = u.length := by
 simp only [win, List.length_append, List.length_take, List.length_drop]
 omega
theorem win_nil (u : List Nat) (i : Nat) : win u i [] = u := by simp [win]
theorem win_ok {u l : List Nat} (hu : dok u) (hl : dok l) (i : Nat) : dok (win u i l) := dok_append.2 ⟨dok_append.2 ⟨dok_take hu _, hl⟩, dok_drop hu _⟩
theorem win_get {u l : List Nat} {i : Nat} (h : i + l.length ≤ u.length) : (win u i l).getD (i + l.length) 0 = u.getD (i + l.length) 0 := by
 simp only [win, List.getD_eq_getElem?_getD]
 rw [List.getElem?_append_right (by simp; omega)]
 simp only [List.length_append, List.length_take, List.getElem?_drop]
 rw [Nat.min_eq_left (by omega), Nat.sub_self, Nat.add_zero]
theorem win_set {u l : List Nat} {i : Nat} (h : i + l.length < u.length) (d : Nat) : (win u i l).set (i + l.length) d = win u i (l ++ [d]) := by
 simp only [win]
 rw [List.set_append_right _ _ (by simp; omega)]
 simp only [List.length_append, List.length_take, List.length_cons, List.length_nil]
 rw [Nat.min_eq_left (by omega), Nat.sub_self, List.drop_eq_getElem_cons h]
 simp [Nat.add_assoc]
theorem part_get {u : List Nat} {i n k : Nat} (hk : k < n) : ((u.drop i).take n).getD k 0 = u.getD (i + k) 0 := by
 simp only [List.getD_eq_getElem?_getD, List.getElem?_take, List.getElem?_drop, if_pos hk]
theorem take_step {L q V W P b c d0 m uk vk b' c' : Nat} (hI : L + q * (V % P) = W % P + (b + c) * P) (h1 : d0 + m + b = uk + b' * 4294967296) (h2 : c + q * vk = m + c' * 4294967296) :
   L + P * d0 + q * (V % P + P * vk) = W % P + P * uk + (b' + c') * (P * 4294967296) := by
 have e1 : P * (d0 + m + b) = P * (uk + b' * 4294967296) := by rw [h1]
 have e2 : P * (c + q * vk) = P * (m + c' * 4294967296) := by rw [h2]
 simp only [Nat.mul_add, Nat.add_mul] at *
 rw [Nat.mul_comm b P, Nat.mul_comm c P] at hI
 have e3 : q * (P * vk) = P * (q * vk) := Nat.mul_left_comm _ _ _
 have e4 : b' * (P * 4294967296) = P * (b' * 4294967296) := Nat.mul_left_comm _ _ _
 have e5 : c' * (P * 4294967296) = P * (c' * 4294967296) := Nat.mul_left_comm _ _ _
 omega
theorem and_lo (n : Nat) : (n &&& 4294967295) = n % 4294967296 := Nat.and_two_pow_sub_one_eq_mod n 32
theorem rqo1 (t : Nat) (d : PV) (ob' : Ob) (e : List (Nat × SV)) (o : List (Nat × Option Ob)) : rqo [t] d ob' .ret (mkS e o) = withSh false (mkS e o) (getS e t) fun d' τ => d' = d ∧ τ.o 1000000 = some ob' := rfl
theorem rqo0 (d : PV) (ob' : Ob) (e : List (Nat × SV)) (o : List (Nat × Option Ob)) : rqo [] d ob' .normal (mkS e o) = (.tup [] = d ∧ (mkS e o).o 1000000 = some ob') := rfl
def tk (u : List Nat) (i n q V : Nat) : List Nat := win u i (fd n ((val ((u.drop i).take n) + 4294967296 ^ n - q * V) % 4294967296 ^ n))
theorem con_take (k0 : Nat) (u v : List Nat) (i n q : Nat) (hu : dok u) (hv : dok v) (hi : i + n ≤ u.length) (hn : v.length < n) (hq : q < 4294967296) (h : u.length < 2 ^ 39) :
   ConIO E 283 (.sub k0 1 i n) [cN v, .val (.int .u64 q)] (.rw 103 1 (SR (u.map fun (x : Nat) => [PV.val (.int .u32 (x : Int))]))) (.rw 103 1 (SR ((tk u i n q (val v)).map fun (x : Nat) => [PV.val (.int .u32 (x : Int))]))) (vB (decide (q * val v ≤ val ((u.drop i).take n)))) := by
 refine conIO_of mixed (fn := Tryz.f283) (ts := [6]) Tryz.func283 (by kernel_rfl) rfl (by kernel_rfl) rfl rfl (plain_N _) ?_
 simp only [argE, Nat.reduceAdd, cN, vI, SV.to]
 (refine SA ?_;intros)
 have hW : dok ((u.drop i).take n) := dok_take (dok_drop hu _) _
 have hWl : ((u.drop i).take n).length = n := by simp; omega
 refine p_loopx (fun (a : Nat × List Nat × Nat × Nat) => [(13, .sh (vI a.1)), (12, .sh (vI n)), (7, .sh (.val (.int .u64 a.2.2.1))), (8, .sh (.val (.int .u64 a.2.2.2))), (0, .sub 1000000 1 i n), (1, .sh (cN v)), (2, .sh (.val (.int .u64 q)))]) (fun a => [(1000000, some (.rw 103 1 (SR ((win u i a.2.1).map fun (x : Nat) => [PV.val (.int .u32 (x : Int))]))))]) (fun a => n - a.1)
   (fun a => a.1 ≤ n ∧ a.2.1.length = a.1 ∧ dok a.2.1 ∧ a.2.2.1 < 4294967296 ∧ a.2.2.2 ≤ 1 ∧ a.2.2.1 = q * (val v % 4294967296 ^ a.1) / 4294967296 ^ a.1 ∧ val a.2.1 + q * (val v % 4294967296 ^ a.1) = val ((u.drop i).take n) % 4294967296 ^ a.1 + (a.2.2.2 + a.2.2.1) * 4294967296 ^ a.1) (0, [], 0, 0) (Weak.list ⟨rfl, rfl, rfl, rfl, rfl, rfl, rfl, trivial⟩ ⟨by simp [win_nil, getO], trivial⟩) ⟨Nat.zero_le _, rfl, dok_nil, by simp, by simp, by simp [Nat.mod_one], by simp [val, Nat.mod_one]⟩ ?_
 rintro ⟨k, l, c, b⟩ ⟨hk, hl, hok, hc, hb, hcc, hI⟩
 simp only [cN, vI] at *
 have hlen := win_len (u := u) (l := l) (i := i) (by omega)
 have hlen2 : (win u i l).length < 2 ^ 39 := by omega
 have lo := getD_lt (i + k) (win_ok hu hok i)
 have lv := getD_lt k hv
 have hb1 := mul_bound hq lv
 have gu := getD_val k hW
 have gv := getD_val k hv
 have gw : (win u i l).getD (i + k) 0 = u.getD (i + k) 0 := by rw [← hl]; exact win_get (by omega)
 have hb2 : (0 : Int) ≤ (q : Int) * ((v.getD k 0 : Nat) : Int) := Int.natCast_nonneg (q * v.getD k 0)
 have hb3 : (q : Int) * ((v.getD k 0 : Nat) : Int) ≤ 18446744065119617025 := Int.ofNat_le.2 hb1
 have e1 : ((c : Int) + (q : Int) * ((v.getD k 0 : Nat) : Int)).toNat = c + q * v.getD k 0 := rfl
 have e2 := and_lo (c + q * v.getD k 0)
 have ek : ((k : Int)).toNat = k := rfl
 have hid : Hid (_ ∧ _ ∧ _ ∧ _ ∧ _) := ⟨hI, gu, gv, gw, hcc⟩
 clear hI gu gv gw hcc
 (refine WA ?_ ?_<;>intros;rename_i hb K1 hK1;rotate_left;rename_i hb;rotate_right)
 · (refine ⟨_,con_at v k hv (by omega),hK1 _ ?_⟩;clear hK1 K1;try simp only [put_some,cN,vI,vB,cR])
   (refine SA ?_;intros)
   obtain ⟨hI, gu, gv, gw, hcc⟩ := hid
   have e3 : Int.toNat 4294967295 = 4294967295 := rfl
   rw [e1, e3, e2, gw]
   rw [gw] at lo
   rw [part_get (by omega)] at gu
   have hm := Nat.mod_lt (c + q * v.getD k 0) (show 4294967296 > 0 by omega)
   have hdm := Nat.mod_add_div (c + q * v.getD k 0) 4294967296
   have hc' : (c + q * v.getD k 0) / 4294967296 < 4294967296 := Nat.div_lt_of_lt_mul (by omega)
   have eM : ((c : Int) + (q : Int) * ((v.getD k 0 : Nat) : Int)) / 4294967296 = (((c + q * v.getD k 0) / 4294967296 : Nat) : Int) := by
     rw [Int.natCast_ediv, Int.natCast_add, Int.natCast_mul]; rfl
   have hcn : (c + q * v.getD k 0) / 4294967296 = q * (val v % 4294967296 ^ (k + 1)) / 4294967296 ^ (k + 1) := by
     rw [mod_succ, ← gv, Nat.mul_add, Nat.mul_left_comm q, Nat.pow_succ, ← Nat.div_div_eq_div_mul, Nat.add_mul_div_left _ _ (pow_pos' k), ← hcc]
   have hd : ∃ d0 b' : Nat, d0 < 4294967296 ∧ b' ≤ 1 ∧ d0 + (c + q * v.getD k 0) % 4294967296 + b = u.getD (i + k) 0 + b' * 4294967296 := by
     generalize (c + q * v.getD k 0) % 4294967296 = m at *
     generalize u.getD (i + k) 0 = z at *
     by_cases hlt : m + b ≤ z
     · exact ⟨z - m - b, 0, by omega, by omega, by omega⟩
     · exact ⟨z + 4294967296 - m - b, 1, by omega, by omega, by omega⟩
   obtain ⟨d0, b', hd1, hd2, hd3⟩ := hd
   have hst := take_step hI hd3 (show c + q * v.getD k 0 = (c + q * v.getD k 0) % 4294967296 + (c + q * v.getD k 0) / 4294967296 * 4294967296 by rw [Nat.mul_comm ((c + q * v.getD k 0) / 4294967296)]; exact hdm.symm)
   rw [eM]
   have g1 : (((((u.getD (i + k) 0 : Nat) : Int) - (((c + q * v.getD k 0) % 4294967296 : Nat) : Int)) % 18446744073709551616 - (b : Int)) % 18446744073709551616 % 4294967296).toNat = d0 := by
     clear hI hst hcn gu gv hcc hdm eM
     generalize (c + q * v.getD k 0) % 4294967296 = m at *
     generalize u.getD (i + k) 0 = z at *
     omega
   have g2 : ((((u.getD (i + k) 0 : Nat) : Int) - (((c + q * v.getD k 0) % 4294967296 : Nat) : Int)) % 18446744073709551616 - (b : Int)) % 18446744073709551616 / 9223372036854775808 = (b' : Int) := by
     clear hI hst hcn gu gv hcc hdm eM g1
     generalize (c + q * v.getD k 0) % 4294967296 = m at *
     generalize u.getD (i + k) 0 = z at *
     omega
   rw [g1, g2]
   have hws : (win u i l).set (i + k) d0 = win u i (l ++ [d0]) := by rw [← hl]; exact win_set (by omega) d0
   rw [hws]
   clear g1 g2 hws
   refine p_lx _ _ _ _ (k + 1, l ++ [d0], (c + q * v.getD k 0) / 4294967296, b') ?_ ⟨?_, ?_, ?_, ?_, ?_, ?_, ?_⟩ (Weak.list ⟨int_eq ?_, rfl, rfl, rfl, rfl, rfl, rfl, trivial⟩ ⟨rfl, trivial⟩) <;> dsimp only
   · omega
   · omega
   · simp [hl]
   · exact dok_append.2 ⟨hok, dok_cons.2 ⟨hd1, dok_nil⟩⟩
   · exact hc'
   · exact hd2
   · exact hcn
   · rw [val_append, hl, mod_succ, mod_succ, ← gv, ← gu]
     simp only [val, Nat.mul_zero, Nat.add_zero]
     rw [Nat.pow_succ]
     exact hst
   · omega
 · simp only [rqo1, AB,Nat.reduceEqDiff,↓reduceIte,Nat.reduceAdd,Nat.reduceMul,Nat.reducePow,Nat.reduceLeDiff,Nat.reduceLT]
   obtain ⟨hI, gu, gv, gw, hcc⟩ := hid
   obtain rfl : k = n := by omega
   have hV : val v < 4294967296 ^ k := Nat.lt_of_lt_of_le (val_lt hv) (Nat.pow_le_pow_right (by omega) (by omega))
   have hqV : q * val v < 4294967296 ^ k := by
     obtain ⟨j, rfl⟩ : ∃ j, k = j + 1 := ⟨k - 1, by omega⟩
     have h1 : val v < 4294967296 ^ j := Nat.lt_of_lt_of_le (val_lt hv) (Nat.pow_le_pow_right (by omega) (by omega))
     rw [Nat.pow_succ, Nat.mul_comm (4294967296 ^ j)]
     exact Nat.lt_of_le_of_lt (Nat.mul_le_mul_right _ (Nat.le_of_lt hq)) (Nat.mul_lt_mul_of_pos_left h1 (by omega))
   have hWlt := val_lt hW
   rw [hWl] at hWlt
   rw [Nat.mod_eq_of_lt hV] at hcc hI
   rw [Nat.div_eq_of_lt hqV] at hcc
   subst hcc
   rw [Nat.mod_eq_of_lt hWlt, Nat.add_zero] at hI
   have hL := val_lt hok
   rw [hl] at hL
   have hfin : (b = 0 ↔ q * val v ≤ val ((u.drop i).take k)) ∧ val l = (val ((u.drop i).take k) + 4294967296 ^ k - q * val v) % 4294967296 ^ k := by
     rcases Nat.lt_or_ge b 1 with h1 | h1
     · obtain rfl : b = 0 := by omega
       rw [Nat.zero_mul, Nat.add_zero] at hI
       refine ⟨⟨fun _ => by omega, fun _ => rfl⟩, ?_⟩
       rw [← hI, show val l + q * val v + 4294967296 ^ k - q * val v = val l + 4294967296 ^ k by omega, Nat.add_mod_right, Nat.mod_eq_of_lt hL]
     · obtain rfl : b = 1 := by omega
       rw [Nat.one_mul] at hI
       refine ⟨⟨fun h => by omega, fun h => by omega⟩, ?_⟩
       rw [← hI, Nat.add_sub_cancel, Nat.mod_eq_of_lt hL]
   refine ⟨?_, ?_⟩
   · simp only [vB]
     congr 2
     rw [Bool.eq_iff_iff, beq_iff_eq, decide_eq_true_iff, ← hfin.1]
     omega
   · rw [tk, ← hfin.2, ← hl, fd_of hok]
theorem give_step {L V W P c d0 uk vk c' : Nat} (hI : L + c * P = W % P + V % P) (h2 : c + (uk + vk) = d0 + c' * 4294967296) :
   L + P * d0 + c' * (P * 4294967296) = W % P + P * uk + (V % P + P * vk) := by
 have e2 : P * (c + (uk + vk)) = P * (d0 + c' * 4294967296) := by rw [h2]
 simp only [Nat.mul_add] at *
 rw [Nat.mul_comm c P] at hI
 have e5 : c' * (P * 4294967296) = P * (c' * 4294967296) := Nat.mul_left_comm _ _ _
 omega
def gk (u : List Nat) (i n V : Nat) : List Nat := win u i (fd n ((val ((u.drop i).take n) + V) % 4294967296 ^ n))
theorem con_give (k0 : Nat) (u v : List Nat) (i n : Nat) (hu : dok u) (hv : dok v) (hi : i + n ≤ u.length) (hn : v.length < n) (h : u.length < 2 ^ 39) :
   ConIO E 284 (.sub k0 1 i n) [cN v] (.rw 103 1 (SR (u.map fun (x : Nat) => [PV.val (.int .u32 (x : Int))]))) (.rw 103 1 (SR ((gk u i n (val v)).map fun (x : Nat) => [PV.val (.int .u32 (x : Int))]))) (.tup []) := by
 refine conIO_of mixed (fn := Tryz.f284) (ts := []) Tryz.func284 (by kernel_rfl) rfl (by kernel_rfl) rfl rfl (plain_N _) ?_
 simp only [argE, Nat.reduceAdd, cN, vI, SV.to]
 (refine SA ?_;intros)
 have hW : dok ((u.drop i).take n) := dok_take (dok_drop hu _) _
 have hWl : ((u.drop i).take n).length = n := by simp; omega
 refine p_loopx (fun (a : Nat × List Nat × Nat) => [(8, .sh (vI a.1)), (7, .sh (vI n)), (4, .sh (.val (.int .u64 a.2.2))), (0, .sub 1000000 1 i n), (1, .sh (cN v))]) (fun a => [(1000000, some (.rw 103 1 (SR ((win u i a.2.1).map fun (x : Nat) => [PV.val (.int .u32 (x : Int))]))))]) (fun a => n - a.1)
   (fun a => a.1 ≤ n ∧ a.2.1.length = a.1 ∧ dok a.2.1 ∧ a.2.2 ≤ 1 ∧ val a.2.1 + a.2.2 * 4294967296 ^ a.1 = val ((u.drop i).take n) % 4294967296 ^ a.1 + val v % 4294967296 ^ a.1) (0, [], 0) (Weak.list ⟨rfl, rfl, rfl, rfl, rfl, trivial⟩ ⟨by simp [win_nil, getO], trivial⟩) ⟨Nat.zero_le _, rfl, dok_nil, by simp, by simp [val, Nat.mod_one]⟩ ?_
 rintro ⟨k, l, c⟩ ⟨hk, hl, hok, hc, hI⟩
 simp only [cN, vI] at *
 have hlen := win_len (u := u) (l := l) (i := i) (by omega)
 have hlen2 : (win u i l).length < 2 ^ 39 := by omega
 have lo := getD_lt (i + k) (win_ok hu hok i)
 have lv := getD_lt k hv
 have gu := getD_val k hW
 have gv := getD_val k hv
 have gw : (win u i l).getD (i + k) 0 = u.getD (i + k) 0 := by rw [← hl]; exact win_get (by omega)
 have ek : ((k : Int)).toNat = k := rfl
 have hid : Hid (_ ∧ _ ∧ _ ∧ _) := ⟨hI, gu, gv, gw⟩
 clear hI gu gv gw
 (refine WA ?_ ?_<;>intros;rename_i hb K1 hK1;rotate_left;rename_i hb;rotate_right)
 · (refine ⟨_,con_at v k hv (by omega),hK1 _ ?_⟩;clear hK1 K1;try simp only [put_some,cN,vI,vB,cR])
   (refine SA ?_;intros)
   obtain ⟨hI, gu, gv, gw⟩ := hid
   rw [gw]
   rw [gw] at lo
   rw [part_get (by omega)] at gu
   have hst := give_step hI (show c + (u.getD (i + k) 0 + v.getD k 0) = (c + (u.getD (i + k) 0 + v.getD k 0)) % 4294967296 + (c + (u.getD (i + k) 0 + v.getD k 0)) / 4294967296 * 4294967296 by clear hI gu gv; omega)
   have g1 : (((c : Int) + (((u.getD (i + k) 0 : Nat) : Int) + ((v.getD k 0 : Nat) : Int))) % 4294967296).toNat = (c + (u.getD (i + k) 0 + v.getD k 0)) % 4294967296 := by clear hI gu gv hst; omega
   rw [g1]
   have hd1 : (c + (u.getD (i + k) 0 + v.getD k 0)) % 4294967296 < 4294967296 := Nat.mod_lt _ (by omega)
   have hws : ∀ d0, (win u i l).set (i + k) d0 = win u i (l ++ [d0]) := fun d0 => by rw [← hl]; exact win_set (by omega) d0
   rw [hws]
   clear g1 hws
   refine p_lx _ _ _ _ (k + 1, l ++ [(c + (u.getD (i + k) 0 + v.getD k 0)) % 4294967296], (c + (u.getD (i + k) 0 + v.getD k 0)) / 4294967296) ?_ ⟨?_, ?_, ?_, ?_, ?_⟩ (Weak.list ⟨int_eq ?_, rfl, int_eq ?_, rfl, rfl, trivial⟩ ⟨rfl, trivial⟩) <;> dsimp only
   · omega
   · omega
   · simp [hl]
   · exact dok_append.2 ⟨hok, dok_cons.2 ⟨hd1, dok_nil⟩⟩
   · clear hI gu gv hst; omega
   · rw [val_append, hl, mod_succ, mod_succ, ← gv, ← gu]
     simp only [val, Nat.mul_zero, Nat.add_zero]
     rw [Nat.pow_succ]
     exact hst
   · omega
   · clear hI gu gv hst; omega
 · simp only [rqo0, AB,Nat.reduceEqDiff,↓reduceIte,Nat.reduceAdd,Nat.reduceMul,Nat.reducePow,Nat.reduceLeDiff,Nat.reduceLT]
   obtain ⟨hI, gu, gv, gw⟩ := hid
   obtain rfl : k = n := by omega
   have hV : val v < 4294967296 ^ k := Nat.lt_of_lt_of_le (val_lt hv) (Nat.pow_le_pow_right (by omega) (by omega))
   have hWlt := val_lt hW
   rw [hWl] at hWlt
   rw [Nat.mod_eq_of_lt hV, Nat.mod_eq_of_lt hWlt] at hI
   have hL := val_lt hok
   rw [hl] at hL
   rw [gk, ← hI, Nat.add_mul_mod_self_right, Nat.mod_eq_of_lt hL, ← hl, fd_of hok]
end Go.Pw
set_option maxRecDepth 100000
set_option linter.unusedVariables false
set_option linter.unusedSimpArgs false
namespace Go.Pw
open Go Go.Proofs
theorem con_clone (x : List Nat) (h : x.length < 2 ^ 39) : Con E 65 [cN x] (cN x) := by
 refine con_of2 mixed (fn := Tryz.f65) (rs := [.tmp 2]) Tryz.func65 (by kernel_rfl) rfl (by kernel_rfl) rfl rfl ?_
 simp only [argE, Nat.reduceAdd, cN, vI]
 iterate 13 (with_reducible first|apply p_seq|apply p_sq|apply p_reg|apply p_nil|apply p_skip|apply p_block|apply p_bq|apply p_ret|apply p_exit|apply p_sq_ret|apply p_sq_exit|apply p_bq_ret|apply p_bq_this|apply p_lq_ret|apply p_lq_exit|apply d_nil|refine p_drw (by decide +kernel) ?_|refine f_op rfl rfl ?_|refine f_opg rfl rfl rfl rfl ?_ ?_|refine f_new rfl rfl rfl rfl ?_|(refine f_end (And.intro ?_ ?_)<;>simp only [List.foldl_nil,List.foldl_cons,recS_mk,AB,Nat.reduceEqDiff,↓reduceIte,Nat.reduceAdd,Nat.reduceMul,Nat.reducePow,Nat.reduceLeDiff,Nat.reduceLT])|apply k_nil|refine k_cons rfl rfl ?_ ?_|apply g_nil|refine g_op0 rfl ?_|refine g_opC rfl ?_|refine p_bq_other (by decide) ?_|refine p_cond rfl ?_ ?_|refine p_op rfl ?_|refine d_op rfl rfl ?_|refine d_eff rfl ?_|refine p_opg rfl rfl rfl ?_ ?_|refine d_opg rfl rfl rfl rfl ?_ ?_|((first|refine p_opgU rfl rfl rfl ?_|refine d_opgU rfl rfl rfl rfl ?_);try simp only [put_some])|(refine fun (K1:St→Prop) hK1=>?_;simp (disch := omega) only [AB,Nat.reduceEqDiff,↓reduceIte,Nat.reduceAdd,Nat.reduceMul,Nat.reducePow,Nat.reduceLeDiff,Nat.reduceLT];(try simp (disch := omega) only [AC]);(try simp only [AM]))|(refine hK1 _ ?_;clear hK1 K1)|refine And.intro (by omega) ?_|apply And.intro|(refine fun (hb:(_:Bool)=_)=>?_;(try simp only [HS] at hb);(try (change True at hb;clear hb));first|(exfalso;first|omega|contradiction)|(try simp only [put_some])))
 refine p_sop rfl (fun K1 hK1 => ?_)
 refine nil_eq (i := ti78) (e := 103) rfl rfl rfl rfl (fun he => ?_) ?_ <;> refine hK1 _ ?_ <;> clear hK1 K1 <;> simp only [put_some]
 · (refine SA ?_;intros)
   simp only [res1,res2,res3,AB,Nat.reduceEqDiff,↓reduceIte,Nat.reduceAdd,Nat.reduceMul,Nat.reducePow,Nat.reduceLeDiff,Nat.reduceLT]
   rw [he]
 · (refine SA ?_;intros)
   simp only [res1,res2,res3,AB,Nat.reduceEqDiff,↓reduceIte,Nat.reduceAdd,Nat.reduceMul,Nat.reducePow,Nat.reduceLeDiff,Nat.reduceLT]
theorem con_lz (x : Nat) (h : x < 4294967296) : Con E 277 [.val (.int .u32 x)] (vI ((32 - bl x : Nat) : Int)) := by
 refine con_of2 mixed (fn := Tryz.f277) (rs := [.tmp 2]) Tryz.func277 (by kernel_rfl) rfl (by kernel_rfl) rfl rfl ?_
 simp only [argE, Nat.reduceAdd, cN, vI]
 (refine SA ?_;intros;rename_i K1 hK1)
 (refine ⟨_,con_Len32 x h,hK1 _ ?_⟩;clear hK1 K1;try simp only [put_some,cN,vI,vB,cR])
 have hb : bl x ≤ 32 := (bl_le_iff x 32).2 h
 (refine SA ?_;intros)
 simp only [res1,res2,res3,AB,Nat.reduceEqDiff,↓reduceIte,Nat.reduceAdd,Nat.reduceMul,Nat.reducePow,Nat.reduceLeDiff,Nat.reduceLT]
 have : (32 : Int) - (bl x : Int) = ((32 - bl x : Nat) : Int) := by omega
 rw [this]
end Go.Pw
