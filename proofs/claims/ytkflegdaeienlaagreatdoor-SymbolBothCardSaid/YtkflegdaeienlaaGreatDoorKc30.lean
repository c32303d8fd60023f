/- Merged from the working texts Pn9 PqA PqB Pq1. -/
import Derived.Test.YtkflegdaeienlaaGreatDoorKc25
import Derived.Test.YtkflegdaeienlaaGreatDoorKc29
import Derived.Test.YtkflegdaeienlaaGreatDoorKc24
import Derived.Test.YtkflegdaeienlaaGreatDoorKc26
import Derived.Test.YtkflegdaeienlaaGreatDoorKc23
set_option linter.all false
set_option maxHeartbeats 400000
set_option maxRecDepth 100000
set_option linter.unusedVariables false
set_option linter.unusedSimpArgs false
namespace Go.Pw
open Go Go.Proofs
theorem con_ngcd (a b : Nat) (h : (dg a).length < 2 ^ 38) (h' : (dg b).length < 2 ^ 38) : Con E 240 [cN (dg a), cN (dg b)] (cN (dg (Nat.gcd a b))) := by
 refine con_of2 mixed (fn := Tryz.f240) (rs := [.tmp 4]) Tryz.func240 (by kernel_rfl) rfl (by kernel_rfl) rfl rfl ?_
 simp only [argE, Nat.reduceAdd, cN]
 (refine SA ?_;intros)
 refine p_loopx (fun (s : Nat × Nat) => [(0, .sh (cN (dg s.1))), (1, .sh (cN (dg s.2)))]) (fun s => []) (fun s => s.2)
   (fun s => Nat.gcd s.1 s.2 = Nat.gcd a b ∧ (dg s.1).length < 2 ^ 38 ∧ (dg s.2).length < 2 ^ 38) (a, b) (Weak.list ⟨rfl, rfl, trivial⟩ trivial) ⟨rfl, h, h'⟩ ?_
 rintro ⟨x, y⟩ ⟨hg, hx, hy⟩
 simp only [cN, vI] at *
 (refine WA ?_ ?_<;>intros<;>rename_i hb K1 hK1)
 · have hy0 : y ≠ 0 := fun e => by subst e; simp [dg_zero] at hb
   (refine ⟨_,con_ndiv x y hy0 hx hy,hK1 _ ?_⟩;clear hK1 K1;try simp only [put_some,cN,vI,vB,cR])
   (refine SA ?_;intros)
   refine p_lx _ _ _ _ (y, x % y) ?_ ⟨?_, ?_, ?_⟩ (Weak.list ⟨rfl, rfl, trivial⟩ trivial) <;> dsimp only
   · exact Nat.mod_lt _ (by omega)
   · rw [← hg, Nat.gcd_comm y, ← Nat.gcd_rec, Nat.gcd_comm]
   · exact hy
   · exact Nat.lt_of_le_of_lt (dg_mono (Nat.le_of_lt (Nat.mod_lt _ (by omega)))) hy
 · have hy0 : y = 0 := dg_ne_nil.1 (List.length_eq_zero_iff.1 (by omega))
   subst hy0
   rw [Nat.gcd_zero_right] at hg
   (refine ⟨_,con_clone (dg x) (by omega),hK1 _ ?_⟩;clear hK1 K1;try simp only [put_some,cN,vI,vB,cR])
   (refine SA ?_;intros)
   simp only [res1,res2,res3,AB,Nat.reduceEqDiff,↓reduceIte,Nat.reduceAdd,Nat.reduceMul,Nat.reducePow,Nat.reduceLeDiff,Nat.reduceLT]
   rw [hg]
   all_goals rfl
theorem fe_dg {a : Nat} (h : (dg a).length ≤ 512) : fe (dg a) = 0 := by
 unfold fe
 rw [if_neg (by omega), if_neg]
 rintro ⟨h1, h2⟩
 have : a ≠ 0 := fun e => by subst e; simp [dg_zero] at h1
 exact top_ne this h2
theorem formR1 (x : List Nat) : formR [x] = fe x := by
 simp only [formR]
 split
 · rename_i e; exact e.symm
 · rfl
theorem formR2 (a b : Nat) (h : (dg a).length ≤ 512) (h' : (dg b).length ≤ 512) : formR [dg a, dg b] = 0 := by simp only [formR, fe_dg h, fe_dg h', if_true]
theorem fe_can {x : List Nat} (hx : dok x) (h : fe x = 0) : x = dg (val x) ∧ x.length ≤ 512 := by
 unfold fe at h
 split at h
 · omega
 · split at h
   · omega
   · rename_i h1 h2
     refine ⟨(dg_val ⟨hx, fun hne => ?_⟩).symm, by omega⟩
     have hl := List.length_pos_iff.2 hne
     rw [List.getLast_eq_getElem]
     rw [List.getD_eq_getElem?_getD, List.getElem?_eq_getElem (by omega)] at h2
     exact fun e => h2 ⟨hl, e⟩
theorem con_IsNat (x : List Nat) (h : x.length < 2 ^ 40) : Con E 185 [cN x] (vB (fe x == 0)) := by
 refine con_of2 mixed (fn := Tryz.f185) (rs := [.tmp 2]) Tryz.func185 (by kernel_rfl) rfl (by kernel_rfl) rfl rfl ?_
 simp only [argE, Nat.reduceAdd, cN, vI]
 (refine SA ?_;intros;rename_i K1 hK1)
 (refine ⟨_,con_form [x] (by simp) (by simpa using h),hK1 _ ?_⟩;clear hK1 K1;try simp only [put_some,cN,vI,vB,cR])
 rw [formR1]
 (refine SA ?_;intros)
 simp only [res1,res2,res3,AB,Nat.reduceEqDiff,↓reduceIte,Nat.reduceAdd,Nat.reduceMul,Nat.reducePow,Nat.reduceLeDiff,Nat.reduceLT]
theorem con_NOf (n : Nat) (h : n < 18446744073709551616) : Con E 250 [.val (.int .u64 n)] (cN (dg n)) := by
 refine con_of2 mixed (fn := Tryz.f250) (rs := [.tmp 2]) Tryz.func250 (by kernel_rfl) rfl (by kernel_rfl) rfl rfl ?_
 simp only [argE, Nat.reduceAdd, cN, vI]
 (refine SA ?_;intros;rename_i K1 hK1)
 rw [show (n : Int) % 4294967296 = ((n % 4294967296 : Nat) : Int) by omega, show (n : Int) / 4294967296 = ((n / 4294967296 : Nat) : Int) by omega]
 (refine ⟨_,con_trim [n % 4294967296, n / 4294967296] (dok_cons.2 ⟨by omega, dok_cons.2 ⟨by omega, dok_nil⟩⟩) (by simp),hK1 _ ?_⟩;clear hK1 K1;try simp only [put_some,cN,vI,vB,cR])
 have hv : val [n % 4294967296, n / 4294967296] = n := by simp only [val]; omega
 rw [hv]
 (refine SA ?_;intros)
 simp only [res1,res2,res3,AB,Nat.reduceEqDiff,↓reduceIte,Nat.reduceAdd,Nat.reduceMul,Nat.reducePow,Nat.reduceLeDiff,Nat.reduceLT]
theorem con_NBits (x : List Nat) (hx : dok x) (h : x.length < 2 ^ 40) : Con E 239 [cN x] (.tup [vI (if fe x = 0 then (bl (val x) : Int) else 0), vI (fe x)]) := by
 refine con_of2 mixed (fn := Tryz.f239) (rs := [.tmp 2, .tmp 3]) Tryz.func239 (by kernel_rfl) rfl (by kernel_rfl) rfl rfl ?_
 simp only [argE, Nat.reduceAdd, cN, vI]
 (refine SA ?_;intros;rename_i K1 hK1)
 (refine ⟨_,con_form [x] (by simp) (by simpa using h),hK1 _ ?_⟩;clear hK1 K1;try simp only [put_some,cN,vI,vB,cR])
 rw [formR1]
 (refine WA ?_ ?_<;>intros;rename_i hb;rotate_left;rename_i hb K1 hK1;rotate_right)
 · simp only [res1,res2,res3,AB,Nat.reduceEqDiff,↓reduceIte,Nat.reduceAdd,Nat.reduceMul,Nat.reducePow,Nat.reduceLeDiff,Nat.reduceLT]
   rw [if_neg hb]
   all_goals rfl
 · obtain ⟨h1, h2⟩ := fe_can hx hb
   have hs := con_size (val x) (by rw [← h1]; omega)
   rw [← h1] at hs
   (refine ⟨_,hs,hK1 _ ?_⟩;clear hK1 K1;try simp only [put_some,cN,vI,vB,cR])
   (refine SA ?_;intros)
   simp only [res1,res2,res3,AB,Nat.reduceEqDiff,↓reduceIte,Nat.reduceAdd,Nat.reduceMul,Nat.reducePow,Nat.reduceLeDiff,Nat.reduceLT]
   rw [if_pos hb, hb]
   all_goals rfl
theorem con_NMul (a b : Nat) (h : (dg a).length ≤ 512) (h' : (dg b).length ≤ 512) : Con E 160 [cN (dg a), cN (dg b)] (.tup [cN (dg (a * b)), vI 0]) := by
 refine con_of2 mixed (fn := Tryz.f160) (rs := [.tmp 4, .tmp 5]) Tryz.func160 (by kernel_rfl) rfl (by kernel_rfl) rfl rfl ?_
 simp only [argE, Nat.reduceAdd, cN, vI]
 (refine SA ?_;intros;rename_i K1 hK1)
 (refine ⟨_,con_form [dg a, dg b] (by simp) (by simp; omega),hK1 _ ?_⟩;clear hK1 K1;try simp only [put_some,cN,vI,vB,cR])
 rw [formR2 a b h h']
 (refine SA ?_;intros;rename_i K1 hK1)
 (refine ⟨_,con_nmul (dg a) (dg b) (dok_dg a) (dok_dg b) (by omega) (by omega),hK1 _ ?_⟩;clear hK1 K1;try simp only [put_some,cN,vI,vB,cR])
 rw [val_dg, val_dg]
 (refine SA ?_;intros)
 simp only [res1,res2,res3,AB,Nat.reduceEqDiff,↓reduceIte,Nat.reduceAdd,Nat.reduceMul,Nat.reducePow,Nat.reduceLeDiff,Nat.reduceLT]
theorem con_NGcd (a b : Nat) (h : (dg a).length ≤ 512) (h' : (dg b).length ≤ 512) : Con E 187 [cN (dg a), cN (dg b)] (.tup [cN (dg (Nat.gcd a b)), vI 0]) := by
 refine con_of2 mixed (fn := Tryz.f187) (rs := [.tmp 4, .tmp 5]) Tryz.func187 (by kernel_rfl) rfl (by kernel_rfl) rfl rfl ?_
 simp only [argE, Nat.reduceAdd, cN, vI]
 (refine SA ?_;intros;rename_i K1 hK1)
 (refine ⟨_,con_form [dg a, dg b] (by simp) (by simp; omega),hK1 _ ?_⟩;clear hK1 K1;try simp only [put_some,cN,vI,vB,cR])
 rw [formR2 a b h h']
 (refine SA ?_;intros;rename_i K1 hK1)
 (refine ⟨_,con_ngcd a b (by omega) (by omega),hK1 _ ?_⟩;clear hK1 K1;try simp only [put_some,cN,vI,vB,cR])
 (refine SA ?_;intros)
 simp only [res1,res2,res3,AB,Nat.reduceEqDiff,↓reduceIte,Nat.reduceAdd,Nat.reduceMul,Nat.reducePow,Nat.reduceLeDiff,Nat.reduceLT]
theorem con_NDiv (a b : Nat) (hb0 : b ≠ 0) (h : (dg a).length ≤ 512) (h' : (dg b).length ≤ 512) : Con E 222 [cN (dg a), cN (dg b)] (.tup [cN (dg (a / b)), cN (dg (a % b)), vI 0]) := by
 refine con_of2 mixed (fn := Tryz.f222) (rs := [.tmp 4, .tmp 5, .tmp 6]) Tryz.func222 (by kernel_rfl) rfl (by kernel_rfl) rfl rfl ?_
 simp only [argE, Nat.reduceAdd, cN, vI]
 have hbl : (dg b).length ≠ 0 := fun e => hb0 (dg_ne_nil.1 (List.length_eq_zero_iff.1 e))
 (refine SA ?_;intros;rename_i K1 hK1)
 (refine ⟨_,con_form [dg a, dg b] (by simp) (by simp; omega),hK1 _ ?_⟩;clear hK1 K1;try simp only [put_some,cN,vI,vB,cR])
 rw [formR2 a b h h']
 (refine SA ?_;intros;rename_i hb K1 hK1)
 (refine ⟨_,con_ndiv a b hb0 (by omega) (by omega),hK1 _ ?_⟩;clear hK1 K1;try simp only [put_some,cN,vI,vB,cR])
 (refine SA ?_;intros)
 simp only [res1,res2,res3,AB,Nat.reduceEqDiff,↓reduceIte,Nat.reduceAdd,Nat.reduceMul,Nat.reducePow,Nat.reduceLeDiff,Nat.reduceLT]
theorem con_NAdd (a b : Nat) (h : (dg a).length ≤ 512) (h' : (dg b).length ≤ 512) : Con E 272 [cN (dg a), cN (dg b)] (.tup [cN (dg (a + b)), vI 0]) := by
 refine con_of2 mixed (fn := Tryz.f272) (rs := [.tmp 4, .tmp 5]) Tryz.func272 (by kernel_rfl) rfl (by kernel_rfl) rfl rfl ?_
 simp only [argE, Nat.reduceAdd, cN, vI]
 (refine SA ?_;intros;rename_i K1 hK1)
 (refine ⟨_,con_form [dg a, dg b] (by simp) (by simp; omega),hK1 _ ?_⟩;clear hK1 K1;try simp only [put_some,cN,vI,vB,cR])
 rw [formR2 a b h h']
 (refine SA ?_;intros;rename_i K1 hK1)
 (refine ⟨_,con_nadd (dg a) (dg b) (dok_dg a) (dok_dg b) (by omega) (by omega),hK1 _ ?_⟩;clear hK1 K1;try simp only [put_some,cN,vI,vB,cR])
 rw [val_dg, val_dg]
 (refine SA ?_;intros)
 simp only [res1,res2,res3,AB,Nat.reduceEqDiff,↓reduceIte,Nat.reduceAdd,Nat.reduceMul,Nat.reducePow,Nat.reduceLeDiff,Nat.reduceLT]
theorem con_NCompare (a b : Nat) (h : (dg a).length ≤ 512) (h' : (dg b).length ≤ 512) : Con E 273 [cN (dg a), cN (dg b)] (.tup [vI (cmpI a b), vI 0]) := by
 refine con_of2 mixed (fn := Tryz.f273) (rs := [.tmp 4, .tmp 5]) Tryz.func273 (by kernel_rfl) rfl (by kernel_rfl) rfl rfl ?_
 simp only [argE, Nat.reduceAdd, cN, vI]
 (refine SA ?_;intros;rename_i K1 hK1)
 (refine ⟨_,con_form [dg a, dg b] (by simp) (by simp; omega),hK1 _ ?_⟩;clear hK1 K1;try simp only [put_some,cN,vI,vB,cR])
 rw [formR2 a b h h']
 (refine SA ?_;intros;rename_i K1 hK1)
 (refine ⟨_,con_compare a b (by omega) (by omega),hK1 _ ?_⟩;clear hK1 K1;try simp only [put_some,cN,vI,vB,cR])
 (refine SA ?_;intros)
 simp only [res1,res2,res3,AB,Nat.reduceEqDiff,↓reduceIte,Nat.reduceAdd,Nat.reduceMul,Nat.reducePow,Nat.reduceLeDiff,Nat.reduceLT]
theorem con_NSub (a b : Nat) (hle : b ≤ a) (h : (dg a).length ≤ 512) (h' : (dg b).length ≤ 512) : Con E 274 [cN (dg a), cN (dg b)] (.tup [cN (dg (a - b)), vI 0]) := by
 refine con_of2 mixed (fn := Tryz.f274) (rs := [.tmp 4, .tmp 5]) Tryz.func274 (by kernel_rfl) rfl (by kernel_rfl) rfl rfl ?_
 simp only [argE, Nat.reduceAdd, cN, vI]
 have hcmp := cmpI_lt0 a b
 (refine SA ?_;intros;rename_i K1 hK1)
 (refine ⟨_,con_form [dg a, dg b] (by simp) (by simp; omega),hK1 _ ?_⟩;clear hK1 K1;try simp only [put_some,cN,vI,vB,cR])
 rw [formR2 a b h h']
 (refine SA ?_;intros;rename_i K1 hK1)
 (refine ⟨_,con_compare a b (by omega) (by omega),hK1 _ ?_⟩;clear hK1 K1;try simp only [put_some,cN,vI,vB,cR])
 (refine SA ?_;intros;rename_i hb K1 hK1)
 (refine ⟨_,con_nsub (dg a) (dg b) (dok_dg a) (dok_dg b) (by rw [val_dg, val_dg]; exact hle) (by omega) (by omega),hK1 _ ?_⟩;clear hK1 K1;try simp only [put_some,cN,vI,vB,cR])
 rw [val_dg, val_dg]
 (refine SA ?_;intros)
 simp only [res1,res2,res3,AB,Nat.reduceEqDiff,↓reduceIte,Nat.reduceAdd,Nat.reduceMul,Nat.reducePow,Nat.reduceLeDiff,Nat.reduceLT]
end Go.Pw
set_option linter.unusedVariables false
namespace Go.Pw
def isRat (x : Rt) : Prop := if x.fault = 0 then can x.num ∧ can x.den ∧ bl (val x.num) ≤ 4096 ∧ bl (val x.den) ≤ 4096 ∧ x.den ≠ [] ∧ (x.neg = true → x.num ≠ []) ∧ Nat.gcd (val x.num) (val x.den) = 1
 else (x.fault = 4 ∨ x.fault = 11) ∧ x.neg = false ∧ x.num = [] ∧ x.den = []
def flt (e : Int) : Rt := ⟨e, false, [], []⟩
def nrat (neg : Bool) (n d : Nat) : Rt := if d = 0 then flt 11 else if 4096 < bl (n / Nat.gcd n d) ∨ 4096 < bl (d / Nat.gcd n d) then flt 4 else
 ⟨0, neg && decide (n / Nat.gcd n d ≠ 0), dg (n / Nat.gcd n d), dg (d / Nat.gcd n d)⟩
def sadd (s : Bool) (n : Nat) (t : Bool) (m : Nat) : Bool × Nat := if s = t then (s, n + m) else if m ≤ n then (s, n - m) else (t, m - n)
def lft (a b : Int) : Int := if a = 0 ∨ b ≠ 0 ∧ b < a then b else a
def radd (a b : Rt) : Rt := if lft a.fault b.fault ≠ 0 then flt (lft a.fault b.fault) else
 nrat (sadd a.neg (val a.num * val b.den) b.neg (val b.num * val a.den)).1 (sadd a.neg (val a.num * val b.den) b.neg (val b.num * val a.den)).2 (val a.den * val b.den)
def rmul (a b : Rt) : Rt := if lft a.fault b.fault ≠ 0 then flt (lft a.fault b.fault) else nrat (a.neg != b.neg) (val a.num * val b.num) (val a.den * val b.den)
def rof (n d : Int) : Rt := nrat (decide (n < 0) != decide (d < 0)) n.natAbs d.natAbs
theorem gcd_div_pos {n d : Nat} (h : d ≠ 0) : 0 < Nat.gcd n d := Nat.gcd_pos_of_pos_right _ (by omega)
theorem isRat_flt {e : Int} (h : e = 4 ∨ e = 11) : isRat (flt e) := by
 have : e ≠ 0 := by omega
 unfold isRat flt
 rw [if_neg this]
 exact ⟨h, rfl, rfl, rfl⟩
theorem isRat_nrat (s : Bool) (n d : Nat) : isRat (nrat s n d) := by
 unfold nrat
 split
 · exact isRat_flt (.inr rfl)
 · split
   · exact isRat_flt (.inl rfl)
   · rename_i h1 h2
     have hg := gcd_div_pos (n := n) h1
     have hd : d / Nat.gcd n d ≠ 0 := by
       have := Nat.div_pos (Nat.le_of_dvd (by omega) (Nat.gcd_dvd_right n d)) hg
       omega
     simp only [isRat, if_true, val_dg]
     refine ⟨can_dg _, can_dg _, by omega, by omega, fun e => hd (dg_ne_nil.1 e), fun e => ?_, ?_⟩
     · simp only [Bool.and_eq_true, decide_eq_true_eq] at e
       exact fun h => e.2 (dg_ne_nil.1 h)
     · exact Nat.gcd_div_gcd_div_gcd_of_pos_right (by omega)
theorem isRat_radd (a b : Rt) (ha : isRat a) (hb : isRat b) : isRat (radd a b) := by
 unfold radd
 split
 · refine isRat_flt ?_
   unfold isRat at ha hb
   unfold lft at *
   rename_i h
   split at ha <;> split at hb <;> (try split) <;> (try (rename_i h9; rw [if_pos h9] at h)) <;> (try (rename_i h9; rw [if_neg h9] at h)) <;> omega
 · exact isRat_nrat _ _ _
theorem isRat_rmul (a b : Rt) (ha : isRat a) (hb : isRat b) : isRat (rmul a b) := by
 unfold rmul
 split
 · refine isRat_flt ?_
   unfold isRat at ha hb
   unfold lft at *
   rename_i h
   split at ha <;> split at hb <;> (try split) <;> (try (rename_i h9; rw [if_pos h9] at h)) <;> (try (rename_i h9; rw [if_neg h9] at h)) <;> omega
 · exact isRat_nrat _ _ _
end Go.Pw
set_option linter.unusedVariables false
namespace Go.Pw
set_option exponentiation.threshold 5000
theorem topne {b : Nat} (h : b ≠ 0) : (dg b).getD ((dg b).length - 1) 0 ≠ 0 := by
 have h1 : dg b ≠ [] := fun e => h (dg_ne_nil.1 e)
 have h2 := (can_dg b).2 h1
 rw [List.getLast_eq_getElem] at h2
 rw [List.getD_eq_getElem?_getD, List.getElem?_eq_getElem (by have := List.length_pos_iff.2 h1; omega)]
 exact h2
theorem dgone {g : Nat} (hg : g ≠ 0) : ((dg g).length = 1 ∧ (dg g).getD 0 0 = 1) ↔ g = 1 := by
 constructor
 · rintro ⟨h1, h2⟩
   have hs : g < 4294967296 := by
     have := len_dg_le (n := g) (k := 1)
     omega
   rw [dg_small hg hs] at h2
   exact h2
 · rintro rfl
   rw [dg_one]
   exact ⟨rfl, rfl⟩
theorem sadd_same (s : Bool) (n m : Nat) : sadd s n s m = (s, n + m) := by simp [sadd]
theorem sadd_ge {s t : Bool} (h : s ≠ t) {n m : Nat} (hle : m ≤ n) : sadd s n t m = (s, n - m) := by simp [sadd, h, hle]
theorem sadd_lt {s t : Bool} (h : s ≠ t) {n m : Nat} (hlt : n < m) : sadd s n t m = (t, m - n) := by simp [sadd, h, Nat.not_le.2 hlt]
structure Fit (x : Rt) : Prop where
 n : dok x.num
 d : dok x.den
 nl : x.num.length < 2 ^ 38
 dl : x.den.length < 2 ^ 38
def zr : Rt := ⟨0, false, [], []⟩
theorem len_of_bl {n : Nat} (h : bl n ≤ 4096) : (dg n).length ≤ 128 := by
 rw [len_dg_le, show (4294967296 : Nat) = 2 ^ 32 from rfl, ← Nat.pow_mul]
 exact (bl_le_iff n 4096).1 h
theorem num_of {x : Rt} (h : isRat x) (hf : x.fault = 0) : x.num = dg (val x.num) ∧ x.den = dg (val x.den) ∧ (dg (val x.num)).length ≤ 128 ∧ (dg (val x.den)).length ≤ 128 ∧ val x.den ≠ 0 := by
 unfold isRat at h
 rw [if_pos hf] at h
 obtain ⟨h1, h2, h3, h4, h5, h6, h7⟩ := h
 exact ⟨(dg_val h1).symm, (dg_val h2).symm, len_of_bl h3, len_of_bl h4, fun e => h5 (by rw [← dg_val h2, e, dg_zero])⟩
theorem lft_zero {a b : Int} (ha : a = 0 ∨ a = 4 ∨ a = 11) (hb : b = 0 ∨ b = 4 ∨ b = 11) (h : lft a b = 0) : a = 0 ∧ b = 0 := by
 unfold lft at h
 split at h <;> omega
theorem fault_of {x : Rt} (h : isRat x) : x.fault = 0 ∨ x.fault = 4 ∨ x.fault = 11 := by
 unfold isRat at h
 split at h
 · left; assumption
 · right; exact h.1
theorem mul_len {a b : Nat} (h : (dg a).length ≤ 128) (h' : (dg b).length ≤ 128) : (dg (a * b)).length ≤ 256 := by
 rw [len_dg_le] at *
 rw [show 256 = 128 + 128 from rfl, Nat.pow_add]
 exact Nat.mul_lt_mul'' h h'
theorem sadd_len {s t : Bool} {n m : Nat} (h : (dg n).length ≤ 256) (h' : (dg m).length ≤ 256) : (dg (sadd s n t m).2).length ≤ 257 := by
 rw [len_dg_le] at *
 have : (sadd s n t m).2 ≤ n + m := by unfold sadd; split <;> (try split) <;> dsimp only <;> omega
 rw [show (257 : Nat) = 256 + 1 from rfl, Nat.pow_succ]
 generalize 4294967296 ^ 256 = P at *
 omega
noncomputable def isRatB (x : Rt) : Bool := @decide (isRat x) (Classical.propDecidable _)
theorem isRatB_iff (x : Rt) : isRatB x = true ↔ isRat x := by unfold isRatB; exact @decide_eq_true_iff _ (Classical.propDecidable _)
theorem isRatB_not (x : Rt) : isRatB x = false ↔ ¬ isRat x := by rw [← isRatB_iff]; simp
end Go.Pw
set_option maxRecDepth 100000
set_option linter.unusedVariables false
set_option linter.unusedSimpArgs false
namespace Go.Pw
set_option exponentiation.threshold 20000
open Go Go.Proofs
theorem con_fault (e : Int) : Con E 221 [vI e] (.agg (cR (flt e))) := by
 refine con_of2 mixed (fn := Tryz.f221) (rs := [.cell 2 80]) Tryz.func221 (by kernel_rfl) rfl (by kernel_rfl) rfl rfl ?_
 simp only [argE, Nat.reduceAdd, cN, vI]
 (refine SD ?_;intros)
 simp (disch := omega) only [resc1,resc2,rescc,rest1c,AB,AD,Nat.reduceEqDiff,↓reduceIte,Nat.reduceAdd,Nat.reduceMul,Nat.reducePow,Nat.reduceLeDiff,Nat.reduceLT]
 all_goals rfl
theorem con_wof (x : Rt) : Con E 251 [.agg (cR x)] (.agg [vB x.neg, cN x.num]) := by
 refine con_of2 mixed (fn := Tryz.f251) (rs := [.cell 2 188]) Tryz.func251 (by kernel_rfl) rfl (by kernel_rfl) rfl rfl ?_
 simp only [argE, Nat.reduceAdd, cN, vI, cR]
 (refine SD ?_;intros)
 simp (disch := omega) only [resc1,resc2,rescc,rest1c,AB,AD,Nat.reduceEqDiff,↓reduceIte,Nat.reduceAdd,Nat.reduceMul,Nat.reducePow,Nat.reduceLeDiff,Nat.reduceLT]
 all_goals rfl
theorem con_natural (x : List Nat) (e : Int) : Con E 159 [cN x, vI e] (cN x) := by
 refine con_of2 mixed (fn := Tryz.f159) (rs := [.tmp 4]) Tryz.func159 (by kernel_rfl) rfl (by kernel_rfl) rfl rfl ?_
 simp only [argE, Nat.reduceAdd, cN, vI, cR]
 (refine SD ?_;intros)
 simp only [res1,res2,res3,AB,AD,Nat.reduceEqDiff,↓reduceIte,Nat.reduceAdd,Nat.reduceMul,Nat.reducePow,Nat.reduceLeDiff,Nat.reduceLT]
theorem con_times (s : Bool) (a b : Nat) (h : (dg a).length ≤ 512) (h' : (dg b).length ≤ 512) : Con E 252 [.agg [vB s, cN (dg a)], cN (dg b)] (.agg [vB s, cN (dg (a * b))]) := by
 refine con_of2 mixed (fn := Tryz.f252) (rs := [.cell 4 188]) Tryz.func252 (by kernel_rfl) rfl (by kernel_rfl) rfl rfl ?_
 simp only [argE, Nat.reduceAdd, cN, vI, vB]
 (refine SD ?_;intros;rename_i K1 hK1)
 (refine ⟨_,con_NMul a b h h',hK1 _ ?_⟩;clear hK1 K1;try simp only [put_some,cN,vI,vB,cR])
 (refine SD ?_;intros;rename_i K1 hK1)
 (refine ⟨_,con_natural (dg (a * b)) 0,hK1 _ ?_⟩;clear hK1 K1;try simp only [put_some,cN,vI,vB,cR])
 (refine SD ?_;intros)
 simp (disch := omega) only [resc1,resc2,rescc,rest1c,AB,AD,Nat.reduceEqDiff,↓reduceIte,Nat.reduceAdd,Nat.reduceMul,Nat.reducePow,Nat.reduceLeDiff,Nat.reduceLT]
 all_goals rfl
theorem con_long (x : List Nat) (hx : dok x) (h : x.length < 2 ^ 40) : Con E 186 [cN x] (vB (decide (fe x ≠ 0 ∨ 4096 < bl (val x)))) := by
 refine con_of2 mixed (fn := Tryz.f186) (rs := [.tmp 2]) Tryz.func186 (by kernel_rfl) rfl (by kernel_rfl) rfl rfl ?_
 simp only [argE, Nat.reduceAdd, cN, vI, cR]
 (refine SD ?_;intros;rename_i K1 hK1)
 (refine ⟨_,con_NBits x hx h,hK1 _ ?_⟩;clear hK1 K1;try simp only [put_some,cN,vI,vB,cR])
 (refine WD ?_ ?_<;>intros<;>first|rename_i hb K1 hK1|rename_i K1 hK1|skip)
 · simp only [res1,res2,res3,AB,AD,Nat.reduceEqDiff,↓reduceIte,Nat.reduceAdd,Nat.reduceMul,Nat.reducePow,Nat.reduceLeDiff,Nat.reduceLT]
   rw [if_pos hb]
   congr 2
   rw [decide_eq_decide]
   omega
 · simp only [res1,res2,res3,AB,AD,Nat.reduceEqDiff,↓reduceIte,Nat.reduceAdd,Nat.reduceMul,Nat.reducePow,Nat.reduceLeDiff,Nat.reduceLT]
   rw [decide_eq_true (.inl hb)]
   all_goals rfl
theorem con_isFault (e : Int) : Con E 184 [vI e] (vB (decide (e = 4 ∨ e = 11))) := by
 refine con_of2 mixed (fn := Tryz.f184) (rs := [.tmp 2]) Tryz.func184 (by kernel_rfl) rfl (by kernel_rfl) rfl rfl ?_
 simp only [argE, Nat.reduceAdd, cN, vI, cR]
 (refine WD ?_ ?_<;>intros<;>first|rename_i hb K1 hK1|rename_i K1 hK1|skip)
 · simp only [res1,res2,res3,AB,AD,Nat.reduceEqDiff,↓reduceIte,Nat.reduceAdd,Nat.reduceMul,Nat.reducePow,Nat.reduceLeDiff,Nat.reduceLT]
   simp only [vB]
   congr 2
   rw [Bool.eq_iff_iff, beq_iff_eq, decide_eq_true_iff]
   omega
 · simp only [res1,res2,res3,AB,AD,Nat.reduceEqDiff,↓reduceIte,Nat.reduceAdd,Nat.reduceMul,Nat.reducePow,Nat.reduceLeDiff,Nat.reduceLT]
   rw [decide_eq_true (.inl hb)]
   all_goals rfl
theorem fe_of_can {x : List Nat} (h : can x) (hl : x.length ≤ 512) : fe x = 0 := by
 rw [← dg_val h] at hl ⊢
 exact fe_dg hl
set_option maxHeartbeats 4000000 in
theorem con_IsRat (x : Rt) (hx : dok x.num) (hd : dok x.den) (h : x.num.length < 2 ^ 38) (h' : x.den.length < 2 ^ 38) : Con E 123 [.agg (cR x)] (vB (isRatB x)) := by
 obtain ⟨fault, neg, num, den⟩ := x
 dsimp only at *
 refine con_of2 mixed (fn := Tryz.f123) (rs := [.tmp 2]) Tryz.func123 (by kernel_rfl) rfl (by kernel_rfl) rfl rfl ?_
 simp only [argE, Nat.reduceAdd, cN, vI, cR]
 by_cases f0 : fault = 0
 · have no : ∀ p : Prop, (isRat ⟨fault, neg, num, den⟩ → p) → ¬ p → isRatB ⟨fault, neg, num, den⟩ = false := fun p h1 h2 => (isRatB_not _).2 fun h => h2 (h1 h)
   have un : isRat ⟨fault, neg, num, den⟩ → can num ∧ can den ∧ bl (val num) ≤ 4096 ∧ bl (val den) ≤ 4096 ∧ den ≠ [] ∧ (neg = true → num ≠ []) ∧ Nat.gcd (val num) (val den) = 1 := fun h => by
     unfold isRat at h; rw [if_pos f0] at h; exact h
   have sm : ∀ l : List Nat, can l → bl (val l) ≤ 4096 → l.length ≤ 512 := fun l h1 h2 => by
     have := (bl_le_iff (val l) 4096).1 h2
     rw [← dg_val h1, len_dg_le]
     exact Nat.lt_of_lt_of_le this (by rw [show (4294967296 : Nat) = 2 ^ 32 from rfl, ← Nat.pow_mul]; exact Nat.pow_le_pow_right (by omega) (by omega))
   have c1 := con_IsNat num (by omega)
   have c2 := con_IsNat den (by omega)
   have c3 := con_long num hx (by omega)
   have c4 := con_long den hd (by omega)
   (refine SD ?_;intros;first|rename_i hb K1 hK1|rename_i K1 hK1|skip)
   by_cases a1 : fe num = 0
   rotate_left
   · rw [show (fe num == 0) = false by simp [a1]] at c1
     (refine ⟨_,c1,hK1 _ ?_⟩;clear hK1 K1;try simp only [put_some,cN,vI,vB,cR])
     (refine SD ?_;intros)
     simp only [res1,res2,res3,AB,AD,Nat.reduceEqDiff,↓reduceIte,Nat.reduceAdd,Nat.reduceMul,Nat.reducePow,Nat.reduceLeDiff,Nat.reduceLT]
     rw [no (fe num = 0) (fun h => fe_of_can (un h).1 (sm num (un h).1 (un h).2.2.1)) a1]
   rw [show (fe num == 0) = true by simp [a1]] at c1
   (refine ⟨_,c1,hK1 _ ?_⟩;clear hK1 K1;try simp only [put_some,cN,vI,vB,cR])
   (refine SD ?_;intros;rename_i K1 hK1)
   by_cases a2 : fe den = 0
   rotate_left
   · rw [show (fe den == 0) = false by simp [a2]] at c2
     (refine ⟨_,c2,hK1 _ ?_⟩;clear hK1 K1;try simp only [put_some,cN,vI,vB,cR])
     (refine SD ?_;intros)
     simp only [res1,res2,res3,AB,AD,Nat.reduceEqDiff,↓reduceIte,Nat.reduceAdd,Nat.reduceMul,Nat.reducePow,Nat.reduceLeDiff,Nat.reduceLT]
     rw [no (fe den = 0) (fun h => fe_of_can (un h).2.1 (sm den (un h).2.1 (un h).2.2.2.1)) a2]
   rw [show (fe den == 0) = true by simp [a2]] at c2
   (refine ⟨_,c2,hK1 _ ?_⟩;clear hK1 K1;try simp only [put_some,cN,vI,vB,cR])
   (refine SD ?_;intros;rename_i K1 hK1)
   by_cases a3 : bl (val num) ≤ 4096
   rotate_left
   · rw [decide_eq_true (Or.inr (by omega))] at c3
     (refine ⟨_,c3,hK1 _ ?_⟩;clear hK1 K1;try simp only [put_some,cN,vI,vB,cR])
     (refine SD ?_;intros)
     simp only [res1,res2,res3,AB,AD,Nat.reduceEqDiff,↓reduceIte,Nat.reduceAdd,Nat.reduceMul,Nat.reducePow,Nat.reduceLeDiff,Nat.reduceLT]
     rw [no (bl (val num) ≤ 4096) (fun h => (un h).2.2.1) a3]
   rw [decide_eq_false (by omega)] at c3
   (refine ⟨_,c3,hK1 _ ?_⟩;clear hK1 K1;try simp only [put_some,cN,vI,vB,cR])
   (refine SD ?_;intros;rename_i K1 hK1)
   by_cases a4 : bl (val den) ≤ 4096
   rotate_left
   · rw [decide_eq_true (Or.inr (by omega))] at c4
     (refine ⟨_,c4,hK1 _ ?_⟩;clear hK1 K1;try simp only [put_some,cN,vI,vB,cR])
     (refine SD ?_;intros)
     simp only [res1,res2,res3,AB,AD,Nat.reduceEqDiff,↓reduceIte,Nat.reduceAdd,Nat.reduceMul,Nat.reducePow,Nat.reduceLeDiff,Nat.reduceLT]
     rw [no (bl (val den) ≤ 4096) (fun h => (un h).2.2.2.1) a4]
   rw [decide_eq_false (by omega)] at c4
   (refine ⟨_,c4,hK1 _ ?_⟩;clear hK1 K1;try simp only [put_some,cN,vI,vB,cR])
   obtain ⟨n1, n2⟩ := fe_can hx a1
   obtain ⟨d1, d2⟩ := fe_can hd a2
   have cg := con_NGcd (val num) (val den) (by rw [← n1]; exact n2) (by rw [← d1]; exact d2)
   rw [← n1, ← d1] at cg
   clear c1 c2 c3 c4
   by_cases a5 : den.length = 0
   · cases neg
     all_goals
       (refine SD ?_;intros)
       simp only [res1,res2,res3,AB,AD,Nat.reduceEqDiff,↓reduceIte,Nat.reduceAdd,Nat.reduceMul,Nat.reducePow,Nat.reduceLeDiff,Nat.reduceLT]
       rw [no (den ≠ []) (fun h => (un h).2.2.2.2.1) (fun e => e (List.length_eq_zero_iff.1 a5))]
   have hg0 : Nat.gcd (val num) (val den) ≠ 0 := by
     have hv : val den ≠ 0 := fun e => a5 (by rw [d1, e, dg_zero]; rfl)
     have := Nat.gcd_pos_of_pos_right (val num) (Nat.pos_of_ne_zero hv)
     omega
   have hone := dgone hg0
   by_cases a6 : neg = true ∧ num.length = 0
   · obtain ⟨rfl, a6⟩ := a6
     (refine SD ?_;intros)
     simp only [res1,res2,res3,AB,AD,Nat.reduceEqDiff,↓reduceIte,Nat.reduceAdd,Nat.reduceMul,Nat.reducePow,Nat.reduceLeDiff,Nat.reduceLT]
     rw [no (num ≠ []) (fun h => (un h).2.2.2.2.2.1 rfl) (fun e => e (List.length_eq_zero_iff.1 a6))]
   have hres : isRatB ⟨fault, neg, num, den⟩ = decide (Nat.gcd (val num) (val den) = 1) := by
     rw [Bool.eq_iff_iff, isRatB_iff, decide_eq_true_iff]
     refine ⟨fun h => (un h).2.2.2.2.2.2, fun h => ?_⟩
     unfold isRat
     rw [if_pos f0]
     refine ⟨by rw [n1]; exact can_dg _, by rw [d1]; exact can_dg _, a3, a4, fun e => a5 (by subst e; rfl), fun e e2 => a6 ⟨e, by subst e2; rfl⟩, h⟩
   rw [hres]
   clear hres no un
   cases neg
   rotate_left
   have a7 : num.length ≠ 0 := fun e => a6 ⟨rfl, e⟩
   all_goals
     (refine SD ?_;intros;first|rename_i hb K1 hK1|rename_i K1 hK1|skip)
     all_goals
       (refine ⟨_,cg,hK1 _ ?_⟩;clear hK1 K1;try simp only [put_some,cN,vI,vB,cR])
       (refine WD ?_ ?_<;>intros<;>first|rename_i hb K1 hK1|rename_i K1 hK1|skip)
       · simp only [res1,res2,res3,AB,AD,Nat.reduceEqDiff,↓reduceIte,Nat.reduceAdd,Nat.reduceMul,Nat.reducePow,Nat.reduceLeDiff,Nat.reduceLT]
         congr 2
         rw [Bool.eq_iff_iff, beq_iff_eq, decide_eq_true_iff]
         exact ⟨fun e => hone.1 ⟨by omega, by omega⟩, fun e => by have := (hone.2 e).2; omega⟩
       · simp only [res1,res2,res3,AB,AD,Nat.reduceEqDiff,↓reduceIte,Nat.reduceAdd,Nat.reduceMul,Nat.reducePow,Nat.reduceLeDiff,Nat.reduceLT]
         rw [decide_eq_false (fun e => hb (by have := (hone.2 e).1; omega))]
 · have no : ∀ p : Prop, (isRat ⟨fault, neg, num, den⟩ → p) → ¬ p → isRatB ⟨fault, neg, num, den⟩ = false := fun p h1 h2 => (isRatB_not _).2 fun h => h2 (h1 h)
   have un : isRat ⟨fault, neg, num, den⟩ ↔ (fault = 4 ∨ fault = 11) ∧ neg = false ∧ num = [] ∧ den = [] := by
     unfold isRat; rw [if_neg f0]
   have c1 := con_isFault fault
   (refine SD ?_;intros;first|rename_i hb K1 hK1|rename_i K1 hK1|skip)
   by_cases a1 : fault = 4 ∨ fault = 11
   · rw [decide_eq_true a1] at c1
     (refine ⟨_,c1,hK1 _ ?_⟩;clear hK1 K1;try simp only [put_some,cN,vI,vB,cR])
     cases neg with
     | true =>
       (refine SD ?_;intros)
       simp only [res1,res2,res3,AB,AD,Nat.reduceEqDiff,↓reduceIte,Nat.reduceAdd,Nat.reduceMul,Nat.reducePow,Nat.reduceLeDiff,Nat.reduceLT]
       rw [no (true = false) (fun h => (un.1 h).2.1) (by simp)]
     | false =>
       (refine SD ?_;intros)
       simp only [res1,res2,res3,AB,AD,Nat.reduceEqDiff,↓reduceIte,Nat.reduceAdd,Nat.reduceMul,Nat.reducePow,Nat.reduceLeDiff,Nat.reduceLT]
       congr 2
       rw [Bool.eq_iff_iff, isRatB_iff, un, beq_iff_eq]
       constructor
       · intro e
         exact ⟨a1, rfl, List.length_eq_zero_iff.1 (by omega), List.length_eq_zero_iff.1 (by omega)⟩
       · rintro ⟨_, _, e1, e2⟩
         subst e1; subst e2; rfl
   · rw [decide_eq_false a1] at c1
     (refine ⟨_,c1,hK1 _ ?_⟩;clear hK1 K1;try simp only [put_some,cN,vI,vB,cR])
     (refine SD ?_;intros)
     simp only [res1,res2,res3,AB,AD,Nat.reduceEqDiff,↓reduceIte,Nat.reduceAdd,Nat.reduceMul,Nat.reducePow,Nat.reduceLeDiff,Nat.reduceLT]
     rw [no _ (fun h => (un.1 h).1) a1]
end Go.Pw
