/- Merged from the working texts Mb6 Mb7 Ma2 Ma3 Ma4 Ma9 Ma6 Mc1 Mc2 Mc3 Ma7 Ma1. -/
import Derived.Test.YtkflegdaeienlaaGreatDoorKb24
import Derived.Test.YtkflegdaeienlaaGreatDoorKb35
import Derived.Test.YtkflegdaeienlaaGreatDoorKb25
import Derived.Test.YtkflegdaeienlaaGreatDoorKb23
set_option linter.all false
set_option maxHeartbeats 400000
set_option maxRecDepth 100000
set_option linter.unusedVariables false
set_option linter.unusedSimpArgs false
namespace Go.Pw
open Go Go.Proofs
def salong (j : List (List Rt)) (d : List Rt) (c n : Nat) : List Rt := (List.range n).map fun i => fdot (fun k => (j.getD i []).getD k default) (fun k => d.getD k default) c
def err2 (a b : Int) : Int := if a = 0 then b else a
theorem con_Along (j : List (List Rt)) (c : Int) (d : List Rt) (h1 : -9223372036854775808 ≤ c) (h2 : c ≤ 9223372036854775807) (h : j.length < 2 ^ 40) (hl : ∀ i, (j.getD i []).length < 2 ^ 40) (hf : ∀ i k, Fit ((j.getD i []).getD k default)) (hd : d.length < 2 ^ 40) (hdf : ∀ i, Fit (d.getD i default)) :
   Con E 38 [cRss j, vI c, cRs d] (.tup [cRs (if err2 (formE j c) (givenE c d true) = 0 then salong j d c.toNat j.length else []), vI (err2 (formE j c) (givenE c d true))]) := by
 have c1 := con_sform j c h1 h2 h hl hf
 have c2 := con_tNumbers c d true h1 h2 hd hdf
 unfold err2
 by_cases e1 : formE j c = 0
 rotate_left
 · rw [if_neg e1, if_neg e1]
   generalize formE j c = e at *
   refine con_of2 mixed (fn := Tryz.f38) (rs := [.tmp 6, .tmp 7]) Tryz.func38 (by kernel_rfl) rfl (by kernel_rfl) rfl rfl ?_
   simp only [argE, Nat.reduceAdd, cRss, vI, vB] at *
   (refine SZ ?_;intros;rename_i K1 hK1)
   (refine ⟨_,c1,hK1 _ ?_⟩;clear hK1 K1;try simp only [put_some,cN,vI,vB,cR])
   (refine SZ ?_;intros;rename_i hb)
   simp only [res1,res2,res3,AB,AD,AZ,Nat.reduceEqDiff,↓reduceIte,Nat.reduceAdd,Nat.reduceMul,Nat.reducePow,Nat.reduceLeDiff,Nat.reduceLT]
   all_goals rfl
 rw [if_pos e1]
 rw [e1] at c1
 by_cases e2 : givenE c d true = 0
 rotate_left
 · rw [if_neg e2]
   generalize givenE c d true = e at *
   refine con_of2 mixed (fn := Tryz.f38) (rs := [.tmp 6, .tmp 7]) Tryz.func38 (by kernel_rfl) rfl (by kernel_rfl) rfl rfl ?_
   simp only [argE, Nat.reduceAdd, cRss, vI, vB] at *
   (refine SZ ?_;intros;rename_i K1 hK1)
   (refine ⟨_,c1,hK1 _ ?_⟩;clear hK1 K1;try simp only [put_some,cN,vI,vB,cR])
   (refine SZ ?_;intros;rename_i K1 hK1)
   (refine ⟨_,c2,hK1 _ ?_⟩;clear hK1 K1;try simp only [put_some,cN,vI,vB,cR])
   (refine SZ ?_;intros;rename_i hb)
   simp only [res1,res2,res3,AB,AD,AZ,Nat.reduceEqDiff,↓reduceIte,Nat.reduceAdd,Nat.reduceMul,Nat.reducePow,Nat.reduceLeDiff,Nat.reduceLT]
   all_goals rfl
 rw [if_pos e2, e2]
 rw [e2] at c2
 obtain ⟨⟨b0, b1, b2⟩, hrow, hjr⟩ := formE_zero e1
 obtain ⟨m, rfl⟩ : ∃ m : Nat, c = m := ⟨c.toNat, by omega⟩
 obtain ⟨g0, g1⟩ := givenE_zero e2
 rw [show ((m : Int)).toNat = m from rfl]
 refine con_of2 mixed (fn := Tryz.f38) (rs := [.tmp 6, .tmp 7]) Tryz.func38 (by kernel_rfl) rfl (by kernel_rfl) rfl rfl ?_
 simp only [argE, Nat.reduceAdd, cRss, vI, vB] at *
 (refine SZ ?_;intros;rename_i K1 hK1)
 (refine ⟨_,c1,hK1 _ ?_⟩;clear hK1 K1;try simp only [put_some,cN,vI,vB,cR])
 (refine SZ ?_;intros;rename_i K1 hK1)
 (refine ⟨_,c2,hK1 _ ?_⟩;clear hK1 K1;try simp only [put_some,cN,vI,vB,cR])
 (refine SZ ?_;intros)
 clear c1 c2 e1 e2
 refine p_loopx (fun (i : Nat) => [(25, .sh (vI i)), (24, .sh (vI j.length)), (23, .sh (cRss j)), (1, .sh (vI m)), (5, .sh (.ea [cRs d])), (9, .row 35)]) (fun i => [(35, some (.rw 80 4 (SR ((salong j d m i).map cR))))]) (fun i => j.length - i) (fun i => i ≤ j.length) 0 (Weak.freezeT 5 [cRs d] rfl Nat.one_pos (Weak.adoptS 35 9 80 4 (by decide) (by decide) rfl ⟨rfl, rfl, rfl, rfl, rfl, rfl, trivial⟩ ⟨rfl, trivial⟩)) (Nat.zero_le _) ?_
 intro i hi
 have hlen : (salong j d m i).length = i := by simp [salong]
 have ri : i < j.length → (j.getD i []).length = m := fun hb => by have := hrow i hb; omega
 have cd : i < j.length → _ := fun hb => con_dot (fun k => (j.getD i []).getD k default) (fun k => d.getD k default) m 82 83 [.ea [cRs (j.getD i [])]] [.ea [cRs d]] (by omega) (fun k hk => hjr i hb k (by rw [ri hb]; exact hk)) (fun k hk => (g1 k (by omega)).1)
   (fun k hk => con_82 (j.getD i []) k (hl i) (by rw [ri hb]; exact hk)) (fun k hk => con_83 d k hd (by omega))
 simp only [cRss, vI] at *
 clear hl hf hdf hrow hjr g1
 (refine WZ ?_ ?_<;>intros;rename_i hb K1 hK1;rotate_left;rename_i hb;rotate_right)
 · (refine ⟨_,cd (by omega),hK1 _ ?_⟩;clear hK1 K1;try simp only [put_some,cN,vI,vB,cR])
   (refine SZ ?_;intros)
   refine p_lx _ _ _ _ (i + 1) ?_ ?_ (Weak.list ⟨int_eq ?_, rfl, rfl, rfl, rfl, rfl, trivial⟩ ⟨?_, trivial⟩)
   · omega
   · omega
   · omega
   · rw [show (salong j d m (i + 1)).map cR = (salong j d m i).map cR ++ [cR (fdot (fun k => (j.getD i []).getD k default) (fun k => d.getD k default) m)] from mapr_succ _ _ i]
     rfl
 · have e : i = j.length := by omega
   subst e
   simp (disch := omega) only [res1,res2,res3,AB,AD,AZ,Nat.reduceEqDiff,↓reduceIte,Nat.reduceAdd,Nat.reduceMul,Nat.reducePow,Nat.reduceLeDiff,Nat.reduceLT]
   rfl
def sback (j : List (List Rt)) (w : List Rt) (n : Nat) : List Rt := (List.range n).map fun k => fdot (fun i => (j.getD i []).getD k default) (fun i => w.getD i default) j.length
theorem con_Back (j : List (List Rt)) (c : Int) (d : List Rt) (h1 : -9223372036854775808 ≤ c) (h2 : c ≤ 9223372036854775807) (h : j.length < 2 ^ 40) (hl : ∀ i, (j.getD i []).length < 2 ^ 40) (hf : ∀ i k, Fit ((j.getD i []).getD k default)) (hd : d.length < 2 ^ 40) (hdf : ∀ i, Fit (d.getD i default)) :
   Con E 39 [cRss j, vI c, cRs d] (.tup [cRs (if err2 (formE j c) (givenE j.length d true) = 0 then sback j d c.toNat else []), vI (err2 (formE j c) (givenE j.length d true))]) := by
 have c1 := con_sform j c h1 h2 h hl hf
 have c2 := con_tNumbers j.length d true (by omega) (by omega) hd hdf
 unfold err2
 by_cases e1 : formE j c = 0
 rotate_left
 · rw [if_neg e1, if_neg e1]
   generalize formE j c = e at *
   refine con_of2 mixed (fn := Tryz.f39) (rs := [.tmp 6, .tmp 7]) Tryz.func39 (by kernel_rfl) rfl (by kernel_rfl) rfl rfl ?_
   simp only [argE, Nat.reduceAdd, cRss, vI, vB] at *
   (refine SZ ?_;intros;rename_i K1 hK1)
   (refine ⟨_,c1,hK1 _ ?_⟩;clear hK1 K1;try simp only [put_some,cN,vI,vB,cR])
   (refine SZ ?_;intros;rename_i hb)
   simp only [res1,res2,res3,AB,AD,AZ,Nat.reduceEqDiff,↓reduceIte,Nat.reduceAdd,Nat.reduceMul,Nat.reducePow,Nat.reduceLeDiff,Nat.reduceLT]
   all_goals rfl
 rw [if_pos e1]
 rw [e1] at c1
 by_cases e2 : givenE j.length d true = 0
 rotate_left
 · rw [if_neg e2]
   generalize givenE j.length d true = e at *
   refine con_of2 mixed (fn := Tryz.f39) (rs := [.tmp 6, .tmp 7]) Tryz.func39 (by kernel_rfl) rfl (by kernel_rfl) rfl rfl ?_
   simp only [argE, Nat.reduceAdd, cRss, vI, vB] at *
   (refine SZ ?_;intros;rename_i K1 hK1)
   (refine ⟨_,c1,hK1 _ ?_⟩;clear hK1 K1;try simp only [put_some,cN,vI,vB,cR])
   (refine SZ ?_;intros;rename_i K1 hK1)
   (refine ⟨_,c2,hK1 _ ?_⟩;clear hK1 K1;try simp only [put_some,cN,vI,vB,cR])
   (refine SZ ?_;intros;rename_i hb)
   simp only [res1,res2,res3,AB,AD,AZ,Nat.reduceEqDiff,↓reduceIte,Nat.reduceAdd,Nat.reduceMul,Nat.reducePow,Nat.reduceLeDiff,Nat.reduceLT]
   all_goals rfl
 rw [if_pos e2, e2]
 rw [e2] at c2
 obtain ⟨⟨b0, b1, b2⟩, hrow, hjr⟩ := formE_zero e1
 obtain ⟨m, rfl⟩ : ∃ m : Nat, c = m := ⟨c.toNat, by omega⟩
 obtain ⟨g0, g1⟩ := givenE_zero e2
 rw [show ((m : Int)).toNat = m from rfl]
 refine con_of2 mixed (fn := Tryz.f39) (rs := [.tmp 6, .tmp 7]) Tryz.func39 (by kernel_rfl) rfl (by kernel_rfl) rfl rfl ?_
 simp only [argE, Nat.reduceAdd, cRss, vI, vB] at *
 (refine SZ ?_;intros;rename_i K1 hK1)
 (refine ⟨_,c1,hK1 _ ?_⟩;clear hK1 K1;try simp only [put_some,cN,vI,vB,cR])
 (refine SZ ?_;intros;rename_i K1 hK1)
 (refine ⟨_,c2,hK1 _ ?_⟩;clear hK1 K1;try simp only [put_some,cN,vI,vB,cR])
 (refine SZ ?_;intros)
 clear c1 c2 e1 e2
 refine p_loopx (fun (k : Nat) => [(24, .sh (vI k)), (23, .sh (vI m)), (3, .sh (.ea [cRss j])), (5, .sh (.ea [cRs d])), (9, .row 34)]) (fun k => [(34, some (.rw 80 4 (SR ((sback j d k).map cR))))]) (fun k => m - k) (fun k => k ≤ m) 0 (Weak.freezeT 5 [cRs d] rfl Nat.one_pos (Weak.freezeT 3 [cRss j] rfl Nat.one_pos (Weak.adoptS 34 9 80 4 (by decide) (by decide) rfl ⟨rfl, rfl, rfl, rfl, rfl, trivial⟩ ⟨rfl, trivial⟩))) (Nat.zero_le _) ?_
 intro k hk
 have hlen : (sback j d k).length = k := by simp [sback]
 have cd : k < m → _ := fun hb => con_dot (fun i => (j.getD i []).getD k default) (fun i => d.getD i default) j.length 84 85 [.ea [cRss j], .ea [vI k]] [.ea [cRs d]] h (fun i hi => hjr i hi k (by have := hrow i hi; omega)) (fun i hi => (g1 i (by omega)).1)
   (fun i hi => con_84 j i k h hi (hl i) (by have := hrow i hi; omega)) (fun i hi => con_85 d i hd (by omega))
 simp only [cRss, vI] at *
 clear hl hf hdf hrow hjr g1
 (refine WZ ?_ ?_<;>intros;rename_i hb K1 hK1;rotate_left;rename_i hb;rotate_right)
 · (refine ⟨_,cd (by omega),hK1 _ ?_⟩;clear hK1 K1;try simp only [put_some,cN,vI,vB,cR])
   (refine SZ ?_;intros)
   refine p_lx _ _ _ _ (k + 1) ?_ ?_ (Weak.list ⟨int_eq ?_, rfl, rfl, rfl, rfl, trivial⟩ ⟨?_, trivial⟩)
   · omega
   · omega
   · omega
   · rw [show (sback j d (k + 1)).map cR = (sback j d k).map cR ++ [cR (fdot (fun i => (j.getD i []).getD k default) (fun i => d.getD i default) j.length)] from mapr_succ _ _ k]
     rfl
 · have e : k = m := by omega
   subst e
   simp (disch := omega) only [res1,res2,res3,AB,AD,AZ,Nat.reduceEqDiff,↓reduceIte,Nat.reduceAdd,Nat.reduceMul,Nat.reducePow,Nat.reduceLeDiff,Nat.reduceLT]
   rfl
end Go.Pw
set_option maxRecDepth 100000
set_option linter.unusedVariables false
set_option linter.unusedSimpArgs false
namespace Go.Pw
open Go Go.Proofs
end Go.Pw
set_option maxRecDepth 100000
set_option linter.unusedVariables false
set_option linter.unusedSimpArgs false
namespace Go.Pw
open Go Go.Proofs
def cutN (room : Int) : Nat := (min 130 (max 2 (room.tdiv 2))).toNat
def cutR (x : Rt) (k : Nat) : Rt := ⟨x.fault, x.neg, x.num.take k, x.den.take k⟩
def cutUse (x : Rt) (k : Nat) : Int := ((x.num.take k).length : Int) + ((x.den.take k).length : Int)
theorem take_min {α : Type} (l : List α) (k : Nat) : List.take (min (l.length : Int) (k : Int)).toNat l = l.take k := by
 rw [show (min (l.length : Int) (k : Int)).toNat = min l.length k by omega]
 rcases Nat.le_total l.length k with h | h
 · rw [Nat.min_eq_left h, List.take_of_length_le (Nat.le_refl _), List.take_of_length_le h]
 · rw [Nat.min_eq_right h]
theorem con_CutRat (x : Rt) (room : Int) (h1 : -9223372036854775808 ≤ room) (h2 : room < 9223372036854775808) (h : x.num.length < 2 ^ 46) (h' : x.den.length < 2 ^ 46) :
   Con E 51 [.agg (cR x), vI room] (.tup [.agg (cR (cutR x (cutN room))), vI (cutUse x (cutN room))]) := by
 refine con_of2 mixed (fn := Tryz.f51) (rs := [.cell 4 80, .tmp 5]) Tryz.func51 (by kernel_rfl) rfl (by kernel_rfl) rfl rfl ?_
 simp only [argE, Nat.reduceAdd, cR, vI, vB]
 (refine SZ ?_;intros)
 have hw : IntKind.i64.wrap (room.tdiv 2) = room.tdiv 2 := w_i64 _ (by rw [Int.tdiv_eq_ediv, show Int.sign 2 = 1 from rfl]; split <;> omega) (by rw [Int.tdiv_eq_ediv, show Int.sign 2 = 1 from rfl]; split <;> omega)
 have hk : min 130 (max 2 (room.tdiv 2)) = ((cutN room : Nat) : Int) := by unfold cutN; omega
 have hk1 : cutN room ≤ 130 := by unfold cutN; omega
 rw [hw, hk]
 generalize cutN room = k at *
 clear hk hw
 have e1 : List.take (min (x.num.length : Int) (k : Int)).toNat x.num = x.num.take k := take_min _ _
 have e2 : List.take (min (x.den.length : Int) (k : Int)).toNat x.den = x.den.take k := take_min _ _
 refine p_drw2 (26) [] [[]] (by kernel_rfl) ?_
 (refine SZ ?_;intros)
 simp only [e1, e2]
 clear e1 e2
 have h3 : (x.num.take k).length ≤ 130 := by rw [List.length_take]; omega
 have h4 : (x.den.take k).length ≤ 130 := by rw [List.length_take]; omega
 unfold cutUse cutR
 generalize x.num.take k = p at *
 generalize x.den.take k = q at *
 refine p_drw2 (8) [1,2,3,4,5,6,7] [[1,2,3,4,5,6,7], []] (by kernel_rfl) ?_
 (refine SZ ?_;intros)
 simp (disch := omega) only [resc1,resc2,rescc,rest1c,AB,AD,AZ,Nat.reduceEqDiff,↓reduceIte,Nat.reduceAdd,Nat.reduceMul,Nat.reducePow,Nat.reduceLeDiff,Nat.reduceLT]
 all_goals rfl
end Go.Pw
set_option maxRecDepth 100000
set_option linter.unusedVariables false
set_option linter.unusedSimpArgs false
namespace Go.Pw
open Go Go.Proofs
def cutD (l : List Rt) (d : Int) : Nat → Int
 | 0 => d
 | i + 1 => cutD l d i - cutUse (l.getD i default) (cutN (cutD l d i))
def cutRs (l : List Rt) (d : Int) (n : Nat) : List Rt := (List.range n).map fun i => cutR (l.getD i default) (cutN (cutD l d i))
theorem cutN_le (d : Int) : cutN d ≤ 130 := by unfold cutN; omega
theorem cutUse_le (x : Rt) (k : Nat) (hk : k ≤ 130) : 0 ≤ cutUse x k ∧ cutUse x k ≤ 260 := by
 unfold cutUse
 simp only [List.length_take]
 omega
theorem cutD_le (l : List Rt) (d : Int) : ∀ i, cutD l d i ≤ d ∧ d - 260 * i ≤ cutD l d i
 | 0 => by simp [cutD]
 | i + 1 => by
   have h1 := cutD_le l d i
   have h2 := cutUse_le (l.getD i default) _ (cutN_le (cutD l d i))
   simp only [cutD]
   omega
theorem con_CutRats (l : List Rt) (most : Nat) (d : Int) (hm : most < 2 ^ 30) (hd : -1000000 ≤ d) (hd' : d ≤ 1000000) (h : l.length < 2 ^ 46) (hn : ∀ i, (l.getD i default).num.length < 2 ^ 46) (hdn : ∀ i, (l.getD i default).den.length < 2 ^ 46) :
   Con E 14 [cRs l, vI most, vI d] (cRs (cutRs l d (min l.length most))) := by
 refine con_of2 mixed (fn := Tryz.f14) (rs := [.tmp 6]) Tryz.func14 (by kernel_rfl) rfl (by kernel_rfl) rfl rfl ?_
 simp only [argE, Nat.reduceAdd, cRs, vI, vB]
 (refine SZ ?_;intros)
 refine p_loopx (fun (i : Nat) => [(8, .sh (vI i)), (0, .sh (cRs l)), (1, .sh (vI most)), (2, .sh (vI (cutD l d i))), (7, .row 37)]) (fun i => [(37, some (.rw 80 4 (SR ((cutRs l d i).map cR))))]) (fun i => l.length - i) (fun i => i ≤ min l.length most) 0 (Weak.adoptS 37 7 80 4 (by decide) (by decide) rfl ⟨rfl, rfl, rfl, rfl, rfl, trivial⟩ ⟨rfl, trivial⟩) (Nat.zero_le _) ?_
 intro i hi
 simp only [cRs, vI] at *
 have hc := cutD_le l d i
 have hu := cutUse_le (l.getD i default) _ (cutN_le (cutD l d i))
 have c1 := con_CutRat (l.getD i default) (cutD l d i) (by omega) (by omega) (hn i) (hdn i)
 simp only [cR, vI] at c1
 have hlen : (cutRs l d i).length = i := by simp [cutRs]
 (refine VZ ?_ ?_ ?_<;>intros;rename_i hb K1 hK1;rotate_left;rename_i hb;rotate_left;rename_i hb;rotate_right 2)
 · (refine ⟨_,c1,hK1 _ ?_⟩;clear hK1 K1;try simp only [put_some,cN,vI,vB,cR])
   (refine SZ ?_;intros)
   refine p_lx _ _ _ _ (i + 1) ?_ ?_ (Weak.list ⟨int_eq ?_, rfl, rfl, rfl, rfl, trivial⟩ ⟨?_, trivial⟩)
   · omega
   · omega
   · omega
   · rw [show (cutRs l d (i + 1)).map cR = (cutRs l d i).map cR ++ [cR (cutR (l.getD i default) (cutN (cutD l d i)))] from mapr_succ _ _ i]
     rfl
 · have e : min l.length most = i := by omega
   rw [e]
   simp (disch := omega) only [res1,res2,res3,AB,AD,AZ,Nat.reduceEqDiff,↓reduceIte,Nat.reduceAdd,Nat.reduceMul,Nat.reducePow,Nat.reduceLeDiff,Nat.reduceLT]
 · have e : min l.length most = i := by omega
   rw [e]
   simp (disch := omega) only [res1,res2,res3,AB,AD,AZ,Nat.reduceEqDiff,↓reduceIte,Nat.reduceAdd,Nat.reduceMul,Nat.reducePow,Nat.reduceLeDiff,Nat.reduceLT]
end Go.Pw
set_option maxRecDepth 100000
set_option linter.unusedVariables false
set_option linter.unusedSimpArgs false
namespace Go.Pw
open Go Go.Proofs
structure MFit (j : List (List Rt)) : Prop where
 l : j.length < 2 ^ 46
 r : ∀ i, (j.getD i []).length < 2 ^ 46
 n : ∀ i k, ((j.getD i []).getD k default).num.length < 2 ^ 46
 d : ∀ i k, ((j.getD i []).getD k default).den.length < 2 ^ 46
def cutM (j : List (List Rt)) (c n : Nat) : List (List Rt) := (List.range n).map fun i => cutRs (j.getD i []) 60 (min (j.getD i []).length c)
theorem con_CutMatrix (j : List (List Rt)) (rows c : Nat) (hr : rows < 2 ^ 20) (hc : c < 2 ^ 20) (h : MFit j) : Con E 74 [cRss j, vI rows, vI c] (cRss (cutM j c (min j.length rows))) := by
 refine con_of2 mixed (fn := Tryz.f74) (rs := [.tmp 6]) Tryz.func74 (by kernel_rfl) rfl (by kernel_rfl) rfl rfl ?_
 simp only [argE, Nat.reduceAdd, cRss, vI, vB]
 have hl := h.l
 (refine SZ ?_;intros)
 refine p_loopx (fun (i : Nat) => [(8, .sh (vI i)), (0, .sh (cRss j)), (1, .sh (vI rows)), (2, .sh (vI c)), (7, .row 28)]) (fun i => [(28, some (.rw 26 1 (SR ((cutM j c i).map fun r => [cRs r]))))]) (fun i => j.length - i) (fun i => i ≤ min j.length rows) 0 (Weak.adoptS 28 7 26 1 (by decide) (by decide) rfl ⟨rfl, rfl, rfl, rfl, rfl, trivial⟩ ⟨rfl, trivial⟩) (Nat.zero_le _) ?_
 intro i hi
 simp only [cRss, vI] at *
 have c1 := con_CutRats (j.getD i []) c 60 (by omega) (by omega) (by omega) (h.r i) (h.n i) (h.d i)
 simp only [vI] at c1
 have hlen : (cutM j c i).length = i := by simp [cutM]
 (refine VZ ?_ ?_ ?_<;>intros;rename_i hb K1 hK1;rotate_left;rename_i hb;rotate_left;rename_i hb;rotate_right 2)
 all_goals first | exact Nat.le_refl 4 | exact (rfl : true = true) | skip
 · (refine ⟨_,c1,hK1 _ ?_⟩;clear hK1 K1;try simp only [put_some,cN,vI,vB,cR])
   (refine SZ ?_;intros)
   refine p_lx _ _ _ _ (i + 1) ?_ ?_ (Weak.list ⟨int_eq ?_, rfl, rfl, rfl, rfl, trivial⟩ ⟨?_, trivial⟩)
   · omega
   · omega
   · omega
   · rw [show (cutM j c (i + 1)).map (fun r => [cRs r]) = (cutM j c i).map (fun r => [cRs r]) ++ [[cRs (cutRs (j.getD i []) 60 (min (j.getD i []).length c))]] from mapr_succ _ _ i]
     rfl
 · have e : min j.length rows = i := by omega
   rw [e]
   simp (disch := omega) only [res1,res2,res3,AB,AD,AZ,Nat.reduceEqDiff,↓reduceIte,Nat.reduceAdd,Nat.reduceMul,Nat.reducePow,Nat.reduceLeDiff,Nat.reduceLT]
 · have e : min j.length rows = i := by omega
   rw [e]
   simp (disch := omega) only [res1,res2,res3,AB,AD,AZ,Nat.reduceEqDiff,↓reduceIte,Nat.reduceAdd,Nat.reduceMul,Nat.reducePow,Nat.reduceLeDiff,Nat.reduceLT]
theorem con_matrix (j : List (List Rt)) (h : MFit j) : Con E 34 [cRss j] (cRss (cutM j 14 (min j.length 12))) := by
 have c1 := con_CutMatrix j 12 14 (by decide) (by decide) h
 refine con_of2 mixed (fn := Tryz.f34) (rs := [.tmp 2]) Tryz.func34 (by kernel_rfl) rfl (by kernel_rfl) rfl rfl ?_
 simp only [argE, Nat.reduceAdd, cRss, vI, vB] at *
 (refine SZ ?_;intros;rename_i K1 hK1)
 (refine ⟨_,c1,hK1 _ ?_⟩;clear hK1 K1;try simp only [put_some,cN,vI,vB,cR])
 (refine SZ ?_;intros)
 simp only [res1,res2,res3,AB,AD,AZ,Nat.reduceEqDiff,↓reduceIte,Nat.reduceAdd,Nat.reduceMul,Nat.reducePow,Nat.reduceLeDiff,Nat.reduceLT]
end Go.Pw
set_option maxRecDepth 100000
set_option linter.unusedVariables false
set_option linter.unusedSimpArgs false
namespace Go.Pw
open Go Go.Proofs
theorem con_rMatrix (j : List (List Rt)) (c : Int) (h1 : -9223372036854775808 ≤ c) (h2 : c ≤ 9223372036854775807) (h : j.length < 2 ^ 40) (hl : ∀ i, (j.getD i []).length < 2 ^ 40) (hf : ∀ i k, Fit ((j.getD i []).getD k default)) : Con E 36 [cRss j, vI c] (vI (formE j c)) := by
 have cr : ∀ i k, Con E 78 [.agg (cR ((j.getD i []).getD k default))] (vB (isRatB ((j.getD i []).getD k default))) := fun i k => con_rIsRat _ (hf i k).n (hf i k).d (hf i k).nl (hf i k).dl
 unfold formE
 by_cases hb0 : c < 0 ∨ 4096 < c ∨ 4096 < j.length
 · rw [if_pos hb0]
   clear cr hf hl
   refine con_of2 mixed (fn := Tryz.f36) (rs := [.tmp 4]) Tryz.func36 (by kernel_rfl) rfl (by kernel_rfl) rfl rfl ?_
   simp only [argE, Nat.reduceAdd, cRss, vI, vB]
   (refine VZ ?_ ?_ ?_<;>intros<;>rename_i hb)
   all_goals first | (exfalso; omega) | simp only [res1,res2,res3,AB,AD,AZ,Nat.reduceEqDiff,↓reduceIte,Nat.reduceAdd,Nat.reduceMul,Nat.reducePow,Nat.reduceLeDiff,Nat.reduceLT]
 · rw [if_neg hb0]
   obtain ⟨m, rfl⟩ : ∃ m : Nat, c = m := ⟨c.toNat, by omega⟩
   refine con_of2 mixed (fn := Tryz.f36) (rs := [.tmp 4]) Tryz.func36 (by kernel_rfl) rfl (by kernel_rfl) rfl rfl ?_
   simp only [argE, Nat.reduceAdd, cRss, vI, vB]
   (refine SZ ?_;intros;rename_i hb)
   refine p_loopx (fun (i : Nat) => [(5, .sh (vI i)), (0, .sh (cRss j)), (1, .sh (vI m))]) (fun i => []) (fun i => j.length - i) (fun i => i ≤ j.length ∧ ∀ k, k < i → (j.getD k []).length = m) 0 (Weak.list ⟨rfl, rfl, rfl, trivial⟩ trivial) ⟨Nat.zero_le _, fun k hk => by omega⟩ ?_
   rintro i ⟨hi, hI⟩
   have hli := hl i
   have bad : i < j.length → (j.getD i []).length ≠ m → badW j m = true := fun e hb => List.any_eq_true.2 ⟨i, List.mem_range.2 e, decide_eq_true (by omega)⟩
   have step : (j.getD i []).length = m → ∀ k, k < i + 1 → (j.getD k []).length = m := fun e k hk => by
     rcases Nat.lt_or_ge k i with h1 | h1
     · exact hI k h1
     · rw [show k = i by omega]; exact e
   have good : i = j.length → badW j m = false := fun e => List.any_eq_false.2 fun k hk => by
     have := hI k (by have := List.mem_range.1 hk; omega)
     simp only [decide_eq_true_eq]; omega
   have row : i = j.length → ∀ k, k < j.length → (j.getD k []).length = m := fun e k hk => hI k (by omega)
   simp only [cRss, vI, vB] at *
   clear hI hl hf
   (refine VZ ?_ ?_ ?_<;>intros<;>rename_i hb)
   · rw [if_pos (bad (by omega) (by omega))]
     simp only [res1,res2,res3,AB,AD,AZ,Nat.reduceEqDiff,↓reduceIte,Nat.reduceAdd,Nat.reduceMul,Nat.reducePow,Nat.reduceLeDiff,Nat.reduceLT]
   · exact p_lx _ _ _ _ (i + 1) (by omega) ⟨by omega, step (by omega)⟩ (Weak.list ⟨int_eq (by omega), rfl, rfl, trivial⟩ trivial)
   · have row := row (by omega)
     rw [good (by omega), if_neg (by decide)]
     clear step bad good hli hi
     refine p_loopx (fun (i : Nat) => [(6, .sh (vI i)), (0, .sh (cRss j)), (1, .sh (vI m))]) (fun i => []) (fun i => j.length - i) (fun i => i ≤ j.length ∧ ∀ k, k < i → (j.getD k []).all isRatB = true) 0 (Weak.list ⟨rfl, rfl, rfl, trivial⟩ trivial) ⟨Nat.zero_le _, fun k hk => by omega⟩ ?_
     rintro i ⟨hi, hI⟩
     have rowi := row i
     have fin : i = j.length → (if (List.range j.length).all (fun i => (j.getD i []).all isRatB) = true then (0 : Int) else 5) = 0 := fun e => if_pos (List.all_eq_true.2 fun k hk => hI k (by have := List.mem_range.1 hk; omega))
     have bad : ∀ k, i < j.length → k < (j.getD i []).length → isRatB ((j.getD i []).getD k default) = false → (if (List.range j.length).all (fun i => (j.getD i []).all isRatB) = true then (0 : Int) else 5) = 5 := fun k e hk hb => if_neg fun ha => by
       have := (all_getD (d := default)).1 (List.all_eq_true.1 ha i (List.mem_range.2 e)) k hk
       rw [hb] at this; cases this
     have step : (j.getD i []).all isRatB = true → ∀ k, k < i + 1 → (j.getD k []).all isRatB = true := fun e k hk => by
       rcases Nat.lt_or_ge k i with h1 | h1
       · exact hI k h1
       · rw [show k = i by omega]; exact e
     have cri := cr i
     simp only [cRss, vI, vB] at *
     clear hI cr row
     (refine WZ ?_ ?_<;>intros<;>rename_i hb)
     · refine p_loopx (fun (k : Nat) => [(7, .sh (vI k)), (6, .sh (vI i)), (0, .sh (cRss j)), (1, .sh (vI m))]) (fun k => []) (fun k => m - k) (fun k => k ≤ m ∧ ∀ t, t < k → isRatB ((j.getD i []).getD t default) = true) 0 (Weak.list ⟨rfl, rfl, rfl, rfl, trivial⟩ trivial) ⟨Nat.zero_le _, fun k hk => by omega⟩ ?_
       rintro k ⟨hk, hJ⟩
       have crk := cri k
       have badk := bad k
       have stp : isRatB ((j.getD i []).getD k default) = true → ∀ t, t < k + 1 → isRatB ((j.getD i []).getD t default) = true := fun e t ht => by
         rcases Nat.lt_or_ge t k with h1 | h1
         · exact hJ t h1
         · rw [show t = k by omega]; exact e
       have fi : k = m → i < j.length → (j.getD i []).all isRatB = true := fun e h1 => all_getD.2 fun t ht => hJ t (by have := rowi h1; omega)
       simp only [cRss, vI, vB] at *
       clear hJ bad cri
       have hrow := rowi (by omega)
       cases hr : isRatB ((j.getD i []).getD k default) <;> rw [hr] at crk
       · (refine WZ ?_ ?_<;>intros;rename_i hb K1 hK1;rotate_left;rename_i hb;rotate_right)
         · (refine ⟨_,crk,hK1 _ ?_⟩;clear hK1 K1;try simp only [put_some,cN,vI,vB,cR])
           (refine SZ ?_;intros)
           rw [badk (by omega) (by omega) hr]
           simp only [res1,res2,res3,AB,AD,AZ,Nat.reduceEqDiff,↓reduceIte,Nat.reduceAdd,Nat.reduceMul,Nat.reducePow,Nat.reduceLeDiff,Nat.reduceLT]
         · exact p_lx _ _ _ _ (i + 1) (by omega) ⟨by omega, step (fi (by omega) (by omega))⟩ (Weak.list ⟨int_eq (by omega), rfl, rfl, trivial⟩ trivial)
       · (refine WZ ?_ ?_<;>intros;rename_i hb K1 hK1;rotate_left;rename_i hb;rotate_right)
         · (refine ⟨_,crk,hK1 _ ?_⟩;clear hK1 K1;try simp only [put_some,cN,vI,vB,cR])
           (refine SZ ?_;intros)
           exact p_lx _ _ _ _ (k + 1) (by omega) ⟨by omega, stp hr⟩ (Weak.list ⟨int_eq (by omega), rfl, rfl, rfl, trivial⟩ trivial)
         · exact p_lx _ _ _ _ (i + 1) (by omega) ⟨by omega, step (fi (by omega) (by omega))⟩ (Weak.list ⟨int_eq (by omega), rfl, rfl, trivial⟩ trivial)
     · rw [fin (by omega)]
       simp only [res1,res2,res3,AB,AD,AZ,Nat.reduceEqDiff,↓reduceIte,Nat.reduceAdd,Nat.reduceMul,Nat.reducePow,Nat.reduceLeDiff,Nat.reduceLT]
end Go.Pw
set_option maxRecDepth 100000
set_option linter.unusedVariables false
set_option linter.unusedSimpArgs false
namespace Go.Pw
open Go Go.Proofs
theorem getD_map' {α β : Type} (f : α → β) (l : List α) (t : Nat) (d : β) (d' : α) (h : t < l.length) : (l.map f).getD t d = f (l.getD t d') := by
 rw [List.getD_eq_getElem?_getD, List.getElem?_map, List.getD_eq_getElem?_getD, List.getElem?_eq_getElem h]; rfl
end Go.Pw
set_option maxRecDepth 100000
set_option linter.unusedVariables false
set_option linter.unusedSimpArgs false
namespace Go.Pw
open Go Go.Proofs
end Go.Pw
set_option maxRecDepth 100000
set_option linter.unusedVariables false
set_option linter.unusedSimpArgs false
namespace Go.Pw
open Go Go.Proofs
structure RFit (x : Rt) : Prop where
 n : dok x.num
 d : dok x.den
 nl : x.num.length < 2 ^ 46
 dl : x.den.length < 2 ^ 46
end Go.Pw
set_option maxRecDepth 100000
set_option linter.unusedVariables false
set_option linter.unusedSimpArgs false
namespace Go.Pw
open Go Go.Proofs
structure MOk (j : List (List Rt)) : Prop where
 l : j.length < 2 ^ 46
 r : ∀ i, (j.getD i []).length < 2 ^ 46
 x : ∀ i k, RFit ((j.getD i []).getD k default)
theorem MOk.fit {j : List (List Rt)} (h : MOk j) : MFit j := ⟨h.l, h.r, fun i k => (h.x i k).nl, fun i k => (h.x i k).dl⟩
theorem fit_default : Fit (default : Rt) := ⟨dok_nil, dok_nil, by decide, by decide⟩
theorem rfit_default : RFit (default : Rt) := ⟨dok_nil, dok_nil, by decide, by decide⟩
theorem fit_cutR {x : Rt} (h : RFit x) {k : Nat} (hk : k ≤ 130) : Fit (cutR x k) := by
 refine ⟨fun d hd => h.n d (List.mem_of_mem_take hd), fun d hd => h.d d (List.mem_of_mem_take hd), ?_, ?_⟩ <;> simp only [cutR, List.length_take] <;> omega
theorem getD_rmap {α : Type} (f : Nat → α) (n i : Nat) (d : α) : ((List.range n).map f).getD i d = if i < n then f i else d := by
 rw [List.getD_eq_getElem?_getD, List.getElem?_map]
 by_cases h : i < n
 · rw [List.getElem?_range h, if_pos h]; rfl
 · rw [List.getElem?_eq_none (by simp; omega), if_neg h]; rfl
theorem fit_cutRs {l : List Rt} (h : ∀ k, RFit (l.getD k default)) (d : Int) (n k : Nat) : Fit ((cutRs l d n).getD k default) := by
 unfold cutRs
 rw [getD_rmap]
 split
 · exact fit_cutR (h k) (cutN_le _)
 · exact fit_default
theorem cutM_len (j : List (List Rt)) (c n : Nat) : (cutM j c n).length = n := by simp [cutM]
theorem cutM_row (j : List (List Rt)) (c n i : Nat) : ((cutM j c n).getD i []).length ≤ c := by
 unfold cutM
 rw [getD_rmap]
 split
 · simp only [cutRs, List.length_map, List.length_range]; omega
 · exact Nat.zero_le _
theorem fit_cutM {j : List (List Rt)} (h : MOk j) (c n i k : Nat) : Fit (((cutM j c n).getD i []).getD k default) := by
 unfold cutM
 rw [getD_rmap]
 split
 · exact fit_cutRs (h.x i) 60 _ k
 · exact fit_default
theorem reqB_self {x : Rt} : reqB x x = true := by
 unfold reqB; simp
theorem numsB_self (l : List Rt) : numsB l l = true := by
 unfold numsB
 simp only [decide_true, Bool.true_and, List.all_eq_true]
 exact fun i _ => reqB_self
theorem fdot_rdot (a b : List Rt) (f g : Nat → Rt) (n : Nat) (hf : ∀ i, i < n → f i = a.getD i default) (hg : ∀ i, i < n → g i = b.getD i default) : fdot f g n = rdot a b n := by
 induction n with
 | zero => rfl
 | succ n ih =>
   rw [fdot_succ, ih (fun i hi => hf i (by omega)) (fun i hi => hg i (by omega)), hf n (by omega), hg n (by omega)]
   unfold rdot
   rw [List.range_succ, List.foldl_append]; rfl
theorem isRat_fdot {f g : Nat → Rt} {n : Nat} (hf : ∀ i, i < n → isRat (f i)) (hg : ∀ i, i < n → isRat (g i)) : isRat (fdot f g n) := by
 induction n with
 | zero => exact (isRat_nrat _ _ _ : isRat (rof 0 1))
 | succ n ih =>
   rw [fdot_succ]
   exact isRat_radd _ _ (ih (fun i hi => hf i (by omega)) (fun i hi => hg i (by omega))) (isRat_rmul _ _ (hf n (by omega)) (hg n (by omega)))
end Go.Pw
set_option maxRecDepth 100000
set_option linter.unusedVariables false
set_option linter.unusedSimpArgs false
namespace Go.Pw
open Go Go.Proofs
def ralong (j : List (List Rt)) (d : List Rt) (n : Nat) : List Rt := (List.range n).map fun i => rdot (j.getD i []) d (j.getD i []).length
def rback (j : List (List Rt)) (w : List Rt) (n : Nat) : List Rt := (List.range n).map fun k => rdot (j.map fun r => r.getD k default) w j.length
theorem con_rAlong (j : List (List Rt)) (d : List Rt) (h : j.length < 2 ^ 30) (hd : d.length < 2 ^ 30) (hl : ∀ i, i < j.length → (j.getD i []).length = d.length)
   (ha : ∀ i, i < j.length → ∀ k, k < d.length → isRat ((j.getD i []).getD k default)) (hr : ∀ k, k < d.length → isRat (d.getD k default)) : Con E 43 [cRss j, cRs d] (cRs (ralong j d j.length)) := by
 refine con_of2 mixed (fn := Tryz.f43) (rs := [.tmp 4]) Tryz.func43 (by kernel_rfl) rfl (by kernel_rfl) rfl rfl ?_
 simp only [argE, Nat.reduceAdd, cRss, vI, vB]
 (refine SZ ?_;intros)
 refine p_loopx (fun (i : Nat) => [(6, .sh (vI i)), (0, .sh (cRss j)), (1, .sh (cRs d)), (5, .row 21)]) (fun i => [(21, some (.rw 80 4 (SR ((ralong j d i).map cR))))]) (fun i => j.length - i) (fun i => i ≤ j.length) 0 (Weak.adoptS 21 5 80 4 (by decide) (by decide) rfl ⟨rfl, rfl, rfl, rfl, trivial⟩ ⟨rfl, trivial⟩) (Nat.zero_le _) ?_
 intro i hi
 have hlen : (ralong j d i).length = i := by simp [ralong]
 have hli := hl i
 have hai := ha i
 have cd : i < j.length → _ := fun hb => con_rdot (j.getD i []) d (by have := hli hb; omega) (by have := hli hb; omega) (fun t ht => hai hb t (by have := hli hb; omega)) (fun t ht => hr t (by have := hli hb; omega))
 simp only [cRss, vI] at *
 clear hl ha hr
 (refine WZ ?_ ?_<;>intros;rename_i hb K1 hK1;rotate_left;rename_i hb;rotate_right)
 · (refine ⟨_,cd (by omega),hK1 _ ?_⟩;clear hK1 K1;try simp only [put_some,cN,vI,vB,cR])
   (refine SZ ?_;intros)
   refine p_lx _ _ _ _ (i + 1) ?_ ?_ (Weak.list ⟨int_eq ?_, rfl, rfl, rfl, trivial⟩ ⟨?_, trivial⟩)
   · omega
   · omega
   · omega
   · rw [show (ralong j d (i + 1)).map cR = (ralong j d i).map cR ++ [cR (rdot (j.getD i []) d (j.getD i []).length)] from mapr_succ _ _ i]
     rfl
 · have e : i = j.length := by omega
   subst e
   simp (disch := omega) only [res1,res2,res3,AB,AD,AZ,Nat.reduceEqDiff,↓reduceIte,Nat.reduceAdd,Nat.reduceMul,Nat.reducePow,Nat.reduceLeDiff,Nat.reduceLT]
   rfl
theorem con_rBack (j : List (List Rt)) (m : Nat) (w : List Rt) (h : j.length < 2 ^ 30) (hm : m < 2 ^ 30) (hw : w.length = j.length) (hl : ∀ i, i < j.length → (j.getD i []).length = m)
   (ha : ∀ i, i < j.length → ∀ k, k < m → isRat ((j.getD i []).getD k default)) (hr : ∀ k, k < w.length → isRat (w.getD k default)) : Con E 44 [cRss j, vI m, cRs w] (cRs (rback j w m)) := by
 refine con_of2 mixed (fn := Tryz.f44) (rs := [.tmp 6]) Tryz.func44 (by kernel_rfl) rfl (by kernel_rfl) rfl rfl ?_
 simp only [argE, Nat.reduceAdd, cRss, vI, vB]
 (refine SZ ?_;intros)
 refine p_loopx (fun (k : Nat) => [(8, .sh (vI k)), (0, .sh (cRss j)), (1, .sh (vI m)), (2, .sh (cRs w)), (7, .row 21)]) (fun k => [(21, some (.rw 80 4 (SR ((rback j w k).map cR))))]) (fun k => m - k) (fun k => k ≤ m) 0 (Weak.adoptS 21 7 80 4 (by decide) (by decide) rfl ⟨rfl, rfl, rfl, rfl, rfl, trivial⟩ ⟨rfl, trivial⟩) (Nat.zero_le _) ?_
 intro k hk
 have hlen : (rback j w k).length = k := by simp [rback]
 have cc : k < m → _ := fun hb => con_Column j k h (fun t ht => by have := hl t ht; omega)
 have cd : k < m → _ := fun hb => con_rdot (j.map fun r => r.getD k default) w (by rw [List.length_map]; omega) (by rw [List.length_map]; omega) (fun t ht => by
   rw [List.length_map] at ht
   rw [getD_map' (fun s : List Rt => s.getD k default) j t default [] ht]
   exact ha t ht k hb) (fun t ht => by
   rw [List.length_map] at ht
   exact hr t (by omega))
 simp only [cRss, vI] at *
 clear hl ha hr
 (refine WZ ?_ ?_<;>intros;rename_i hb K1 hK1;rotate_left;rename_i hb;rotate_right)
 · (refine ⟨_,cc (by omega),hK1 _ ?_⟩;clear hK1 K1;try simp only [put_some,cN,vI,vB,cR])
   (refine SZ ?_;intros;rename_i K1 hK1)
   (refine ⟨_,cd (by omega),hK1 _ ?_⟩;clear hK1 K1;try simp only [put_some,cN,vI,vB,cR])
   (refine SZ ?_;intros)
   refine p_lx _ _ _ _ (k + 1) ?_ ?_ (Weak.list ⟨int_eq ?_, rfl, rfl, rfl, rfl, trivial⟩ ⟨?_, trivial⟩)
   · omega
   · omega
   · omega
   · rw [show (rback j w (k + 1)).map cR = (rback j w k).map cR ++ [cR (rdot (j.map fun r => r.getD k default) w j.length)] from mapr_succ _ _ k]
     rfl
 · have e : k = m := by omega
   subst e
   simp (disch := omega) only [res1,res2,res3,AB,AD,AZ,Nat.reduceEqDiff,↓reduceIte,Nat.reduceAdd,Nat.reduceMul,Nat.reducePow,Nat.reduceLeDiff,Nat.reduceLT]
   rfl
end Go.Pw
set_option maxRecDepth 100000
set_option linter.unusedVariables false
set_option linter.unusedSimpArgs false
namespace Go.Pw
open Go Go.Proofs
theorem con_Copy (x : Rt) (h : x.num.length < 2 ^ 40) (h' : x.den.length < 2 ^ 40) : Con E 86 [.agg (cR x)] (.agg (cR x)) := by
 refine con_of2 mixed (fn := Tryz.f86) (rs := [.cell 2 80]) Tryz.func86 (by kernel_rfl) rfl (by kernel_rfl) rfl rfl ?_
 simp only [argE, Nat.reduceAdd, cR, vI, vB]
 (refine SD ?_;intros)
 refine p_drw2 (13) [] [[]] (by kernel_rfl) ?_
 (refine SD ?_;intros)
 simp (disch := omega) only [resc1,resc2,rescc,rest1c,AB,AD,Nat.reduceEqDiff,↓reduceIte,Nat.reduceAdd,Nat.reduceMul,Nat.reducePow,Nat.reduceLeDiff,Nat.reduceLT]
 all_goals rfl
end Go.Pw
