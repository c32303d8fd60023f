/- Merged from the working texts Mb6 Mb7 Ma2 Ma3 Ma4 Ma9 Ma6 Mc1 Mc2 Mc3 Ma7 Ma1 Ma8. -/
import Derived.Test.YtkflegdaeienlaaGreatDoorKc24
import Derived.Test.YtkflegdaeienlaaGreatDoorKc33
import Derived.Test.YtkflegdaeienlaaGreatDoorKc25
import Derived.Test.YtkflegdaeienlaaGreatDoorKc23
set_option linter.all false
set_option maxHeartbeats 400000
set_option maxRecDepth 100000
set_option linter.unusedVariables false
set_option linter.unusedSimpArgs false
namespace Go.Pw
open Go Go.Proofs
def salong (j : List (List Rt)) (d : List Rt) (c n : Nat) : List Rt := (List.range n).map fun i => fdot (fun k => (j.getD i []).getD k default) (fun k => d.getD k default) c
def err2 (a b : Int) : Int := if a = 0 then b else a
theorem con_Along (j : List (List Rt)) (c : Int) (d : List Rt) (h1 : -9223372036854775808 ≤ c) (h2 : c ≤ 9223372036854775807) (h : j.length < 2 ^ 40) (hl : ∀ i, (j.getD i []).length < 2 ^ 40) (hf : ∀ i k, Fit ((j.getD i []).getD k default)) (hd : d.length < 2 ^ 40) (hdf : ∀ i, Fit (d.getD i default)) :
   Con E 38 [cRss j, vI c, cRs d] (.tup [cRs (if err2 (formE j c) (givenE c d true) = 0 then salong j d c.toNat j.length else []), vI (err2 (formE j c) (givenE c d true))]) := by
 have c1 := con_sform j c h1 h2 h hl hf
 have c2 := con_tNumbers c d true h1 h2 hd hdf
 unfold err2
 by_cases e1 : formE j c = 0
 rotate_left
 · rw [if_neg e1, if_neg e1]
   generalize formE j c = e at *
   refine con_of2 mixed (fn := Tryz.f38) (rs := [.tmp 6, .tmp 7]) Tryz.func38 (by kernel_rfl) rfl (by kernel_rfl) rfl rfl ?_
   simp only [argE, Nat.reduceAdd, cRss, vI, vB] at *
   (refine SZ ?_;intros;rename_i K1 hK1)
   (refine ⟨_,c1,hK1 _ ?_⟩;clear hK1 K1;try simp only [put_some,cN,vI,vB,cR])
   (refine SZ ?_;intros;rename_i hb)
   simp only [res1,res2,res3,AB,AD,AZ,Nat.reduceEqDiff,↓reduceIte,Nat.reduceAdd,Nat.reduceMul,Nat.reducePow,Nat.reduceLeDiff,Nat.reduceLT]
   all_goals rfl
 rw [if_pos e1]
 rw [e1] at c1
 by_cases e2 : givenE c d true = 0
 rotate_left
 · rw [if_neg e2]
   generalize givenE c d true = e at *
   refine con_of2 mixed (fn := Tryz.f38) (rs := [.tmp 6, .tmp 7]) Tryz.func38 (by kernel_rfl) rfl (by kernel_rfl) rfl rfl ?_
   simp only [argE, Nat.reduceAdd, cRss, vI, vB] at *
   (refine SZ ?_;intros;rename_i K1 hK1)
   (refine ⟨_,c1,hK1 _ ?_⟩;clear hK1 K1;try simp only [put_some,cN,vI,vB,cR])
   (refine SZ ?_;intros;rename_i K1 hK1)
   (refine ⟨_,c2,hK1 _ ?_⟩;clear hK1 K1;try simp only [put_some,cN,vI,vB,cR])
   (refine SZ ?_;intros;rename_i hb)
   simp only [res1,res2,res3,AB,AD,AZ,Nat.reduceEqDiff,↓reduceIte,Nat.reduceAdd,Nat.reduceMul,Nat.reducePow,Nat.reduceLeDiff,Nat.reduceLT]
   all_goals rfl
 rw [if_pos e2, e2]
 rw [e2] at c2
 obtain ⟨⟨b0, b1, b2⟩, hrow, hjr⟩ := formE_zero e1
 obtain ⟨m, rfl⟩ : ∃ m : Nat, c = m := ⟨c.toNat, by omega⟩
 obtain ⟨g0, g1⟩ := givenE_zero e2
 rw [show ((m : Int)).toNat = m from rfl]
 refine con_of2 mixed (fn := Tryz.f38) (rs := [.tmp 6, .tmp 7]) Tryz.func38 (by kernel_rfl) rfl (by kernel_rfl) rfl rfl ?_
 simp only [argE, Nat.reduceAdd, cRss, vI, vB] at *
 (refine SZ ?_;intros;rename_i K1 hK1)
 (refine ⟨_,c1,hK1 _ ?_⟩;clear hK1 K1;try simp only [put_some,cN,vI,vB,cR])
 (refine SZ ?_;intros;rename_i K1 hK1)
 (refine ⟨_,c2,hK1 _ ?_⟩;clear hK1 K1;try simp only [put_some,cN,vI,vB,cR])
 (refine SZ ?_;intros)
 clear c1 c2 e1 e2
 refine p_loopx (fun (i : Nat) => [(25, .sh (vI i)), (24, .sh (vI j.length)), (23, .sh (cRss j)), (1, .sh (vI m)), (5, .sh (.ea [cRs d])), (9, .row 35)]) (fun i => [(35, some (.rw 80 4 (SR ((salong j d m i).map cR))))]) (fun i => j.length - i) (fun i => i ≤ j.length) 0 (Weak.freezeT 5 [cRs d] rfl Nat.one_pos (Weak.adoptS 35 9 80 4 (by decide) (by decide) rfl ⟨rfl, rfl, rfl, rfl, rfl, rfl, trivial⟩ ⟨rfl, trivial⟩)) (Nat.zero_le _) ?_
 intro i hi
 have hlen : (salong j d m i).length = i := by simp [salong]
 have ri : i < j.length → (j.getD i []).length = m := fun hb => by have := hrow i hb; omega
 have cd : i < j.length → _ := fun hb => con_dot (fun k => (j.getD i []).getD k default) (fun k => d.getD k default) m 82 83 [.ea [cRs (j.getD i [])]] [.ea [cRs d]] (by omega) (fun k hk => hjr i hb k (by rw [ri hb]; exact hk)) (fun k hk => (g1 k (by omega)).1)
   (fun k hk => con_82 (j.getD i []) k (hl i) (by rw [ri hb]; exact hk)) (fun k hk => con_83 d k hd (by omega))
 simp only [cRss, vI] at *
 clear hl hf hdf hrow hjr g1
 (refine WZ ?_ ?_<;>intros;rename_i hb K1 hK1;rotate_left;rename_i hb;rotate_right)
 · (refine ⟨_,cd (by omega),hK1 _ ?_⟩;clear hK1 K1;try simp only [put_some,cN,vI,vB,cR])
   (refine SZ ?_;intros)
   refine p_lx _ _ _ _ (i + 1) ?_ ?_ (Weak.list ⟨int_eq ?_, rfl, rfl, rfl, rfl, rfl, trivial⟩ ⟨?_, trivial⟩)
   · omega
   · omega
   · omega
   · rw [show (salong j d m (i + 1)).map cR = (salong j d m i).map cR ++ [cR (fdot (fun k => (j.getD i []).getD k default) (fun k => d.getD k default) m)] from mapr_succ _ _ i]
     rfl
 · have e : i = j.length := by omega
   subst e
   simp (disch := omega) only [res1,res2,res3,AB,AD,AZ,Nat.reduceEqDiff,↓reduceIte,Nat.reduceAdd,Nat.reduceMul,Nat.reducePow,Nat.reduceLeDiff,Nat.reduceLT]
   rfl
def sback (j : List (List Rt)) (w : List Rt) (n : Nat) : List Rt := (List.range n).map fun k => fdot (fun i => (j.getD i []).getD k default) (fun i => w.getD i default) j.length
theorem con_Back (j : List (List Rt)) (c : Int) (d : List Rt) (h1 : -9223372036854775808 ≤ c) (h2 : c ≤ 9223372036854775807) (h : j.length < 2 ^ 40) (hl : ∀ i, (j.getD i []).length < 2 ^ 40) (hf : ∀ i k, Fit ((j.getD i []).getD k default)) (hd : d.length < 2 ^ 40) (hdf : ∀ i, Fit (d.getD i default)) :
   Con E 39 [cRss j, vI c, cRs d] (.tup [cRs (if err2 (formE j c) (givenE j.length d true) = 0 then sback j d c.toNat else []), vI (err2 (formE j c) (givenE j.length d true))]) := by
 have c1 := con_sform j c h1 h2 h hl hf
 have c2 := con_tNumbers j.length d true (by omega) (by omega) hd hdf
 unfold err2
 by_cases e1 : formE j c = 0
 rotate_left
 · rw [if_neg e1, if_neg e1]
   generalize formE j c = e at *
   refine con_of2 mixed (fn := Tryz.f39) (rs := [.tmp 6, .tmp 7]) Tryz.func39 (by kernel_rfl) rfl (by kernel_rfl) rfl rfl ?_
   simp only [argE, Nat.reduceAdd, cRss, vI, vB] at *
   (refine SZ ?_;intros;rename_i K1 hK1)
   (refine ⟨_,c1,hK1 _ ?_⟩;clear hK1 K1;try simp only [put_some,cN,vI,vB,cR])
   (refine SZ ?_;intros;rename_i hb)
   simp only [res1,res2,res3,AB,AD,AZ,Nat.reduceEqDiff,↓reduceIte,Nat.reduceAdd,Nat.reduceMul,Nat.reducePow,Nat.reduceLeDiff,Nat.reduceLT]
   all_goals rfl
 rw [if_pos e1]
 rw [e1] at c1
 by_cases e2 : givenE j.length d true = 0
 rotate_left
 · rw [if_neg e2]
   generalize givenE j.length d true = e at *
   refine con_of2 mixed (fn := Tryz.f39) (rs := [.tmp 6, .tmp 7]) Tryz.func39 (by kernel_rfl) rfl (by kernel_rfl) rfl rfl ?_
   simp only [argE, Nat.reduceAdd, cRss, vI, vB] at *
   (refine SZ ?_;intros;rename_i K1 hK1)
   (refine ⟨_,c1,hK1 _ ?_⟩;clear hK1 K1;try simp only [put_some,cN,vI,vB,cR])
   (refine SZ ?_;intros;rename_i K1 hK1)
   (refine ⟨_,c2,hK1 _ ?_⟩;clear hK1 K1;try simp only [put_some,cN,vI,vB,cR])
   (refine SZ ?_;intros;rename_i hb)
   simp only [res1,res2,res3,AB,AD,AZ,Nat.reduceEqDiff,↓reduceIte,Nat.reduceAdd,Nat.reduceMul,Nat.reducePow,Nat.reduceLeDiff,Nat.reduceLT]
   all_goals rfl
 rw [if_pos e2, e2]
 rw [e2] at c2
 obtain ⟨⟨b0, b1, b2⟩, hrow, hjr⟩ := formE_zero e1
 obtain ⟨m, rfl⟩ : ∃ m : Nat, c = m := ⟨c.toNat, by omega⟩
 obtain ⟨g0, g1⟩ := givenE_zero e2
 rw [show ((m : Int)).toNat = m from rfl]
 refine con_of2 mixed (fn := Tryz.f39) (rs := [.tmp 6, .tmp 7]) Tryz.func39 (by kernel_rfl) rfl (by kernel_rfl) rfl rfl ?_
 simp only [argE, Nat.reduceAdd, cRss, vI, vB] at *
 (refine SZ ?_;intros;rename_i K1 hK1)
 (refine ⟨_,c1,hK1 _ ?_⟩;clear hK1 K1;try simp only [put_some,cN,vI,vB,cR])
 (refine SZ ?_;intros;rename_i K1 hK1)
 (refine ⟨_,c2,hK1 _ ?_⟩;clear hK1 K1;try simp only [put_some,cN,vI,vB,cR])
 (refine SZ ?_;intros)
 clear c1 c2 e1 e2
 refine p_loopx (fun (k : Nat) => [(24, .sh (vI k)), (23, .sh (vI m)), (3, .sh (.ea [cRss j])), (5, .sh (.ea [cRs d])), (9, .row 34)]) (fun k => [(34, some (.rw 80 4 (SR ((sback j d k).map cR))))]) (fun k => m - k) (fun k => k ≤ m) 0 (Weak.freezeT 5 [cRs d] rfl Nat.one_pos (Weak.freezeT 3 [cRss j] rfl Nat.one_pos (Weak.adoptS 34 9 80 4 (by decide) (by decide) rfl ⟨rfl, rfl, rfl, rfl, rfl, trivial⟩ ⟨rfl, trivial⟩))) (Nat.zero_le _) ?_
 intro k hk
 have hlen : (sback j d k).length = k := by simp [sback]
 have cd : k < m → _ := fun hb => con_dot (fun i => (j.getD i []).getD k default) (fun i => d.getD i default) j.length 84 85 [.ea [cRss j], .ea [vI k]] [.ea [cRs d]] h (fun i hi => hjr i hi k (by have := hrow i hi; omega)) (fun i hi => (g1 i (by omega)).1)
   (fun i hi => con_84 j i k h hi (hl i) (by have := hrow i hi; omega)) (fun i hi => con_85 d i hd (by omega))
 simp only [cRss, vI] at *
 clear hl hf hdf hrow hjr g1
 (refine WZ ?_ ?_<;>intros;rename_i hb K1 hK1;rotate_left;rename_i hb;rotate_right)
 · (refine ⟨_,cd (by omega),hK1 _ ?_⟩;clear hK1 K1;try simp only [put_some,cN,vI,vB,cR])
   (refine SZ ?_;intros)
   refine p_lx _ _ _ _ (k + 1) ?_ ?_ (Weak.list ⟨int_eq ?_, rfl, rfl, rfl, rfl, trivial⟩ ⟨?_, trivial⟩)
   · omega
   · omega
   · omega
   · rw [show (sback j d (k + 1)).map cR = (sback j d k).map cR ++ [cR (fdot (fun i => (j.getD i []).getD k default) (fun i => d.getD i default) j.length)] from mapr_succ _ _ k]
     rfl
 · have e : k = m := by omega
   subst e
   simp (disch := omega) only [res1,res2,res3,AB,AD,AZ,Nat.reduceEqDiff,↓reduceIte,Nat.reduceAdd,Nat.reduceMul,Nat.reducePow,Nat.reduceLeDiff,Nat.reduceLT]
   rfl
end Go.Pw
set_option maxRecDepth 100000
set_option linter.unusedVariables false
set_option linter.unusedSimpArgs false
namespace Go.Pw
open Go Go.Proofs
def soc (f : Nat → PV) (n i : Nat) : List (List PV) := (List.range n).map fun t => [if t < i then f t else .val (.slice none 0 0)]
theorem soc_len (f : Nat → PV) (n i : Nat) : (soc f n i).length = n := by simp [soc]
theorem soc_get (f : Nat → PV) {n i t : Nat} (h : t < n) : (soc f n i)[t]? = some [if t < i then f t else .val (.slice none 0 0)] := by simp [soc, h]
theorem soc_SR (f : Nat → PV) {n i : Nat} (h : i < n) : (SR (soc f n i))[i]? = some [.sh (.val (.slice none 0 0))] := by
 rw [SR_get, soc_get f h, if_neg (by omega)]; rfl
theorem soc_set (f : Nat → PV) {n i : Nat} (h : i < n) : (soc f n i).set i [f i] = soc f n (i + 1) := by
 apply List.ext_getElem?
 intro t
 by_cases e : t = i
 · subst e
   rw [List.getElem?_set_self (by rw [soc_len]; exact h), soc_get f h, if_pos (by omega)]
 · rw [List.getElem?_set_ne (Ne.symm e)]
   by_cases ht : t < n
   · rw [soc_get f ht, soc_get f ht]
     by_cases h1 : t < i
     · rw [if_pos h1, if_pos (by omega)]
     · rw [if_neg h1, if_neg (by omega)]
   · rw [List.getElem?_eq_none (by rw [soc_len]; omega), List.getElem?_eq_none (by rw [soc_len]; omega)]
theorem soc_zero (f : Nat → PV) (n : Nat) : soc f n 0 = List.replicate n [.val (.slice none 0 0)] := by
 apply List.ext_getElem?
 intro t
 by_cases ht : t < n
 · rw [soc_get f ht, List.getElem?_replicate_of_lt ht]; rfl
 · rw [List.getElem?_eq_none (by rw [soc_len]; omega), List.getElem?_eq_none (by simp; omega)]
theorem soc_all (f : Nat → PV) (n : Nat) : soc f n n = (List.range n).map fun t => [f t] := by
 unfold soc
 apply List.map_congr_left
 intro t ht
 rw [if_pos (List.mem_range.1 ht)]
def sprow (a b : List (List Rt)) (i k : Nat) : List Rt := (List.range k).map fun k => fdot (fun t => (a.getD i []).getD t default) (fun t => (b.getD t []).getD k default) b.length
def sprod (a b : List (List Rt)) (m n : Nat) : List (List Rt) := (List.range n).map fun i => sprow a b i m
theorem con_Product (a b : List (List Rt)) (c : Int) (h1 : -9223372036854775808 ≤ c) (h2 : c ≤ 9223372036854775807) (h : a.length < 2 ^ 40) (hl : ∀ i, (a.getD i []).length < 2 ^ 40) (hf : ∀ i k, Fit ((a.getD i []).getD k default))
   (hb : b.length < 2 ^ 40) (hbl : ∀ i, (b.getD i []).length < 2 ^ 40) (hbf : ∀ i k, Fit ((b.getD i []).getD k default)) :
   Con E 35 [cRss a, cRss b, vI c] (.tup [cRss (if err2 (formE b c) (formE a b.length) = 0 then sprod a b c.toNat a.length else []), vI (err2 (formE b c) (formE a b.length))]) := by
 have c1 := con_sform b c h1 h2 hb hbl hbf
 have c2 := con_sform a b.length (by omega) (by omega) h hl hf
 unfold err2
 by_cases e1 : formE b c = 0
 rotate_left
 · rw [if_neg e1, if_neg e1]
   generalize formE b c = e at *
   refine con_of2 mixed (fn := Tryz.f35) (rs := [.tmp 6, .tmp 7]) Tryz.func35 (by kernel_rfl) rfl (by kernel_rfl) rfl rfl ?_
   simp only [argE, Nat.reduceAdd, cRss, vI, vB] at *
   (refine SY ?_;intros;rename_i K1 hK1)
   (refine ⟨_,c1,hK1 _ ?_⟩;clear hK1 K1;try simp only [put_some,cN,vI,vB,cR])
   (refine SY ?_;intros;rename_i hb)
   simp only [res1,res2,res3,AB,AD,AZ,AY,Nat.reduceEqDiff,↓reduceIte,Nat.reduceAdd,Nat.reduceMul,Nat.reducePow,Nat.reduceLeDiff,Nat.reduceLT]
   all_goals rfl
 rw [if_pos e1]
 rw [e1] at c1
 by_cases e2 : formE a b.length = 0
 rotate_left
 · rw [if_neg e2]
   generalize formE a b.length = e at *
   refine con_of2 mixed (fn := Tryz.f35) (rs := [.tmp 6, .tmp 7]) Tryz.func35 (by kernel_rfl) rfl (by kernel_rfl) rfl rfl ?_
   simp only [argE, Nat.reduceAdd, cRss, vI, vB] at *
   (refine SY ?_;intros;rename_i K1 hK1)
   (refine ⟨_,c1,hK1 _ ?_⟩;clear hK1 K1;try simp only [put_some,cN,vI,vB,cR])
   (refine SY ?_;intros;rename_i K1 hK1)
   (refine ⟨_,c2,hK1 _ ?_⟩;clear hK1 K1;try simp only [put_some,cN,vI,vB,cR])
   (refine SY ?_;intros;rename_i hb)
   simp only [res1,res2,res3,AB,AD,AZ,AY,Nat.reduceEqDiff,↓reduceIte,Nat.reduceAdd,Nat.reduceMul,Nat.reducePow,Nat.reduceLeDiff,Nat.reduceLT]
   all_goals rfl
 rw [if_pos e2, e2]
 rw [e2] at c2
 obtain ⟨⟨b0, b1, b2⟩, hrow, hjr⟩ := formE_zero e1
 obtain ⟨m, rfl⟩ : ∃ m : Nat, c = m := ⟨c.toNat, by omega⟩
 obtain ⟨⟨b3, b4, b5⟩, hrowa, hjra⟩ := formE_zero e2
 rw [show ((m : Int)).toNat = m from rfl]
 refine con_of2 mixed (fn := Tryz.f35) (rs := [.tmp 6, .tmp 7]) Tryz.func35 (by kernel_rfl) rfl (by kernel_rfl) rfl rfl ?_
 simp only [argE, Nat.reduceAdd, cRss, vI, vB] at *
 (refine SY ?_;intros;rename_i K1 hK1)
 (refine ⟨_,c1,hK1 _ ?_⟩;clear hK1 K1;try simp only [put_some,cN,vI,vB,cR])
 (refine SY ?_;intros;rename_i K1 hK1)
 (refine ⟨_,c2,hK1 _ ?_⟩;clear hK1 K1;try simp only [put_some,cN,vI,vB,cR])
 (refine SY ?_;intros)
 clear c1 c2 e1 e2
 refine p_loopx (fun (i : Nat) => [(30, .sh (vI i)), (29, .sh (vI a.length)), (28, .sh (cRss a)), (9, .row 27), (4, .sh (.ea [cRss b])), (2, .sh (vI m))]) (fun i => [(27, some (.rw 26 1 (SR (soc (fun t => cRs (sprow a b t m)) a.length i))))]) (fun i => a.length - i) (fun i => i ≤ a.length) 0 (Weak.freezeT 4 [cRss b] rfl Nat.one_pos (Weak.list ⟨rfl, rfl, rfl, rfl, rfl, rfl, trivial⟩ ⟨by rw [soc_zero]; simp only [AB,AD,AZ,AY,Nat.reduceEqDiff,↓reduceIte,Nat.reduceAdd,Nat.reduceMul,Nat.reducePow,Nat.reduceLeDiff,Nat.reduceLT], trivial⟩)) (Nat.zero_le _) ?_
 intro i hi
 have hlen := soc_len (fun t => cRs (sprow a b t m)) a.length i
 have ri : i < a.length → (a.getD i []).length = b.length := fun hb => by have := hrowa i hb; omega
 have hli := hl i
 simp only [cRss, vI] at *
 (refine WY ?_ ?_<;>intros<;>rename_i hb)
 · refine p_loopx (fun (k : Nat) => [(36, .sh (vI k)), (35, .sh (vI m)), (11, .sh (.ea [cRs (a.getD i [])])), (10, .sh (vI i)), (30, .sh (vI i)), (29, .sh (vI a.length)), (28, .sh (cRss a)), (9, .row 27), (4, .sh (.ea [cRss b])), (2, .sh (vI m))]) (fun k => [(27, some (.rw 26 1 ((SR (soc (fun t => cRs (sprow a b t m)) a.length i)).set i [.row 900]))), (900, some (.rw 80 4 (SR ((sprow a b i k).map cR))))]) (fun k => m - k) (fun k => k ≤ m) 0
     (Weak.freezeT 11 [cRs (a.getD i [])] rfl Nat.one_pos (Weak.adoptRowT 900 27 i 80 4 (by decide) (by decide) (by decide) (eA := 26) (szA := 1) (rows := SR (soc (fun t => cRs (sprow a b t m)) a.length i)) (by simp only [AB,AD,AZ,AY,Nat.reduceEqDiff,↓reduceIte,Nat.reduceAdd,Nat.reduceMul,Nat.reducePow,Nat.reduceLeDiff,Nat.reduceLT]) (soc_SR _ (by omega)) (Weak.list ⟨rfl, rfl, rfl, rfl, rfl, rfl, rfl, rfl, rfl, rfl, trivial⟩ ⟨by simp only [AB,AD,AZ,AY,Nat.reduceEqDiff,↓reduceIte,Nat.reduceAdd,Nat.reduceMul,Nat.reducePow,Nat.reduceLeDiff,Nat.reduceLT], rfl, trivial⟩))) (Nat.zero_le _) ?_
   intro k hk
   have hlk : (sprow a b i k).length = k := by simp [sprow]
   simp only [cRss, vI] at *
   (refine WY ?_ ?_<;>intros<;>rename_i hb)
   · refine p_wk (τ := mkS [(12, .sh (.ea [vI k])), (36, .sh (vI k)), (35, .sh (vI m)), (11, .sh (.ea [cRs (a.getD i [])])), (10, .sh (vI i)), (30, .sh (vI i)), (29, .sh (vI a.length)), (28, .sh (cRss a)), (9, .row 27), (4, .sh (.ea [cRss b])), (2, .sh (vI m))] [(27, some (.rw 26 1 ((SR (soc (fun t => cRs (sprow a b t m)) a.length i)).set i [.row 900]))), (900, some (.rw 80 4 (SR ((sprow a b i k).map cR))))])
       (Weak.freezeT 12 [vI k] rfl Nat.one_pos (Weak.list ⟨rfl, rfl, rfl, rfl, rfl, rfl, rfl, rfl, rfl, rfl, rfl, trivial⟩ ⟨by simp only [AB,AD,AZ,AY,Nat.reduceEqDiff,↓reduceIte,Nat.reduceAdd,Nat.reduceMul,Nat.reducePow,Nat.reduceLeDiff,Nat.reduceLT], by simp only [AB,AD,AZ,AY,Nat.reduceEqDiff,↓reduceIte,Nat.reduceAdd,Nat.reduceMul,Nat.reducePow,Nat.reduceLeDiff,Nat.reduceLT], trivial⟩)) ?_
     simp only [cRss, vI] at *
     have ri := ri (by omega)
     have cd := con_dot (fun t => (a.getD i []).getD t default) (fun t => (b.getD t []).getD k default) b.length 76 77 [.ea [cRs (a.getD i [])]] [.ea [cRss b], .ea [vI k]] (by omega) (fun t ht => hjra i (by omega) t (by omega)) (fun t ht => hjr t ht k (by have := hrow t ht; omega))
       (fun t ht => con_76 _ t hli (by omega)) (fun t ht => con_77 b t k (by omega) ht (hbl t) (by have := hrow t ht; omega))
     clear hrow hjr hrowa hjra hl hf hbl hbf
     simp only [cRss, vI] at *
     refine p_drw2 (12) [0, 1] [[0, 1], [], []] (by kernel_rfl) ?_
     (refine SY ?_;intros;rename_i K1 hK1)
     · (refine ⟨_,cd,hK1 _ ?_⟩;clear hK1 K1;try simp only [put_some,cN,vI,vB,cR])
       (refine SY ?_;intros)
       refine p_lx _ _ _ _ (k + 1) ?_ ?_ (Weak.list ⟨int_eq ?_, rfl, rfl, rfl, rfl, rfl, rfl, rfl, rfl, rfl, trivial⟩ ⟨?_, ?_, trivial⟩)
       · omega
       · omega
       · omega
       · simp only [AB,AD,AZ,AY,Nat.reduceEqDiff,↓reduceIte,Nat.reduceAdd,Nat.reduceMul,Nat.reducePow,Nat.reduceLeDiff,Nat.reduceLT]
       · rw [show (sprow a b i (k + 1)).map cR = (sprow a b i k).map cR ++ [cR (fdot (fun t => (a.getD i []).getD t default) (fun t => (b.getD t []).getD k default) b.length)] from mapr_succ _ _ k]
         simp only [AB,AD,AZ,AY,Nat.reduceEqDiff,↓reduceIte,Nat.reduceAdd,Nat.reduceMul,Nat.reducePow,Nat.reduceLeDiff,Nat.reduceLT]
         rfl
   · have e : k = m := by omega
     subst e
     refine p_lx _ _ _ _ (i + 1) ?_ ?_ (Weak.shareT 900 ((sprow a b i k).map cR) (ty := 80) (sz := 4) (by simp only [AB,AD,AZ,AY,Nat.reduceEqDiff,↓reduceIte,Nat.reduceAdd,Nat.reduceMul,Nat.reducePow,Nat.reduceLeDiff,Nat.reduceLT]) (Weak.list ⟨int_eq ?_, rfl, rfl, rfl, rfl, rfl, trivial⟩ ⟨?_, trivial⟩))
     · omega
     · omega
     · omega
     · simp only [AB,AD,AZ,AY,Nat.reduceEqDiff,↓reduceIte,Nat.reduceAdd,Nat.reduceMul,Nat.reducePow,Nat.reduceLeDiff,Nat.reduceLT]
       rw [← soc_set (fun t => cRs (sprow a b t k)) (by omega)]
       rfl
 · have e : i = a.length := by omega
   subst e
   rw [soc_all] at *
   simp (disch := omega) only [res1,res2,res3,AB,AD,AZ,AY,Nat.reduceEqDiff,↓reduceIte,Nat.reduceAdd,Nat.reduceMul,Nat.reducePow,Nat.reduceLeDiff,Nat.reduceLT]
   simp only [sprod, List.map_map]
   rfl
end Go.Pw
set_option maxRecDepth 100000
set_option linter.unusedVariables false
set_option linter.unusedSimpArgs false
namespace Go.Pw
open Go Go.Proofs
end Go.Pw
set_option maxRecDepth 100000
set_option linter.unusedVariables false
set_option linter.unusedSimpArgs false
namespace Go.Pw
open Go Go.Proofs
end Go.Pw
set_option maxRecDepth 100000
set_option linter.unusedVariables false
set_option linter.unusedSimpArgs false
namespace Go.Pw
open Go Go.Proofs
structure MFit (j : List (List Rt)) : Prop where
 l : j.length < 2 ^ 46
 r : ∀ i, (j.getD i []).length < 2 ^ 46
 n : ∀ i k, ((j.getD i []).getD k default).num.length < 2 ^ 46
 d : ∀ i k, ((j.getD i []).getD k default).den.length < 2 ^ 46
end Go.Pw
set_option maxRecDepth 100000
set_option linter.unusedVariables false
set_option linter.unusedSimpArgs false
namespace Go.Pw
open Go Go.Proofs
end Go.Pw
set_option maxRecDepth 100000
set_option linter.unusedVariables false
set_option linter.unusedSimpArgs false
namespace Go.Pw
open Go Go.Proofs
end Go.Pw
set_option maxRecDepth 100000
set_option linter.unusedVariables false
set_option linter.unusedSimpArgs false
namespace Go.Pw
open Go Go.Proofs
def rng (a : Rt) : Rt := if a.fault ≠ 0 then flt a.fault else nrat (!a.neg) (val a.num) (val a.den)
theorem con_rNeg (a : Rt) (ha : isRat a) : Con E 63 [.agg (cR a)] (.agg (cR (rng a))) := by
 unfold rng
 by_cases hf : a.fault = 0
 · obtain ⟨h1, h2, h3, h4, _⟩ := num_of ha hf
   have c1 := con_rRatio (!a.neg) (val a.num) (val a.den) (by omega) (by omega)
   rw [← h1, ← h2] at c1
   rw [if_neg (by simpa using hf)]
   generalize nrat (!a.neg) (val a.num) (val a.den) = res at *
   refine con_of2 mixed (fn := Tryz.f63) (rs := [.cell 2 80]) Tryz.func63 (by kernel_rfl) rfl (by kernel_rfl) rfl rfl ?_
   simp only [argE, Nat.reduceAdd, cR, vI, vB, hf] at *
   (refine SZ ?_;intros;rename_i K1 hK1)
   (refine ⟨_,c1,hK1 _ ?_⟩;clear hK1 K1;try simp only [put_some,cN,vI,vB,cR])
   (refine SZ ?_;intros)
   simp (disch := omega) only [resc1,resc2,rescc,rest1c,AB,AD,AZ,Nat.reduceEqDiff,↓reduceIte,Nat.reduceAdd,Nat.reduceMul,Nat.reducePow,Nat.reduceLeDiff,Nat.reduceLT]
   all_goals rfl
 · rw [if_pos hf]
   have c1 := con_rFault a.fault
   refine con_of2 mixed (fn := Tryz.f63) (rs := [.cell 2 80]) Tryz.func63 (by kernel_rfl) rfl (by kernel_rfl) rfl rfl ?_
   simp only [argE, Nat.reduceAdd, cR, vI, vB] at *
   (refine SZ ?_;intros;rename_i K1 hK1)
   (refine ⟨_,c1,hK1 _ ?_⟩;clear hK1 K1;try simp only [put_some,cN,vI,vB,cR])
   (refine SZ ?_;intros)
   simp (disch := omega) only [resc1,resc2,rescc,rest1c,AB,AD,AZ,Nat.reduceEqDiff,↓reduceIte,Nat.reduceAdd,Nat.reduceMul,Nat.reducePow,Nat.reduceLeDiff,Nat.reduceLT]
   all_goals rfl
theorem isRat_rng {a : Rt} (ha : isRat a) : isRat (rng a) := by
 unfold rng
 by_cases hf : a.fault = 0
 · rw [if_neg (by simpa using hf)]; exact isRat_nrat ..
 · rw [if_pos hf]
   unfold isRat at ha
   rw [if_neg hf] at ha
   exact isRat_flt ha.1
end Go.Pw
set_option maxRecDepth 100000
set_option linter.unusedVariables false
set_option linter.unusedSimpArgs false
namespace Go.Pw
open Go Go.Proofs
def numX (x : Rt) : Rt := if x.neg = true then rng (rof ((x.num.getD 0 0 : Int) % 50) (1 + ((x.den.getD 0 0 : Int) % 9))) else rof ((x.num.getD 0 0 : Int) % 50) (1 + ((x.den.getD 0 0 : Int) % 9))
def numI (l : List Rt) (i : Nat) : Rt := if i < l.length ∧ 0 < (l.getD i default).num.length ∧ 0 < (l.getD i default).den.length then numX (l.getD i default) else rof ((i : Int) + 2) 1
def numL (l : List Rt) (n : Nat) : List Rt := (List.range n).map (numI l)
structure RFit (x : Rt) : Prop where
 n : dok x.num
 d : dok x.den
 nl : x.num.length < 2 ^ 46
 dl : x.den.length < 2 ^ 46
theorem isRat_numX (x : Rt) : isRat (numX x) := by
 unfold numX
 split
 · exact isRat_rng (isRat_nrat ..)
 · exact isRat_nrat ..
theorem isRat_numI (l : List Rt) (i : Nat) : isRat (numI l i) := by
 unfold numI
 split
 · exact isRat_numX _
 · exact isRat_nrat ..
set_option maxHeartbeats 4000000 in
theorem con_numbers (l : List Rt) (n : Nat) (hn : n < 2 ^ 30) (h : l.length < 2 ^ 46) (hf : ∀ i, RFit (l.getD i default)) : Con E 25 [cRs l, vI n] (cRs (numL l n)) := by
 refine con_of2 mixed (fn := Tryz.f25) (rs := [.tmp 4]) Tryz.func25 (by kernel_rfl) rfl (by kernel_rfl) rfl rfl ?_
 simp only [argE, Nat.reduceAdd, cRs, vI, vB]
 (refine SZ ?_;intros)
 refine p_loopx (fun (i : Nat) => [(6, .sh (vI i)), (0, .sh (cRs l)), (1, .sh (vI n)), (5, .row 68)]) (fun i => [(68, some (.rw 80 4 (SR ((numL l i).map cR))))]) (fun i => n - i) (fun i => i ≤ n) 0 (Weak.adoptS 68 5 80 4 (by decide) (by decide) rfl ⟨rfl, rfl, rfl, rfl, trivial⟩ ⟨rfl, trivial⟩) (Nat.zero_le _) ?_
 intro i hi
 have hfi := hf i
 have hlen : (numL l i).length = i := by simp [numL]
 have stp : (numL l (i + 1)).map cR = (numL l i).map cR ++ [cR (numI l i)] := mapr_succ _ _ i
 simp only [cRs, vI] at *
 clear hf
 have nn := hfi.nl
 have dd := hfi.dl
 have c0 := con_rOf ((i : Int) + 2) 1
 by_cases hc : i < l.length ∧ 0 < (l.getD i default).num.length ∧ 0 < (l.getD i default).den.length
 · obtain ⟨hc1, hc2, hc3⟩ := hc
   have e0 : numI l i = numX (l.getD i default) := if_pos ⟨hc1, hc2, hc3⟩
   have k1 := getD_lt 0 hfi.n
   have k2 := getD_lt 0 hfi.d
   have c3 := con_rOf (((l.getD i default).num.getD 0 0 : Int) % 50) (1 + (((l.getD i default).den.getD 0 0 : Int) % 9)) (by omega) (by omega) (by omega) (by omega)
   have hr := isRat_nrat (decide ((((l.getD i default).num.getD 0 0 : Int) % 50) < 0) != decide ((1 + (((l.getD i default).den.getD 0 0 : Int) % 9)) < 0)) (((l.getD i default).num.getD 0 0 : Int) % 50).natAbs (1 + (((l.getD i default).den.getD 0 0 : Int) % 9)).natAbs
   change isRat (rof (((l.getD i default).num.getD 0 0 : Int) % 50) (1 + (((l.getD i default).den.getD 0 0 : Int) % 9))) at hr
   have c4 := con_rNeg _ hr
   simp only [vI] at c3
   (refine WZ ?_ ?_<;>intros;rename_i hb K1 hK1;rotate_left;rename_i hb;rotate_right)
   · (refine ⟨_,c0 (by omega) (by omega) (by omega) (by omega),hK1 _ ?_⟩;clear hK1 K1;try simp only [put_some,cN,vI,vB,cR])
     (refine SZ ?_;intros;rename_i hb K1 hK1)
     (refine ⟨_,c3,hK1 _ ?_⟩;clear hK1 K1;try simp only [put_some,cN,vI,vB,cR])
     (refine WZ ?_ ?_<;>intros;rename_i hb K1 hK1;rotate_left;rename_i hb;rotate_right)
     · (refine ⟨_,c4,hK1 _ ?_⟩;clear hK1 K1;try simp only [put_some,cN,vI,vB,cR])
       (refine SZ ?_;intros)
       refine p_lx _ _ _ _ (i + 1) ?_ ?_ (Weak.list ⟨int_eq ?_, rfl, rfl, rfl, trivial⟩ ⟨?_, trivial⟩)
       · omega
       · omega
       · omega
       · rw [stp, e0, numX, if_pos (by assumption)]
         simp only [AB,AD,AZ,Nat.reduceEqDiff,↓reduceIte,Nat.reduceAdd,Nat.reduceMul,Nat.reducePow,Nat.reduceLeDiff,Nat.reduceLT]
         rfl
     · refine p_lx _ _ _ _ (i + 1) ?_ ?_ (Weak.list ⟨int_eq ?_, rfl, rfl, rfl, trivial⟩ ⟨?_, trivial⟩)
       · omega
       · omega
       · omega
       · rw [stp, e0, numX, if_neg (by simp only [*]; decide)]
         simp only [AB,AD,AZ,Nat.reduceEqDiff,↓reduceIte,Nat.reduceAdd,Nat.reduceMul,Nat.reducePow,Nat.reduceLeDiff,Nat.reduceLT]
         rfl
   · have e : i = n := by omega
     subst e
     simp (disch := omega) only [res1,res2,res3,AB,AD,AZ,Nat.reduceEqDiff,↓reduceIte,Nat.reduceAdd,Nat.reduceMul,Nat.reducePow,Nat.reduceLeDiff,Nat.reduceLT]
 · have e0 : numI l i = rof ((i : Int) + 2) 1 := if_neg hc
   rw [e0] at stp
   (refine WZ ?_ ?_<;>intros;rename_i hb K1 hK1;rotate_left;rename_i hb;rotate_right)
   · (refine ⟨_,c0 (by omega) (by omega) (by omega) (by omega),hK1 _ ?_⟩;clear hK1 K1;try simp only [put_some,cN,vI,vB,cR])
     (refine VZ ?_ ?_ ?_<;>intros<;>rename_i hb)
     all_goals (
       refine p_lx _ _ _ _ (i + 1) ?_ ?_ (Weak.list ⟨int_eq ?_, rfl, rfl, rfl, trivial⟩ ⟨?_, trivial⟩)
       · omega
       · omega
       · omega
       · rw [stp]
         simp only [AB,AD,AZ,Nat.reduceEqDiff,↓reduceIte,Nat.reduceAdd,Nat.reduceMul,Nat.reducePow,Nat.reduceLeDiff,Nat.reduceLT]
         rfl)
   · have e : i = n := by omega
     subst e
     simp (disch := omega) only [res1,res2,res3,AB,AD,AZ,Nat.reduceEqDiff,↓reduceIte,Nat.reduceAdd,Nat.reduceMul,Nat.reducePow,Nat.reduceLeDiff,Nat.reduceLT]
end Go.Pw
set_option maxRecDepth 100000
set_option linter.unusedVariables false
set_option linter.unusedSimpArgs false
namespace Go.Pw
open Go Go.Proofs
structure MOk (j : List (List Rt)) : Prop where
 l : j.length < 2 ^ 46
 r : ∀ i, (j.getD i []).length < 2 ^ 46
 x : ∀ i k, RFit ((j.getD i []).getD k default)
theorem fit_default : Fit (default : Rt) := ⟨dok_nil, dok_nil, by decide, by decide⟩
theorem rfit_default : RFit (default : Rt) := ⟨dok_nil, dok_nil, by decide, by decide⟩
theorem getD_rmap {α : Type} (f : Nat → α) (n i : Nat) (d : α) : ((List.range n).map f).getD i d = if i < n then f i else d := by
 rw [List.getD_eq_getElem?_getD, List.getElem?_map]
 by_cases h : i < n
 · rw [List.getElem?_range h, if_pos h]; rfl
 · rw [List.getElem?_eq_none (by simp; omega), if_neg h]; rfl
theorem reqB_self {x : Rt} : reqB x x = true := by
 unfold reqB; simp
theorem numsB_self (l : List Rt) : numsB l l = true := by
 unfold numsB
 simp only [decide_true, Bool.true_and, List.all_eq_true]
 exact fun i _ => reqB_self
theorem isRat_fdot {f g : Nat → Rt} {n : Nat} (hf : ∀ i, i < n → isRat (f i)) (hg : ∀ i, i < n → isRat (g i)) : isRat (fdot f g n) := by
 induction n with
 | zero => exact (isRat_nrat _ _ _ : isRat (rof 0 1))
 | succ n ih =>
   rw [fdot_succ]
   exact isRat_radd _ _ (ih (fun i hi => hf i (by omega)) (fun i hi => hg i (by omega))) (isRat_rmul _ _ (hf n (by omega)) (hg n (by omega)))
end Go.Pw
set_option maxRecDepth 100000
set_option linter.unusedVariables false
set_option linter.unusedSimpArgs false
namespace Go.Pw
open Go Go.Proofs
end Go.Pw
set_option maxRecDepth 100000
set_option linter.unusedVariables false
set_option linter.unusedSimpArgs false
namespace Go.Pw
open Go Go.Proofs
end Go.Pw
set_option maxRecDepth 100000
set_option linter.unusedVariables false
set_option linter.unusedSimpArgs false
namespace Go.Pw
open Go Go.Proofs
end Go.Pw
