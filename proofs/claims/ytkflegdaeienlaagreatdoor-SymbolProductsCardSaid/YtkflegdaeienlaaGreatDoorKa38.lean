/- Merged from the working texts Mb4 Mb5 Mb6 Mb7 Ma2 Ma3 Ma4. -/
import Derived.Test.YtkflegdaeienlaaGreatDoorKa24
import Derived.Test.YtkflegdaeienlaaGreatDoorKa37
import Derived.Test.YtkflegdaeienlaaGreatDoorKa25
set_option linter.all false
set_option maxHeartbeats 400000
set_option maxRecDepth 100000
set_option linter.unusedVariables false
set_option linter.unusedSimpArgs false
namespace Go.Pw
open Go Go.Proofs
def badW (j : List (List Rt)) (c : Int) : Bool := (List.range j.length).any fun i => decide (((j.getD i []).length : Int) ≠ c)
noncomputable def formE (j : List (List Rt)) (c : Int) : Int := if c < 0 ∨ 4096 < c ∨ 4096 < j.length then 2 else if badW j c = true then 2 else if (List.range j.length).all (fun i => (j.getD i []).all isRatB) = true then 0 else 5
theorem con_120 (r : List Rt) (c : Int) (h : r.length < 2 ^ 40) : Con E 120 [cRs r, .ea [vI c]] (vB (decide ((r.length : Int) ≠ c))) := by
 refine con_of2 mixed (fn := Tryz.f120) (rs := [.tmp 3]) Tryz.func120 (by kernel_rfl) rfl (by kernel_rfl) rfl rfl ?_
 simp only [argE, Nat.reduceAdd, cRs, vI, vB]
 (refine SZ ?_;intros)
 simp only [res1,res2,res3,AB,AD,AZ,Nat.reduceEqDiff,↓reduceIte,Nat.reduceAdd,Nat.reduceMul,Nat.reducePow,Nat.reduceLeDiff,Nat.reduceLT]
 by_cases e : (r.length : Int) = c <;> simp [e, bne]
theorem con_122 (x : Rt) (hf : Fit x) : Con E 122 [.agg (cR x)] (vB (!isRatB x)) := by
 have c1 := con_IsRat x hf.n hf.d hf.nl hf.dl
 refine con_of2 mixed (fn := Tryz.f122) (rs := [.tmp 2]) Tryz.func122 (by kernel_rfl) rfl (by kernel_rfl) rfl rfl ?_
 simp only [argE, Nat.reduceAdd, cR, vI, vB] at *
 (refine SZ ?_;intros;rename_i K1 hK1)
 (refine ⟨_,c1,hK1 _ ?_⟩;clear hK1 K1;try simp only [put_some,cN,vI,vB,cR])
 (refine SZ ?_;intros)
 simp only [res1,res2,res3,AB,AD,AZ,Nat.reduceEqDiff,↓reduceIte,Nat.reduceAdd,Nat.reduceMul,Nat.reducePow,Nat.reduceLeDiff,Nat.reduceLT]
theorem con_sform (j : List (List Rt)) (c : Int) (h1 : -9223372036854775808 ≤ c) (h2 : c ≤ 9223372036854775807) (h : j.length < 2 ^ 40) (hl : ∀ i, (j.getD i []).length < 2 ^ 40) (hf : ∀ i k, Fit ((j.getD i []).getD k default)) : Con E 64 [cRss j, vI c] (vI (formE j c)) := by
 have c1 := con_Contains119 j (fun i => decide (((j.getD i []).length : Int) ≠ c)) 120 [.ea [vI c]] h (fun i _ => con_120 _ c (hl i))
 have c2 : ∀ i, Con E 121 [cRs (j.getD i []), .fn 122 []] (vB (!(j.getD i []).all isRatB)) := fun i => by
   have := con_Contains121 (j.getD i []) (fun k => !isRatB ((j.getD i []).getD k default)) 122 [] (hl i) (fun k _ => con_122 _ (hf i k))
   rwa [any_not_all] at this
 change Con E 119 _ (vB (badW j c)) at c1
 unfold formE
 by_cases hb0 : c < 0 ∨ 4096 < c ∨ 4096 < j.length
 · rw [if_pos hb0]
   clear c1 c2
   refine con_of2 mixed (fn := Tryz.f64) (rs := [.tmp 4]) Tryz.func64 (by kernel_rfl) rfl (by kernel_rfl) rfl rfl ?_
   simp only [argE, Nat.reduceAdd, cRss, vI, vB]
   repeat'(with_reducible first|apply p_seq|apply p_sq|apply p_reg|apply p_nil|apply p_skip|apply p_block|apply p_bq|apply p_ret|apply p_exit|apply p_sq_ret|apply p_sq_exit|apply p_bq_ret|apply p_bq_this|apply p_lq_ret|apply p_lq_exit|apply d_nil|refine p_drw (by decide +kernel) ?_|refine f_op rfl rfl ?_|refine f_opg rfl rfl rfl rfl ?_ ?_|refine f_new rfl rfl rfl rfl ?_|(refine f_end (And.intro ?_ ?_)<;>simp only [List.foldl_nil,List.foldl_cons,recS_mk,AB,AD,AZ,Nat.reduceEqDiff,↓reduceIte,Nat.reduceAdd,Nat.reduceMul,Nat.reducePow,Nat.reduceLeDiff,Nat.reduceLT])|apply k_nil|refine k_cons2 rfl rfl ?_ ?_|(refine fun (K1:SV→Prop) hK1=>?_;simp (disch := omega) only [AB,AD,AZ,Nat.reduceEqDiff,↓reduceIte,Nat.reduceAdd,Nat.reduceMul,Nat.reducePow,Nat.reduceLeDiff,Nat.reduceLT];with_unfolding_all exact hK1)|(with_unfolding_all exact (rfl : true = true))|(with_unfolding_all exact (rfl : (0:Nat) = 0))|apply g_nil|refine g_op0 rfl ?_|refine g_opC rfl ?_|refine p_bq_other (by decide) ?_|refine p_cond rfl ?_ ?_|refine p_op rfl ?_|refine d_op rfl rfl ?_|refine d_eff rfl ?_|refine p_opg rfl rfl rfl ?_ ?_|refine d_opg rfl rfl rfl rfl ?_ ?_|((first|refine p_opgU rfl rfl rfl ?_|refine d_opgU rfl rfl rfl rfl ?_);try simp only [put_some])|(refine fun (K1:St→Prop) hK1=>?_;simp (disch := omega) only [AB,AD,AZ,Nat.reduceEqDiff,↓reduceIte,Nat.reduceAdd,Nat.reduceMul,Nat.reducePow,Nat.reduceLeDiff,Nat.reduceLT];(try simp (disch := omega) only [AC]);(try simp only [AM]))|(refine hK1 _ ?_;clear hK1 K1)|refine And.intro (by omega) ?_|apply And.intro|(refine fun (hb:(_:Bool)=_)=>?_;(try simp only [HS] at hb);(try (change True at hb;clear hb));first|(exfalso;first|omega|contradiction)|(try simp only [put_some])))
   all_goals simp only [res1,res2,res3,AB,AD,AZ,Nat.reduceEqDiff,↓reduceIte,Nat.reduceAdd,Nat.reduceMul,Nat.reducePow,Nat.reduceLeDiff,Nat.reduceLT]
 · rw [if_neg hb0]
   cases hw : badW j c <;> rw [hw] at c1
   · rw [if_neg (by decide)]
     refine con_of2 mixed (fn := Tryz.f64) (rs := [.tmp 4]) Tryz.func64 (by kernel_rfl) rfl (by kernel_rfl) rfl rfl ?_
     simp only [argE, Nat.reduceAdd, cRss, vI, vB] at *
     (refine SZ ?_;intros;rename_i K1 hK1)
     (refine ⟨_,c1,hK1 _ ?_⟩;clear hK1 K1;try simp only [put_some,cN,vI,vB,cR])
     (refine SZ ?_;intros)
     refine p_loopx (fun (i : Nat) => [(25, .sh (vI i)), (24, .sh (vI j.length)), (23, .sh (cRss j))]) (fun i => []) (fun i => j.length - i) (fun i => i ≤ j.length ∧ ∀ k, k < i → (j.getD k []).all isRatB = true) 0 (Weak.list ⟨rfl, rfl, rfl, trivial⟩ trivial) ⟨Nat.zero_le _, fun k hk => by omega⟩ ?_
     rintro i ⟨hi, hI⟩
     have c2 := c2 i
     have fin : i = j.length → (if (List.range j.length).all (fun i => (j.getD i []).all isRatB) = true then (0 : Int) else 5) = 0 := fun e => if_pos (List.all_eq_true.2 fun k hk => hI k (by have := List.mem_range.1 hk; omega))
     have bad : i < j.length → (j.getD i []).all isRatB = false → (if (List.range j.length).all (fun i => (j.getD i []).all isRatB) = true then (0 : Int) else 5) = 5 := fun e hb => if_neg fun ha => by
       have := List.all_eq_true.1 ha i (List.mem_range.2 e)
       rw [hb] at this; cases this
     have step : (j.getD i []).all isRatB = true → ∀ k, k < i + 1 → (j.getD k []).all isRatB = true := fun e k hk => by
       rcases Nat.lt_or_ge k i with h1 | h1
       · exact hI k h1
       · rw [show k = i by omega]; exact e
     simp only [cRss, vI, vB] at *
     clear hI hl hf
     cases hr : (j.getD i []).all isRatB <;> rw [hr] at c2
     · (refine WZ ?_ ?_<;>intros<;>try rename_i K1 hK1)
       · (refine ⟨_,c2,hK1 _ ?_⟩;clear hK1 K1;try simp only [put_some,cN,vI,vB,cR])
         (refine SZ ?_;intros)
         rw [bad (by omega) hr]
         simp only [res1,res2,res3,AB,AD,AZ,Nat.reduceEqDiff,↓reduceIte,Nat.reduceAdd,Nat.reduceMul,Nat.reducePow,Nat.reduceLeDiff,Nat.reduceLT]
       · rw [fin (by omega)]
         simp only [res1,res2,res3,AB,AD,AZ,Nat.reduceEqDiff,↓reduceIte,Nat.reduceAdd,Nat.reduceMul,Nat.reducePow,Nat.reduceLeDiff,Nat.reduceLT]
     · (refine WZ ?_ ?_<;>intros<;>try rename_i K1 hK1)
       · (refine ⟨_,c2,hK1 _ ?_⟩;clear hK1 K1;try simp only [put_some,cN,vI,vB,cR])
         (refine SZ ?_;intros)
         exact p_lx _ _ _ _ (i + 1) (by omega) ⟨by omega, step hr⟩ (Weak.list ⟨int_eq (by omega), rfl, rfl, trivial⟩ trivial)
       · rw [fin (by omega)]
         simp only [res1,res2,res3,AB,AD,AZ,Nat.reduceEqDiff,↓reduceIte,Nat.reduceAdd,Nat.reduceMul,Nat.reducePow,Nat.reduceLeDiff,Nat.reduceLT]
   · rw [if_pos rfl]
     refine con_of2 mixed (fn := Tryz.f64) (rs := [.tmp 4]) Tryz.func64 (by kernel_rfl) rfl (by kernel_rfl) rfl rfl ?_
     simp only [argE, Nat.reduceAdd, cRss, vI, vB] at *
     (refine SZ ?_;intros;rename_i K1 hK1)
     (refine ⟨_,c1,hK1 _ ?_⟩;clear hK1 K1;try simp only [put_some,cN,vI,vB,cR])
     (refine SZ ?_;intros)
     simp only [res1,res2,res3,AB,AD,AZ,Nat.reduceEqDiff,↓reduceIte,Nat.reduceAdd,Nat.reduceMul,Nat.reducePow,Nat.reduceLeDiff,Nat.reduceLT]
end Go.Pw
set_option maxRecDepth 100000
set_option linter.unusedVariables false
set_option linter.unusedSimpArgs false
namespace Go.Pw
open Go Go.Proofs
theorem formE_zero {j : List (List Rt)} {c : Int} (h : formE j c = 0) : (0 ≤ c ∧ c ≤ 4096 ∧ j.length ≤ 4096) ∧ (∀ i, i < j.length → ((j.getD i []).length : Int) = c) ∧ ∀ i, i < j.length → ∀ k, k < (j.getD i []).length → isRat ((j.getD i []).getD k default) := by
 unfold formE at h
 split at h
 · cases h
 rename_i h1
 split at h
 · cases h
 rename_i h2
 split at h
 · rename_i h3
   refine ⟨by omega, fun i hi => ?_, fun i hi k hk => (isRatB_iff _).1 ((all_getD (d := default)).1 (List.all_eq_true.1 h3 i (List.mem_range.2 hi)) k hk)⟩
   have := List.any_eq_false.1 (Bool.not_eq_true _ ▸ h2) i (List.mem_range.2 hi)
   simpa using this
 · cases h
theorem con_76 (r : List Rt) (i : Nat) (h : r.length < 2 ^ 40) (hi : i < r.length) : Con E 76 [vI i, .ea [cRs r]] (.agg (cR (r.getD i default))) := by
 refine con_of2 mixed (fn := Tryz.f76) (rs := [.cell 3 80]) Tryz.func76 (by kernel_rfl) rfl (by kernel_rfl) rfl rfl ?_
 simp only [argE, Nat.reduceAdd, cRs, cR, vI, vB] at *
 (refine SZ ?_;intros)
 simp (disch := omega) only [resc1,resc2,rescc,rest1c,AB,AD,AZ,Nat.reduceEqDiff,↓reduceIte,Nat.reduceAdd,Nat.reduceMul,Nat.reducePow,Nat.reduceLeDiff,Nat.reduceLT]
 all_goals rfl
theorem con_77 (j : List (List Rt)) (i k : Nat) (h : j.length < 2 ^ 40) (hi : i < j.length) (hl : (j.getD i []).length < 2 ^ 40) (hk : k < (j.getD i []).length) : Con E 77 [vI i, .ea [cRss j], .ea [vI k]] (.agg (cR ((j.getD i []).getD k default))) := by
 refine con_of2 mixed (fn := Tryz.f77) (rs := [.cell 4 80]) Tryz.func77 (by kernel_rfl) rfl (by kernel_rfl) rfl rfl ?_
 simp only [argE, Nat.reduceAdd, cRss, cR, vI, vB] at *
 (refine SZ ?_;intros)
 simp (disch := omega) only [resc1,resc2,rescc,rest1c,AB,AD,AZ,Nat.reduceEqDiff,↓reduceIte,Nat.reduceAdd,Nat.reduceMul,Nat.reducePow,Nat.reduceLeDiff,Nat.reduceLT]
 all_goals rfl
end Go.Pw
set_option maxRecDepth 100000
set_option linter.unusedVariables false
set_option linter.unusedSimpArgs false
namespace Go.Pw
open Go Go.Proofs
def err2 (a b : Int) : Int := if a = 0 then b else a
end Go.Pw
set_option maxRecDepth 100000
set_option linter.unusedVariables false
set_option linter.unusedSimpArgs false
namespace Go.Pw
open Go Go.Proofs
def soc (f : Nat → PV) (n i : Nat) : List (List PV) := (List.range n).map fun t => [if t < i then f t else .val (.slice none 0 0)]
theorem soc_len (f : Nat → PV) (n i : Nat) : (soc f n i).length = n := by simp [soc]
theorem soc_get (f : Nat → PV) {n i t : Nat} (h : t < n) : (soc f n i)[t]? = some [if t < i then f t else .val (.slice none 0 0)] := by simp [soc, h]
theorem soc_SR (f : Nat → PV) {n i : Nat} (h : i < n) : (SR (soc f n i))[i]? = some [.sh (.val (.slice none 0 0))] := by
 rw [SR_get, soc_get f h, if_neg (by omega)]; rfl
theorem soc_set (f : Nat → PV) {n i : Nat} (h : i < n) : (soc f n i).set i [f i] = soc f n (i + 1) := by
 apply List.ext_getElem?
 intro t
 by_cases e : t = i
 · subst e
   rw [List.getElem?_set_self (by rw [soc_len]; exact h), soc_get f h, if_pos (by omega)]
 · rw [List.getElem?_set_ne (Ne.symm e)]
   by_cases ht : t < n
   · rw [soc_get f ht, soc_get f ht]
     by_cases h1 : t < i
     · rw [if_pos h1, if_pos (by omega)]
     · rw [if_neg h1, if_neg (by omega)]
   · rw [List.getElem?_eq_none (by rw [soc_len]; omega), List.getElem?_eq_none (by rw [soc_len]; omega)]
theorem soc_zero (f : Nat → PV) (n : Nat) : soc f n 0 = List.replicate n [.val (.slice none 0 0)] := by
 apply List.ext_getElem?
 intro t
 by_cases ht : t < n
 · rw [soc_get f ht, List.getElem?_replicate_of_lt ht]; rfl
 · rw [List.getElem?_eq_none (by rw [soc_len]; omega), List.getElem?_eq_none (by simp; omega)]
theorem soc_all (f : Nat → PV) (n : Nat) : soc f n n = (List.range n).map fun t => [f t] := by
 unfold soc
 apply List.map_congr_left
 intro t ht
 rw [if_pos (List.mem_range.1 ht)]
def sprow (a b : List (List Rt)) (i k : Nat) : List Rt := (List.range k).map fun k => fdot (fun t => (a.getD i []).getD t default) (fun t => (b.getD t []).getD k default) b.length
def sprod (a b : List (List Rt)) (m n : Nat) : List (List Rt) := (List.range n).map fun i => sprow a b i m
theorem con_Product (a b : List (List Rt)) (c : Int) (h1 : -9223372036854775808 ≤ c) (h2 : c ≤ 9223372036854775807) (h : a.length < 2 ^ 40) (hl : ∀ i, (a.getD i []).length < 2 ^ 40) (hf : ∀ i k, Fit ((a.getD i []).getD k default))
   (hb : b.length < 2 ^ 40) (hbl : ∀ i, (b.getD i []).length < 2 ^ 40) (hbf : ∀ i k, Fit ((b.getD i []).getD k default)) :
   Con E 35 [cRss a, cRss b, vI c] (.tup [cRss (if err2 (formE b c) (formE a b.length) = 0 then sprod a b c.toNat a.length else []), vI (err2 (formE b c) (formE a b.length))]) := by
 have c1 := con_sform b c h1 h2 hb hbl hbf
 have c2 := con_sform a b.length (by omega) (by omega) h hl hf
 unfold err2
 by_cases e1 : formE b c = 0
 rotate_left
 · rw [if_neg e1, if_neg e1]
   generalize formE b c = e at *
   refine con_of2 mixed (fn := Tryz.f35) (rs := [.tmp 6, .tmp 7]) Tryz.func35 (by kernel_rfl) rfl (by kernel_rfl) rfl rfl ?_
   simp only [argE, Nat.reduceAdd, cRss, vI, vB] at *
   (refine SY ?_;intros;rename_i K1 hK1)
   (refine ⟨_,c1,hK1 _ ?_⟩;clear hK1 K1;try simp only [put_some,cN,vI,vB,cR])
   (refine SY ?_;intros)
   simp only [res1,res2,res3,AB,AD,AZ,AY,Nat.reduceEqDiff,↓reduceIte,Nat.reduceAdd,Nat.reduceMul,Nat.reducePow,Nat.reduceLeDiff,Nat.reduceLT]
   all_goals rfl
 rw [if_pos e1]
 rw [e1] at c1
 by_cases e2 : formE a b.length = 0
 rotate_left
 · rw [if_neg e2]
   generalize formE a b.length = e at *
   refine con_of2 mixed (fn := Tryz.f35) (rs := [.tmp 6, .tmp 7]) Tryz.func35 (by kernel_rfl) rfl (by kernel_rfl) rfl rfl ?_
   simp only [argE, Nat.reduceAdd, cRss, vI, vB] at *
   (refine SY ?_;intros;rename_i K1 hK1)
   (refine ⟨_,c1,hK1 _ ?_⟩;clear hK1 K1;try simp only [put_some,cN,vI,vB,cR])
   (refine SY ?_;intros;rename_i K1 hK1)
   (refine ⟨_,c2,hK1 _ ?_⟩;clear hK1 K1;try simp only [put_some,cN,vI,vB,cR])
   (refine SY ?_;intros)
   simp only [res1,res2,res3,AB,AD,AZ,AY,Nat.reduceEqDiff,↓reduceIte,Nat.reduceAdd,Nat.reduceMul,Nat.reducePow,Nat.reduceLeDiff,Nat.reduceLT]
   all_goals rfl
 rw [if_pos e2, e2]
 rw [e2] at c2
 obtain ⟨⟨b0, b1, b2⟩, hrow, hjr⟩ := formE_zero e1
 obtain ⟨m, rfl⟩ : ∃ m : Nat, c = m := ⟨c.toNat, by omega⟩
 obtain ⟨⟨b3, b4, b5⟩, hrowa, hjra⟩ := formE_zero e2
 rw [show ((m : Int)).toNat = m from rfl]
 refine con_of2 mixed (fn := Tryz.f35) (rs := [.tmp 6, .tmp 7]) Tryz.func35 (by kernel_rfl) rfl (by kernel_rfl) rfl rfl ?_
 simp only [argE, Nat.reduceAdd, cRss, vI, vB] at *
 (refine SY ?_;intros;rename_i K1 hK1)
 (refine ⟨_,c1,hK1 _ ?_⟩;clear hK1 K1;try simp only [put_some,cN,vI,vB,cR])
 (refine SY ?_;intros;rename_i K1 hK1)
 (refine ⟨_,c2,hK1 _ ?_⟩;clear hK1 K1;try simp only [put_some,cN,vI,vB,cR])
 (refine SY ?_;intros)
 clear c1 c2 e1 e2
 refine p_loopx (fun (i : Nat) => [(30, .sh (vI i)), (29, .sh (vI a.length)), (28, .sh (cRss a)), (9, .row 27), (4, .sh (.ea [cRss b])), (2, .sh (vI m))]) (fun i => [(27, some (.rw 26 1 (SR (soc (fun t => cRs (sprow a b t m)) a.length i))))]) (fun i => a.length - i) (fun i => i ≤ a.length) 0 (Weak.freezeT 4 [cRss b] rfl Nat.one_pos (Weak.list ⟨rfl, rfl, rfl, rfl, rfl, rfl, trivial⟩ ⟨by rw [soc_zero]; simp only [AB,AD,AZ,AY,Nat.reduceEqDiff,↓reduceIte,Nat.reduceAdd,Nat.reduceMul,Nat.reducePow,Nat.reduceLeDiff,Nat.reduceLT], trivial⟩)) (Nat.zero_le _) ?_
 intro i hi
 have hlen := soc_len (fun t => cRs (sprow a b t m)) a.length i
 have ri : i < a.length → (a.getD i []).length = b.length := fun hb => by have := hrowa i hb; omega
 have hli := hl i
 simp only [cRss, vI] at *
 repeat'(with_reducible first|apply p_seq|apply p_sq|apply p_reg|apply p_nil|apply p_skip|apply p_block|apply p_bq|apply p_ret|apply p_exit|apply p_sq_ret|apply p_sq_exit|apply p_bq_ret|apply p_bq_this|apply p_lq_ret|apply p_lq_exit|apply d_nil|refine p_drw (by decide +kernel) ?_|refine f_op rfl rfl ?_|refine f_opg rfl rfl rfl rfl ?_ ?_|refine f_new rfl rfl rfl rfl ?_|(refine f_end (And.intro ?_ ?_)<;>simp only [List.foldl_nil,List.foldl_cons,recS_mk,AB,AD,AZ,AY,Nat.reduceEqDiff,↓reduceIte,Nat.reduceAdd,Nat.reduceMul,Nat.reducePow,Nat.reduceLeDiff,Nat.reduceLT])|apply k_nil|refine k_cons2 rfl rfl ?_ ?_|(refine fun (K1:SV→Prop) hK1=>?_;simp (disch := omega) only [AB,AD,AZ,AY,Nat.reduceEqDiff,↓reduceIte,Nat.reduceAdd,Nat.reduceMul,Nat.reducePow,Nat.reduceLeDiff,Nat.reduceLT];with_unfolding_all exact hK1)|(with_unfolding_all exact (rfl : true = true))|(with_unfolding_all exact (rfl : (0:Nat) = 0))|apply g_nil|refine g_op0 rfl ?_|refine g_opC rfl ?_|refine p_bq_other (by decide) ?_|refine p_cond rfl ?_ ?_|refine p_op rfl ?_|refine d_op rfl rfl ?_|refine d_eff rfl ?_|refine p_opg rfl rfl rfl ?_ ?_|refine d_opg rfl rfl rfl rfl ?_ ?_|((first|refine p_opgU rfl rfl rfl ?_|refine d_opgU rfl rfl rfl rfl ?_);try simp only [put_some])|(refine fun (K1:St→Prop) hK1=>?_;simp (disch := omega) only [AB,AD,AZ,AY,Nat.reduceEqDiff,↓reduceIte,Nat.reduceAdd,Nat.reduceMul,Nat.reducePow,Nat.reduceLeDiff,Nat.reduceLT];(try simp (disch := omega) only [AC]);(try simp only [AM]))|(refine hK1 _ ?_;clear hK1 K1)|refine And.intro (by omega) ?_|apply And.intro|(refine fun (hb:(_:Bool)=_)=>?_;(try simp only [HS] at hb);(try (change True at hb;clear hb));first|(exfalso;first|omega|contradiction)|(try simp only [put_some])))
 · refine p_loopx (fun (k : Nat) => [(36, .sh (vI k)), (35, .sh (vI m)), (11, .sh (.ea [cRs (a.getD i [])])), (10, .sh (vI i)), (30, .sh (vI i)), (29, .sh (vI a.length)), (28, .sh (cRss a)), (9, .row 27), (4, .sh (.ea [cRss b])), (2, .sh (vI m))]) (fun k => [(27, some (.rw 26 1 ((SR (soc (fun t => cRs (sprow a b t m)) a.length i)).set i [.row 900]))), (900, some (.rw 80 4 (SR ((sprow a b i k).map cR))))]) (fun k => m - k) (fun k => k ≤ m) 0
     (Weak.freezeT 11 [cRs (a.getD i [])] rfl Nat.one_pos (Weak.adoptRowT 900 27 i 80 4 (by decide) (by decide) (by decide) (eA := 26) (szA := 1) (rows := SR (soc (fun t => cRs (sprow a b t m)) a.length i)) (by simp only [AB,AD,AZ,AY,Nat.reduceEqDiff,↓reduceIte,Nat.reduceAdd,Nat.reduceMul,Nat.reducePow,Nat.reduceLeDiff,Nat.reduceLT]) (soc_SR _ (by omega)) (Weak.list ⟨rfl, rfl, rfl, rfl, rfl, rfl, rfl, rfl, rfl, rfl, trivial⟩ ⟨by simp only [AB,AD,AZ,AY,Nat.reduceEqDiff,↓reduceIte,Nat.reduceAdd,Nat.reduceMul,Nat.reducePow,Nat.reduceLeDiff,Nat.reduceLT], rfl, trivial⟩))) (Nat.zero_le _) ?_
   intro k hk
   have hlk : (sprow a b i k).length = k := by simp [sprow]
   simp only [cRss, vI] at *
   repeat'(with_reducible first|apply p_seq|apply p_sq|apply p_reg|apply p_nil|apply p_skip|apply p_block|apply p_bq|apply p_ret|apply p_exit|apply p_sq_ret|apply p_sq_exit|apply p_bq_ret|apply p_bq_this|apply p_lq_ret|apply p_lq_exit|apply d_nil|refine p_drw (by decide +kernel) ?_|refine f_op rfl rfl ?_|refine f_opg rfl rfl rfl rfl ?_ ?_|refine f_new rfl rfl rfl rfl ?_|(refine f_end (And.intro ?_ ?_)<;>simp only [List.foldl_nil,List.foldl_cons,recS_mk,AB,AD,AZ,AY,Nat.reduceEqDiff,↓reduceIte,Nat.reduceAdd,Nat.reduceMul,Nat.reducePow,Nat.reduceLeDiff,Nat.reduceLT])|apply k_nil|refine k_cons2 rfl rfl ?_ ?_|(refine fun (K1:SV→Prop) hK1=>?_;simp (disch := omega) only [AB,AD,AZ,AY,Nat.reduceEqDiff,↓reduceIte,Nat.reduceAdd,Nat.reduceMul,Nat.reducePow,Nat.reduceLeDiff,Nat.reduceLT];with_unfolding_all exact hK1)|(with_unfolding_all exact (rfl : true = true))|(with_unfolding_all exact (rfl : (0:Nat) = 0))|apply g_nil|refine g_op0 rfl ?_|refine g_opC rfl ?_|refine p_bq_other (by decide) ?_|refine p_cond rfl ?_ ?_|refine p_op rfl ?_|refine d_op rfl rfl ?_|refine d_eff rfl ?_|refine p_opg rfl rfl rfl ?_ ?_|refine d_opg rfl rfl rfl rfl ?_ ?_|((first|refine p_opgU rfl rfl rfl ?_|refine d_opgU rfl rfl rfl rfl ?_);try simp only [put_some])|(refine fun (K1:St→Prop) hK1=>?_;simp (disch := omega) only [AB,AD,AZ,AY,Nat.reduceEqDiff,↓reduceIte,Nat.reduceAdd,Nat.reduceMul,Nat.reducePow,Nat.reduceLeDiff,Nat.reduceLT];(try simp (disch := omega) only [AC]);(try simp only [AM]))|(refine hK1 _ ?_;clear hK1 K1)|refine And.intro (by omega) ?_|apply And.intro|(refine fun (hb:(_:Bool)=_)=>?_;(try simp only [HS] at hb);(try (change True at hb;clear hb));first|(exfalso;first|omega|contradiction)|(try simp only [put_some])))
   · refine p_wk (τ := mkS [(12, .sh (.ea [vI k])), (36, .sh (vI k)), (35, .sh (vI m)), (11, .sh (.ea [cRs (a.getD i [])])), (10, .sh (vI i)), (30, .sh (vI i)), (29, .sh (vI a.length)), (28, .sh (cRss a)), (9, .row 27), (4, .sh (.ea [cRss b])), (2, .sh (vI m))] [(27, some (.rw 26 1 ((SR (soc (fun t => cRs (sprow a b t m)) a.length i)).set i [.row 900]))), (900, some (.rw 80 4 (SR ((sprow a b i k).map cR))))])
       (Weak.freezeT 12 [vI k] rfl Nat.one_pos (Weak.list ⟨rfl, rfl, rfl, rfl, rfl, rfl, rfl, rfl, rfl, rfl, rfl, trivial⟩ ⟨by simp only [AB,AD,AZ,AY,Nat.reduceEqDiff,↓reduceIte,Nat.reduceAdd,Nat.reduceMul,Nat.reducePow,Nat.reduceLeDiff,Nat.reduceLT], by simp only [AB,AD,AZ,AY,Nat.reduceEqDiff,↓reduceIte,Nat.reduceAdd,Nat.reduceMul,Nat.reducePow,Nat.reduceLeDiff,Nat.reduceLT], trivial⟩)) ?_
     simp only [cRss, vI] at *
     have ri := ri (by omega)
     have cd := con_dot (fun t => (a.getD i []).getD t default) (fun t => (b.getD t []).getD k default) b.length 76 77 [.ea [cRs (a.getD i [])]] [.ea [cRss b], .ea [vI k]] (by omega) (fun t ht => hjra i (by omega) t (by omega)) (fun t ht => hjr t ht k (by have := hrow t ht; omega))
       (fun t ht => con_76 _ t hli (by omega)) (fun t ht => con_77 b t k (by omega) ht (hbl t) (by have := hrow t ht; omega))
     clear hrow hjr hrowa hjra hl hf hbl hbf
     simp only [cRss, vI] at *
     refine p_drw2 (12) [0, 1] [[0, 1], [], []] (by kernel_rfl) ?_
     (refine SY ?_;intros;first|rename_i hb K1 hK1|rename_i K1 hK1|skip)
     · (refine ⟨_,cd,hK1 _ ?_⟩;clear hK1 K1;try simp only [put_some,cN,vI,vB,cR])
       (refine SY ?_;intros)
       refine p_lx _ _ _ _ (k + 1) ?_ ?_ (Weak.list ⟨int_eq ?_, rfl, rfl, rfl, rfl, rfl, rfl, rfl, rfl, rfl, trivial⟩ ⟨?_, ?_, trivial⟩)
       · omega
       · omega
       · omega
       · simp only [AB,AD,AZ,AY,Nat.reduceEqDiff,↓reduceIte,Nat.reduceAdd,Nat.reduceMul,Nat.reducePow,Nat.reduceLeDiff,Nat.reduceLT]
       · rw [show (sprow a b i (k + 1)).map cR = (sprow a b i k).map cR ++ [cR (fdot (fun t => (a.getD i []).getD t default) (fun t => (b.getD t []).getD k default) b.length)] from mapr_succ _ _ k]
         simp only [AB,AD,AZ,AY,Nat.reduceEqDiff,↓reduceIte,Nat.reduceAdd,Nat.reduceMul,Nat.reducePow,Nat.reduceLeDiff,Nat.reduceLT]
         rfl
   · have e : k = m := by omega
     subst e
     refine p_lx _ _ _ _ (i + 1) ?_ ?_ (Weak.shareT 900 ((sprow a b i k).map cR) (ty := 80) (sz := 4) (by simp only [AB,AD,AZ,AY,Nat.reduceEqDiff,↓reduceIte,Nat.reduceAdd,Nat.reduceMul,Nat.reducePow,Nat.reduceLeDiff,Nat.reduceLT]) (Weak.list ⟨int_eq ?_, rfl, rfl, rfl, rfl, rfl, trivial⟩ ⟨?_, trivial⟩))
     · omega
     · omega
     · omega
     · simp only [AB,AD,AZ,AY,Nat.reduceEqDiff,↓reduceIte,Nat.reduceAdd,Nat.reduceMul,Nat.reducePow,Nat.reduceLeDiff,Nat.reduceLT]
       rw [← soc_set (fun t => cRs (sprow a b t k)) (by omega)]
       rfl
 · have e : i = a.length := by omega
   subst e
   rw [soc_all] at *
   simp (disch := omega) only [res1,res2,res3,AB,AD,AZ,AY,Nat.reduceEqDiff,↓reduceIte,Nat.reduceAdd,Nat.reduceMul,Nat.reducePow,Nat.reduceLeDiff,Nat.reduceLT]
   simp only [sprod, List.map_map]
   rfl
end Go.Pw
set_option maxRecDepth 100000
set_option linter.unusedVariables false
set_option linter.unusedSimpArgs false
namespace Go.Pw
open Go Go.Proofs
def cutN (room : Int) : Nat := (min 130 (max 2 (room.tdiv 2))).toNat
def cutR (x : Rt) (k : Nat) : Rt := ⟨x.fault, x.neg, x.num.take k, x.den.take k⟩
def cutUse (x : Rt) (k : Nat) : Int := ((x.num.take k).length : Int) + ((x.den.take k).length : Int)
theorem take_min {α : Type} (l : List α) (k : Nat) : List.take (min (l.length : Int) (k : Int)).toNat l = l.take k := by
 rw [show (min (l.length : Int) (k : Int)).toNat = min l.length k by omega]
 rcases Nat.le_total l.length k with h | h
 · rw [Nat.min_eq_left h, List.take_of_length_le (Nat.le_refl _), List.take_of_length_le h]
 · rw [Nat.min_eq_right h]
theorem con_CutRat (x : Rt) (room : Int) (h1 : -9223372036854775808 ≤ room) (h2 : room < 9223372036854775808) (h : x.num.length < 2 ^ 46) (h' : x.den.length < 2 ^ 46) :
   Con E 51 [.agg (cR x), vI room] (.tup [.agg (cR (cutR x (cutN room))), vI (cutUse x (cutN room))]) := by
 refine con_of2 mixed (fn := Tryz.f51) (rs := [.cell 4 80, .tmp 5]) Tryz.func51 (by kernel_rfl) rfl (by kernel_rfl) rfl rfl ?_
 simp only [argE, Nat.reduceAdd, cR, vI, vB]
 (refine SZ ?_;intros)
 have hw : IntKind.i64.wrap (room.tdiv 2) = room.tdiv 2 := w_i64 _ (by rw [Int.tdiv_eq_ediv, show Int.sign 2 = 1 from rfl]; split <;> omega) (by rw [Int.tdiv_eq_ediv, show Int.sign 2 = 1 from rfl]; split <;> omega)
 have hk : min 130 (max 2 (room.tdiv 2)) = ((cutN room : Nat) : Int) := by unfold cutN; omega
 have hk1 : cutN room ≤ 130 := by unfold cutN; omega
 rw [hw, hk]
 generalize cutN room = k at *
 clear hk hw
 have e1 : List.take (min (x.num.length : Int) (k : Int)).toNat x.num = x.num.take k := take_min _ _
 have e2 : List.take (min (x.den.length : Int) (k : Int)).toNat x.den = x.den.take k := take_min _ _
 refine p_drw2 (26) [] [[]] (by kernel_rfl) ?_
 (refine SZ ?_;intros)
 simp only [e1, e2]
 clear e1 e2
 have h3 : (x.num.take k).length ≤ 130 := by rw [List.length_take]; omega
 have h4 : (x.den.take k).length ≤ 130 := by rw [List.length_take]; omega
 unfold cutUse cutR
 generalize x.num.take k = p at *
 generalize x.den.take k = q at *
 refine p_drw2 (8) [1,2,3,4,5,6,7] [[1,2,3,4,5,6,7], []] (by kernel_rfl) ?_
 (refine SZ ?_;intros)
 simp (disch := omega) only [resc1,resc2,rescc,rest1c,AB,AD,AZ,Nat.reduceEqDiff,↓reduceIte,Nat.reduceAdd,Nat.reduceMul,Nat.reducePow,Nat.reduceLeDiff,Nat.reduceLT]
 all_goals rfl
end Go.Pw
set_option maxRecDepth 100000
set_option linter.unusedVariables false
set_option linter.unusedSimpArgs false
namespace Go.Pw
open Go Go.Proofs
def cutD (l : List Rt) (d : Int) : Nat → Int
 | 0 => d
 | i + 1 => cutD l d i - cutUse (l.getD i default) (cutN (cutD l d i))
def cutRs (l : List Rt) (d : Int) (n : Nat) : List Rt := (List.range n).map fun i => cutR (l.getD i default) (cutN (cutD l d i))
theorem cutN_le (d : Int) : cutN d ≤ 130 := by unfold cutN; omega
theorem cutUse_le (x : Rt) (k : Nat) (hk : k ≤ 130) : 0 ≤ cutUse x k ∧ cutUse x k ≤ 260 := by
 unfold cutUse
 simp only [List.length_take]
 omega
theorem cutD_le (l : List Rt) (d : Int) : ∀ i, cutD l d i ≤ d ∧ d - 260 * i ≤ cutD l d i
 | 0 => by simp [cutD]
 | i + 1 => by
   have h1 := cutD_le l d i
   have h2 := cutUse_le (l.getD i default) _ (cutN_le (cutD l d i))
   simp only [cutD]
   omega
theorem con_CutRats (l : List Rt) (most : Nat) (d : Int) (hm : most < 2 ^ 30) (hd : -1000000 ≤ d) (hd' : d ≤ 1000000) (h : l.length < 2 ^ 46) (hn : ∀ i, (l.getD i default).num.length < 2 ^ 46) (hdn : ∀ i, (l.getD i default).den.length < 2 ^ 46) :
   Con E 14 [cRs l, vI most, vI d] (cRs (cutRs l d (min l.length most))) := by
 refine con_of2 mixed (fn := Tryz.f14) (rs := [.tmp 6]) Tryz.func14 (by kernel_rfl) rfl (by kernel_rfl) rfl rfl ?_
 simp only [argE, Nat.reduceAdd, cRs, vI, vB]
 (refine SZ ?_;intros)
 refine p_loopx (fun (i : Nat) => [(8, .sh (vI i)), (0, .sh (cRs l)), (1, .sh (vI most)), (2, .sh (vI (cutD l d i))), (7, .row 37)]) (fun i => [(37, some (.rw 80 4 (SR ((cutRs l d i).map cR))))]) (fun i => l.length - i) (fun i => i ≤ min l.length most) 0 (Weak.adoptS 37 7 80 4 (by decide) (by decide) rfl ⟨rfl, rfl, rfl, rfl, rfl, trivial⟩ ⟨rfl, trivial⟩) (Nat.zero_le _) ?_
 intro i hi
 simp only [cRs, vI] at *
 have hc := cutD_le l d i
 have hu := cutUse_le (l.getD i default) _ (cutN_le (cutD l d i))
 have c1 := con_CutRat (l.getD i default) (cutD l d i) (by omega) (by omega) (hn i) (hdn i)
 simp only [cR, vI] at c1
 have hlen : (cutRs l d i).length = i := by simp [cutRs]
 repeat'(with_reducible first|apply p_seq|apply p_sq|apply p_reg|apply p_nil|apply p_skip|apply p_block|apply p_bq|apply p_ret|apply p_exit|apply p_sq_ret|apply p_sq_exit|apply p_bq_ret|apply p_bq_this|apply p_lq_ret|apply p_lq_exit|apply d_nil|refine p_drw (by decide +kernel) ?_|refine f_op rfl rfl ?_|refine f_opg rfl rfl rfl rfl ?_ ?_|refine f_new rfl rfl rfl rfl ?_|(refine f_end (And.intro ?_ ?_)<;>simp only [List.foldl_nil,List.foldl_cons,recS_mk,AB,AD,AZ,Nat.reduceEqDiff,↓reduceIte,Nat.reduceAdd,Nat.reduceMul,Nat.reducePow,Nat.reduceLeDiff,Nat.reduceLT])|apply k_nil|refine k_cons2 rfl rfl ?_ ?_|(refine fun (K1:SV→Prop) hK1=>?_;simp (disch := omega) only [AB,AD,AZ,Nat.reduceEqDiff,↓reduceIte,Nat.reduceAdd,Nat.reduceMul,Nat.reducePow,Nat.reduceLeDiff,Nat.reduceLT];with_unfolding_all exact hK1)|(with_unfolding_all exact (rfl : true = true))|(with_unfolding_all exact (rfl : (0:Nat) = 0))|apply g_nil|refine g_op0 rfl ?_|refine g_opC rfl ?_|refine p_bq_other (by decide) ?_|refine p_cond rfl ?_ ?_|refine p_op rfl ?_|refine d_op rfl rfl ?_|refine d_eff rfl ?_|refine p_opg rfl rfl rfl ?_ ?_|refine d_opg rfl rfl rfl rfl ?_ ?_|((first|refine p_opgU rfl rfl rfl ?_|refine d_opgU rfl rfl rfl rfl ?_);try simp only [put_some])|(refine fun (K1:St→Prop) hK1=>?_;simp (disch := omega) only [AB,AD,AZ,Nat.reduceEqDiff,↓reduceIte,Nat.reduceAdd,Nat.reduceMul,Nat.reducePow,Nat.reduceLeDiff,Nat.reduceLT];(try simp (disch := omega) only [AC]);(try simp only [AM]))|(refine hK1 _ ?_;clear hK1 K1)|refine And.intro (by omega) ?_|apply And.intro|(refine fun (hb:(_:Bool)=_)=>?_;(try simp only [HS] at hb);(try (change True at hb;clear hb));first|(exfalso;first|omega|contradiction)|(try simp only [put_some])))
 · (refine ⟨_,c1,hK1 _ ?_⟩;clear hK1 K1;try simp only [put_some,cN,vI,vB,cR])
   (refine SZ ?_;intros)
   refine p_lx _ _ _ _ (i + 1) ?_ ?_ (Weak.list ⟨int_eq ?_, rfl, rfl, rfl, rfl, trivial⟩ ⟨?_, trivial⟩)
   · omega
   · omega
   · omega
   · rw [show (cutRs l d (i + 1)).map cR = (cutRs l d i).map cR ++ [cR (cutR (l.getD i default) (cutN (cutD l d i)))] from mapr_succ _ _ i]
     rfl
 · have e : min l.length most = i := by omega
   rw [e]
   simp (disch := omega) only [res1,res2,res3,AB,AD,AZ,Nat.reduceEqDiff,↓reduceIte,Nat.reduceAdd,Nat.reduceMul,Nat.reducePow,Nat.reduceLeDiff,Nat.reduceLT]
 · have e : min l.length most = i := by omega
   rw [e]
   simp (disch := omega) only [res1,res2,res3,AB,AD,AZ,Nat.reduceEqDiff,↓reduceIte,Nat.reduceAdd,Nat.reduceMul,Nat.reducePow,Nat.reduceLeDiff,Nat.reduceLT]
end Go.Pw
set_option maxRecDepth 100000
set_option linter.unusedVariables false
set_option linter.unusedSimpArgs false
namespace Go.Pw
open Go Go.Proofs
structure MFit (j : List (List Rt)) : Prop where
 l : j.length < 2 ^ 46
 r : ∀ i, (j.getD i []).length < 2 ^ 46
 n : ∀ i k, ((j.getD i []).getD k default).num.length < 2 ^ 46
 d : ∀ i k, ((j.getD i []).getD k default).den.length < 2 ^ 46
def cutM (j : List (List Rt)) (c n : Nat) : List (List Rt) := (List.range n).map fun i => cutRs (j.getD i []) 60 (min (j.getD i []).length c)
theorem con_CutMatrix (j : List (List Rt)) (rows c : Nat) (hr : rows < 2 ^ 20) (hc : c < 2 ^ 20) (h : MFit j) : Con E 74 [cRss j, vI rows, vI c] (cRss (cutM j c (min j.length rows))) := by
 refine con_of2 mixed (fn := Tryz.f74) (rs := [.tmp 6]) Tryz.func74 (by kernel_rfl) rfl (by kernel_rfl) rfl rfl ?_
 simp only [argE, Nat.reduceAdd, cRss, vI, vB]
 have hl := h.l
 (refine SZ ?_;intros)
 refine p_loopx (fun (i : Nat) => [(8, .sh (vI i)), (0, .sh (cRss j)), (1, .sh (vI rows)), (2, .sh (vI c)), (7, .row 28)]) (fun i => [(28, some (.rw 26 1 (SR ((cutM j c i).map fun r => [cRs r]))))]) (fun i => j.length - i) (fun i => i ≤ min j.length rows) 0 (Weak.adoptS 28 7 26 1 (by decide) (by decide) rfl ⟨rfl, rfl, rfl, rfl, rfl, trivial⟩ ⟨rfl, trivial⟩) (Nat.zero_le _) ?_
 intro i hi
 simp only [cRss, vI] at *
 have c1 := con_CutRats (j.getD i []) c 60 (by omega) (by omega) (by omega) (h.r i) (h.n i) (h.d i)
 simp only [vI] at c1
 have hlen : (cutM j c i).length = i := by simp [cutM]
 repeat'(with_reducible first|apply p_seq|apply p_sq|apply p_reg|apply p_nil|apply p_skip|apply p_block|apply p_bq|apply p_ret|apply p_exit|apply p_sq_ret|apply p_sq_exit|apply p_bq_ret|apply p_bq_this|apply p_lq_ret|apply p_lq_exit|apply d_nil|refine p_drw (by decide +kernel) ?_|refine f_op rfl rfl ?_|refine f_opg rfl rfl rfl rfl ?_ ?_|refine f_new rfl rfl rfl rfl ?_|(refine f_end (And.intro ?_ ?_)<;>simp only [List.foldl_nil,List.foldl_cons,recS_mk,AB,AD,AZ,Nat.reduceEqDiff,↓reduceIte,Nat.reduceAdd,Nat.reduceMul,Nat.reducePow,Nat.reduceLeDiff,Nat.reduceLT])|apply k_nil|refine k_cons2 rfl rfl ?_ ?_|(refine fun (K1:SV→Prop) hK1=>?_;simp (disch := omega) only [AB,AD,AZ,Nat.reduceEqDiff,↓reduceIte,Nat.reduceAdd,Nat.reduceMul,Nat.reducePow,Nat.reduceLeDiff,Nat.reduceLT];with_unfolding_all exact hK1)|(with_unfolding_all exact (rfl : true = true))|(with_unfolding_all exact (rfl : (0:Nat) = 0))|apply g_nil|refine g_op0 rfl ?_|refine g_opC rfl ?_|refine p_bq_other (by decide) ?_|refine p_cond rfl ?_ ?_|refine p_op rfl ?_|refine d_op rfl rfl ?_|refine d_eff rfl ?_|refine p_opg rfl rfl rfl ?_ ?_|refine d_opg rfl rfl rfl rfl ?_ ?_|((first|refine p_opgU rfl rfl rfl ?_|refine d_opgU rfl rfl rfl rfl ?_);try simp only [put_some])|(refine fun (K1:St→Prop) hK1=>?_;simp (disch := omega) only [AB,AD,AZ,Nat.reduceEqDiff,↓reduceIte,Nat.reduceAdd,Nat.reduceMul,Nat.reducePow,Nat.reduceLeDiff,Nat.reduceLT];(try simp (disch := omega) only [AC]);(try simp only [AM]))|(refine hK1 _ ?_;clear hK1 K1)|refine And.intro (by omega) ?_|apply And.intro|(refine fun (hb:(_:Bool)=_)=>?_;(try simp only [HS] at hb);(try (change True at hb;clear hb));first|(exfalso;first|omega|contradiction)|(try simp only [put_some])))
 all_goals first | exact Nat.le_refl 4 | exact (rfl : true = true) | skip
 · (refine ⟨_,c1,hK1 _ ?_⟩;clear hK1 K1;try simp only [put_some,cN,vI,vB,cR])
   (refine SZ ?_;intros)
   refine p_lx _ _ _ _ (i + 1) ?_ ?_ (Weak.list ⟨int_eq ?_, rfl, rfl, rfl, rfl, trivial⟩ ⟨?_, trivial⟩)
   · omega
   · omega
   · omega
   · rw [show (cutM j c (i + 1)).map (fun r => [cRs r]) = (cutM j c i).map (fun r => [cRs r]) ++ [[cRs (cutRs (j.getD i []) 60 (min (j.getD i []).length c))]] from mapr_succ _ _ i]
     rfl
 · have e : min j.length rows = i := by omega
   rw [e]
   simp (disch := omega) only [res1,res2,res3,AB,AD,AZ,Nat.reduceEqDiff,↓reduceIte,Nat.reduceAdd,Nat.reduceMul,Nat.reducePow,Nat.reduceLeDiff,Nat.reduceLT]
 · have e : min j.length rows = i := by omega
   rw [e]
   simp (disch := omega) only [res1,res2,res3,AB,AD,AZ,Nat.reduceEqDiff,↓reduceIte,Nat.reduceAdd,Nat.reduceMul,Nat.reducePow,Nat.reduceLeDiff,Nat.reduceLT]
theorem con_matrix (j : List (List Rt)) (h : MFit j) : Con E 34 [cRss j] (cRss (cutM j 14 (min j.length 12))) := by
 have c1 := con_CutMatrix j 12 14 (by decide) (by decide) h
 refine con_of2 mixed (fn := Tryz.f34) (rs := [.tmp 2]) Tryz.func34 (by kernel_rfl) rfl (by kernel_rfl) rfl rfl ?_
 simp only [argE, Nat.reduceAdd, cRss, vI, vB] at *
 (refine SZ ?_;intros;rename_i K1 hK1)
 (refine ⟨_,c1,hK1 _ ?_⟩;clear hK1 K1;try simp only [put_some,cN,vI,vB,cR])
 (refine SZ ?_;intros)
 simp only [res1,res2,res3,AB,AD,AZ,Nat.reduceEqDiff,↓reduceIte,Nat.reduceAdd,Nat.reduceMul,Nat.reducePow,Nat.reduceLeDiff,Nat.reduceLT]
end Go.Pw
