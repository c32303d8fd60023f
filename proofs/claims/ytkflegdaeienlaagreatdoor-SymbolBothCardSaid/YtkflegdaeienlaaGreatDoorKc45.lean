/- Merged from the working texts PzB PzC. -/
import Derived.Test.YtkflegdaeienlaaGreatDoorKc44
import Derived.Test.YtkflegdaeienlaaGreatDoorKc35
import Derived.Test.YtkflegdaeienlaaGreatDoorKc24
set_option linter.all false
set_option maxHeartbeats 400000
set_option maxRecDepth 100000
set_option linter.unusedVariables false
namespace Go.Pw
open Go Go.Proofs
theorem formE_ok {j : List (List Rt)} {c : Nat} (hc : c ≤ 4096) (hn : j.length ≤ 4096) (hl : ∀ i, i < j.length → (j.getD i []).length = c) (hr : ∀ i, i < j.length → ∀ k, k < c → isRat ((j.getD i []).getD k default)) : formE j c = 0 := by
 unfold formE
 rw [if_neg (by omega), if_neg, if_pos]
 · rw [List.all_eq_true]
   intro i hi
   have hi := List.mem_range.1 hi
   refine (all_getD (d := default)).2 fun k hk => ?_
   exact (isRatB_iff _).2 (hr i hi k (by rw [hl i hi] at hk; exact hk))
 · unfold badW
   rw [List.any_eq_true]
   rintro ⟨i, hi, h⟩
   have hi := List.mem_range.1 hi
   have := of_decide_eq_true h
   rw [hl i hi] at this
   exact this rfl
theorem givenE_ok {l : List Rt} {n : Nat} (hn : l.length = n) (hr : ∀ i, i < n → isRat (l.getD i default)) : givenE n l true = 0 := by
 unfold givenE
 rw [if_neg (by omega), if_pos]
 refine (all_getD (d := default)).2 fun k hk => ?_
 unfold okX
 rw [(isRatB_iff _).2 (hr k (by omega))]
 rfl
theorem lft_comm (a b : Int) : lft a b = lft b a := by
 unfold lft
 split <;> split <;> omega
theorem bne_comm' (a b : Bool) : (a != b) = (b != a) := by cases a <;> cases b <;> rfl
theorem rmul_comm (a b : Rt) : rmul a b = rmul b a := by
 unfold rmul
 rw [lft_comm, bne_comm', Nat.mul_comm, Nat.mul_comm (val a.den)]
theorem fdot_comm (A B : Nat → Rt) (n : Nat) : fdot A B n = fdot B A n := by
 unfold fdot
 congr 1
 funext s i
 rw [rmul_comm]
theorem fdot_congr {A B A' B' : Nat → Rt} {n : Nat} (h : ∀ i, i < n → A i = A' i) (h' : ∀ i, i < n → B i = B' i) : fdot A B n = fdot A' B' n := by
 induction n with
 | zero => rfl
 | succ n ih => rw [fdot_succ, fdot_succ, ih (fun i hi => h i (by omega)) (fun i hi => h' i (by omega)), h n (by omega), h' n (by omega)]
def bothJ (J : List (List Rt)) (n m : Nat) : List (List Rt) := (List.range n).map fun i => numL (J.getD i []) m
theorem numL_len (l : List Rt) (n : Nat) : (numL l n).length = n := by simp [numL]
theorem numL_get (l : List Rt) (n i : Nat) : (numL l n).getD i default = if i < n then numI l i else default := getD_rmap ..
theorem bothJ_len (J : List (List Rt)) (n m : Nat) : (bothJ J n m).length = n := by simp [bothJ]
theorem bothJ_row (J : List (List Rt)) (n m i : Nat) : (bothJ J n m).getD i [] = if i < n then numL (J.getD i []) m else [] := getD_rmap ..
structure Both (j : List (List Rt)) (d w a b x : List Rt) (t k : List (List Rt)) (n m : Nat) : Prop where
 along : Con E 38 [cRss j, vI m, cRs d] (.tup [cRs a, vI 0])
 back : Con E 39 [cRss j, vI m, cRs w] (.tup [cRs b, vI 0])
 turned : Con E 27 [cRss j, vI m] (.tup [cRss t, vI 0])
 left : Con E 38 [cRss [w], vI n, cRs a] (.tup [cRs x, vI 0])
 right : Con E 38 [cRss [d], vI m, cRs b] (.tup [cRs x, vI 0])
 col : Con E 38 [cRss t, vI n, cRs w] (.tup [cRs b, vI 0])
 again : Con E 27 [cRss t, vI n] (.tup [cRss k, vI 0])
 prod : Con E 35 [cRss [w], cRss j, vI m] (.tup [cRss [b], vI 0])
 eb : Con E 42 [cRs b, cRs b] (vB true)
 ex : Con E 42 [cRs x, cRs x] (vB true)
 same : m ≠ 0 → Con E 21 [cRss k, cRss j] (vB true)
 la : a.length = n
 lb : b.length = m
 lt : t.length = m
theorem both_of (j : List (List Rt)) (d w : List Rt) (n m : Nat) (hn : n ≤ 9) (hm : m ≤ 9) (hl : j.length = n) (hrow : ∀ i, i < n → (j.getD i []).length = m) (ld : d.length = m) (lw : w.length = n)
   (hj : ∀ i, i < n → ∀ k, k < m → isRat ((j.getD i []).getD k default) ∧ Nice 2520 123480 ((j.getD i []).getD k default)) (hd : ∀ k, k < m → isRat (d.getD k default) ∧ Nice 2520 123480 (d.getD k default)) (hw : ∀ i, i < n → isRat (w.getD i default) ∧ Nice 2520 123480 (w.getD i default)) :
   ∃ a b x t k, Both j d w a b x t k n m := by
 subst hl
 have rowle : ∀ i, (j.getD i []).length ≤ 9 := fun i => by
   by_cases h : i < j.length
   · rw [hrow i h]; exact hm
   · rw [List.getD_eq_getElem?_getD, List.getElem?_eq_none (by omega)]; exact Nat.zero_le _
 have fitl : ∀ (l : List Rt) (q : Nat), l.length = q → (∀ i, i < q → isRat (l.getD i default)) → ∀ i, Fit (l.getD i default) := fun l q e h i => by
   by_cases hi : i < q
   · exact fit_of (h i hi)
   · rw [List.getD_eq_getElem?_getD, List.getElem?_eq_none (by omega)]; exact fit_default
 have fj : ∀ i k, Fit ((j.getD i []).getD k default) := fun i k => by
   by_cases h : i < j.length
   · exact fitl _ m (hrow i h) (fun k hk => (hj i h k hk).1) k
   · have e : j.getD i [] = [] := by rw [List.getD_eq_getElem?_getD, List.getElem?_eq_none (by omega)]; rfl
     rw [e]; exact fit_default
 have fd := fitl d m ld fun k hk => (hd k hk).1
 have fw := fitl w _ lw fun k hk => (hw k hk).1
 have e1 : formE j m = 0 := formE_ok (by omega) (by omega) hrow fun i hi k hk => (hj i hi k hk).1
 have e2 : givenE m d true = 0 := givenE_ok ld fun k hk => (hd k hk).1
 have e3 : givenE j.length w true = 0 := givenE_ok lw fun k hk => (hw k hk).1
 have ca := con_Along j m d (by omega) (by omega) (by omega) (fun i => by have := rowle i; omega) fj (by omega) fd
 rw [show err2 (formE j m) (givenE m d true) = 0 by rw [e1, e2]; rfl, if_pos rfl, show ((m : Int)).toNat = m from rfl] at ca
 have cb := con_Back j m w (by omega) (by omega) (by omega) (fun i => by have := rowle i; omega) fj (by omega) fw
 rw [show err2 (formE j m) (givenE j.length w true) = 0 by rw [e1, e3]; rfl, if_pos rfl, show ((m : Int)).toNat = m from rfl] at cb
 have ct := con_Turned j m (by omega) (by omega) (by omega) (fun i => by have := rowle i; omega) fj
 rw [if_pos e1, e1, show ((m : Int)).toNat = m from rfl] at ct
 have la : (salong j d m j.length).length = j.length := by simp [salong]
 have lb : (sback j w m).length = m := by simp [sback]
 have lt : (sturned j m).length = m := by simp [sturned]
 have ra : ∀ i, i < j.length → isRat ((salong j d m j.length).getD i default) := fun i hi => by
   unfold salong
   rw [getD_rmap, if_pos hi]
   exact isRat_fdot (fun k hk => (hj i hi k hk).1) (fun k hk => (hd k hk).1)
 have rb : ∀ k, k < m → isRat ((sback j w m).getD k default) := fun k hk => by
   unfold sback
   rw [getD_rmap, if_pos hk]
   exact isRat_fdot (fun i hi => (hj i hi k hk).1) (fun i hi => (hw i hi).1)
 have fa := fitl _ _ la ra
 have fb := fitl _ _ lb rb
 have one : ∀ (l : List Rt) (q : Nat), q ≤ 9 → l.length = q → (∀ k, k < q → isRat (l.getD k default)) → formE [l] q = 0 := fun l q hq e h => formE_ok (by omega) (by simp) (fun i hi => by
     have : i = 0 := by simpa using hi
     subst this; exact e) (fun i hi k hk => by
     have : i = 0 := by simpa using hi
     subst this; exact h k hk)
 have onel : ∀ (l : List Rt) (i : Nat), l.length ≤ 9 → (([l] : List (List Rt)).getD i []).length < 2 ^ 40 := fun l i h => by
   match i with
   | 0 => show l.length < _; omega
   | i + 1 => show (0 : Nat) < _; decide
 have onef : ∀ (l : List Rt), (∀ i, Fit (l.getD i default)) → ∀ i k, Fit ((([l] : List (List Rt)).getD i []).getD k default) := fun l h i k => by
   match i with
   | 0 => exact h k
   | i + 1 => exact fit_default
 have gx : givenE j.length (salong j d m j.length) true = 0 := givenE_ok la ra
 have gy : givenE m (sback j w m) true = 0 := givenE_ok lb rb
 have cl := con_Along [w] j.length (salong j d m j.length) (by omega) (by omega) (by simp) (fun i => onel w i (by omega)) (onef w fw) (by omega) fa
 rw [show err2 (formE [w] j.length) (givenE j.length (salong j d m j.length) true) = 0 by rw [one w _ hn lw fun k hk => (hw k hk).1, gx]; rfl, if_pos rfl, show ((j.length : Int)).toNat = j.length from rfl] at cl
 have cr := con_Along [d] m (sback j w m) (by omega) (by omega) (by simp) (fun i => onel d i (by omega)) (onef d fd) (by omega) fb
 rw [show err2 (formE [d] m) (givenE m (sback j w m) true) = 0 by rw [one d _ hm ld fun k hk => (hd k hk).1, gy]; rfl, if_pos rfl, show ((m : Int)).toNat = m from rfl] at cr
 have hx : salong [d] (sback j w m) m [d].length = salong [w] (salong j d m j.length) j.length [w].length := by
   have h := both_sums j d w j.length m hn hm rfl (fun i hi k hk => (hj i hi k hk).2) (fun k hk => (hd k hk).2) (fun i hi => (hw i hi).2)
   show [fdot (fun k => d.getD k default) (fun k => (sback j w m).getD k default) m] = [fdot (fun i => w.getD i default) (fun i => (salong j d m j.length).getD i default) j.length]
   rw [h]
 rw [hx] at cr
 have tr : ∀ k, k < m → (sturned j m).getD k [] = tcl j k j.length := fun k hk => by unfold sturned; rw [getD_rmap, if_pos hk]
 have tg : ∀ k i, k < m → i < j.length → ((sturned j m).getD k []).getD i default = (j.getD i []).getD k default := fun k i hk hi => by
   rw [tr k hk]; unfold tcl; rw [getD_rmap, if_pos hi]
 have tl : ∀ k, k < m → ((sturned j m).getD k []).length = j.length := fun k hk => by rw [tr k hk]; simp [tcl]
 have ft : ∀ i k, Fit (((sturned j m).getD i []).getD k default) := fun i k => by
   unfold sturned; rw [getD_rmap]
   split
   · unfold tcl; rw [getD_rmap]
     split
     · exact fj k i
     · exact fit_default
   · exact fit_default
 have tll : ∀ i, ((sturned j m).getD i []).length < 2 ^ 40 := fun i => by
   by_cases h : i < m
   · rw [tl i h]; omega
   · rw [List.getD_eq_getElem?_getD, List.getElem?_eq_none (by omega)]; show (0 : Nat) < _; decide
 have e4 : formE (sturned j m) j.length = 0 := formE_ok (by omega) (by omega) (fun k hk => tl k (by omega)) fun k hk i hi => by
   rw [tg k i (by omega) hi]; exact (hj i hi k (by omega)).1
 have cc := con_Along (sturned j m) j.length w (by omega) (by omega) (by omega) tll ft (by omega) fw
 rw [show err2 (formE (sturned j m) j.length) (givenE j.length w true) = 0 by rw [e4, e3]; rfl, if_pos rfl, show ((j.length : Int)).toNat = j.length from rfl] at cc
 have hc : salong (sturned j m) w j.length (sturned j m).length = sback j w m := by
   rw [lt]
   unfold salong sback
   apply List.map_congr_left
   intro k hk
   have hk := List.mem_range.1 hk
   exact fdot_congr (fun i hi => tg k i hk hi) (fun i hi => rfl)
 rw [hc] at cc
 have ck := con_Turned (sturned j m) j.length (by omega) (by omega) (by omega) tll ft
 rw [if_pos e4, e4, show ((j.length : Int)).toNat = j.length from rfl] at ck
 have cp := con_Product [w] j m (by omega) (by omega) (by simp) (fun i => onel w i (by omega)) (onef w fw) (by omega) (fun i => by have := rowle i; omega) fj
 rw [show err2 (formE j m) (formE [w] j.length) = 0 by rw [e1, one w _ hn lw fun k hk => (hw k hk).1]; rfl, if_pos rfl, show ((m : Int)).toNat = m from rfl] at cp
 have hp : sprod [w] j m [w].length = [sback j w m] := by
   show [sprow [w] j 0 m] = _
   congr 1
   unfold sprow sback
   apply List.map_congr_left
   intro k _
   exact fdot_comm _ _ _
 rw [hp] at cp
 have nb := con_Numbers (sback j w m) (sback j w m) (by omega) (by omega) fb fb
 rw [numsB_self] at nb
 have rx : ∀ i, Fit ((salong [w] (salong j d m j.length) j.length [w].length).getD i default) := fitl _ 1 (by simp [salong]) fun i hi => by
   unfold salong
   rw [getD_rmap, if_pos (by simpa using hi)]
   have : i = 0 := by omega
   subst this
   exact isRat_fdot (fun k hk => (hw k hk).1) ra
 have nx := con_Numbers (salong [w] (salong j d m j.length) j.length [w].length) (salong [w] (salong j d m j.length) j.length [w].length) (by simp [salong]) (by simp [salong]) rx rx
 rw [numsB_self] at nx
 refine ⟨_, _, _, _, _, ⟨ca, cb, ct, cl, cr, cc, ck, cp, nb, nx, fun hm0 => ?_, la, lb, lt⟩⟩
 have hk : sturned (sturned j m) j.length = j := by
   apply List.ext_getElem
   · simp [sturned]
   intro i h1 h2
   have e : sturned (sturned j m) j.length = (List.range j.length).map fun k => tcl (sturned j m) k (sturned j m).length := rfl
   have g : ∀ (l : List (List Rt)) (h : i < l.length), l[i] = l.getD i [] := fun l h => by rw [List.getD_eq_getElem?_getD, List.getElem?_eq_getElem h]; rfl
   rw [g _ h1, g _ h2, e, getD_rmap, if_pos h2, lt]
   apply List.ext_getElem
   · rw [hrow i h2]; simp [tcl]
   intro k h3 h4
   have g' : ∀ (l : List Rt) (h : k < l.length), l[k] = l.getD k default := fun l h => by rw [List.getD_eq_getElem?_getD, List.getElem?_eq_getElem h]; rfl
   have hkm : k < m := by rw [hrow i h2] at h4; exact h4
   rw [g' _ h3, g' _ h4]
   unfold tcl
   rw [getD_rmap, if_pos hkm, tg k i hkm h2]
 rw [hk]
 have cs := con_rSame j j (by omega) (by omega) (fun i => by have := rowle i; omega) (fun i => by have := rowle i; omega) fj fj
 rw [show (decide (j.length = j.length) && (List.range j.length).all fun i => numsB (j.getD i []) (j.getD i [])) = true by simp [numsB_self]] at cs
 exact cs
end Go.Pw
set_option maxRecDepth 100000
set_option linter.unusedVariables false
set_option linter.unusedSimpArgs false
namespace Go.Pw
open Go Go.Proofs
set_option maxHeartbeats 4000000 in
theorem law_both (hal : Con E 17 [] (vB true)) (J : List (List Rt)) (r c : Nat) (hr : r < 256) (hc : c < 256) (D W : List Rt) (hJ : MOk J) (hD : LOk D) (hW : LOk W) : Con E 10 [cRss J, .val (.int .u8 r), .val (.int .u8 c), cRs D, cRs W] (vB true) := by
 have hn : r % 10 ≤ 9 := by omega
 have hm : c % 10 ≤ 9 := by omega
 have cn := fun i => con_numbers (J.getD i []) (c % 10) (by omega) (hJ.r i) (hJ.x i)
 have cd := con_numbers D (c % 10) (by omega) hD.l hD.x
 have cw := con_numbers W (r % 10) (by omega) hW.l hW.x
 obtain ⟨a, b, x, t, k, h⟩ := both_of (bothJ J (r % 10) (c % 10)) (numL D (c % 10)) (numL W (r % 10)) (r % 10) (c % 10) hn hm (bothJ_len ..) (fun i hi => by rw [bothJ_row, if_pos hi]; exact numL_len ..) (numL_len ..) (numL_len ..)
   (fun i hi k hk => by rw [bothJ_row, if_pos hi, numL_get, if_pos hk]; exact ⟨isRat_numI _ _, nice_numI _ _ (by omega)⟩)
   (fun k hk => by rw [numL_get, if_pos hk]; exact ⟨isRat_numI _ _, nice_numI _ _ (by omega)⟩)
   (fun k hk => by rw [numL_get, if_pos hk]; exact ⟨isRat_numI _ _, nice_numI _ _ (by omega)⟩)
 obtain ⟨ca, cb, ct, cl, cr, cc, ck, cp, nb, nx, cs, la, lb, lt⟩ := h
 have hl := hJ.l
 refine con_of2 mixed (fn := Tryz.f10) (rs := [.tmp 10]) Tryz.func10 (by kernel_rfl) rfl (by kernel_rfl) rfl rfl ?_
 simp only [argE, Nat.reduceAdd, cRss, vI, vB] at *
 have e1 : ((r % 10 : Nat) : Int) = (r : Int) % 10 := by omega
 have e2 : ((c % 10 : Nat) : Int) = (c : Int) % 10 := by omega
 simp only [e1, e2] at cn cd cw ca cb ct cl cr cc ck cp
 (refine SZ ?_;intros)
 refine p_loopx (fun (i : Nat) => [(14, .sh (vI i)), (0, .sh (cRss J)), (11, .sh (vI ((r : Int) % 10))), (12, .sh (vI ((c : Int) % 10))), (3, .sh (cRs D)), (4, .sh (cRs W)), (13, .row 58)]) (fun i => [(58, some (.rw 26 1 (SR ((bothJ J i (c % 10)).map fun r => [cRs r]))))]) (fun i => r % 10 - i) (fun i => i ≤ r % 10) 0 (Weak.adoptS 58 13 26 1 (by decide) (by decide) rfl ⟨rfl, rfl, rfl, rfl, rfl, rfl, rfl, trivial⟩ ⟨rfl, trivial⟩) (Nat.zero_le _) ?_
 intro i hi
 simp only [cRss, vI] at *
 have hlen : (bothJ J i (c % 10)).length = i := bothJ_len ..
 have cni := cn i
 by_cases hic : i < r % 10
 · have stp : (bothJ J (i + 1) (c % 10)).map (fun r => [cRs r]) = (bothJ J i (c % 10)).map (fun r => [cRs r]) ++ [[cRs (numL (J.getD i []) (c % 10))]] := mapr_succ _ _ i
   clear ca cb ct cl cr cc ck cp cs nb nx
   by_cases hij : i < J.length
   · (refine SZ ?_;intros;rename_i hb K1 hK1)
     (refine ⟨_,cni,hK1 _ ?_⟩;clear hK1 K1;try simp only [put_some,cN,vI,vB,cR])
     (refine SZ ?_;intros)
     refine p_lx _ _ _ _ (i + 1) ?_ ?_ (Weak.list ⟨int_eq ?_, rfl, rfl, rfl, rfl, rfl, rfl, trivial⟩ ⟨?_, trivial⟩)
     · omega
     · omega
     · omega
     · rw [stp]; rfl
   · have e0 : J.getD i [] = [] := by rw [List.getD_eq_getElem?_getD, List.getElem?_eq_none (by omega)]; rfl
     rw [e0] at cni stp
     (refine SZ ?_;intros;rename_i hb K1 hK1)
     (refine ⟨_,cni,hK1 _ ?_⟩;clear hK1 K1;try simp only [put_some,cN,vI,vB,cR])
     (refine SZ ?_;intros)
     refine p_lx _ _ _ _ (i + 1) ?_ ?_ (Weak.list ⟨int_eq ?_, rfl, rfl, rfl, rfl, rfl, rfl, trivial⟩ ⟨?_, trivial⟩)
     · omega
     · omega
     · omega
     · rw [stp]; rfl
 · obtain rfl : i = r % 10 := by omega
   clear cn cni hlen
   (refine SZ ?_;intros;rename_i hb K1 hK1)
   (refine ⟨_,cd,hK1 _ ?_⟩;clear hK1 K1;try simp only [put_some,cN,vI,vB,cR])
   (refine SZ ?_;intros;rename_i K1 hK1)
   (refine ⟨_,cw,hK1 _ ?_⟩;clear hK1 K1;try simp only [put_some,cN,vI,vB,cR])
   (refine SZ ?_;intros;rename_i K1 hK1)
   (refine ⟨_,ca,hK1 _ ?_⟩;clear hK1 K1;try simp only [put_some,cN,vI,vB,cR])
   (refine SZ ?_;intros;rename_i K1 hK1)
   (refine ⟨_,cb,hK1 _ ?_⟩;clear hK1 K1;try simp only [put_some,cN,vI,vB,cR])
   (refine SZ ?_;intros;rename_i K1 hK1)
   (refine ⟨_,ct,hK1 _ ?_⟩;clear hK1 K1;try simp only [put_some,cN,vI,vB,cR])
   (refine SZ ?_;intros;rename_i hb K1 hK1)
   (refine ⟨_,cl,hK1 _ ?_⟩;clear hK1 K1;try simp only [put_some,cN,vI,vB,cR])
   (refine SZ ?_;intros;rename_i K1 hK1)
   (refine ⟨_,cr,hK1 _ ?_⟩;clear hK1 K1;try simp only [put_some,cN,vI,vB,cR])
   (refine SZ ?_;intros;rename_i K1 hK1)
   (refine ⟨_,cc,hK1 _ ?_⟩;clear hK1 K1;try simp only [put_some,cN,vI,vB,cR])
   (refine SZ ?_;intros;rename_i K1 hK1)
   (refine ⟨_,ck,hK1 _ ?_⟩;clear hK1 K1;try simp only [put_some,cN,vI,vB,cR])
   (refine SZ ?_;intros;rename_i K1 hK1)
   (refine ⟨_,cp,hK1 _ ?_⟩;clear hK1 K1;try simp only [put_some,cN,vI,vB,cR])
   (refine SZ ?_;intros;rename_i hb K1 hK1)
   simp only [ixaV, TT]
   refine ⟨by decide, _, rfl, rfl, ?_⟩
   repeat'(with_reducible first|apply p_seq|apply p_sq|apply p_reg|apply p_nil|apply p_skip|apply p_block|apply p_bq|apply p_ret|apply p_exit|apply p_sq_ret|apply p_sq_exit|apply p_bq_ret|apply p_bq_this|apply p_lq_ret|apply p_lq_exit|apply d_nil|refine p_drw (by decide +kernel) ?_|refine f_op rfl rfl ?_|refine f_opg rfl rfl rfl rfl ?_ ?_|refine f_new rfl rfl rfl rfl ?_|(refine f_end (And.intro ?_ ?_)<;>simp only [List.foldl_nil,List.foldl_cons,recS_mk,AB,AD,AZ,Nat.reduceEqDiff,↓reduceIte,Nat.reduceAdd,Nat.reduceMul,Nat.reducePow,Nat.reduceLeDiff,Nat.reduceLT])|apply k_nil|refine k_cons2 rfl rfl ?_ ?_|(refine fun (K1:SV→Prop) hK1=>?_;simp (disch := omega) only [AB,AD,AZ,Nat.reduceEqDiff,↓reduceIte,Nat.reduceAdd,Nat.reduceMul,Nat.reducePow,Nat.reduceLeDiff,Nat.reduceLT];with_unfolding_all exact hK1)|(with_unfolding_all exact (rfl : true = true))|(with_unfolding_all exact (rfl : (0:Nat) = 0))|apply g_nil|refine g_op0 rfl ?_|refine g_opC rfl ?_|refine p_bq_other (by decide) ?_|refine p_cond rfl ?_ ?_|refine p_op rfl ?_|refine d_op rfl rfl ?_|refine d_eff rfl ?_|refine p_opg rfl rfl rfl ?_ ?_|refine d_opg rfl rfl rfl rfl ?_ ?_|((first|refine p_opgU rfl rfl rfl ?_|refine d_opgU rfl rfl rfl rfl ?_);try simp only [put_some])|(refine fun (K1:St→Prop) hK1=>?_;simp (disch := omega) only [AB,AD,AZ,Nat.reduceEqDiff,↓reduceIte,Nat.reduceAdd,Nat.reduceMul,Nat.reducePow,Nat.reduceLeDiff,Nat.reduceLT];(try simp (disch := omega) only [AC]);(try simp only [AM]))|(refine hK1 _ ?_;clear hK1 K1)|refine And.intro (by omega) ?_|apply And.intro|(refine fun (hb:(_:Bool)=_)=>?_;(try simp only [HS] at hb);(try (change True at hb;clear hb));first|(exfalso;first|omega|contradiction)|(try simp only [put_some])))
   (refine ⟨_,nb,hK1 _ ?_⟩;clear hK1 K1;try simp only [put_some,cN,vI,vB,cR])
   (refine SZ ?_;intros;rename_i hb K1 hK1)
   (refine ⟨_,nx,hK1 _ ?_⟩;clear hK1 K1;try simp only [put_some,cN,vI,vB,cR])
   (refine SZ ?_;intros;rename_i K1 hK1)
   (refine ⟨_,nb,hK1 _ ?_⟩;clear hK1 K1;try simp only [put_some,cN,vI,vB,cR])
   (refine WZ ?_ ?_<;>intros<;>rename_i hb K1 hK1)
   · (refine ⟨_,cs (by omega),hK1 _ ?_⟩;clear hK1 K1;try simp only [put_some,cN,vI,vB,cR])
     (refine SZ ?_;intros;rename_i hb K1 hK1)
     (refine ⟨_,hal,hK1 _ ?_⟩;clear hK1 K1;try simp only [put_some,cN,vI,vB,cR])
     (refine SZ ?_;intros)
     simp only [res1,res2,res3,AB,AD,AZ,Nat.reduceEqDiff,↓reduceIte,Nat.reduceAdd,Nat.reduceMul,Nat.reducePow,Nat.reduceLeDiff,Nat.reduceLT]
   · (refine ⟨_,hal,hK1 _ ?_⟩;clear hK1 K1;try simp only [put_some,cN,vI,vB,cR])
     (refine SZ ?_;intros)
     simp only [res1,res2,res3,AB,AD,AZ,Nat.reduceEqDiff,↓reduceIte,Nat.reduceAdd,Nat.reduceMul,Nat.reducePow,Nat.reduceLeDiff,Nat.reduceLT]
end Go.Pw
