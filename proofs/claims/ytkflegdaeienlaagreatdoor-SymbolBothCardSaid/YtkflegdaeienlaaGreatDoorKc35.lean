/- Merged from the working texts MaX SX Mb8 Mc4. -/
import Derived.Test.YtkflegdaeienlaaGreatDoorKc25
import Derived.Test.YtkflegdaeienlaaGreatDoorKc33
import Derived.Test.YtkflegdaeienlaaGreatDoorKc24
import Derived.Test.YtkflegdaeienlaaGreatDoorKc34
set_option linter.all false
set_option maxHeartbeats 400000
set_option maxRecDepth 100000
set_option linter.unusedVariables false
set_option linter.unusedSimpArgs false
namespace Go.Pw
open Go Go.Proofs
def tailO (ty sz : Nat) (f : Nat → List (List PV)) : Nat → List (Nat × Option Ob)
 | 0 => []
 | n + 1 => (n + 2000, some (.rw ty sz (SR (f n)))) :: tailO ty sz f n
def ocm (g : Nat → PV) (m n : Nat) : List (List SV) := (List.range m).map fun t => if t < n then [.row (t + 2000)] else [.sh (g t)]
theorem tail_get (ty sz : Nat) (f : Nat → List (List PV)) : ∀ (n q : Nat), getO (tailO ty sz f n) q = if 2000 ≤ q ∧ q < n + 2000 then some (.rw ty sz (SR (f (q - 2000)))) else none
 | 0, q => by rw [if_neg (by omega)]; rfl
 | n + 1, q => by
   simp only [tailO, getO_cons, tail_get ty sz f n q]
   by_cases h : q = n + 2000
   · rw [if_pos h, if_pos (by omega), h, Nat.add_sub_cancel]
   · rw [if_neg h]
     by_cases h1 : 2000 ≤ q ∧ q < n + 2000
     · rw [if_pos h1, if_pos (by omega)]
     · rw [if_neg h1, if_neg (by omega)]
theorem tail_at (ty sz : Nat) (f : Nat → List (List PV)) (n t : Nat) (h : t < n) : getO (tailO ty sz f n) (t + 2000) = some (.rw ty sz (SR (f t))) := by
 rw [tail_get, if_pos (by omega), Nat.add_sub_cancel]
theorem tail_kill (ty sz k : Nat) (f : Nat → List (List PV)) : ∀ n, mapO (Ob.kill k) (tailO ty sz f n) = tailO ty sz f n
 | 0 => rfl
 | n + 1 => by simp only [tailO, mapO_some, ob_kill_rw, SR_map_kill, tail_kill ty sz k f n]
theorem tail_freeze (ty sz k : Nat) (ds : List PV) (f : Nat → List (List PV)) : ∀ n, mapO (Ob.freeze k ds) (tailO ty sz f n) = tailO ty sz f n
 | 0 => rfl
 | n + 1 => by simp only [tailO, mapO_some, ob_freeze_rw, SR_map_freeze, tail_freeze ty sz k ds f n]
theorem tail_share (ty sz k : Nat) (ds : List (List PV)) (f : Nat → List (List PV)) : ∀ n, mapO (Ob.share k ds) (tailO ty sz f n) = tailO ty sz f n
 | 0 => rfl
 | n + 1 => by simp only [tailO, mapO_some, ob_share_rw, SR_map_share, tail_share ty sz k ds f n]
theorem ocm_len (g : Nat → PV) (m n : Nat) : (ocm g m n).length = m := by simp [ocm]
theorem ocm_get (g : Nat → PV) {m t : Nat} (n : Nat) (h : t < m) : (ocm g m n)[t]? = some (if t < n then [.row (t + 2000)] else [.sh (g t)]) := by simp [ocm, h]
theorem ocm_at (g : Nat → PV) (m t : Nat) (h : t < m) : (ocm g m m)[t]? = some [.row (t + 2000)] := by rw [ocm_get g m h, if_pos h]
theorem ocm_kill (g : Nat → PV) (m n k : Nat) (hk : k < n) (hm : n ≤ m) : ((ocm g m n).map fun r => r.map (SV.kill (k + 2000))) = (ocm g m n).set k [.sh .any] := by
 apply List.ext_getElem?
 intro t
 rw [List.getElem?_map]
 by_cases ht : t < m
 · rw [ocm_get g n ht]
   by_cases e : t = k
   · subst e
     rw [List.getElem?_set_self (by rw [ocm_len]; exact ht), if_pos hk]
     simp [SV.kill, SV.ment]
   · rw [List.getElem?_set_ne (Ne.symm e), ocm_get g n ht]
     by_cases h1 : t < n
     · rw [if_pos h1]; simp [SV.kill, SV.ment, e]
     · rw [if_neg h1]; simp [SV.kill, SV.ment]
 · rw [List.getElem?_eq_none (by rw [ocm_len]; omega), List.getElem?_eq_none (by rw [List.length_set, ocm_len]; omega)]; rfl
theorem ocm_kill0 (g : Nat → PV) (m n q : Nat) (hq : q < 2000 ∨ n + 2000 ≤ q) : ((ocm g m n).map fun r => r.map (SV.kill q)) = ocm g m n := by
 unfold ocm
 rw [List.map_map]
 apply List.map_congr_left
 intro t _
 simp only [Function.comp]
 by_cases h1 : t < n
 · rw [if_pos h1]
   have : ¬ t + 2000 = q := by omega
   simp [SV.kill, SV.ment, this]
 · rw [if_neg h1]; simp [SV.kill, SV.ment]
theorem ocm_set (g : Nat → PV) (m k : Nat) (x : List SV) (h : k < m) : ((ocm g m m).set k x).set k [.row (k + 2000)] = ocm g m m := by
 rw [List.set_set]
 apply List.ext_getElem?
 intro t
 by_cases e : t = k
 · subst e; rw [List.getElem?_set_self (by rw [ocm_len]; exact h), ocm_at g m t h]
 · rw [List.getElem?_set_ne (Ne.symm e)]
theorem ocm_set_len (g : Nat → PV) (m n k : Nat) (x : List SV) : ((ocm g m n).set k x).length = m := by rw [List.length_set, ocm_len]
theorem ocm_set_get (g : Nat → PV) (m n k : Nat) (x : List SV) (h : k < m) : ((ocm g m n).set k x)[k]? = some x := List.getElem?_set_self (by rw [ocm_len]; exact h)
theorem ocm_zero (g : Nat → PV) (m : Nat) : ocm g m 0 = SR ((List.range m).map fun t => [g t]) := by simp [ocm, SR, Function.comp_def]
theorem ocm_full (g g' : Nat → PV) (m : Nat) : ocm g m m = ocm g' m m := by
 unfold ocm
 apply List.map_congr_left
 intro t ht
 rw [if_pos (List.mem_range.1 ht), if_pos (List.mem_range.1 ht)]
def lowE : List (Nat × SV) → Prop
 | [] => True
 | (_, x) :: r => (∀ t, x.ment (t + 2000) = false) ∧ lowE r
theorem lowE_kill {e : List (Nat × SV)} (h : lowE e) (t : Nat) : mapE (SV.kill (t + 2000)) e = e := by
 induction e with
 | nil => rfl
 | cons x r ih => rw [mapE_cons, ih h.2, SV.kill, h.1 t]; rfl
theorem lowE_share {e : List (Nat × SV)} (h : lowE e) (t : Nat) (ds : List (List PV)) : mapE (SV.share (t + 2000) ds) e = e := by
 induction e with
 | nil => rfl
 | cons x r ih =>
   rw [mapE_cons, ih h.2]
   have := h.1 t
   obtain ⟨a, b⟩ := x
   cases b with
   | row k =>
     simp only [SV.ment, beq_eq_false_iff_ne, ne_eq] at this
     simp [SV.share, this]
   | sub k a b c => simp only [SV.ment, beq_eq_false_iff_ne, ne_eq] at this; simp [SV.share, this]
   | rp k a b c => simp only [SV.ment, beq_eq_false_iff_ne, ne_eq] at this; simp [SV.share, this]
   | _ => simp [SV.share]
section
variable {E : Env} {e : List (Nat × SV)} {τ : St}
theorem Weak.adoptAll (A ty sz m : Nat) (hsz : 0 < sz) (hA : A < 2000) (hm : m ≤ 4096) (he : lowE e) : ∀ n, n ≤ m → Weak E (mkS e [(A, some (.rw 26 1 (SR (List.replicate m [.val (.slice none 0 0)]))))]) (mkS e ((A, some (.rw 26 1 (ocm (fun _ => .val (.slice none 0 0)) m n))) :: tailO ty sz (fun _ => []) n))
 | 0, _ => by
   have : SR (List.replicate m [PV.val (.slice none 0 0)]) = ocm (fun _ => .val (.slice none 0 0)) m 0 := by
     rw [ocm_zero]; congr 1
     apply List.ext_getElem?
     intro t
     by_cases ht : t < m
     · rw [List.getElem?_replicate_of_lt ht]; simp [ht]
     · rw [List.getElem?_eq_none (by simp; omega), List.getElem?_eq_none (by simp; omega)]
   rw [this]; exact Weak.refl _
 | n + 1, hn => by
   refine (Weak.adoptAll A ty sz m hsz hA hm he n (by omega)).trans ?_
   refine Weak.adoptRowT (n + 2000) A n ty sz (eA := 26) (szA := 1) (rows := ocm (fun _ => .val (.slice none 0 0)) m n) hsz (by omega) (by omega) (by rw [getO_cons, if_pos rfl]) (by rw [ocm_get _ n (by omega), if_neg (by omega)]) ?_
   rw [lowE_kill he, mapO_some, tail_kill, ob_kill_rw, ocm_kill0 _ m n _ (.inr (Nat.le_refl _))]
   refine Weak.forget (fun t => .inl rfl) (fun q => .inl ?_)
   simp only [mkS_o, getO_cons, tailO]
   by_cases h1 : q = A
   · rw [if_pos h1, if_pos h1]
     congr 2
     apply List.ext_getElem?
     intro t
     by_cases ht : t < m
     · rw [ocm_get _ (n + 1) ht]
       by_cases e : t = n
       · subst e
         rw [List.getElem?_set_self (by rw [ocm_len]; exact ht), if_pos (by omega)]
       · rw [List.getElem?_set_ne (Ne.symm e), ocm_get _ n ht]
         by_cases h2 : t < n
         · rw [if_pos h2, if_pos (by omega)]
         · rw [if_neg h2, if_neg (by omega)]
     · rw [List.getElem?_eq_none (by rw [ocm_len]; omega), List.getElem?_eq_none (by rw [List.length_set, ocm_len]; omega)]
   · rw [if_neg h1, if_neg h1]
     by_cases h2 : q = n + 2000
     · rw [if_pos h2, if_pos h2]; rfl
     · rw [if_neg h2, if_neg h2, if_neg h1]
theorem Weak.shareAll (A ty sz m : Nat) (f : Nat → List (List PV)) (hA : A < 2000) (he : lowE e) : ∀ n, n ≤ m → Weak E (mkS e ((A, some (.rw 26 1 (ocm (fun t => .sl (f t)) m n))) :: tailO ty sz f n)) (mkS e [(A, some (.rw 26 1 (SR ((List.range m).map fun t => [.sl (f t)]))))])
 | 0, _ => by rw [ocm_zero]; exact Weak.refl _
 | n + 1, hn => by
   refine Weak.trans ?_ (Weak.shareAll A ty sz m f hA he n (by omega))
   refine Weak.shareT (n + 2000) (f n) (ty := ty) (sz := sz) (by rw [getO_cons, if_neg (by omega), tail_at ty sz f (n + 1) n (by omega)]) ?_
   rw [lowE_share he, mapO_some, tail_share, ob_share_rw]
   refine Weak.forget (fun t => .inl rfl) (fun q => ?_)
   simp only [mkS_o, getO_cons, tailO]
   by_cases h1 : q = A
   · left
     rw [if_pos h1, if_neg (by omega), if_pos h1]
     congr 2
     apply List.ext_getElem?
     intro t
     rw [List.getElem?_map]
     by_cases ht : t < m
     · rw [ocm_get _ n ht, ocm_get _ (n + 1) ht]
       by_cases h2 : t < n
       · have : ¬ t = n := by omega
         rw [if_pos h2, if_pos (by omega)]; simp [SV.share, this]
       · by_cases h3 : t = n
         · subst h3; rw [if_neg h2, if_pos (by omega)]; simp [SV.share]
         · rw [if_neg h2, if_neg (by omega)]; simp [SV.share]
     · rw [List.getElem?_eq_none (by rw [ocm_len]; omega), List.getElem?_eq_none (by rw [ocm_len]; omega)]; rfl
   · rw [if_neg h1]
     by_cases h2 : q = n + 2000
     · right; rw [tail_get, if_neg (by omega)]
     · left; rw [if_neg h2, if_neg h1, if_neg h2]
theorem Weak.tail {o : List (Nat × Option Ob)} {e' : List (Nat × SV)} (A ty sz m : Nat) (f : Nat → List (List PV)) {x : Ob} (h : sub e' e) (h0 : getO o A = some x) (ht : ∀ t, t < m → getO o (t + 2000) = some (.rw ty sz (SR (f t)))) : Weak E (mkS e o) (mkS e' ((A, some x) :: tailO ty sz f m)) := by
 refine Weak.forget (fun t => sub_get h t) (fun q => ?_)
 simp only [mkS_o, getO_cons, tail_get]
 by_cases h1 : q = A
 · left; rw [if_pos h1, h1, h0]
 · rw [if_neg h1]
   by_cases h2 : 2000 ≤ q ∧ q < m + 2000
   · left
     rw [if_pos h2]
     have := ht (q - 2000) (by omega)
     rw [show q - 2000 + 2000 = q by omega] at this
     exact this.symm
   · right; rw [if_neg h2]
end
theorem AX : type_of% (And.intro @tail_kill (And.intro @tail_freeze (And.intro @tail_share (And.intro @ocm_len (And.intro @ocm_at (And.intro @ocm_kill (And.intro @ocm_kill0 (And.intro @ocm_set (And.intro @ocm_set_len (And.intro @ocm_set_get (And.intro @tail_at (And.intro @ob_kill_rw (And.intro @ob_freeze_rw (@ob_share_rw)))))))))))))) := And.intro @tail_kill (And.intro @tail_freeze (And.intro @tail_share (And.intro @ocm_len (And.intro @ocm_at (And.intro @ocm_kill (And.intro @ocm_kill0 (And.intro @ocm_set (And.intro @ocm_set_len (And.intro @ocm_set_get (And.intro @tail_at (And.intro @ob_kill_rw (And.intro @ob_freeze_rw (@ob_share_rw)))))))))))))
end Go.Pw
set_option maxRecDepth 100000
set_option linter.unusedVariables false
namespace Go.Pw
open Go Go.Proofs
theorem SX {P Q : Prop} (kQ : Q) (h : (Unit → Q) → P := by
 intro hQ
 repeat'(with_reducible first|apply p_seq|apply p_sq|apply p_reg|apply p_nil|apply p_skip|apply p_block|apply p_bq|apply p_ret|apply p_exit|apply p_sq_ret|apply p_sq_exit|apply p_bq_ret|apply p_bq_this|apply p_lq_ret|apply p_lq_exit|apply d_nil|refine p_drw (by decide +kernel) ?_|refine f_op rfl rfl ?_|refine f_opg rfl rfl rfl rfl ?_ ?_|refine f_new rfl rfl rfl rfl ?_|(refine f_end (And.intro ?_ ?_)<;>simp only [List.foldl_nil,List.foldl_cons,recS_mk,AB,AD,AZ,AX,Nat.reduceEqDiff,↓reduceIte,Nat.reduceAdd,Nat.reduceMul,Nat.reducePow,Nat.reduceLeDiff,Nat.reduceLT])|apply k_nil|refine k_cons2 rfl rfl ?_ ?_|(refine fun (K1:SV→Prop) hK1=>?_;simp (disch := omega) only [AB,AD,AZ,AX,Nat.reduceEqDiff,↓reduceIte,Nat.reduceAdd,Nat.reduceMul,Nat.reducePow,Nat.reduceLeDiff,Nat.reduceLT];with_unfolding_all exact hK1)|(with_unfolding_all exact (rfl : true = true))|(with_unfolding_all exact (rfl : (0:Nat) = 0))|apply g_nil|refine g_op0 rfl ?_|refine g_opC rfl ?_|refine p_bq_other (by decide) ?_|refine p_cond rfl ?_ ?_|refine p_op rfl ?_|refine d_op rfl rfl ?_|refine d_eff rfl ?_|refine p_opg rfl rfl rfl ?_ ?_|refine d_opg rfl rfl rfl rfl ?_ ?_|((first|refine p_opgU rfl rfl rfl ?_|refine d_opgU rfl rfl rfl rfl ?_);try simp only [put_some])|(refine fun (K1:St→Prop) hK1=>?_;simp (disch := omega) only [AB,AD,AZ,AX,Nat.reduceEqDiff,↓reduceIte,Nat.reduceAdd,Nat.reduceMul,Nat.reducePow,Nat.reduceLeDiff,Nat.reduceLT];(try simp (disch := omega) only [AC]);(try simp only [AM]))|(refine hK1 _ ?_;clear hK1 K1)|refine And.intro (by omega) ?_|apply And.intro|(refine fun (hZb:(_:Bool)=_)=>?_;(try simp only [HS] at hZb);(try (change True at hZb;clear hZb));first|(exfalso;first|omega|contradiction)|(try simp only [put_some])))
 all_goals ((try revert K1);(repeat revert hZb))
 exact hQ ()) : P := h (fun _ => kQ)
theorem WX {P Q R : Prop} (kQ : Q) (kR : R) (h : (Unit → Q) → (Unit → R) → P := by
 intro hQ hR
 repeat'(with_reducible first|apply p_seq|apply p_sq|apply p_reg|apply p_nil|apply p_skip|apply p_block|apply p_bq|apply p_ret|apply p_exit|apply p_sq_ret|apply p_sq_exit|apply p_bq_ret|apply p_bq_this|apply p_lq_ret|apply p_lq_exit|apply d_nil|refine p_drw (by decide +kernel) ?_|refine f_op rfl rfl ?_|refine f_opg rfl rfl rfl rfl ?_ ?_|refine f_new rfl rfl rfl rfl ?_|(refine f_end (And.intro ?_ ?_)<;>simp only [List.foldl_nil,List.foldl_cons,recS_mk,AB,AD,AZ,AX,Nat.reduceEqDiff,↓reduceIte,Nat.reduceAdd,Nat.reduceMul,Nat.reducePow,Nat.reduceLeDiff,Nat.reduceLT])|apply k_nil|refine k_cons2 rfl rfl ?_ ?_|(refine fun (K1:SV→Prop) hK1=>?_;simp (disch := omega) only [AB,AD,AZ,AX,Nat.reduceEqDiff,↓reduceIte,Nat.reduceAdd,Nat.reduceMul,Nat.reducePow,Nat.reduceLeDiff,Nat.reduceLT];with_unfolding_all exact hK1)|(with_unfolding_all exact (rfl : true = true))|(with_unfolding_all exact (rfl : (0:Nat) = 0))|apply g_nil|refine g_op0 rfl ?_|refine g_opC rfl ?_|refine p_bq_other (by decide) ?_|refine p_cond rfl ?_ ?_|refine p_op rfl ?_|refine d_op rfl rfl ?_|refine d_eff rfl ?_|refine p_opg rfl rfl rfl ?_ ?_|refine d_opg rfl rfl rfl rfl ?_ ?_|((first|refine p_opgU rfl rfl rfl ?_|refine d_opgU rfl rfl rfl rfl ?_);try simp only [put_some])|(refine fun (K1:St→Prop) hK1=>?_;simp (disch := omega) only [AB,AD,AZ,AX,Nat.reduceEqDiff,↓reduceIte,Nat.reduceAdd,Nat.reduceMul,Nat.reducePow,Nat.reduceLeDiff,Nat.reduceLT];(try simp (disch := omega) only [AC]);(try simp only [AM]))|(refine hK1 _ ?_;clear hK1 K1)|refine And.intro (by omega) ?_|apply And.intro|(refine fun (hZb:(_:Bool)=_)=>?_;(try simp only [HS] at hZb);(try (change True at hZb;clear hZb));first|(exfalso;first|omega|contradiction)|(try simp only [put_some])))
 all_goals ((try revert K1);(repeat revert hZb))
 exact hQ ()
 exact hR ()) : P := h (fun _ => kQ) (fun _ => kR)
end Go.Pw
set_option maxRecDepth 100000
set_option linter.unusedVariables false
set_option linter.unusedSimpArgs false
namespace Go.Pw
open Go Go.Proofs
def tcl (j : List (List Rt)) (k n : Nat) : List Rt := (List.range n).map fun i => (j.getD i []).getD k default
def sturned (j : List (List Rt)) (m : Nat) : List (List Rt) := (List.range m).map fun k => tcl j k j.length
theorem con_Turned (j : List (List Rt)) (c : Int) (h1 : -9223372036854775808 ≤ c) (h2 : c ≤ 9223372036854775807) (h : j.length < 2 ^ 40) (hl : ∀ i, (j.getD i []).length < 2 ^ 40) (hf : ∀ i k, Fit ((j.getD i []).getD k default)) :
   Con E 27 [cRss j, vI c] (.tup [cRss (if formE j c = 0 then sturned j c.toNat else []), vI (formE j c)]) := by
 have c1 := con_sform j c h1 h2 h hl hf
 by_cases e1 : formE j c = 0
 rotate_left
 · rw [if_neg e1]
   generalize formE j c = e at *
   refine con_of2 mixed (fn := Tryz.f27) (rs := [.tmp 4, .tmp 5]) Tryz.func27 (by kernel_rfl) rfl (by kernel_rfl) rfl rfl ?_
   simp only [argE, Nat.reduceAdd, cRss, vI, vB] at *
   (refine SX ?_;intros;rename_i K1 hK1)
   (refine ⟨_,c1,hK1 _ ?_⟩;clear hK1 K1;try simp only [put_some,cN,vI,vB,cR])
   (refine SX ?_;intros)
   simp only [res1,res2,res3,AB,AD,AZ,AX,Nat.reduceEqDiff,↓reduceIte,Nat.reduceAdd,Nat.reduceMul,Nat.reducePow,Nat.reduceLeDiff,Nat.reduceLT]
   all_goals rfl
 rw [if_pos e1, e1]
 rw [e1] at c1
 obtain ⟨⟨b0, b1, b2⟩, hrow, hjr⟩ := formE_zero e1
 obtain ⟨m, rfl⟩ : ∃ m : Nat, c = m := ⟨c.toNat, by omega⟩
 rw [show ((m : Int)).toNat = m from rfl]
 refine con_of2 mixed (fn := Tryz.f27) (rs := [.tmp 4, .tmp 5]) Tryz.func27 (by kernel_rfl) rfl (by kernel_rfl) rfl rfl ?_
 simp only [argE, Nat.reduceAdd, cRss, vI, vB] at *
 (refine SX ?_;intros;rename_i K1 hK1)
 (refine ⟨_,c1,hK1 _ ?_⟩;clear hK1 K1;try simp only [put_some,cN,vI,vB,cR])
 (refine SX ?_;intros)
 clear c1 e1
 refine p_loopx (fun (i : Nat) => [(22, .sh (vI i)), (21, .sh (vI j.length)), (20, .sh (cRss j)), (7, .row 19), (1, .sh (vI m))]) (fun i => (19, some (.rw 26 1 (ocm (fun _ => .val (.slice none 0 0)) m m))) :: tailO 80 4 (fun t => (tcl j t i).map cR) m) (fun i => j.length - i) (fun i => i ≤ j.length) 0
   (Weak.trans (Weak.list (e' := [(22, .sh (vI 0)), (21, .sh (vI j.length)), (20, .sh (cRss j)), (7, .row 19), (1, .sh (vI m))]) (o' := [(19, some (.rw 26 1 (SR (List.replicate m [.val (.slice none 0 0)]))))]) ⟨rfl, rfl, rfl, rfl, rfl, trivial⟩ ⟨rfl, trivial⟩) (Weak.adoptAll (e := [(22, .sh (vI 0)), (21, .sh (vI j.length)), (20, .sh (cRss j)), (7, .row 19), (1, .sh (vI m))]) 19 80 4 m (by decide) (by decide) (by omega) ⟨fun t => rfl, fun t => rfl, fun t => rfl, fun t => by simp [SV.ment], fun t => rfl, trivial⟩ m (Nat.le_refl _))) (Nat.zero_le _) ?_
 intro i hi
 have hli := hl i
 have ri := hrow i
 simp only [cRss, vI] at *
 repeat'((fail_if_success refine p_at 15 ?_);(with_reducible first|apply p_seq|apply p_sq|apply p_reg|apply p_nil|apply p_skip|apply p_block|apply p_bq|apply p_ret|apply p_exit|apply p_sq_ret|apply p_sq_exit|apply p_bq_ret|apply p_bq_this|apply p_lq_ret|apply p_lq_exit|apply d_nil|refine p_drw (by decide +kernel) ?_|refine f_op rfl rfl ?_|refine f_opg rfl rfl rfl rfl ?_ ?_|refine f_new rfl rfl rfl rfl ?_|(refine f_end (And.intro ?_ ?_)<;>simp only [List.foldl_nil,List.foldl_cons,recS_mk,AB,AD,AZ,AX,Nat.reduceEqDiff,↓reduceIte,Nat.reduceAdd,Nat.reduceMul,Nat.reducePow,Nat.reduceLeDiff,Nat.reduceLT])|apply k_nil|refine k_cons2 rfl rfl ?_ ?_|(refine fun (K1:SV→Prop) hK1=>?_;simp (disch := omega) only [AB,AD,AZ,AX,Nat.reduceEqDiff,↓reduceIte,Nat.reduceAdd,Nat.reduceMul,Nat.reducePow,Nat.reduceLeDiff,Nat.reduceLT];with_unfolding_all exact hK1)|(with_unfolding_all exact (rfl : true = true))|(with_unfolding_all exact (rfl : (0:Nat) = 0))|apply g_nil|refine g_op0 rfl ?_|refine g_opC rfl ?_|refine p_bq_other (by decide) ?_|refine p_cond rfl ?_ ?_|refine p_op rfl ?_|refine d_op rfl rfl ?_|refine d_eff rfl ?_|refine p_opg rfl rfl rfl ?_ ?_|refine d_opg rfl rfl rfl rfl ?_ ?_|((first|refine p_opgU rfl rfl rfl ?_|refine d_opgU rfl rfl rfl rfl ?_);try simp only [put_some])|(refine fun (K1:St→Prop) hK1=>?_;simp (disch := omega) only [AB,AD,AZ,AX,Nat.reduceEqDiff,↓reduceIte,Nat.reduceAdd,Nat.reduceMul,Nat.reducePow,Nat.reduceLeDiff,Nat.reduceLT];(try simp (disch := omega) only [AC]);(try simp only [AM]))|(refine hK1 _ ?_;clear hK1 K1)|refine And.intro (by omega) ?_|apply And.intro|(refine fun (hb:(_:Bool)=_)=>?_;(try simp only [HS] at hb);(try (change True at hb;clear hb));first|(exfalso;first|omega|contradiction)|(try simp only [put_some]))))
 · refine p_loopx (fun (k : Nat) => [(28, .sh (vI k)), (27, .sh (vI m)), (26, .sh (cRs (j.getD i []))), (22, .sh (vI i)), (21, .sh (vI j.length)), (20, .sh (cRss j)), (7, .row 19), (1, .sh (vI m))]) (fun k => (19, some (.rw 26 1 (ocm (fun _ => .val (.slice none 0 0)) m m))) :: tailO 80 4 (fun t => (tcl j t (if t < k then i + 1 else i)).map cR) m) (fun k => m - k) (fun k => k ≤ m) 0
     (Weak.tail 19 80 4 m (fun t => (tcl j t (if t < 0 then i + 1 else i)).map cR) ⟨rfl, int_eq (ri (by omega)), rfl, rfl, rfl, rfl, rfl, rfl, trivial⟩ rfl (fun t ht => by rw [getO_cons, if_neg (by omega), tail_at _ _ _ _ _ ht, if_neg (by omega)])) (Nat.zero_le _) ?_
   intro k hk
   have ri := ri (by omega)
   simp only [cRss, cRs, vI] at *
   have hcl : ∀ t n, (tcl j t n).length = n := fun t n => by simp [tcl]
   have d1 := con_clone ((j.getD i []).getD k default).num (by have := (hf i k).nl; omega)
   have d2 := con_clone ((j.getD i []).getD k default).den (by have := (hf i k).dl; omega)
   have hkk : (tcl j k (if k < k then i + 1 else i)).length = i := by simp [tcl]
   clear hf hl hrow hjr
   (refine WX ?_ ?_<;>intros<;>try rename_i K1 hK1)
   · (refine ⟨_,d1,hK1 _ ?_⟩;clear hK1 K1;try simp only [put_some,cN,vI,vB,cR])
     (refine SX ?_;intros;rename_i K1 hK1)
     (refine ⟨_,d2,hK1 _ ?_⟩;clear hK1 K1;try simp only [put_some,cN,vI,vB,cR])
     (refine SX ?_;intros)
     refine p_drw2 (8) [0, 1] [[0, 1], [], []] (by kernel_rfl) ?_
     (refine SX ?_;intros)
     refine p_lx _ _ _ _ (k + 1) ?_ ?_ (Weak.tail 19 80 4 m (fun t => (tcl j t (if t < k + 1 then i + 1 else i)).map cR) ⟨int_eq ?_, rfl, rfl, rfl, rfl, rfl, rfl, rfl, trivial⟩ (by simp only [AB,AD,AZ,AX,Nat.reduceEqDiff,↓reduceIte,Nat.reduceAdd,Nat.reduceMul,Nat.reducePow,Nat.reduceLeDiff,Nat.reduceLT]) ?_)
     · omega
     · omega
     · omega
     · intro t ht
       have hn1 : ¬ t + 2000 = 19 := by omega
       have hn2 : ¬ t + 2000 = 11 := by omega
       by_cases e : t = k
       · subst e
         simp only [AB,AD,AZ,AX,Nat.reduceEqDiff,↓reduceIte,Nat.reduceAdd,Nat.reduceMul,Nat.reducePow,Nat.reduceLeDiff,Nat.reduceLT, if_neg hn1, if_neg hn2]
         rw [if_neg (by omega), if_pos (by omega), show (tcl j t (i + 1)).map cR = (tcl j t i).map cR ++ [cR ((j.getD i []).getD t default)] from mapr_succ _ _ i]
         rfl
       · have e' : ¬ t + 2000 = k + 2000 := by omega
         simp only [AB,AD,AZ,AX,Nat.reduceEqDiff,↓reduceIte,Nat.reduceAdd,Nat.reduceMul,Nat.reducePow,Nat.reduceLeDiff,Nat.reduceLT, if_neg hn1, if_neg hn2, if_neg e', if_neg e]
         rw [tail_at _ _ _ _ _ ht]
         by_cases h3 : t < k
         · rw [if_pos h3, if_pos (show t < k + 1 by omega)]
         · rw [if_neg h3, if_neg (show ¬ t < k + 1 by omega)]
   · have e : k = m := by omega
     subst e
     refine p_lx _ _ _ _ (i + 1) ?_ ?_ (Weak.tail 19 80 4 k (fun t => (tcl j t (i + 1)).map cR) ⟨int_eq ?_, rfl, rfl, rfl, rfl, trivial⟩ (by simp only [AB,AD,AZ,AX,Nat.reduceEqDiff,↓reduceIte,Nat.reduceAdd,Nat.reduceMul,Nat.reducePow,Nat.reduceLeDiff,Nat.reduceLT]) ?_)
     · omega
     · omega
     · omega
     · intro t ht
       rw [getO_cons, if_neg (by omega), tail_at _ _ _ _ _ ht, if_pos ht]
 · have e : i = j.length := by omega
   subst e
   refine p_wk (τ := mkS [(7, .row 19)] [(19, some (.rw 26 1 (SR ((List.range m).map fun t => [cRs (tcl j t j.length)]))))]) ?_ ?_
   · refine Weak.trans (Weak.tail (e' := [(7, .row 19)]) 19 80 4 m (fun t => (tcl j t j.length).map cR) ⟨rfl, trivial⟩ (by rw [getO_cons, if_pos rfl]) (fun t ht => by rw [getO_cons, if_neg (by omega), tail_at _ _ _ _ _ ht])) ?_
     rw [ocm_full _ (fun t => .sl ((tcl j t j.length).map cR)) m]
     exact Weak.shareAll (e := [(7, .row 19)]) 19 80 4 m (fun t => (tcl j t j.length).map cR) (by decide) ⟨fun t => by simp [SV.ment], trivial⟩ m (Nat.le_refl _)
   (refine SX ?_;intros)
   simp (disch := omega) only [res1,res2,res3,AB,AD,AZ,AX,Nat.reduceEqDiff,↓reduceIte,Nat.reduceAdd,Nat.reduceMul,Nat.reducePow,Nat.reduceLeDiff,Nat.reduceLT]
   simp only [sturned, List.map_map]
   rfl
end Go.Pw
set_option maxRecDepth 100000
set_option linter.unusedVariables false
set_option linter.unusedSimpArgs false
namespace Go.Pw
open Go Go.Proofs
structure LOk (a : List Rt) : Prop where
 l : a.length < 2 ^ 46
 x : ∀ i, RFit (a.getD i default)
end Go.Pw
