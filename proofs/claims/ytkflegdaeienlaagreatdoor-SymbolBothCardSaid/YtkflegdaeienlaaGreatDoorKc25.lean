/- Merged from the working texts MaY SY Mb2 SD SA. -/
import Derived.Test.YtkflegdaeienlaaGreatDoorKc24
import Derived.Test.YtkflegdaeienlaaGreatDoorKc23
import Derived.Test.YtkflegdaeienlaaGreatDoorKc17
set_option linter.all false
set_option maxHeartbeats 400000
set_option maxRecDepth 100000
set_option linter.unusedVariables false
set_option linter.unusedSimpArgs false
namespace Go.Pw
open Go Go.Proofs
theorem Weak.adoptRow {E : Env} {σ : St} (k A i : Nat) (e sz : Nat) (hsz : 0 < sz) (hAk : A ≠ k) (hk0 : k < 1000000) {eA szA : Nat} {rows : List (List SV)} (hA : σ.o A = some (.rw eA szA rows)) (hi : rows[i]? = some [.sh (.val (.slice none 0 0))]) :
   Weak E σ ((σ.make k (.rw e sz [])).setO A (.rw eA szA ((rows.map fun r => r.map (SV.kill k)).set i [.row k]))) := fun w0 A0 a w loc h => by
 have h1 := h.remake k h.iB (Nat.le_refl _) (fun _ _ _ => rfl) (.slice none 0 0) (.rw e sz []) (fun b hb => by simp [blk] at hb) (fun A' loc' hA hl1 hl2 => .rw [] (fun r hr => by simp at hr) ⟨by simp, .inl ⟨rfl, rfl⟩⟩ hsz (Nat.zero_le _) (fun x hx => by simp at hx) (fun i j r x hi => by simp at hi))
 have hob : (σ.make k (.rw e sz [])).o A = some (.rw eA szA (rows.map fun r => r.map (SV.kill k))) := by simp [St.make, St.setO, St.kill, hAk, hA, Ob.kill]
 refine ⟨_, h1.rewrite A hob h1.iB (Nat.le_refl _) (fun _ _ _ => rfl) _ (fun A' hA' => ?_), fun j hj => if_neg (by omega)⟩
 have h2 := (h1.iO A _ hob).step (A' := A') (fun _ _ _ => rfl) hA' (fun _ _ => rfl) (fun _ _ => rfl)
 obtain ⟨xs, hz, hown, hszA, hm, hx1, hxr⟩ := rw_inv h2
 have hlen : ((rows.map fun r => r.map (SV.kill k)).set i [SV.row k]).length = (rows.map fun r => r.map (SV.kill k)).length := List.length_set
 have hil : i < rows.length := (List.getElem?_eq_some_iff.1 hi).1
 have hki : (rows.map fun r => r.map (SV.kill k))[i]? = some [.sh (.val (.slice none 0 0))] := by
   rw [List.getElem?_map, hi]; simp [SV.kill, SV.ment]
 have hsz1 : szA = 1 := by
   have := hz _ (List.mem_of_getElem? hki)
   simpa using this.symm
 have hvi : xs.getD (i * szA + 0) undef = .slice none 0 0 := (hxr i 0 _ _ hki rfl).val_eq
 refine .rw xs (fun r hr => ?_) (by rw [hlen]; exact hown) hszA (by rw [hlen]; exact hm) hx1 (fun q j r x hq hx => ?_)
 · rcases List.mem_or_eq_of_mem_set hr with hr | rfl
   · exact hz r hr
   · exact hsz1.symm
 · by_cases e : q = i
   · subst e
     rw [List.getElem?_set_self (by simpa using hil)] at hq
     injection hq with hq
     subst hq
     cases j with
     | zero =>
       injection hx with hx
       subst hx
       rw [hvi]
       exact .row (by simp)
     | succ j => simp at hx
   · rw [List.getElem?_set_ne (Ne.symm e)] at hq
     exact hxr q j r x hq hx
section
variable {E : Env} {e : List (Nat × SV)} {o : List (Nat × Option Ob)} {τ : St}
theorem Weak.adoptRowT (k A i ty sz : Nat) {eA szA : Nat} {rows : List (List SV)} (hsz : 0 < sz) (hAk : A ≠ k) (hk0 : k < 1000000) (hA : getO o A = some (.rw eA szA rows)) (hi : rows[i]? = some [.sh (.val (.slice none 0 0))])
   (h : Weak E (mkS (mapE (SV.kill k) e) ((A, some (.rw eA szA ((rows.map fun r => r.map (SV.kill k)).set i [.row k]))) :: (k, some (.rw ty sz [])) :: mapO (Ob.kill k) o)) τ) : Weak E (mkS e o) τ := by
 have h1 := Weak.adoptRow (E := E) (σ := mkS e o) k A i ty sz hsz hAk hk0 hA hi
 rw [make_mk, setO_mk] at h1
 exact h1.trans h
theorem Weak.freezeT (k : Nat) (cs : List PV) (hk : getO o k = some (.box (cs.map .sh))) (h0 : 0 < cs.length) (h : Weak E (mkS (mapE (SV.freeze k cs) e) ((k, none) :: mapO (Ob.freeze k cs) o)) τ) : Weak E (mkS e o) τ := by
 have h1 := Weak.freeze (E := E) (σ := mkS e o) (k := k) (cs := cs.map .sh) hk (by simpa using h0) (by simp [SV.isSh])
 have e1 : (cs.map SV.sh).map SV.unsh = cs := by simp [Function.comp_def, SV.unsh]
 rw [e1, freeze_mk] at h1
 exact h1.trans h
theorem Weak.shareT (k : Nat) {ty sz : Nat} (rows : List (List PV)) (hk : getO o k = some (.rw ty sz (SR rows))) (h : Weak E (mkS (mapE (SV.share k rows) e) ((k, none) :: mapO (Ob.share k rows) o)) τ) : Weak E (mkS e o) τ := by
 have h1 := Weak.share (E := E) (σ := mkS e o) (k := k) (rows := SR rows) hk (allSh_SR rows)
 have e1 : unSR (SR rows) = rows := by simp [unSR, SR, Function.comp_def, SV.unsh]
 rw [e1, share_mk] at h1
 exact h1.trans h
end
theorem p_at {E : Env} (n : Nat) {ops : Array Oper} {dr : Bool} {Q : Exit → St → Prop} {σ : St} (h : pwp E (.region n ops dr) Q σ) : pwp E (.region n ops dr) Q σ := h
theorem SR_map_freeze (k : Nat) (ds : List PV) (rows : List (List PV)) : (SR rows).map (fun r => r.map (SV.freeze k ds)) = SR rows := by simp [SR, Function.comp_def, SV.freeze]
theorem SR_map_share (k : Nat) (ds : List (List PV)) (rows : List (List PV)) : (SR rows).map (fun r => r.map (SV.share k ds)) = SR rows := by simp [SR, Function.comp_def, SV.share]
theorem SR_kill_set (k i : Nat) (rows : List (List PV)) : (((SR rows).set i [.row k]).map fun r => r.map (SV.kill k)) = (SR rows).set i [.sh .any] := by
 rw [List.map_set, SR_map_kill]; simp [SV.kill, SV.ment]
theorem SR_share_set (k i : Nat) (rows ds : List (List PV)) : (((SR rows).set i [.row k]).map fun r => r.map (SV.share k ds)) = SR (rows.set i [.sl ds]) := by
 have : (SR rows).map (fun r => r.map (SV.share k ds)) = SR rows := by simp [SR, Function.comp_def, SV.share]
 rw [List.map_set, this, ← SR_set]; simp [SV.share]
theorem SR_set_freeze (k q i : Nat) (ds : List PV) (rows : List (List PV)) : (((SR rows).set i [.row k]).map fun r => r.map (SV.freeze q ds)) = (SR rows).set i [.row k] := by
 rw [List.map_set, SR_map_freeze]; simp [SV.freeze]
theorem mapr_succ {α β : Type} (f : Nat → α) (g : α → β) (i : Nat) : ((List.range (i + 1)).map f).map g = ((List.range i).map f).map g ++ [g (f i)] := by
 rw [List.range_succ, List.map_append, List.map_append]; rfl
theorem SR_set_get (rows : List (List PV)) (i : Nat) (x : List SV) (h : i < rows.length) : ((SR rows).set i x)[i]? = some x := List.getElem?_set_self (by rw [SR_len]; exact h)
theorem SR_set_len (rows : List (List PV)) (i : Nat) (x : List SV) : ((SR rows).set i x).length = rows.length := by rw [List.length_set, SR_len]
theorem SR_set_kill (k q i : Nat) (rows : List (List PV)) (h : q ≠ k) : (((SR rows).set i [.row k]).map fun r => r.map (SV.kill q)) = (SR rows).set i [.row k] := by
 rw [List.map_set, SR_map_kill]; simp [SV.kill, SV.ment, Ne.symm h]
theorem SR_set_kill0 (q i : Nat) (d : PV) (rows : List (List PV)) : (((SR rows).set i [.sh d]).map fun r => r.map (SV.kill q)) = (SR rows).set i [.sh d] := by
 rw [List.map_set, SR_map_kill]; simp [SV.kill, SV.ment]
theorem SR_set_set (rows : List (List PV)) (i : Nat) (x y : List SV) : ((SR rows).set i x).set i y = (SR rows).set i y := List.set_set ..
theorem ob_kill_rw (k e sz : Nat) (rows : List (List SV)) : Ob.kill k (.rw e sz rows) = .rw e sz (rows.map fun r => r.map (SV.kill k)) := rfl
theorem ob_freeze_rw (k e sz : Nat) (ds : List PV) (rows : List (List SV)) : Ob.freeze k ds (.rw e sz rows) = .rw e sz (rows.map fun r => r.map (SV.freeze k ds)) := rfl
theorem ob_share_rw (k e sz : Nat) (ds : List (List PV)) (rows : List (List SV)) : Ob.share k ds (.rw e sz rows) = .rw e sz (rows.map fun r => r.map (SV.share k ds)) := rfl
theorem AY : type_of% (And.intro @SR_set_get (And.intro @SR_set_len (And.intro @SR_kill_set (And.intro @SR_set_kill (And.intro @SR_set_kill0 (And.intro @SR_set_set (And.intro @SR_set_freeze (And.intro @SR_map_freeze (And.intro @SR_map_share (And.intro @SR_share_set (And.intro @ob_kill_rw (And.intro @ob_freeze_rw (@ob_share_rw))))))))))))) := And.intro @SR_set_get (And.intro @SR_set_len (And.intro @SR_kill_set (And.intro @SR_set_kill (And.intro @SR_set_kill0 (And.intro @SR_set_set (And.intro @SR_set_freeze (And.intro @SR_map_freeze (And.intro @SR_map_share (And.intro @SR_share_set (And.intro @ob_kill_rw (And.intro @ob_freeze_rw (@ob_share_rw))))))))))))
end Go.Pw
set_option maxRecDepth 100000
set_option linter.unusedVariables false
namespace Go.Pw
open Go Go.Proofs
theorem SY {P Q : Prop} (kQ : Q) (h : (Unit → Q) → P := by
 intro hQ
 repeat'(with_reducible first|apply p_seq|apply p_sq|apply p_reg|apply p_nil|apply p_skip|apply p_block|apply p_bq|apply p_ret|apply p_exit|apply p_sq_ret|apply p_sq_exit|apply p_bq_ret|apply p_bq_this|apply p_lq_ret|apply p_lq_exit|apply d_nil|refine p_drw (by decide +kernel) ?_|refine f_op rfl rfl ?_|refine f_opg rfl rfl rfl rfl ?_ ?_|refine f_new rfl rfl rfl rfl ?_|(refine f_end (And.intro ?_ ?_)<;>simp only [List.foldl_nil,List.foldl_cons,recS_mk,AB,AD,AZ,AY,Nat.reduceEqDiff,↓reduceIte,Nat.reduceAdd,Nat.reduceMul,Nat.reducePow,Nat.reduceLeDiff,Nat.reduceLT])|apply k_nil|refine k_cons2 rfl rfl ?_ ?_|(refine fun (K1:SV→Prop) hK1=>?_;simp (disch := omega) only [AB,AD,AZ,AY,Nat.reduceEqDiff,↓reduceIte,Nat.reduceAdd,Nat.reduceMul,Nat.reducePow,Nat.reduceLeDiff,Nat.reduceLT];with_unfolding_all exact hK1)|(with_unfolding_all exact (rfl : true = true))|(with_unfolding_all exact (rfl : (0:Nat) = 0))|apply g_nil|refine g_op0 rfl ?_|refine g_opC rfl ?_|refine p_bq_other (by decide) ?_|refine p_cond rfl ?_ ?_|refine p_op rfl ?_|refine d_op rfl rfl ?_|refine d_eff rfl ?_|refine p_opg rfl rfl rfl ?_ ?_|refine d_opg rfl rfl rfl rfl ?_ ?_|((first|refine p_opgU rfl rfl rfl ?_|refine d_opgU rfl rfl rfl rfl ?_);try simp only [put_some])|(refine fun (K1:St→Prop) hK1=>?_;simp (disch := omega) only [AB,AD,AZ,AY,Nat.reduceEqDiff,↓reduceIte,Nat.reduceAdd,Nat.reduceMul,Nat.reducePow,Nat.reduceLeDiff,Nat.reduceLT];(try simp (disch := omega) only [AC]);(try simp only [AM]))|(refine hK1 _ ?_;clear hK1 K1)|refine And.intro (by omega) ?_|apply And.intro|(refine fun (hZb:(_:Bool)=_)=>?_;(try simp only [HS] at hZb);(try (change True at hZb;clear hZb));first|(exfalso;first|omega|contradiction)|(try simp only [put_some])))
 all_goals ((try revert K1);(repeat revert hZb))
 exact hQ ()) : P := h (fun _ => kQ)
theorem WY {P Q R : Prop} (kQ : Q) (kR : R) (h : (Unit → Q) → (Unit → R) → P := by
 intro hQ hR
 repeat'(with_reducible first|apply p_seq|apply p_sq|apply p_reg|apply p_nil|apply p_skip|apply p_block|apply p_bq|apply p_ret|apply p_exit|apply p_sq_ret|apply p_sq_exit|apply p_bq_ret|apply p_bq_this|apply p_lq_ret|apply p_lq_exit|apply d_nil|refine p_drw (by decide +kernel) ?_|refine f_op rfl rfl ?_|refine f_opg rfl rfl rfl rfl ?_ ?_|refine f_new rfl rfl rfl rfl ?_|(refine f_end (And.intro ?_ ?_)<;>simp only [List.foldl_nil,List.foldl_cons,recS_mk,AB,AD,AZ,AY,Nat.reduceEqDiff,↓reduceIte,Nat.reduceAdd,Nat.reduceMul,Nat.reducePow,Nat.reduceLeDiff,Nat.reduceLT])|apply k_nil|refine k_cons2 rfl rfl ?_ ?_|(refine fun (K1:SV→Prop) hK1=>?_;simp (disch := omega) only [AB,AD,AZ,AY,Nat.reduceEqDiff,↓reduceIte,Nat.reduceAdd,Nat.reduceMul,Nat.reducePow,Nat.reduceLeDiff,Nat.reduceLT];with_unfolding_all exact hK1)|(with_unfolding_all exact (rfl : true = true))|(with_unfolding_all exact (rfl : (0:Nat) = 0))|apply g_nil|refine g_op0 rfl ?_|refine g_opC rfl ?_|refine p_bq_other (by decide) ?_|refine p_cond rfl ?_ ?_|refine p_op rfl ?_|refine d_op rfl rfl ?_|refine d_eff rfl ?_|refine p_opg rfl rfl rfl ?_ ?_|refine d_opg rfl rfl rfl rfl ?_ ?_|((first|refine p_opgU rfl rfl rfl ?_|refine d_opgU rfl rfl rfl rfl ?_);try simp only [put_some])|(refine fun (K1:St→Prop) hK1=>?_;simp (disch := omega) only [AB,AD,AZ,AY,Nat.reduceEqDiff,↓reduceIte,Nat.reduceAdd,Nat.reduceMul,Nat.reducePow,Nat.reduceLeDiff,Nat.reduceLT];(try simp (disch := omega) only [AC]);(try simp only [AM]))|(refine hK1 _ ?_;clear hK1 K1)|refine And.intro (by omega) ?_|apply And.intro|(refine fun (hZb:(_:Bool)=_)=>?_;(try simp only [HS] at hZb);(try (change True at hZb;clear hZb));first|(exfalso;first|omega|contradiction)|(try simp only [put_some])))
 all_goals ((try revert K1);(repeat revert hZb))
 exact hQ ()
 exact hR ()) : P := h (fun _ => kQ) (fun _ => kR)
end Go.Pw
set_option maxRecDepth 100000
set_option linter.unusedVariables false
set_option linter.unusedSimpArgs false
namespace Go.Pw
open Go Go.Proofs
def fI (q : Nat → Bool) (n : Nat) : Int := match (List.range n).find? q with | some i => (i : Int) | none => -1
theorem fI_some {q : Nat → Bool} {n i : Nat} (h : ∀ k, k < i → q k = false) (hi : i < n) (hq : q i = true) : fI q n = i := by
 have : (List.range n).find? q = some i := List.find?_range_eq_some.2 ⟨hq, List.mem_range.2 hi, fun j hj => by simp [h j hj]⟩
 unfold fI; rw [this]
theorem fI_none {q : Nat → Bool} {n : Nat} (h : ∀ k, k < n → q k = false) : fI q n = -1 := by
 have : (List.range n).find? q = none := List.find?_range_eq_none.2 fun j hj => by simp [h j hj]
 unfold fI; rw [this]
theorem fI_any (q : Nat → Bool) (n : Nat) : decide (0 ≤ fI q n) = (List.range n).any q := by
 unfold fI
 cases h : (List.range n).find? q with
 | none => rw [List.any_eq_false.2 (fun x hx => by have := List.find?_eq_none.1 h x hx; simpa using this)]; rfl
 | some i => rw [List.any_eq_true.2 ⟨i, List.mem_of_find?_eq_some h, List.find?_some h⟩]; simp
theorem con_Index182 (l : List (List Rt)) (q : Nat → Bool) (g : Nat) (caps : List PV) (h : l.length < 2 ^ 40) (hq : ∀ i, i < l.length → Con E g ([cRs (l.getD i [])] ++ caps) (vB (q i))) : Con E 182 [cRss l, .fn g caps] (vI (fI q l.length)) := by
 refine con_of2 mixed (fn := Tryz.f182) (rs := [.tmp 4]) Tryz.func182 (by kernel_rfl) rfl (by kernel_rfl) rfl rfl ?_
 simp only [argE, Nat.reduceAdd, cRss, vI, vB]
 (refine SZ ?_;intros)
 refine p_loopx (fun (i : Nat) => [(8, .sh (vI i)), (7, .sh (vI l.length)), (0, .sh (cRss l)), (1, .sh (.fn g caps))]) (fun i => []) (fun i => l.length - i) (fun i => i ≤ l.length ∧ ∀ k, k < i → q k = false) 0 (Weak.list ⟨rfl, rfl, rfl, rfl, trivial⟩ trivial) ⟨Nat.zero_le _, fun k hk => by omega⟩ ?_
 rintro i ⟨hi, hI⟩
 have cq := hq i
 have fin : i = l.length → fI q l.length = -1 := fun e => fI_none fun k hk => hI k (by omega)
 have hit : i < l.length → q i = true → fI q l.length = i := fun e hb => fI_some hI e hb
 have step : q i = false → ∀ k, k < i + 1 → q k = false := fun e k hk => by
   rcases Nat.lt_or_ge k i with h1 | h1
   · exact hI k h1
   · rw [show k = i by omega]; exact e
 simp only [cRss, vI, vB] at *
 clear hq hI
 cases hqi : q i <;> rw [hqi] at cq
 · (refine WZ ?_ ?_<;>intros;rename_i hb K1 hK1;rotate_left;rename_i hb;rotate_right)
   · (refine ⟨_,cq (by omega),hK1 _ ?_⟩;clear hK1 K1;try simp only [put_some,cN,vI,vB,cR])
     (refine SZ ?_;intros)
     exact p_lx _ _ _ _ (i + 1) (by omega) ⟨by omega, step hqi⟩ (Weak.list ⟨int_eq (by omega), rfl, rfl, rfl, trivial⟩ trivial)
   · rw [fin (by omega)]
     simp only [res1,res2,res3,AB,AD,AZ,Nat.reduceEqDiff,↓reduceIte,Nat.reduceAdd,Nat.reduceMul,Nat.reducePow,Nat.reduceLeDiff,Nat.reduceLT]
 · (refine WZ ?_ ?_<;>intros;rename_i hb K1 hK1;rotate_left;rename_i hb;rotate_right)
   · (refine ⟨_,cq (by omega),hK1 _ ?_⟩;clear hK1 K1;try simp only [put_some,cN,vI,vB,cR])
     (refine SZ ?_;intros)
     rw [hit (by omega) hqi]
     simp only [res1,res2,res3,AB,AD,AZ,Nat.reduceEqDiff,↓reduceIte,Nat.reduceAdd,Nat.reduceMul,Nat.reducePow,Nat.reduceLeDiff,Nat.reduceLT]
   · rw [fin (by omega)]
     simp only [res1,res2,res3,AB,AD,AZ,Nat.reduceEqDiff,↓reduceIte,Nat.reduceAdd,Nat.reduceMul,Nat.reducePow,Nat.reduceLeDiff,Nat.reduceLT]
theorem con_Index183 (l : List Rt) (q : Nat → Bool) (g : Nat) (caps : List PV) (h : l.length < 2 ^ 40) (hq : ∀ i, i < l.length → Con E g ([.agg (cR (l.getD i default))] ++ caps) (vB (q i))) : Con E 183 [cRs l, .fn g caps] (vI (fI q l.length)) := by
 refine con_of2 mixed (fn := Tryz.f183) (rs := [.tmp 4]) Tryz.func183 (by kernel_rfl) rfl (by kernel_rfl) rfl rfl ?_
 simp only [argE, Nat.reduceAdd, cRs, vI, vB]
 (refine SZ ?_;intros)
 refine p_loopx (fun (i : Nat) => [(8, .sh (vI i)), (7, .sh (vI l.length)), (0, .sh (cRs l)), (1, .sh (.fn g caps))]) (fun i => []) (fun i => l.length - i) (fun i => i ≤ l.length ∧ ∀ k, k < i → q k = false) 0 (Weak.list ⟨rfl, rfl, rfl, rfl, trivial⟩ trivial) ⟨Nat.zero_le _, fun k hk => by omega⟩ ?_
 rintro i ⟨hi, hI⟩
 have cq := hq i
 have fin : i = l.length → fI q l.length = -1 := fun e => fI_none fun k hk => hI k (by omega)
 have hit : i < l.length → q i = true → fI q l.length = i := fun e hb => fI_some hI e hb
 have step : q i = false → ∀ k, k < i + 1 → q k = false := fun e k hk => by
   rcases Nat.lt_or_ge k i with h1 | h1
   · exact hI k h1
   · rw [show k = i by omega]; exact e
 simp only [cRs, vI, vB] at *
 clear hq hI
 cases hqi : q i <;> rw [hqi] at cq
 · (refine WZ ?_ ?_<;>intros;rename_i hb K1 hK1;rotate_left;rename_i hb;rotate_right)
   · (refine ⟨_,cq (by omega),hK1 _ ?_⟩;clear hK1 K1;try simp only [put_some,cN,vI,vB,cR])
     (refine SZ ?_;intros)
     exact p_lx _ _ _ _ (i + 1) (by omega) ⟨by omega, step hqi⟩ (Weak.list ⟨int_eq (by omega), rfl, rfl, rfl, trivial⟩ trivial)
   · rw [fin (by omega)]
     simp only [res1,res2,res3,AB,AD,AZ,Nat.reduceEqDiff,↓reduceIte,Nat.reduceAdd,Nat.reduceMul,Nat.reducePow,Nat.reduceLeDiff,Nat.reduceLT]
 · (refine WZ ?_ ?_<;>intros;rename_i hb K1 hK1;rotate_left;rename_i hb;rotate_right)
   · (refine ⟨_,cq (by omega),hK1 _ ?_⟩;clear hK1 K1;try simp only [put_some,cN,vI,vB,cR])
     (refine SZ ?_;intros)
     rw [hit (by omega) hqi]
     simp only [res1,res2,res3,AB,AD,AZ,Nat.reduceEqDiff,↓reduceIte,Nat.reduceAdd,Nat.reduceMul,Nat.reducePow,Nat.reduceLeDiff,Nat.reduceLT]
   · rw [fin (by omega)]
     simp only [res1,res2,res3,AB,AD,AZ,Nat.reduceEqDiff,↓reduceIte,Nat.reduceAdd,Nat.reduceMul,Nat.reducePow,Nat.reduceLeDiff,Nat.reduceLT]
theorem con_Contains119 (l : List (List Rt)) (q : Nat → Bool) (g : Nat) (caps : List PV) (h : l.length < 2 ^ 40) (hq : ∀ i, i < l.length → Con E g ([cRs (l.getD i [])] ++ caps) (vB (q i))) : Con E 119 [cRss l, .fn g caps] (vB ((List.range l.length).any q)) := by
 have c1 := con_Index182 l q g caps h hq
 rw [← fI_any]
 refine con_of2 mixed (fn := Tryz.f119) (rs := [.tmp 4]) Tryz.func119 (by kernel_rfl) rfl (by kernel_rfl) rfl rfl ?_
 simp only [argE, Nat.reduceAdd, cRss, vI, vB] at *
 (refine SZ ?_;intros;rename_i K1 hK1)
 (refine ⟨_,c1,hK1 _ ?_⟩;clear hK1 K1;try simp only [put_some,cN,vI,vB,cR])
 (refine SZ ?_;intros)
 simp only [res1,res2,res3,AB,AD,AZ,Nat.reduceEqDiff,↓reduceIte,Nat.reduceAdd,Nat.reduceMul,Nat.reducePow,Nat.reduceLeDiff,Nat.reduceLT]
theorem con_Contains121 (l : List Rt) (q : Nat → Bool) (g : Nat) (caps : List PV) (h : l.length < 2 ^ 40) (hq : ∀ i, i < l.length → Con E g ([.agg (cR (l.getD i default))] ++ caps) (vB (q i))) : Con E 121 [cRs l, .fn g caps] (vB ((List.range l.length).any q)) := by
 have c1 := con_Index183 l q g caps h hq
 rw [← fI_any]
 refine con_of2 mixed (fn := Tryz.f121) (rs := [.tmp 4]) Tryz.func121 (by kernel_rfl) rfl (by kernel_rfl) rfl rfl ?_
 simp only [argE, Nat.reduceAdd, cRs, vI, vB] at *
 (refine SZ ?_;intros;rename_i K1 hK1)
 (refine ⟨_,c1,hK1 _ ?_⟩;clear hK1 K1;try simp only [put_some,cN,vI,vB,cR])
 (refine SZ ?_;intros)
 simp only [res1,res2,res3,AB,AD,AZ,Nat.reduceEqDiff,↓reduceIte,Nat.reduceAdd,Nat.reduceMul,Nat.reducePow,Nat.reduceLeDiff,Nat.reduceLT]
end Go.Pw
set_option maxRecDepth 100000
set_option linter.unusedVariables false
namespace Go.Pw
open Go Go.Proofs
theorem SD {P Q : Prop} (kQ : Q) (h : (Unit → Q) → P := by
 intro hQ
 repeat'(with_reducible first|apply p_seq|apply p_sq|apply p_reg|apply p_nil|apply p_skip|apply p_block|apply p_bq|apply p_ret|apply p_exit|apply p_sq_ret|apply p_sq_exit|apply p_bq_ret|apply p_bq_this|apply p_lq_ret|apply p_lq_exit|apply d_nil|refine p_drw (by decide +kernel) ?_|refine f_op rfl rfl ?_|refine f_opg rfl rfl rfl rfl ?_ ?_|refine f_new rfl rfl rfl rfl ?_|(refine f_end (And.intro ?_ ?_)<;>simp only [List.foldl_nil,List.foldl_cons,recS_mk,AB,AD,Nat.reduceEqDiff,↓reduceIte,Nat.reduceAdd,Nat.reduceMul,Nat.reducePow,Nat.reduceLeDiff,Nat.reduceLT])|apply k_nil|refine k_cons rfl rfl ?_ ?_|apply g_nil|refine g_op0 rfl ?_|refine g_opC rfl ?_|refine p_bq_other (by decide) ?_|refine p_cond rfl ?_ ?_|refine p_op rfl ?_|refine d_op rfl rfl ?_|refine d_eff rfl ?_|refine p_opg rfl rfl rfl ?_ ?_|refine d_opg rfl rfl rfl rfl ?_ ?_|((first|refine p_opgU rfl rfl rfl ?_|refine d_opgU rfl rfl rfl rfl ?_);try simp only [put_some])|(refine fun (K1:St→Prop) hK1=>?_;simp (disch := omega) only [AB,AD,Nat.reduceEqDiff,↓reduceIte,Nat.reduceAdd,Nat.reduceMul,Nat.reducePow,Nat.reduceLeDiff,Nat.reduceLT];(try simp (disch := omega) only [AC]);(try simp only [AM]))|(refine hK1 _ ?_;clear hK1 K1)|refine And.intro (by omega) ?_|apply And.intro|(refine fun (hZb:(_:Bool)=_)=>?_;(try simp only [HS] at hZb);(try (change True at hZb;clear hZb));first|(exfalso;first|omega|contradiction)|(try simp only [put_some])))
 all_goals ((try revert K1);(repeat revert hZb))
 exact hQ ()) : P := h (fun _ => kQ)
theorem WD {P Q R : Prop} (kQ : Q) (kR : R) (h : (Unit → Q) → (Unit → R) → P := by
 intro hQ hR
 repeat'(with_reducible first|apply p_seq|apply p_sq|apply p_reg|apply p_nil|apply p_skip|apply p_block|apply p_bq|apply p_ret|apply p_exit|apply p_sq_ret|apply p_sq_exit|apply p_bq_ret|apply p_bq_this|apply p_lq_ret|apply p_lq_exit|apply d_nil|refine p_drw (by decide +kernel) ?_|refine f_op rfl rfl ?_|refine f_opg rfl rfl rfl rfl ?_ ?_|refine f_new rfl rfl rfl rfl ?_|(refine f_end (And.intro ?_ ?_)<;>simp only [List.foldl_nil,List.foldl_cons,recS_mk,AB,AD,Nat.reduceEqDiff,↓reduceIte,Nat.reduceAdd,Nat.reduceMul,Nat.reducePow,Nat.reduceLeDiff,Nat.reduceLT])|apply k_nil|refine k_cons rfl rfl ?_ ?_|apply g_nil|refine g_op0 rfl ?_|refine g_opC rfl ?_|refine p_bq_other (by decide) ?_|refine p_cond rfl ?_ ?_|refine p_op rfl ?_|refine d_op rfl rfl ?_|refine d_eff rfl ?_|refine p_opg rfl rfl rfl ?_ ?_|refine d_opg rfl rfl rfl rfl ?_ ?_|((first|refine p_opgU rfl rfl rfl ?_|refine d_opgU rfl rfl rfl rfl ?_);try simp only [put_some])|(refine fun (K1:St→Prop) hK1=>?_;simp (disch := omega) only [AB,AD,Nat.reduceEqDiff,↓reduceIte,Nat.reduceAdd,Nat.reduceMul,Nat.reducePow,Nat.reduceLeDiff,Nat.reduceLT];(try simp (disch := omega) only [AC]);(try simp only [AM]))|(refine hK1 _ ?_;clear hK1 K1)|refine And.intro (by omega) ?_|apply And.intro|(refine fun (hZb:(_:Bool)=_)=>?_;(try simp only [HS] at hZb);(try (change True at hZb;clear hZb));first|(exfalso;first|omega|contradiction)|(try simp only [put_some])))
 all_goals ((try revert K1);(repeat revert hZb))
 exact hQ ()
 exact hR ()) : P := h (fun _ => kQ) (fun _ => kR)
theorem VD {P Q R T : Prop} (kQ : Q) (kR : R) (kT : T) (h : (Unit → Q) → (Unit → R) → (Unit → T) → P := by
 intro hQ hR hT
 repeat'(with_reducible first|apply p_seq|apply p_sq|apply p_reg|apply p_nil|apply p_skip|apply p_block|apply p_bq|apply p_ret|apply p_exit|apply p_sq_ret|apply p_sq_exit|apply p_bq_ret|apply p_bq_this|apply p_lq_ret|apply p_lq_exit|apply d_nil|refine p_drw (by decide +kernel) ?_|refine f_op rfl rfl ?_|refine f_opg rfl rfl rfl rfl ?_ ?_|refine f_new rfl rfl rfl rfl ?_|(refine f_end (And.intro ?_ ?_)<;>simp only [List.foldl_nil,List.foldl_cons,recS_mk,AB,AD,Nat.reduceEqDiff,↓reduceIte,Nat.reduceAdd,Nat.reduceMul,Nat.reducePow,Nat.reduceLeDiff,Nat.reduceLT])|apply k_nil|refine k_cons rfl rfl ?_ ?_|apply g_nil|refine g_op0 rfl ?_|refine g_opC rfl ?_|refine p_bq_other (by decide) ?_|refine p_cond rfl ?_ ?_|refine p_op rfl ?_|refine d_op rfl rfl ?_|refine d_eff rfl ?_|refine p_opg rfl rfl rfl ?_ ?_|refine d_opg rfl rfl rfl rfl ?_ ?_|((first|refine p_opgU rfl rfl rfl ?_|refine d_opgU rfl rfl rfl rfl ?_);try simp only [put_some])|(refine fun (K1:St→Prop) hK1=>?_;simp (disch := omega) only [AB,AD,Nat.reduceEqDiff,↓reduceIte,Nat.reduceAdd,Nat.reduceMul,Nat.reducePow,Nat.reduceLeDiff,Nat.reduceLT];(try simp (disch := omega) only [AC]);(try simp only [AM]))|(refine hK1 _ ?_;clear hK1 K1)|refine And.intro (by omega) ?_|apply And.intro|(refine fun (hZb:(_:Bool)=_)=>?_;(try simp only [HS] at hZb);(try (change True at hZb;clear hZb));first|(exfalso;first|omega|contradiction)|(try simp only [put_some])))
 all_goals ((try revert K1);(repeat revert hZb))
 exact hQ ()
 exact hR ()
 exact hT ()) : P := h (fun _ => kQ) (fun _ => kR) (fun _ => kT)
theorem UD {P Q R T U : Prop} (kQ : Q) (kR : R) (kT : T) (kU : U) (h : (Unit → Q) → (Unit → R) → (Unit → T) → (Unit → U) → P := by
 intro hQ hR hT hU
 repeat'(with_reducible first|apply p_seq|apply p_sq|apply p_reg|apply p_nil|apply p_skip|apply p_block|apply p_bq|apply p_ret|apply p_exit|apply p_sq_ret|apply p_sq_exit|apply p_bq_ret|apply p_bq_this|apply p_lq_ret|apply p_lq_exit|apply d_nil|refine p_drw (by decide +kernel) ?_|refine f_op rfl rfl ?_|refine f_opg rfl rfl rfl rfl ?_ ?_|refine f_new rfl rfl rfl rfl ?_|(refine f_end (And.intro ?_ ?_)<;>simp only [List.foldl_nil,List.foldl_cons,recS_mk,AB,AD,Nat.reduceEqDiff,↓reduceIte,Nat.reduceAdd,Nat.reduceMul,Nat.reducePow,Nat.reduceLeDiff,Nat.reduceLT])|apply k_nil|refine k_cons rfl rfl ?_ ?_|apply g_nil|refine g_op0 rfl ?_|refine g_opC rfl ?_|refine p_bq_other (by decide) ?_|refine p_cond rfl ?_ ?_|refine p_op rfl ?_|refine d_op rfl rfl ?_|refine d_eff rfl ?_|refine p_opg rfl rfl rfl ?_ ?_|refine d_opg rfl rfl rfl rfl ?_ ?_|((first|refine p_opgU rfl rfl rfl ?_|refine d_opgU rfl rfl rfl rfl ?_);try simp only [put_some])|(refine fun (K1:St→Prop) hK1=>?_;simp (disch := omega) only [AB,AD,Nat.reduceEqDiff,↓reduceIte,Nat.reduceAdd,Nat.reduceMul,Nat.reducePow,Nat.reduceLeDiff,Nat.reduceLT];(try simp (disch := omega) only [AC]);(try simp only [AM]))|(refine hK1 _ ?_;clear hK1 K1)|refine And.intro (by omega) ?_|apply And.intro|(refine fun (hZb:(_:Bool)=_)=>?_;(try simp only [HS] at hZb);(try (change True at hZb;clear hZb));first|(exfalso;first|omega|contradiction)|(try simp only [put_some])))
 all_goals ((try revert K1);(repeat revert hZb))
 exact hQ ()
 exact hR ()
 exact hT ()
 exact hU ()) : P := h (fun _ => kQ) (fun _ => kR) (fun _ => kT) (fun _ => kU)
end Go.Pw
set_option maxRecDepth 100000
set_option linter.unusedVariables false
namespace Go.Pw
open Go Go.Proofs
theorem SA {P Q : Prop} (kQ : Q) (h : (Unit → Q) → P := by
 intro hQ
 repeat'(with_reducible first|apply p_seq|apply p_sq|apply p_reg|apply p_nil|apply p_skip|apply p_block|apply p_bq|apply p_ret|apply p_exit|apply p_sq_ret|apply p_sq_exit|apply p_bq_ret|apply p_bq_this|apply p_lq_ret|apply p_lq_exit|apply d_nil|refine p_drw (by decide +kernel) ?_|refine f_op rfl rfl ?_|refine f_opg rfl rfl rfl rfl ?_ ?_|refine f_new rfl rfl rfl rfl ?_|(refine f_end (And.intro ?_ ?_)<;>simp only [List.foldl_nil,List.foldl_cons,recS_mk,AB,Nat.reduceEqDiff,↓reduceIte,Nat.reduceAdd,Nat.reduceMul,Nat.reducePow,Nat.reduceLeDiff,Nat.reduceLT])|apply k_nil|refine k_cons rfl rfl ?_ ?_|apply g_nil|refine g_op0 rfl ?_|refine g_opC rfl ?_|refine p_bq_other (by decide) ?_|refine p_cond rfl ?_ ?_|refine p_op rfl ?_|refine d_op rfl rfl ?_|refine d_eff rfl ?_|refine p_opg rfl rfl rfl ?_ ?_|refine d_opg rfl rfl rfl rfl ?_ ?_|((first|refine p_opgU rfl rfl rfl ?_|refine d_opgU rfl rfl rfl rfl ?_);try simp only [put_some])|(refine fun (K1:St→Prop) hK1=>?_;simp (disch := omega) only [AB,Nat.reduceEqDiff,↓reduceIte,Nat.reduceAdd,Nat.reduceMul,Nat.reducePow,Nat.reduceLeDiff,Nat.reduceLT];(try simp (disch := omega) only [AC]);(try simp only [AM]))|(refine hK1 _ ?_;clear hK1 K1)|refine And.intro (by omega) ?_|apply And.intro|(refine fun (hZb:(_:Bool)=_)=>?_;(try simp only [HS] at hZb);(try (change True at hZb;clear hZb));first|(exfalso;first|omega|contradiction)|(try simp only [put_some])))
 all_goals ((try revert K1);(repeat revert hZb))
 exact hQ ()) : P := h (fun _ => kQ)
theorem WA {P Q R : Prop} (kQ : Q) (kR : R) (h : (Unit → Q) → (Unit → R) → P := by
 intro hQ hR
 repeat'(with_reducible first|apply p_seq|apply p_sq|apply p_reg|apply p_nil|apply p_skip|apply p_block|apply p_bq|apply p_ret|apply p_exit|apply p_sq_ret|apply p_sq_exit|apply p_bq_ret|apply p_bq_this|apply p_lq_ret|apply p_lq_exit|apply d_nil|refine p_drw (by decide +kernel) ?_|refine f_op rfl rfl ?_|refine f_opg rfl rfl rfl rfl ?_ ?_|refine f_new rfl rfl rfl rfl ?_|(refine f_end (And.intro ?_ ?_)<;>simp only [List.foldl_nil,List.foldl_cons,recS_mk,AB,Nat.reduceEqDiff,↓reduceIte,Nat.reduceAdd,Nat.reduceMul,Nat.reducePow,Nat.reduceLeDiff,Nat.reduceLT])|apply k_nil|refine k_cons rfl rfl ?_ ?_|apply g_nil|refine g_op0 rfl ?_|refine g_opC rfl ?_|refine p_bq_other (by decide) ?_|refine p_cond rfl ?_ ?_|refine p_op rfl ?_|refine d_op rfl rfl ?_|refine d_eff rfl ?_|refine p_opg rfl rfl rfl ?_ ?_|refine d_opg rfl rfl rfl rfl ?_ ?_|((first|refine p_opgU rfl rfl rfl ?_|refine d_opgU rfl rfl rfl rfl ?_);try simp only [put_some])|(refine fun (K1:St→Prop) hK1=>?_;simp (disch := omega) only [AB,Nat.reduceEqDiff,↓reduceIte,Nat.reduceAdd,Nat.reduceMul,Nat.reducePow,Nat.reduceLeDiff,Nat.reduceLT];(try simp (disch := omega) only [AC]);(try simp only [AM]))|(refine hK1 _ ?_;clear hK1 K1)|refine And.intro (by omega) ?_|apply And.intro|(refine fun (hZb:(_:Bool)=_)=>?_;(try simp only [HS] at hZb);(try (change True at hZb;clear hZb));first|(exfalso;first|omega|contradiction)|(try simp only [put_some])))
 all_goals ((try revert K1);(repeat revert hZb))
 exact hQ ()
 exact hR ()) : P := h (fun _ => kQ) (fun _ => kR)
theorem VA {P Q R T : Prop} (kQ : Q) (kR : R) (kT : T) (h : (Unit → Q) → (Unit → R) → (Unit → T) → P := by
 intro hQ hR hT
 repeat'(with_reducible first|apply p_seq|apply p_sq|apply p_reg|apply p_nil|apply p_skip|apply p_block|apply p_bq|apply p_ret|apply p_exit|apply p_sq_ret|apply p_sq_exit|apply p_bq_ret|apply p_bq_this|apply p_lq_ret|apply p_lq_exit|apply d_nil|refine p_drw (by decide +kernel) ?_|refine f_op rfl rfl ?_|refine f_opg rfl rfl rfl rfl ?_ ?_|refine f_new rfl rfl rfl rfl ?_|(refine f_end (And.intro ?_ ?_)<;>simp only [List.foldl_nil,List.foldl_cons,recS_mk,AB,Nat.reduceEqDiff,↓reduceIte,Nat.reduceAdd,Nat.reduceMul,Nat.reducePow,Nat.reduceLeDiff,Nat.reduceLT])|apply k_nil|refine k_cons rfl rfl ?_ ?_|apply g_nil|refine g_op0 rfl ?_|refine g_opC rfl ?_|refine p_bq_other (by decide) ?_|refine p_cond rfl ?_ ?_|refine p_op rfl ?_|refine d_op rfl rfl ?_|refine d_eff rfl ?_|refine p_opg rfl rfl rfl ?_ ?_|refine d_opg rfl rfl rfl rfl ?_ ?_|((first|refine p_opgU rfl rfl rfl ?_|refine d_opgU rfl rfl rfl rfl ?_);try simp only [put_some])|(refine fun (K1:St→Prop) hK1=>?_;simp (disch := omega) only [AB,Nat.reduceEqDiff,↓reduceIte,Nat.reduceAdd,Nat.reduceMul,Nat.reducePow,Nat.reduceLeDiff,Nat.reduceLT];(try simp (disch := omega) only [AC]);(try simp only [AM]))|(refine hK1 _ ?_;clear hK1 K1)|refine And.intro (by omega) ?_|apply And.intro|(refine fun (hZb:(_:Bool)=_)=>?_;(try simp only [HS] at hZb);(try (change True at hZb;clear hZb));first|(exfalso;first|omega|contradiction)|(try simp only [put_some])))
 all_goals ((try revert K1);(repeat revert hZb))
 exact hQ ()
 exact hR ()
 exact hT ()) : P := h (fun _ => kQ) (fun _ => kR) (fun _ => kT)
theorem T1A {P Q : Prop} (kQ : Q) (h : (Unit → Q) → P := by
 intro hQ
 repeat'((fail_if_success refine p_slM rfl ?_);(with_reducible first|apply p_seq|apply p_sq|apply p_reg|apply p_nil|apply p_skip|apply p_block|apply p_bq|apply p_ret|apply p_exit|apply p_sq_ret|apply p_sq_exit|apply p_bq_ret|apply p_bq_this|apply p_lq_ret|apply p_lq_exit|apply d_nil|refine p_drw (by decide +kernel) ?_|refine f_op rfl rfl ?_|refine f_opg rfl rfl rfl rfl ?_ ?_|refine f_new rfl rfl rfl rfl ?_|(refine f_end (And.intro ?_ ?_)<;>simp only [List.foldl_nil,List.foldl_cons,recS_mk,AB,Nat.reduceEqDiff,↓reduceIte,Nat.reduceAdd,Nat.reduceMul,Nat.reducePow,Nat.reduceLeDiff,Nat.reduceLT])|apply k_nil|refine k_cons rfl rfl ?_ ?_|apply g_nil|refine g_op0 rfl ?_|refine g_opC rfl ?_|refine p_bq_other (by decide) ?_|refine p_cond rfl ?_ ?_|refine p_op rfl ?_|refine d_op rfl rfl ?_|refine d_eff rfl ?_|refine p_opg rfl rfl rfl ?_ ?_|refine d_opg rfl rfl rfl rfl ?_ ?_|((first|refine p_opgU rfl rfl rfl ?_|refine d_opgU rfl rfl rfl rfl ?_);try simp only [put_some])|(refine fun (K1:St→Prop) hK1=>?_;simp (disch := omega) only [AB,Nat.reduceEqDiff,↓reduceIte,Nat.reduceAdd,Nat.reduceMul,Nat.reducePow,Nat.reduceLeDiff,Nat.reduceLT];(try simp (disch := omega) only [AC]);(try simp only [AM]))|(refine hK1 _ ?_;clear hK1 K1)|refine And.intro (by omega) ?_|apply And.intro|(refine fun (hZb:(_:Bool)=_)=>?_;(try simp only [HS] at hZb);(try (change True at hZb;clear hZb));first|(exfalso;first|omega|contradiction)|(try simp only [put_some]))))
 all_goals ((try revert K1);(repeat revert hZb))
 exact hQ ()) : P := h (fun _ => kQ)
theorem T2A {P Q R : Prop} (kQ : Q) (kR : R) (h : (Unit → Q) → (Unit → R) → P := by
 intro hQ hR
 repeat'((fail_if_success refine p_slM rfl ?_);(with_reducible first|apply p_seq|apply p_sq|apply p_reg|apply p_nil|apply p_skip|apply p_block|apply p_bq|apply p_ret|apply p_exit|apply p_sq_ret|apply p_sq_exit|apply p_bq_ret|apply p_bq_this|apply p_lq_ret|apply p_lq_exit|apply d_nil|refine p_drw (by decide +kernel) ?_|refine f_op rfl rfl ?_|refine f_opg rfl rfl rfl rfl ?_ ?_|refine f_new rfl rfl rfl rfl ?_|(refine f_end (And.intro ?_ ?_)<;>simp only [List.foldl_nil,List.foldl_cons,recS_mk,AB,Nat.reduceEqDiff,↓reduceIte,Nat.reduceAdd,Nat.reduceMul,Nat.reducePow,Nat.reduceLeDiff,Nat.reduceLT])|apply k_nil|refine k_cons rfl rfl ?_ ?_|apply g_nil|refine g_op0 rfl ?_|refine g_opC rfl ?_|refine p_bq_other (by decide) ?_|refine p_cond rfl ?_ ?_|refine p_op rfl ?_|refine d_op rfl rfl ?_|refine d_eff rfl ?_|refine p_opg rfl rfl rfl ?_ ?_|refine d_opg rfl rfl rfl rfl ?_ ?_|((first|refine p_opgU rfl rfl rfl ?_|refine d_opgU rfl rfl rfl rfl ?_);try simp only [put_some])|(refine fun (K1:St→Prop) hK1=>?_;simp (disch := omega) only [AB,Nat.reduceEqDiff,↓reduceIte,Nat.reduceAdd,Nat.reduceMul,Nat.reducePow,Nat.reduceLeDiff,Nat.reduceLT];(try simp (disch := omega) only [AC]);(try simp only [AM]))|(refine hK1 _ ?_;clear hK1 K1)|refine And.intro (by omega) ?_|apply And.intro|(refine fun (hZb:(_:Bool)=_)=>?_;(try simp only [HS] at hZb);(try (change True at hZb;clear hZb));first|(exfalso;first|omega|contradiction)|(try simp only [put_some]))))
 all_goals ((try revert K1);(repeat revert hZb))
 exact hQ ()
 exact hR ()) : P := h (fun _ => kQ) (fun _ => kR)
end Go.Pw
