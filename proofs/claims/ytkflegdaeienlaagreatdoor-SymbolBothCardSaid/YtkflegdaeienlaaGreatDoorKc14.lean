/- Merged from the working texts PwLe. -/
import Derived.Test.YtkflegdaeienlaaGreatDoorKc13
set_option linter.all false
set_option maxHeartbeats 400000
set_option linter.unusedVariables false
set_option linter.unusedSimpArgs false
namespace Go.Pw
open Go.RowKit
structure GH (ops : Array Oper) (U : List Nat) (a a' : Act) : Prop where
 size : a.tmps.size = a'.tmps.size
 dfr : a.defers = a'.defers
 get : ∀ t, (∀ i ∈ U, gslot ops i ≠ some t) → a.tmps[t]? = a'.tmps[t]?
theorem put_get? (a : Act) (d : Option Nat) (v : Value) (t : Nat) : (a.put d v).tmps[t]? = if d = some t then (if t < a.tmps.size then some v else none) else a.tmps[t]? := by
 cases d with
 | none => simp [Act.put]
 | some k =>
   simp only [Act.put, Array.getElem?_setIfInBounds, Option.some.injEq]
   by_cases e : k = t
   · subst e; simp
   · simp [e]
theorem put_defers (a : Act) (d : Option Nat) (v : Value) : (a.put d v).defers = a.defers := by cases d <;> rfl
section
variable {ops : Array Oper} {U : List Nat} {a a' : Act}
theorem GH.refl (ops : Array Oper) (U : List Nat) (a : Act) : GH ops U a a := ⟨rfl, rfl, fun _ _ => rfl⟩
theorem GH.put (h : GH ops U a a') (d : Option Nat) (v : Value) : GH ops U (a.put d v) (a'.put d v) := by
 refine ⟨by rw [put_size, put_size]; exact h.size, by rw [put_defers, put_defers]; exact h.dfr, fun t ht => ?_⟩
 rw [put_get?, put_get?, h.size, h.get t ht]
theorem GH.fill (h : GH ops U a a') (i : Nat) (v : Value) : GH ops (U.filter fun q => decide (q ≠ i)) (a.put (gslot ops i) v) (a'.put (gslot ops i) v) := by
 refine ⟨by rw [put_size, put_size]; exact h.size, by rw [put_defers, put_defers]; exact h.dfr, fun t ht => ?_⟩
 rw [put_get?, put_get?, h.size]
 by_cases e : gslot ops i = some t
 · rw [if_pos e, if_pos e]
 · rw [if_neg e, if_neg e]
   refine h.get t (fun q hq => ?_)
   by_cases e2 : q = i
   · subst e2; exact e
   · exact ht q (List.mem_filter.2 ⟨hq, by simpa using e2⟩)
theorem GH.add (h : GH ops U a a') {i : Nat} (hi : i ∈ U) (v : Value) : GH ops U a (a'.put (gslot ops i) v) := by
 refine ⟨by rw [put_size]; exact h.size, by rw [put_defers]; exact h.dfr, fun t ht => ?_⟩
 rw [put_get?, if_neg (ht i hi)]
 exact h.get t ht
theorem GH.nil (h : GH ops [] a a') : a = a' := by
 have h1 : a.tmps = a'.tmps := Array.ext_getElem? (fun t => h.get t (fun i hi => by cases hi))
 have h2 := h.dfr
 cases a; cases a'
 simp only at h1 h2
 rw [h1, h2]
theorem GH.eval (h : GH ops U a a') {o : Oper} (hn : ∀ i ∈ U, ∀ d, gslot ops i = some d → d ∉ Oper.names ops o) : ∀ x ∈ o.op.operands, a.eval x = a'.eval x := by
 intro x hx
 cases x with
 | tmp t =>
   have := h.get t (fun i hi e => hn i hi t e (by simp only [Oper.names, List.mem_append, List.mem_filterMap]; exact .inl (.inr ⟨.tmp t, by simpa using hx, rfl⟩)))
   simp only [Act.eval, Array.getD_eq_getD_getElem?, this]
 | _ => rfl
theorem GH.wanted (h : GH ops U a a') {o : Oper} (hn : ∀ i ∈ U, ∀ d, gslot ops i = some d → d ∉ Oper.names ops o) : Region.wanted o (yielded ops a.tmps) = Region.wanted o (yielded ops a'.tmps) := by
 cases hg : o.guard with
 | none => simp [Region.wanted, hg]
 | some g =>
   obtain ⟨j, want⟩ := g
   have : yielded ops a.tmps j = yielded ops a'.tmps j := by
     cases ht : gslot ops j with
     | none => unfold gslot at ht; simp [yielded, ht]
     | some t =>
       have h1 := h.get t (fun i hi e => hn i hi t e (by simp [Oper.names, hg, ht]))
       unfold gslot at ht
       simp only [yielded, ht, Option.bind_some, h1]
   simp only [Region.wanted, hg, this]
theorem wp_ghost {P : Program} {o : Oper} {w : World} {N N' : Act → World → Prop} {Q : Exit → Act → World → Prop} (hs : ∀ cs b, o.op ≠ .select cs b) (hev : ∀ x ∈ o.op.operands, a.eval x = a'.eval x) (hd : a.defers = a'.defers)
   (hN : ∀ v w' ds, N' ({ a' with defers := ds }.put o.dst v) w' → N ({ a with defers := ds }.put o.dst v) w') (h : o.wp P a' w N' (fun _ _ _ => False)) : o.wp P a w N Q := by
 unfold Oper.wp at *
 rw [execOp_congr o hs hev]
 have hN0 : ∀ v w', N' (a'.put o.dst v) w' → N (a.put o.dst v) w' := fun v w' hq => by
   have := hN v w' a'.defers hq
   rw [← hd] at this
   exact this
 generalize (execOp a'.eval o).run P w = r at *
 cases r with
 | ok n w' =>
   cases n <;> simp only [Oper.upon] at h ⊢
   case value v => exact hN0 _ _ h
   case skip => exact hN0 _ _ h
   case defer d =>
     have := hN undef w' (d :: a'.defers) h
     rw [← hd] at this
     exact this
   case enter f vs =>
     refine Calls.mono h (fun e w'' he => ?_)
     cases e with
     | returned v => exact hN0 _ _ he
     | panicked c => exact he.elim
     | outgrown => obtain ⟨_, _, he⟩ := he; exact he.elim
   case row r vs => exact Rows.mono h (fun v w'' he => hN0 _ _ he)
 | halt x w' => cases x <;> simp only [Oper.upon] at h ⊢
end
theorem ready_min {ops : Array Oper} {L : Array Bool} (hlow : ∀ (j : Nat) (o : Oper), ops[j]? = some o → ∀ e ∈ o.after, Region.binds .any e = true → e.on < j) (hL : L.size = ops.size) {i : Nat} (hi : i < ops.size) (hiL : L.getD i true = false) : Region.ready .any ops L ≠ [] := by
 induction i using Nat.strongRecOn with
 | _ i ih =>
   by_cases hh : ∀ j, j < i → L.getD j true = true
   · have ho : ops[i]? = some ops[i] := Array.getElem?_eq_getElem hi
     have : i ∈ Region.ready .any ops L := by
       refine mem_ready.2 ⟨hiL, _, ho, fun e he hb => ?_⟩
       have h1 := hlow i _ ho e he hb
       have h2 := hh _ h1
       simpa [Array.getD, hL, show e.on < ops.size by omega] using h2
     intro e; rw [e] at this; cases this
   · obtain ⟨j, hj⟩ := Classical.not_forall.1 hh
     obtain ⟨h1, h2⟩ := Classical.not_imp.1 hj
     exact ih j h1 (by omega) (by simpa using h2)
section
variable {E : Env} {w0 : Base} {A0 : Nat → Prop} {ops : Array Oper} {m : Nat} {fls : List Nat} {R : List (List Nat)} {Q : Exit → Act → World → Prop} {K : St → Prop}
theorem getF {L : Array Bool} (hL : L.size = ops.size) {i : Nat} (hi : i < ops.size) : L.getD i false = L.getD i true := by simp [Array.getD, hL, hi]
theorem setL {L : Array Bool} (hL : L.size = ops.size) {i : Nat} (hi : i < ops.size) (j : Nat) (hj : j < ops.size) : (L.setIfInBounds i true).getD j true = (L.getD j true || j == i) := by
 by_cases e : j = i
 · subst e; simp [Array.getD, hL, hj]
 · rw [getD_set_ne true (Ne.symm e)]; simp [e]
theorem Closed.set {L : Array Bool} (hc : Closed ops L) {i : Nat} {o : Oper} (ho : ops[i]? = some o) (hall : ∀ e ∈ o.after, Region.binds .any e = true → L.getD e.on false = true) : Closed ops (L.setIfInBounds i true) := by
 intro j o' ho' hj e he hb
 by_cases ej : j = i
 · subst ej
   rw [ho] at ho'; injection ho' with ho'; subst ho'
   exact getD_set_true (hall e he hb)
 · rw [getD_set_ne false (Ne.symm ej)] at hj
   exact getD_set_true (hc j o' ho' hj e he hb)
theorem tail_run (D : D2 ops m fls R) {n : Nat} {loc0 : Nat → Value} (hd : ∀ i t, gslot ops i = some t → t < n)
   (hQ : ∀ τ a w loc, K τ → Inv E.gpv w0 A0 τ a w loc → a.tmps.size = n → (n ≤ 1000000 → ∀ j, 1000000 ≤ j → loc j = loc0 j) → Q .normal a w) :
   ∀ (k : Nat) (l : List Oper) (j : Nat) (U : List Nat) (L : Array Bool) (a a' : Act) (w : World) (τ : St) (loc : Nat → Value), k = U.length + l.length → (∀ q, l[q]? = ops[j + q]?) → m ≤ j → j + l.length = ops.size → L.size = ops.size →
     (∀ i, i < ops.size → (L.getD i true = true ↔ (i < j ∧ i ∉ U))) → U.Nodup → (∀ i ∈ U, i ∈ fls) → Closed ops L → GH ops U a a' → Inv E.gpv w0 A0 τ a' w loc → a.tmps.size = n → (n ≤ 1000000 → ∀ j, 1000000 ≤ j → loc j = loc0 j) →
     (∀ i ∈ U, chk E ops i τ) → ptl E ops (R.drop (j - m)) l K τ → wpAny E.P .any ops Q k L a w := by
 intro k
 induction k with
 | zero =>
   intro l j U L a a' w τ loc hk hl hmj hjl hL hLi hU hUf hc hG h hsz htr hch hp
   have hU0 : U = [] := List.eq_nil_of_length_eq_zero (by omega)
   have hl0 : l = [] := List.eq_nil_of_length_eq_zero (by omega)
   subst hU0; subst hl0
   refine ⟨?_, ?_⟩
   · cases hr : Region.ready .any ops L with
     | nil => rfl
     | cons i t =>
       have : i ∈ Region.ready .any ops L := by rw [hr]; simp
       obtain ⟨hiL, o, ho, _⟩ := mem_ready.1 this
       have hin := (Array.getElem?_eq_some_iff.1 ho).1
       have := (hLi i hin).2 ⟨by simp at hjl; omega, by simp⟩
       rw [hiL] at this; cases this
   · have := hG.nil
     subst this
     exact hQ τ a w loc hp h hsz htr
 | succ k ih =>
   intro l j U L a a' w τ loc hk hl hmj hjl hL hLi hU hUf hc hG h hsz htr hch hp
   have hne : Region.ready .any ops L ≠ [] := by
     rcases U with _ | ⟨i, U⟩
     · have hlp : 0 < l.length := by simp at hk; omega
       exact ready_min D.low hL (i := j) (by omega) (by
         cases e : L.getD j true with
         | false => rfl
         | true => have := ((hLi j (by omega)).1 e).1; omega)
     · have him := (D.flo i (hUf i (by simp))).1
       have := D.hm
       exact ready_min D.low hL (i := i) (by omega) (by
         cases e : L.getD i true with
         | false => rfl
         | true => exact absurd (by simp) ((hLi i (by omega)).1 e).2)
   refine ⟨fun h0 => absurd h0 hne, fun i hi => ?_⟩
   obtain ⟨hiL, o, ho, hall⟩ := mem_ready.1 hi
   have hin := (Array.getElem?_eq_some_iff.1 ho).1
   have hgi : gslot ops i = o.dst := by simp [gslot, ho]
   have hUF : ∀ q ∈ U, L.getD q true = false := fun q hq => by
     have hqm := (D.flo q (hUf q hq)).1
     have := D.hm
     cases e : L.getD q true with
     | false => rfl
     | true => exact absurd hq ((hLi q (by omega)).1 e).2
   have hpreU : ∀ q ∈ U, pre ops i q = false := fun q hq => by
     cases e : pre ops i q with
     | false => rfl
     | true =>
       have hqm := (D.flo q (hUf q hq)).1
       have := D.hm
       have h1 := pre_listed hc i o ho hall q e
       rw [getF hL (by omega), hUF q hq] at h1; cases h1
   by_cases hiU : i ∈ U
   ·
     obtain ⟨him, hiA, o', ho', hnw, hgd, hself⟩ := D.flo i (hUf i hiU)
     rw [ho] at ho'; injection ho' with ho'; subst ho'
     obtain ⟨o2, d, ho2, hdst, hpp⟩ := hch i hiU
     rw [ho] at ho2; injection ho2 with ho2; subst ho2
     have hnames : ∀ q ∈ U, ∀ d, gslot ops q = some d → q = i ∨ d ∉ Oper.names ops o := fun q hq d' hd' => by
       by_cases e : q = i
       · exact .inl e
       · refine .inr (fun hn => ?_)
         have := D.ff i q d' o (hUf i hiU) (hUf q hq) (Ne.symm e) hd' ho hn
         rw [hpreU q hq] at this; cases this
     obtain ⟨v, x, hr, hx, hxe⟩ := ppop_val h hnw hpp
     subst hxe
     have hev : ∀ y ∈ o.op.operands, a.eval y = a'.eval y := by
       intro y hy
       cases y with
       | tmp t =>
         have hnt : t ∈ Oper.names ops o := by simp only [Oper.names, List.mem_append, List.mem_filterMap]; exact .inl (.inr ⟨.tmp t, by simpa using hy, rfl⟩)
         have hget := hG.get t (fun q hq e => by
           rcases hnames q hq t e with h1 | h1
           · subst h1
             rw [hgi, hdst] at e
             injection e with e
             subst e
             exact hself d hdst hy
           · exact h1 hnt)
         simp only [Act.eval, Array.getD_eq_getD_getElem?, hget]
       | _ => rfl
     have hrun : (execOp a.eval o).run E.P w = .ok (.value v) w := by rw [execOp_congr o (D.nosel i o ho) hev]; exact hr
     unfold wpOp
     simp only [ho]
     rw [if_pos (by simp [Region.wanted, hgd])]
     refine .inl (wp_of_run hrun ?_)
     have hdn : ∀ t, o.dst = some t → t < a'.tmps.size := fun t ht => by rw [← hG.size, hsz]; exact hd i t (by rw [hgi]; exact ht)
     have hinv := h.put hdn hx
     have hτ : τ.put o.dst (τ.s d) = τ := by
       rw [hdst]
       cases τ with
       | mk s o3 =>
         simp only [St.put, St.mk.injEq, and_true]
         funext t
         split
         · rename_i e; rw [e]
         · rfl
     rw [hτ] at hinv
     have hlen : (U.filter fun q => decide (q ≠ i)).length + 1 = U.length := by
       have h1 := hU.erase_eq_filter i
       have h2 : (U.filter fun q => decide (q ≠ i)) = U.erase i := by
         rw [h1]; apply List.filter_congr; intro q _; rw [bne, beq_nat_dec, decide_not]
       rw [h2, List.length_erase_of_mem hiU]
       have := List.length_pos_of_mem hiU
       omega
     have hG' := hG.fill i v
     rw [hgi] at hG'
     refine ih l j _ (L.setIfInBounds i true) _ _ w τ loc (by omega) hl hmj hjl (by simpa using hL) (fun q hq => ?_) (hU.filter _) (fun q hq => hUf q (List.mem_filter.1 hq).1) (hc.set ho hall) hG' hinv (by rw [put_size]; exact hsz) htr (fun q hq => hch q (List.mem_filter.1 hq).1) hp
     rw [setL hL hin q hq]
     simp only [Bool.or_eq_true, beq_iff_eq, List.mem_filter, decide_eq_true_eq, not_and, Decidable.not_not]
     rw [hLi q hq]
     constructor
     · rintro (⟨h1, h2⟩ | h1)
       · exact ⟨h1, fun h3 => absurd h3 h2⟩
       · subst h1
         exact ⟨by omega, fun _ => rfl⟩
     · rintro ⟨h1, h2⟩
       by_cases e : q = i
       · exact .inr e
       · exact .inl ⟨h1, fun h3 => e (h2 h3)⟩
   ·
     have hij : i = j := by
       have hge : j ≤ i := by
         rcases Nat.lt_or_ge i j with h1 | h1
         · have := (hLi i hin).2 ⟨h1, hiU⟩
           rw [hiL] at this; cases this
         · exact h1
       rcases Nat.lt_or_ge j i with h1 | h1
       · rcases D.tail i j (by omega) hin h1 with h2 | h2
         · have h3 := pre_listed hc i o ho hall j h2
           rw [getF hL (by omega)] at h3
           have := ((hLi j (by omega)).1 h3).1
           omega
         · have := (D.flo j h2).1; omega
       · omega
     subst hij
     cases l with
     | nil => simp at hjl; omega
     | cons o' rest =>
       have ho' : o' = o := by have := hl 0; simp [ho] at this; exact this
       subst ho'
       have hnames : ∀ q ∈ U, ∀ d, gslot ops q = some d → d ∉ Oper.names ops o' := fun q hq d' hd' hn => by
         have hqm := (D.flo q (hUf q hq)).1
         rcases D.names q i d' o' hqm (by omega) hd' ho hn with ⟨_, h2⟩ | ⟨h1, _⟩
         · rw [hpreU q hq] at h2; cases h2
         · omega
       have hdn : ∀ t, o'.dst = some t → t < a'.tmps.size := fun t ht => by rw [← hG.size, hsz]; exact hd i t (by rw [hgi]; exact ht)
       have hR1 : (R.drop (i - m)).headD [] = R.getD (i - m) [] := by
         rw [List.headD_eq_head?_getD, List.head?_drop, List.getD_eq_getElem?_getD]
       have hR2 : (R.drop (i - m)).tail = R.drop (i + 1 - m) := by
         rw [List.tail_drop]; congr 1; omega
       have next : ∀ τ1 (a1 a1' : Act) w1 loc1, GH ops U a1 a1' → Inv E.gpv w0 A0 τ1 a1' w1 loc1 → a1.tmps.size = n → (n ≤ 1000000 → ∀ j, 1000000 ≤ j → loc1 j = loc0 j) → (chks E ops ((R.drop (i - m)).headD []) τ1 ∧ ptl E ops (R.drop (i - m)).tail rest K τ1) →
           wpAny E.P .any ops Q k (L.setIfInBounds i true) a1 w1 := by
         intro τ1 a1 a1' w1 loc1 g1 g2 g3 g4 g5
         refine ih rest (i + 1) U (L.setIfInBounds i true) a1 a1' w1 τ1 loc1 (by simp at hk; omega) (fun q => by have := hl (q + 1); simpa [Nat.add_assoc, Nat.add_comm 1 q] using this) (by omega) (by simp at hjl; omega) (by simpa using hL) (fun q hq => ?_) hU hUf (hc.set ho hall) g1 g2 g3 g4 (fun q hq => ?_) (by rw [← hR2]; exact g5.2)
         · rw [setL hL hin q hq]
           simp only [Bool.or_eq_true, beq_iff_eq]
           rw [hLi q hq]
           constructor
           · rintro (⟨h1, h2⟩ | h1)
             · exact ⟨by omega, h2⟩
             · subst h1; exact ⟨by omega, hiU⟩
           · rintro ⟨h1, h2⟩
             by_cases e : q = i
             · exact .inr e
             · exact .inl ⟨by omega, h2⟩
         · rcases D.re (i - m) q (by omega) (hUf q hq) with h1 | h1
           · rw [show m + (i - m) = i by omega, hpreU q hq] at h1; cases h1
           · exact chks_mem g5.1 (by rw [hR1]; exact h1)
       have runE : EGives E w0 A0 w loc o' a' (fun x τ1 => chks E ops ((R.drop (i - m)).headD []) (τ1.put o'.dst x) ∧ ptl E ops (R.drop (i - m)).tail rest K (τ1.put o'.dst x)) (fun _ _ _ => False) → o'.wp E.P a w (wpAny E.P .any ops Q k (L.setIfInBounds i true)) Q := fun hg => by
         refine wp_ghost (N' := fun a1 w1 => ∃ τ1 loc1, (chks E ops ((R.drop (i - m)).headD []) τ1 ∧ ptl E ops (R.drop (i - m)).tail rest K τ1) ∧ Inv E.gpv w0 A0 τ1 a1 w1 loc1 ∧ a1.tmps.size = n ∧ (n ≤ 1000000 → ∀ j, 1000000 ≤ j → loc1 j = loc0 j)) (D.nosel i o' ho) (hG.eval hnames) hG.dfr ?_ (hg _ ?_)
         · rintro v w1 ds ⟨τ1, loc1, h1, h2, h3, h4⟩
           refine next τ1 _ _ w1 loc1 ?_ h2 ?_ h4 h1
           · exact GH.put (a := { a with defers := ds }) (a' := { a' with defers := ds }) ⟨hG.size, rfl, hG.get⟩ _ _
           · rw [put_size]; exact hsz
         · intro x τ1 a1 w1 loc1 h1 h2 h3 h4
           exact ⟨_, loc1, h1, h2, by rw [h3, ← hG.size]; exact hsz, fun hn j hj => (h4 (by rw [← hG.size, hsz]; exact hn) j hj).trans (htr hn j hj)⟩
       unfold wpOp
       simp only [ho]
       rw [hG.wanted hnames]
       simp only [ptl] at hp
       split at hp
       · rename_i hgd
         rw [if_pos (by simp [Region.wanted, hgd])]
         rcases hp with hp | hp
         · exact .inl (runE (epop_sound h hdn hp))
         · exact .inl (runE (hp w0 A0 a' w loc _ h hdn))
       · rename_i jj want hgd
         split at hp
         · rename_i t ht
           split at hp
           · rename_i b hs
             rw [wanted_of h hgd ht hs]
             by_cases e : b = want
             · rw [if_pos (by simp [e])]
               exact .inl (runE (epop_sound h hdn (hp.1 e)))
             · rw [if_neg (by simp [e])]
               refine next _ _ _ w loc (hG.put _ _) (h.put hdn (.sh (.val undef))) (by rw [put_size]; exact hsz) htr (hp.2 (by cases b <;> cases want <;> simp at e ⊢))
           · exact hp.elim
         · exact hp.elim
theorem P1.congr {σ : St} {X : Nat → SV} {V : Nat → List Value} {S S' : Nat → Bool} {a : Act} {w : World} {loc : Nat → Value} {bl : Nat → Nat} (p : P1 E w0 A0 ops m σ X V S a w loc bl) (hS : ∀ i, i < m → S i = S' i) : P1 E w0 A0 ops m σ X V S' a w loc bl := by
 have h1 : tau ops m σ X S = tau ops m σ X S' := by
   have hf : ∀ t : Nat, (List.range m).find? (fun i => S i && (gslot ops i == some t)) = (List.range m).find? (fun i => S' i && (gslot ops i == some t)) := by
     intro t
     have : ∀ l : List Nat, (∀ i ∈ l, i < m) → l.find? (fun i => S i && (gslot ops i == some t)) = l.find? (fun i => S' i && (gslot ops i == some t)) := by
       intro l
       induction l with
       | nil => intro _; rfl
       | cons i l ih => intro hl; simp only [List.find?_cons, hS i (hl i (by simp)), ih (fun j hj => hl j (by simp [hj]))]
     exact this _ (fun i hi => by simpa using hi)
   simp only [tau, hf]
 refine ⟨?_, fun i hi hA hSi => p.made i hi hA (by rw [hS i hi]; exact hSi), fun i j hi hj hA hA' hSi hSj => p.inj i j hi hj hA hA' (by rw [hS i hi]; exact hSi) (by rw [hS j hj]; exact hSj)⟩
 rw [← h1]
 refine p.inv.congrA (fun c => or_congr_right ⟨?_, ?_⟩)
 · rintro ⟨i, h2, h3, h4, h5⟩; exact ⟨i, h2, h3, by rw [← hS i h2]; exact h4, h5⟩
 · rintro ⟨i, h2, h3, h4, h5⟩; exact ⟨i, h2, h3, by rw [hS i h2]; exact h4, h5⟩
theorem ghost_all (D : D2 ops m fls R) {σ : St} {X : Nat → SV} {V : Nat → List Value} {a : Act} {w : World} {loc : Nat → Value} {bl : Nat → Nat} {U : List Nat} (hst : ∀ i o, i < m → ops[i]? = some o → FStp E ops i o (seqS ops σ X i) (X i) (V i)) (hd : ∀ i t, gslot ops i = some t → t < a.tmps.size) :
   ∀ (k : Nat) (S : Nat → Bool) (a' : Act), ((List.range m).filter fun i => !S i).length = k → (∀ q, q < m → S q = false → q ∈ fls ∧ q ∈ U) → (∀ q i, q < m → i < m → S q = true → pre ops q i = true → S i = true) → GH ops U a a' → P1 E w0 A0 ops m σ X V S a' w loc bl →
     ∃ a'', GH ops U a a'' ∧ P1 E w0 A0 ops m σ X V (fun _ => true) a'' w loc bl := by
 intro k
 induction k with
 | zero =>
   intro S a' hk _ _ hG p
   refine ⟨a', hG, p.congr (fun i hi => ?_)⟩
   cases e : S i with
   | true => rfl
   | false =>
     have hmem : i ∈ (List.range m).filter fun i => !S i := List.mem_filter.2 ⟨by simpa using hi, by rw [e]; rfl⟩
     rw [List.eq_nil_of_length_eq_zero hk] at hmem; cases hmem
 | succ k ih =>
   intro S a' hk hU hcl hG p
   have hne : ((List.range m).filter fun i => !S i) ≠ [] := fun e => by rw [e] at hk; cases hk
   obtain ⟨q0, hq0⟩ := List.exists_mem_of_ne_nil _ hne
   obtain ⟨q, hqm, hqS, hmin⟩ : ∃ q, q < m ∧ S q = false ∧ ∀ j, j < q → S j = true := by
     have h1 := List.mem_filter.1 hq0
     have h2 : q0 < m := by simpa using h1.1
     have h3 : S q0 = false := by simpa using h1.2
     clear hk ih hq0 h1
     induction q0 using Nat.strongRecOn with
     | _ q0 ih2 =>
       by_cases hh : ∀ j, j < q0 → S j = true
       · exact ⟨q0, h2, h3, hh⟩
       · obtain ⟨j, hj⟩ := Classical.not_forall.1 hh
         obtain ⟨hj1, hj2⟩ := Classical.not_imp.1 hj
         exact ih2 j hj1 (by omega) (by simpa using hj2)
   obtain ⟨hqf, hqU⟩ := hU q hqm hqS
   obtain ⟨_, hqA, o, ho, hnw, hgd, _⟩ := D.flo q hqf
   have hgi : gslot ops q = o.dst := by simp [gslot, ho]
   have hsame := D.same (σ := σ) (X := X) hqm ho hqS (fun j hj _ => hmin j hj) (fun j hj _ hp => by
     cases e : S j with
     | false => rfl
     | true => have := hcl j q hj hqm e hp; rw [hqS] at this; cases this)
   have hs := hst q o hqm ho
   unfold FStp at hs
   rw [if_neg (by rw [hqA]; simp)] at hs
   simp only [Stp, hgd] at hs
   have hos : (seqS ops σ X q).o = (tau ops m σ X S).o := by rw [seqS_tau D.uniq q (by omega)]; rfl
   have hpp : ppop E o.op (tau ops m σ X S) fun x => x = X q := ppop_local hos (fun t ht => hsame t (by simp only [Oper.names, List.mem_append, List.mem_filterMap]; exact .inl (.inr ⟨.tmp t, by simpa using ht, rfl⟩))) (hs (fun x => x = X q) rfl)
   obtain ⟨v, x, hr, hx, rfl⟩ := ppop_val p.inv hnw hpp
   have hdn : ∀ t, gslot ops q = some t → t < a'.tmps.size := fun t ht => by rw [← hG.size]; exact hd q t ht
   have hS' : ∀ j, j < m → (fun j => S j || j == q) j = (S j || j == q) := fun _ _ => rfl
   have p' := p.pure D hqm hqA hS' hdn (Below.refl _ _) hx
   refine ih _ _ ?_ (fun j hj hSj => ?_) (fun j i hj hi hSj hp => ?_) (hG.add hqU v) p'
   · have h1 : ((List.range m).filter fun j => !(S j || j == q)) = ((List.range m).filter fun j => !S j).filter fun j => !(j == q) := by
       rw [List.filter_filter]
       apply List.filter_congr
       intro j _
       cases S j <;> cases (j == q) <;> rfl
     have hnd : ((List.range m).filter fun j => !S j).Nodup := List.nodup_range.filter _
     have hmem : q ∈ ((List.range m).filter fun j => !S j) := List.mem_filter.2 ⟨by simpa using hqm, by rw [hqS]; rfl⟩
     have h2 : ((List.range m).filter fun j => !S j).erase q = ((List.range m).filter fun j => !S j).filter fun j => !(j == q) := by
       rw [hnd.erase_eq_filter]; rfl
     rw [h1, ← h2, List.length_erase_of_mem hmem, hk]
     rfl
   · simp only [Bool.or_eq_false_iff] at hSj
     exact hU j hj hSj.1
   · simp only [Bool.or_eq_true, beq_iff_eq] at hSj ⊢
     rcases hSj with hSj | rfl
     · exact .inl (hcl j i hj hi hSj hp)
     · by_cases e : i = j
       · exact .inr e
       · have hlt : i < j := by
           rcases Nat.lt_or_ge i j with h1 | h1
           · exact h1
           · exfalso
             obtain ⟨g1, _, g3⟩ := masks_spec ops.toList []
             have h4 := g3 j o (by simpa using ho)
             simp only [List.length_nil, Nat.zero_add] at h4
             have hp' := hp
             simp only [pre, List.getD_eq_getElem?_getD, h4, Option.getD_some] at hp'
             have : ∀ (n : Nat) (acc : List Nat) (o : Oper), acc.length ≤ n → (∀ q, q < acc.length → ∀ i, (acc.getD q 0).testBit i = true → i < q) → (∀ e ∈ o.after, Region.binds .any e = true → e.on < n) → ∀ i, (mask acc o).testBit i = true → i < n := by
               intro n acc o hn hacc hlow i hi
               rcases testBit_mask _ _ hi with h | ⟨e, he, hb, h⟩
               · simp at h
               · have h5 := hlow e (by simpa using he) hb
                 rcases h with rfl | h
                 · exact h5
                 · by_cases h6 : e.on < acc.length
                   · have := hacc e.on h6 i h; omega
                   · rw [List.getD_eq_getElem?_getD, List.getElem?_eq_none (by omega)] at h; simp at h
             have hall : ∀ n, n ≤ ops.size → ∀ q, q < n → ∀ i, ((masks ops.toList []).getD q 0).testBit i = true → i < q := by
               intro n
               induction n with
               | zero => intro _ q hq; omega
               | succ n ihn =>
                 intro hn q hq i hi
                 by_cases hqn : q < n
                 · exact ihn (by omega) q hqn i hi
                 · have hqn' : q = n := by omega
                   subst hqn'
                   have hoq : ops[q]? = some ops[q] := Array.getElem?_eq_getElem (by omega)
                   have h7 := g3 q ops[q] (by rw [Array.getElem?_toList]; exact hoq)
                   simp only [List.length_nil, Nat.zero_add] at h7
                   rw [List.getD_eq_getElem?_getD, h7, Option.getD_some] at hi
                   refine this q _ _ (by rw [List.length_take]; omega) (fun r hr i' hi' => ?_) (fun e he hb => D.low q _ hoq e he hb) i hi
                   have hr' : r < q := by simp at hr; omega
                   rw [List.getD_eq_getElem?_getD, List.getElem?_take, if_pos hr', ← List.getD_eq_getElem?_getD] at hi'
                   exact ihn (by omega) r hr' i' hi'
             have hjs : j < ops.size := (Array.getElem?_eq_some_iff.1 ho).1
             have := hall (j + 1) (by omega) j (by omega) i hp
             omega
         exact .inl (hmin i hlt)
end
section
variable {E : Env} {w0 : Base} {A0 : Nat → Prop} {ops : Array Oper} {m : Nat} {fls : List Nat} {R : List (List Nat)} {Q : Exit → Act → World → Prop} {K : St → Prop}
theorem front_run (D : D2 ops m fls R) {n : Nat} {loc : Nat → Value} (hd : ∀ i t, gslot ops i = some t → t < n) {σ : St} {X : Nat → SV} {V : Nat → List Value} (hst : ∀ i o, i < m → ops[i]? = some o → FStp E ops i o (seqS ops σ X i) (X i) (V i))
   (hch : chks E ops fls ((asOf ops V m).foldl recS (seqS ops σ X m))) (hlast : ptl E ops R (ops.toList.drop m) K ((asOf ops V m).foldl recS (seqS ops σ X m)))
   (hQ : ∀ τ a w loc', K τ → Inv E.gpv w0 A0 τ a w loc' → a.tmps.size = n → (n ≤ 1000000 → ∀ j, 1000000 ≤ j → loc' j = loc j) → Q .normal a w) :
   ∀ (k : Nat) (L : Array Bool) (a : Act) (w : World) (bl : Nat → Nat), left m L = k → L.size = ops.size → (∀ i, m ≤ i → i < ops.size → L.getD i true = false) → Closed ops L → a.tmps.size = n → P1 E w0 A0 ops m σ X V (fun i => L.getD i true) a w loc bl →
     wpAny E.P .any ops Q (k + (ops.size - m)) L a w := by
 intro k
 induction k with
 | zero =>
   intro L a w bl hk hL hhi hc hsz p
   have hall : ∀ i, i < m → L.getD i true = true := by
     intro i hi
     cases e : L.getD i true with
     | true => rfl
     | false =>
       have hmem : i ∈ (List.range m).filter fun i => !L.getD i true := List.mem_filter.2 ⟨by simpa using hi, by rw [e]; rfl⟩
       have := List.eq_nil_of_length_eq_zero hk
       rw [this] at hmem; cases hmem
   have hd' : ∀ i t, i < m → gslot ops i = some t → t < a.tmps.size := fun i t _ h => by rw [hsz]; exact hd i t h
   obtain ⟨loc', h1, h2⟩ := (p.congr (S' := fun _ => true) hall).done D hd'
   have hlen : (ops.toList.drop m).length = ops.size - m := by simp
   have := D.hm
   rw [Nat.zero_add, ← hlen]
   refine tail_run (loc0 := loc) D hd hQ _ (ops.toList.drop m) m [] L a a w _ loc' (by simp) (fun q => by rw [List.getElem?_drop, Array.getElem?_toList]) (Nat.le_refl _) (by simp; omega) hL (fun i hi => ?_) .nil (fun i hi => by cases hi) hc (GH.refl _ _ _) h1 hsz (fun hn => h2 (by rw [hsz]; exact hn)) (fun i hi => by cases hi) (by rw [Nat.sub_self]; exact hlast)
   constructor
   · intro h3
     rcases Nat.lt_or_ge i m with h4 | h4
     · exact ⟨h4, by simp⟩
     · rw [hhi i h4 hi] at h3; cases h3
   · exact fun h3 => hall i h3.1
 | succ k ih =>
   intro L a w bl hk hL hhi hc hsz p
   have := D.hm
   by_cases hfl : ∀ q, q < m → L.getD q true = false → q ∈ fls
   ·
     let U := (List.range m).filter fun q => !L.getD q true
     have hUm : ∀ q, q ∈ U ↔ q < m ∧ L.getD q true = false := fun q => by simp [U, List.mem_filter]
     obtain ⟨a', hG, p'⟩ := ghost_all (U := U) D hst (fun i t h => by rw [hsz]; exact hd i t h) _ (fun i => L.getD i true) a rfl (fun q hq hS => ⟨hfl q hq hS, (hUm q).2 ⟨hq, hS⟩⟩) (fun q i hq hi hS hp => by
       have hoq : ops[q]? = some ops[q] := Array.getElem?_eq_getElem (by omega)
       have h1 := pre_listed hc q _ hoq (fun e he hb => hc q _ hoq (by rw [getF hL (by omega)]; exact hS) e he hb) i hp
       rwa [getF hL (by omega)] at h1) (GH.refl _ _ _) p
     obtain ⟨loc', h1, h2⟩ := p'.done D (fun i t _ h => by rw [← hG.size, hsz]; exact hd i t h)
     have hUl : U.length = k + 1 := hk
     have hlen : (ops.toList.drop m).length = ops.size - m := by simp
     rw [← hUl, ← hlen]
     refine tail_run (loc0 := loc) D hd hQ _ (ops.toList.drop m) m U L a a' w _ loc' rfl (fun q => by rw [List.getElem?_drop, Array.getElem?_toList]) (Nat.le_refl _) (by simp; omega) hL (fun i hi => ?_) (List.nodup_range.filter _) (fun i hi => hfl i ((hUm i).1 hi).1 ((hUm i).1 hi).2) hc hG h1 hsz (fun hn => h2 (by rw [← hG.size, hsz]; exact hn)) (fun i hi => chks_mem hch (hfl i ((hUm i).1 hi).1 ((hUm i).1 hi).2)) (by rw [Nat.sub_self]; exact hlast)
     constructor
     · intro h3
       rcases Nat.lt_or_ge i m with h4 | h4
       · exact ⟨h4, fun h5 => by rw [((hUm i).1 h5).2] at h3; cases h3⟩
       · rw [hhi i h4 hi] at h3; cases h3
     · rintro ⟨h3, h4⟩
       cases e : L.getD i true with
       | true => rfl
       | false => exact absurd ((hUm i).2 ⟨h3, e⟩) h4
   · obtain ⟨q0, hq0⟩ := Classical.not_forall.1 hfl
     obtain ⟨hq0m, hq0⟩ := Classical.not_imp.1 hq0
     obtain ⟨hq0L, hq0f⟩ := Classical.not_imp.1 hq0
     have hrs : k + 1 + (ops.size - m) = (k + (ops.size - m)) + 1 := by omega
     rw [hrs]
     refine ⟨fun h0 => absurd h0 (ready_min D.low hL (i := q0) (by omega) hq0L), fun i hi => ?_⟩
     obtain ⟨hiL, o, ho, hall⟩ := mem_ready.1 hi
     have hin := (Array.getElem?_eq_some_iff.1 ho).1
     have him : i < m := by
       rcases Nat.lt_or_ge i m with h1 | h1
       · exact h1
       · rcases D.tail i q0 h1 hin (by omega) with h2 | h2
         · have h3 := pre_listed hc i o ho hall q0 h2
           rw [getF hL (by omega), hq0L] at h3; cases h3
         · exact absurd h2 hq0f
     have hgi : gslot ops i = o.dst := by simp [gslot, ho]
     have hsame := D.same (σ := σ) (X := X) (S := fun i => L.getD i true) him ho hiL (fun q hq hp => by
       have h1 := pre_listed hc i o ho hall q hp
       rwa [getF hL (by omega)] at h1) (fun q hq hiq hp => by
       cases e : L.getD q true with
       | false => rfl
       | true =>
         have hoq : ops[q]? = some ops[q] := Array.getElem?_eq_getElem (by omega)
         have h1 := pre_listed hc q _ hoq (fun e' he' hb' => hc q _ hoq (by rw [getF hL (by omega)]; exact e) e' he' hb') i hp
         rw [getF hL hin, hiL] at h1; cases h1)
     have hos : (seqS ops σ X i).o = (tau ops m σ X fun i => L.getD i true).o := by rw [seqS_tau D.uniq i (by omega)]; rfl
     have hL' : ∀ j, j < m → (L.setIfInBounds i true).getD j true = (L.getD j true || j == i) := fun j hj => setL hL hin j (by omega)
     have hdo : ∀ t, gslot ops i = some t → t < a.tmps.size := fun t ht => by rw [hsz]; exact hd i t ht
     have next : ∀ (a' : Act) (w' : World) (bl' : Nat → Nat), a'.tmps.size = n → P1 E w0 A0 ops m σ X V (fun i' => (L.setIfInBounds i true).getD i' true) a' w' loc bl' → wpAny E.P .any ops Q (k + (ops.size - m)) (L.setIfInBounds i true) a' w' := by
       intro a' w' bl' hsz' p'
       refine ih (L.setIfInBounds i true) a' w' bl' ?_ (by simpa using hL) (fun j h1 h2 => ?_) (hc.set ho hall) hsz' p'
       · have h1 : ((List.range m).filter fun j => !(L.setIfInBounds i true).getD j true) = ((List.range m).filter fun j => !L.getD j true).filter fun j => !(j == i) := by
           rw [List.filter_filter]
           apply List.filter_congr
           intro j hj
           rw [hL' j (by simpa using hj)]
           cases L.getD j true <;> cases (j == i) <;> rfl
         have hnd : ((List.range m).filter fun j => !L.getD j true).Nodup := List.nodup_range.filter _
         have hmem : i ∈ ((List.range m).filter fun j => !L.getD j true) := List.mem_filter.2 ⟨by simpa using him, by rw [hiL]; rfl⟩
         have h2 : ((List.range m).filter fun j => !L.getD j true).erase i = ((List.range m).filter fun j => !L.getD j true).filter fun j => !(j == i) := by
           rw [hnd.erase_eq_filter]; rfl
         simp only [left] at hk ⊢
         rw [h1, ← h2, List.length_erase_of_mem hmem, hk]
         rfl
       · rw [getD_set_ne true (by omega)]; exact hhi j h1 h2
     have hf := hst i o him ho
     unfold FStp at hf
     unfold wpOp
     simp only [ho]
     by_cases hA : isA ops i = true
     · rw [if_pos hA] at hf
       obtain ⟨hX, hA2⟩ := hf
       have hgd : o.guard = none ∧ ∃ d, o.dst = some d := by
         unfold isA at hA
         rw [ho] at hA
         simp only at hA
         split at hA
         · simp only [Bool.and_eq_true, Option.isNone_iff_eq_none] at hA
           exact ⟨hA.1, Option.isSome_iff_exists.1 hA.2⟩
         · simp only [Bool.and_eq_true, Option.isNone_iff_eq_none] at hA
           exact ⟨hA.1, Option.isSome_iff_exists.1 hA.2⟩
         · cases hA
       obtain ⟨hgd, d, hdst⟩ := hgd
       obtain ⟨h1, T, hrun⟩ := A_run p.inv (hA2.local (fun t ht => hsame t (by simp only [Oper.names, List.mem_append, List.mem_filterMap]; exact .inl (.inr ⟨.tmp t, by simpa using ht, rfl⟩))))
       rw [if_pos (by simp [Region.wanted, hgd])]
       refine .inl (wp_of_run hrun ?_)
       rw [hdst]
       exact next _ _ _ (by rw [put_size]; exact hsz) (p.make D him hA hiL hL' (by rw [hgi, hdst]) hX (hdo d (by rw [hgi, hdst])) h1)
     · rw [if_neg hA] at hf
       have hA' : isA ops i = false := by simpa using hA
       have hop : ∀ K' : SV → Prop, ppop E o.op (seqS ops σ X i) K' → ppop E o.op (tau ops m σ X fun i => L.getD i true) K' := fun K' h' =>
         ppop_local hos (fun t ht => hsame t (by simp only [Oper.names, List.mem_append, List.mem_filterMap]; exact .inl (.inr ⟨.tmp t, by simpa using ht, rfl⟩))) h'
       have run : (∀ K' : SV → Prop, K' (X i) → ppop E o.op (seqS ops σ X i) K') → o.wp E.P a w (wpAny E.P .any ops Q (k + (ops.size - m)) (L.setIfInBounds i true)) Q := fun hall' =>
         ppop_sound p.inv (hop (fun x => x = X i) (hall' _ rfl)) _ fun x v w' hx hRS hb => by
           subst hx
           rw [← hgi]
           exact next _ w' _ (by rw [put_size]; exact hsz) (p.pure D him hA' hL' hdo hb hRS)
       have skip : X i = .sh (.val undef) → wpAny E.P .any ops Q (k + (ops.size - m)) (L.setIfInBounds i true) (a.put o.dst undef) w := fun hx => by
         rw [← hgi]
         exact next _ w _ (by rw [put_size]; exact hsz) (p.pure D him hA' hL' hdo (Below.refl _ _) (by rw [hx]; exact .sh (.val _)))
       cases hgd : o.guard with
       | none =>
         simp only [Stp, hgd] at hf
         rw [if_pos (by simp [Region.wanted, hgd])]
         exact .inl (run hf)
       | some g =>
         obtain ⟨j, want⟩ := g
         simp only [Stp, hgd] at hf
         rcases hf with ⟨t, vs, ht, hs, hx⟩ | ⟨t, b, ht, hs, hcase⟩
         · have hs' : (tau ops m σ X fun i => L.getD i true).s t = .sh (.val (.tuple vs)) := by
             rw [← hsame t (by simp [Oper.names, hgd, ht]), hs]
           rw [unwanted_of p.inv hgd ht hs', if_neg (by simp)]
           exact skip hx
         have hs' : (tau ops m σ X fun i => L.getD i true).s t = .sh (.val (.bool b)) := by
           rw [← hsame t (by simp [Oper.names, hgd, ht]), hs]
         rw [wanted_of p.inv hgd ht hs']
         rcases hcase with ⟨rfl, hall'⟩ | ⟨hb', hx⟩
         · rw [if_pos (by simp)]
           exact .inl (run hall')
         · rw [if_neg (by rw [hb']; cases want <;> simp)]
           exact skip hx
theorem draw2_sound {id : Nat} (hmix : E.P.follows .mixedOrders = true) (hok : drawOk2 ops m fls R = true) {σ : St} {a : Act} {w : World} {loc : Nat → Value} (h : Inv E.gpv w0 A0 σ a w loc) (hd : ∀ o ∈ ops.toList, ∀ t, o.dst = some t → t < a.tmps.size)
   (hp : pfr E ops fls R m 0 ops.toList [] K σ) (hQ : ∀ τ a' w' loc', K τ → Inv E.gpv w0 A0 τ a' w' loc' → a'.tmps.size = a.tmps.size → Trk a loc loc' → Q .normal a' w') : (Code.region id ops true).wp E.P Q a w := by
 have D := drawOk2_spec hok
 have hm := D.hm
 obtain ⟨X, V, _, _, h2, _, h3, h4⟩ := pfr_ex (ops := ops) (R := R) (fls := fls) (σ := σ) m 0 ops.toList K (fun _ => .sh .any) (fun _ => []) (fun j => by simp) (by simpa [asOf, seqS] using hp)
 rw [Nat.zero_add] at h3 h4
 refine wp_region_any hmix ?_
 have hl : left m (Array.replicate ops.size false) = m := by
   simp only [left]
   rw [List.filter_eq_self.2 (fun i hi => by simp at hi; simp [Array.getD, show i < ops.size by omega])]
   simp
 have hS : ∀ i, i < m → (Array.replicate ops.size false).getD i true = false := fun i hi => by simp [Array.getD, show i < ops.size by omega]
 have := front_run (w0 := w0) (A0 := A0) (Q := Q) (n := a.tmps.size) (loc := loc) D (fun i t ht => by
   unfold gslot at ht
   cases ho : ops[i]? with
   | none => rw [ho] at ht; cases ht
   | some o => rw [ho] at ht; exact hd o (by rw [Array.mem_toList_iff]; exact Array.mem_of_getElem? ho) t ht) (fun i o hi ho => h2 i o (Nat.zero_le _) (by omega) ho) h3 h4 hQ m (Array.replicate ops.size false) a { w with drawn := w.drawn + 1 } (fun _ => 0) hl (by simp) (fun i _ hi => by simp [Array.getD, hi]) (fun j o ho hj => by
   by_cases hjl : j < ops.size
   · simp [Array.getD, hjl] at hj
   · simp [Array.getD, hjl] at hj) rfl (by
   refine ⟨?_, fun i hi hA hSi => ?_, fun i j hi hj hA hA' hSi => ?_⟩
   · have ht : tau ops m σ X (fun i => (Array.replicate ops.size false).getD i true) = σ := by
       have hs : ∀ t, (tau ops m σ X (fun i => (Array.replicate ops.size false).getD i true)).s t = σ.s t := fun t => tau_miss (fun i hi hS' => by rw [hS i hi] at hS'; cases hS')
       cases σ with
       | mk s o => simp only [tau] at hs ⊢; congr 1; exact funext hs
     rw [ht]
     refine (h.grow (Below.drew (Below.refl _ _))).congrA (fun c => ⟨.inl, ?_⟩)
     rintro (hc | ⟨i, h5, _, h6, _⟩)
     · exact hc
     · rw [hS i h5] at h6; cases h6
   · rw [hS i hi] at hSi; cases hSi
   · rw [hS i hi] at hSi; cases hSi)
 rwa [show m + (ops.size - m) = ops.size by omega] at this
end
end Go.Pw
