/- Merged from the working texts PyA. -/
import Derived.Test.YtkflegdaeienlaaGreatDoorKc19
import Derived.Test.YtkflegdaeienlaaGreatDoorKc35
import Derived.Deep.Slices
import Derived.ChangeSame
import Derived.LaidLaws
import GoSem.ClaimJoined
set_option linter.all false
set_option maxHeartbeats 400000
set_option maxRecDepth 100000
set_option linter.unusedVariables false
namespace Go.Pw
open Go Go.Proofs Go.RowKit Go.Deep Go.ChangeShapes
theorem list_of {α : Type} {Q : Nat → α → Prop} : ∀ n, (∀ i, i < n → ∃ a, Q i a) → ∃ l : List α, l.length = n ∧ ∀ i a, l[i]? = some a → Q i a
 | 0, _ => ⟨[], rfl, fun i a h => by simp at h⟩
 | n + 1, h => by
   obtain ⟨l, h1, h2⟩ := list_of n (fun i hi => h i (by omega))
   obtain ⟨a, ha⟩ := h n (by omega)
   refine ⟨l ++ [a], by simp [h1], fun i b hb => ?_⟩
   by_cases e : i < n
   · rw [List.getElem?_append_left (by omega)] at hb; exact h2 i b hb
   · rw [List.getElem?_append_right (by omega)] at hb
     have hlt := (List.getElem?_eq_some_iff.1 hb).1
     simp at hlt
     have e2 : i = n := by omega
     subst e2
     rw [h1, Nat.sub_self] at hb
     simp at hb
     rw [← hb]; exact ha
section
variable {H : Type} {enc : TypeId × Value → H} {P : Program} {w : World}
theorem mem_weightsAll {e : TypeId} {d : DataW H} {y : Nat} : ∀ {l : List (DataW H)}, d ∈ l → y ∈ d.weights P e → y ∈ DataW.weightsAll P e l
 | [], h, _ => by cases h
 | c :: l, h, hy => by
   simp only [DataW.weightsAll, List.mem_append]
   rcases List.mem_cons.1 h with rfl | h
   · exact .inl hy
   · exact .inr (mem_weightsAll h hy)
def El (enc : TypeId × Value → H) (P : Program) (w : World) (e sz : Nat) {α : Type} (f : α → List PV) (good : α → Prop) : Prop :=
 ∀ (n : Nat) (cs : List Value) (x : DataW H × List MemPlace), DataW.trod enc P w 0 (fun _ => true) true n e cs = some x → (∀ y ∈ x.1.weights P e, y ≤ reachBytes) →
   ∃ a, good a ∧ (f a).length = sz ∧ ∀ j d, (f a)[j]? = some d → R w (fun _ => False) (cs.getD j undef) d ∧ (cs.getD j undef).oneCell' = true
theorem spot_none {a : Addr} {u : Value} (h : w.cell? a = some u) : a.spot = none := by
 unfold World.cell? at h
 cases hs : a.spot with
 | none => rfl
 | some z => rw [hs] at h; split at h <;> simp at h
theorem add_two {a : Addr} (hs : a.spot = none) (m n : Nat) : (a.add m).add n = ⟨a.block, a.off + (m + n), none⟩ := by
 cases a with
 | mk b o s => simp only at hs; subst hs; rw [add_mk, add_mk, Nat.add_assoc]
theorem rd_sl {t e sz B : Nat} (ht : P.underlying t = some (.slice e)) (hc : P.cellsOf e = sz) (hb : P.bytesOf e = B) (h0 : 0 < sz) (hB : 1 ≤ B) {α : Type} {f : α → List PV} {good : α → Prop} (hel : El enc P w e sz f good)
   {n : Nat} {cs : List Value} {x : DataW H × List MemPlace} (h : DataW.trod enc P w 0 (fun _ => true) true n t cs = some x) (hw : ∀ y ∈ x.1.weights P t, y ≤ reachBytes) :
   ∃ (v : Value) (l : List α), cs = [v] ∧ (∀ a ∈ l, good a) ∧ l.length * B ≤ reachBytes ∧ R w (fun _ => False) v (.sl (l.map f)) ∧ v.oneCell' = true := by
 rcases open_slice ht h with ⟨h1, h2⟩ | ⟨a, len, cap, m, n', D, Pl, rfl, hb0, hl, hm, hmm, rfl, hall⟩
 · exact ⟨_, [], h1, fun a ha => (by cases ha), by simp, .nilsl none 0 (fun _ => rfl), rfl⟩
 · have hmc : m = cap := by simpa using hmm
   subst hmc
   simp only [DataW.weights, ht, List.mem_cons, List.mem_append, List.length_map, List.length_range] at hw
   have hcap : m * B ≤ reachBytes := by
     have := hw _ (.inl rfl)
     rw [hb, show len + (m - len) = m by omega] at this
     exact this
   rw [hc] at hall
   by_cases hz : len = 0
   · subst hz
     exact ⟨_, [], rfl, fun a ha => (by cases ha), by simp, .nilsl (some a) m (fun h => by cases h), rfl⟩
   · have hsp : a.spot = none := by
       obtain ⟨cs', h1, h2⟩ := hall 0 (by omega)
       obtain ⟨_, hlen, hget⟩ := World.cells?_some h1
       have hg := hget 0 h0
       rw [List.getElem?_eq_getElem (show 0 < cs'.length by omega)] at hg
       have he : (a.add (0 * sz)).add 0 = a := by simp [Addr.add]
       rw [he] at hg
       exact spot_none hg
     have hcell : ∀ i, i < len → ∃ y : α, good y ∧ (f y).length = sz ∧ ∀ j d, (f y)[j]? = some d → ∃ u, w.cell? ⟨a.block, a.off + (i * sz + j), none⟩ = some u ∧ R w (fun _ => False) u d ∧ u.oneCell' = true := by
       intro i hi
       obtain ⟨cs', h1, h2⟩ := hall i (by omega)
       obtain ⟨_, hlen, hget⟩ := World.cells?_some h1
       obtain ⟨y, g1, g2, g3⟩ := hel _ _ _ h2 (fun z hz => hw z (.inr (.inl (mem_weightsAll (List.mem_map.2 ⟨i, by simpa using hi, rfl⟩) hz))))
       refine ⟨y, g1, g2, fun j d hj => ?_⟩
       have hjl : j < sz := by rw [← g2]; exact (List.getElem?_eq_some_iff.1 hj).1
       have hg := hget j hjl
       obtain ⟨u, hu⟩ : ∃ u, cs'[j]? = some u := ⟨_, List.getElem?_eq_getElem (by omega)⟩
       rw [hu, add_two hsp] at hg
       obtain ⟨r1, r2⟩ := g3 j d hj
       have hgd : cs'.getD j undef = u := by rw [List.getD_eq_getElem?_getD, hu]; rfl
       rw [hgd] at r1 r2
       exact ⟨u, hg, r1, r2⟩
     obtain ⟨l, hl1, hl2⟩ := list_of len hcell
     refine ⟨_, l, rfl, fun y hy => ?_, ?_, ?_, rfl⟩
     · obtain ⟨i, hi⟩ := List.getElem?_of_mem hy
       exact (hl2 i y hi).1
     · rw [hl1]; exact Nat.le_trans (Nat.mul_le_mul_right _ hl) hcap
     · have hsp' : a = ⟨a.block, a.off, none⟩ := by
         cases a with
         | mk b o s => simp only at hsp; subst hsp; rfl
       rw [hsp']
       have hlm : (l.map f).length = len := by simp [hl1]
       have hml : len ≤ maxN := by
         have : len ≤ m * B := Nat.le_trans hl (Nat.le_mul_of_pos_right _ (by omega))
         unfold maxN; unfold reachBytes at hcap; omega
       refine .sl (fun i j => (w.cell? ⟨a.block, a.off + (i * sz + j), none⟩).getD undef) hlm (by omega) h0 hl hml (fun h => h) (fun r hr => ?_) (fun i j hi hj => ?_) (fun i j hi hj => ?_) (fun i j r d hi hj => ?_)
       · obtain ⟨y, hy, rfl⟩ := List.mem_map.1 hr
         obtain ⟨i, hi⟩ := List.getElem?_of_mem hy
         exact (hl2 i y hi).2.1
       · obtain ⟨y, hy⟩ : ∃ y, l[i]? = some y := ⟨_, List.getElem?_eq_getElem (by omega)⟩
         obtain ⟨_, g2, g3⟩ := hl2 i y hy
         obtain ⟨u, hu, _⟩ := g3 j _ (List.getElem?_eq_getElem (by omega))
         rw [hu]; rfl
       · obtain ⟨y, hy⟩ : ∃ y, l[i]? = some y := ⟨_, List.getElem?_eq_getElem (by omega)⟩
         obtain ⟨_, g2, g3⟩ := hl2 i y hy
         obtain ⟨u, hu, _, h1⟩ := g3 j _ (List.getElem?_eq_getElem (by omega))
         rw [hu]; exact h1
       · rw [List.getElem?_map] at hi
         obtain ⟨y, hy, rfl⟩ := Option.map_eq_some_iff.1 hi
         obtain ⟨u, hu, h1, _⟩ := (hl2 i y hy).2.2 j d hj
         rw [hu]; exact h1
end
section
variable {H : Type} {enc : TypeId × Value → H} {w : World}
theorem el_u32 : El enc Tryz.prog w 103 1 (fun n : Nat => [.val (.int .u32 (n : Int))]) (fun n => n < 4294967296) := by
 intro n cs x h hw
 obtain ⟨m, rfl, rfl, hwf⟩ := DataW.trod_int (show Tryz.prog.underlying 103 = some (.int .u32) from Tryz.underlying103) h
 have hb : 0 ≤ m ∧ m < 4294967296 := by
   simp only [Lit.wf, Bool.and_eq_true, decide_eq_true_eq] at hwf
   have h1 : IntKind.u32.min = 0 := by decide
   have h2 : IntKind.u32.max = 4294967295 := by decide
   rw [h1, h2] at hwf
   omega
 refine ⟨m.toNat, by omega, rfl, fun j d hj => ?_⟩
 cases j with
 | zero =>
   simp only [List.getElem?_cons_zero, Option.some.injEq] at hj
   subst hj
   rw [show ((m.toNat : Nat) : Int) = m by omega]
   exact ⟨.val _, rfl⟩
 | succ j => simp at hj
theorem rd_u32 {n : Nat} {cs : List Value} {x : DataW H × List MemPlace} (h : DataW.trod enc Tryz.prog w 0 (fun _ => true) true n 78 cs = some x) (hw : ∀ y ∈ x.1.weights Tryz.prog 78, y ≤ reachBytes) :
   ∃ (v : Value) (l : List Nat), cs = [v] ∧ dok l ∧ l.length < 2 ^ 46 ∧ R w (fun _ => False) v (cN l) ∧ v.oneCell' = true := by
 obtain ⟨v, l, h1, h2, h3, h4, h5⟩ := rd_sl (B := 4) Tryz.underlying78 (show Tryz.prog.cellsOf 103 = 1 by kernel_rfl) (by kernel_rfl) (by omega) (by omega) el_u32 h hw
 refine ⟨v, l, h1, fun d hd => h2 d hd, ?_, h4, h5⟩
 unfold reachBytes at h3; omega
theorem trod_struct4 {P : Program} {base : Nat} {spare : Nat → Bool} {held : Bool} {t : TypeId} {f0 f1 f2 f3 : Field} {fuel : Nat} {cs : List Value} {x : DataW H × List MemPlace} (ht : P.underlying t = some (.struct #[f0, f1, f2, f3])) (h : DataW.trod enc P w base spare held fuel t cs = some x) :
   ∃ y0 y1 y2 y3 n, x.1 = .agg [y0.1, y1.1, y2.1, y3.1] ∧ cs.length = P.cellsOf t ∧ DataW.trod enc P w base spare held n f0.type ((cs.drop f0.offset).take (P.cellsOf f0.type)) = some y0 ∧ DataW.trod enc P w base spare held n f1.type ((cs.drop f1.offset).take (P.cellsOf f1.type)) = some y1 ∧
     DataW.trod enc P w base spare held n f2.type ((cs.drop f2.offset).take (P.cellsOf f2.type)) = some y2 ∧ DataW.trod enc P w base spare held n f3.type ((cs.drop f3.offset).take (P.cellsOf f3.type)) = some y3 := by
 obtain ⟨xs, n, _, rfl, hl, hlen, hf⟩ := DataW.trod_struct ht h
 match xs, hlen with
 | [y0, y1, y2, y3], _ => exact ⟨y0, y1, y2, y3, n, by simp, hl, by simpa using hf 0 f0 rfl, by simpa using hf 1 f1 rfl, by simpa using hf 2 f2 rfl, by simpa using hf 3 f3 rfl⟩
theorem four {α : Type} {cs : List α} (h : cs.length = 4) : ∃ a b c d, cs = [a, b, c, d] := by
 match cs, h with
 | [a, b, c, d], _ => exact ⟨a, b, c, d, rfl⟩
theorem weights4 {P : Program} {t : TypeId} {f0 f1 f2 f3 : Field} {d0 d1 d2 d3 : DataW H} (ht : P.underlying t = some (.struct #[f0, f1, f2, f3])) {y : Nat} (hy : y ∈ d2.weights P f2.type ∨ y ∈ d3.weights P f3.type) : y ∈ (DataW.agg [d0, d1, d2, d3]).weights P t := by
 simp only [DataW.weights, ht, List.map_cons, List.map_nil, DataW.weightsEach, List.mem_append, List.append_nil]
 rcases hy with h | h
 · exact .inr (.inr (.inl h))
 · exact .inr (.inr (.inr h))
theorem el_rat : El enc Tryz.prog w 80 4 cR RFit := by
 intro n cs x h hw
 obtain ⟨y0, y1, y2, y3, n', hx, hl, h0, h1, h2, h3⟩ := trod_struct4 Tryz.underlying80 h
 have hc29 : Tryz.prog.cellsOf 29 = 1 := by kernel_rfl
 have hc4 : Tryz.prog.cellsOf 4 = 1 := by kernel_rfl
 have hc78 : Tryz.prog.cellsOf 78 = 1 := by kernel_rfl
 have hc80 : Tryz.prog.cellsOf 80 = 4 := by kernel_rfl
 rw [hc80] at hl
 obtain ⟨a, b, c, d, rfl⟩ := four hl
 simp only [hc29, hc4, hc78, List.drop_succ_cons, List.drop_zero, List.take_succ_cons, List.take_zero] at h0 h1 h2 h3
 obtain ⟨f, e0, _, _⟩ := DataW.trod_int Tryz.underlying29 h0
 obtain ⟨g, e1, _⟩ := DataW.trod_bool Tryz.underlying4 h1
 rw [hx] at hw
 obtain ⟨v2, l2, e2, g2, k2, r2, o2⟩ := rd_u32 h2 (fun z hz => hw z (weights4 Tryz.underlying80 (.inl hz)))
 obtain ⟨v3, l3, e3, g3, k3, r3, o3⟩ := rd_u32 h3 (fun z hz => hw z (weights4 Tryz.underlying80 (.inr hz)))
 injection e0 with e0; injection e1 with e1; injection e2 with e2; injection e3 with e3
 subst e0; subst e1; subst e2; subst e3
 refine ⟨⟨f, g, l2, l3⟩, ⟨g2, g3, k2, k3⟩, rfl, fun j y hj => ?_⟩
 match j, hj with
 | 0, hj => simp only [cR, List.getElem?_cons_zero, Option.some.injEq] at hj; subst hj; exact ⟨.val _, rfl⟩
 | 1, hj => simp only [cR, List.getElem?_cons_succ, List.getElem?_cons_zero, Option.some.injEq] at hj; subst hj; exact ⟨.val _, rfl⟩
 | 2, hj => simp only [cR, List.getElem?_cons_succ, List.getElem?_cons_zero, Option.some.injEq] at hj; subst hj; exact ⟨r2, o2⟩
 | 3, hj => simp only [cR, List.getElem?_cons_succ, List.getElem?_cons_zero, Option.some.injEq] at hj; subst hj; exact ⟨r3, o3⟩
 | j + 4, hj => simp [cR] at hj
structure LFit (l : List Rt) : Prop where
 n : l.length < 2 ^ 46
 x : ∀ y ∈ l, RFit y
theorem rd_rats {n : Nat} {cs : List Value} {x : DataW H × List MemPlace} (h : DataW.trod enc Tryz.prog w 0 (fun _ => true) true n 26 cs = some x) (hw : ∀ y ∈ x.1.weights Tryz.prog 26, y ≤ reachBytes) :
   ∃ (v : Value) (l : List Rt), cs = [v] ∧ LFit l ∧ R w (fun _ => False) v (cRs l) ∧ v.oneCell' = true := by
 obtain ⟨v, l, h1, h2, h3, h4, h5⟩ := rd_sl (B := 64) Tryz.underlying26 (show Tryz.prog.cellsOf 80 = 4 by kernel_rfl) (by kernel_rfl) (by omega) (by omega) el_rat h hw
 refine ⟨v, l, h1, ⟨?_, h2⟩, h4, h5⟩
 unfold reachBytes at h3; omega
theorem el_rats : El enc Tryz.prog w 26 1 (fun l => [cRs l]) LFit := by
 intro n cs x h hw
 obtain ⟨v, l, rfl, h2, h3, h4⟩ := rd_rats h hw
 refine ⟨l, h2, rfl, fun j d hj => ?_⟩
 cases j with
 | zero =>
   simp only [List.getElem?_cons_zero, Option.some.injEq] at hj
   subst hj
   exact ⟨h3, h4⟩
 | succ j => simp at hj
theorem rd_matrix {n : Nat} {cs : List Value} {x : DataW H × List MemPlace} (h : DataW.trod enc Tryz.prog w 0 (fun _ => true) true n 33 cs = some x) (hw : ∀ y ∈ x.1.weights Tryz.prog 33, y ≤ reachBytes) :
   ∃ (v : Value) (l : List (List Rt)), cs = [v] ∧ MOk l ∧ R w (fun _ => False) v (cRss l) := by
 obtain ⟨v, l, h1, h2, h3, h4, h5⟩ := rd_sl (B := 24) Tryz.underlying33 (show Tryz.prog.cellsOf 26 = 1 by kernel_rfl) (by kernel_rfl) (by omega) (by omega) el_rats h hw
 refine ⟨v, l, h1, ⟨?_, fun i => ?_, fun i k => ?_⟩, h4⟩
 · unfold reachBytes at h3; omega
 · rw [List.getD_eq_getElem?_getD]
   cases hi : l[i]? with
   | none => show 0 < _; decide
   | some r => exact (h2 r (List.mem_of_getElem? hi)).n
 · rw [List.getD_eq_getElem?_getD, List.getD_eq_getElem?_getD]
   cases hi : l[i]? with
   | none => exact rfit_default
   | some r =>
     show RFit (r[k]?.getD default)
     cases hk : r[k]? with
     | none => exact rfit_default
     | some y => exact (h2 r (List.mem_of_getElem? hi)).x y (List.mem_of_getElem? hk)
theorem LFit.ok {l : List Rt} (h : LFit l) : LOk l := ⟨h.n, fun i => by
 rw [List.getD_eq_getElem?_getD]
 cases hi : l[i]? with
 | none => exact rfit_default
 | some y => exact h.x y (List.mem_of_getElem? hi)⟩
theorem has_R {A : Nat → Prop} (hA : ¬ A 0) (hc : ∀ j, j < 24 → w.cell? ⟨0, 0 + j, none⟩ = some (.bool ([false, false, false, false, false, false, false, false, true, true, true, false, true, true, false, true, true, false, true, true, false, true, false, false].getD j false))) (g : Nat) : R w A (.pointer (some ⟨g, 0, none⟩)) (E.gpv g) := by
 show R w A _ (gpv g)
 unfold gpv
 split
 · rename_i e
   subst e
   refine .ea (fun j => .bool ([false, false, false, false, false, false, false, false, true, true, true, false, true, true, false, true, true, false, true, true, false, true, false, false].getD j false)) (by decide) hA hc (fun j _ => rfl) (fun j d hd => ?_)
   unfold hasTab at hd
   rw [List.getElem?_map] at hd
   obtain ⟨b, hb, rfl⟩ := Option.map_eq_some_iff.1 hd
   rw [List.getD_eq_getElem?_getD, hb]
   exact .val _
 · exact .any _
end
end Go.Pw
