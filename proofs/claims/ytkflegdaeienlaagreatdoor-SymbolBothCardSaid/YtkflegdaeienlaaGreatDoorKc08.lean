/- Merged from the working texts PwH. -/
import Derived.Test.YtkflegdaeienlaaGreatDoorKc07
import Derived.Laws.CopyRow
import Derived.Great.BuildSlice
import Derived.Laws.MakeOwn
set_option linter.all false
set_option maxHeartbeats 400000
set_option linter.unusedVariables false
set_option linter.unusedSimpArgs false
namespace Go.Pw
open Go.RowKit
section
variable {E : Env} {w0 : Base} {A0 : Nat → Prop} {σ : St} {a : Act} {w : World} {loc : Nat → Value} {o : Oper} {Q : Exit → Act → World → Prop}
def Trk (a : Act) (loc loc' : Nat → Value) : Prop := a.tmps.size ≤ 1000000 → ∀ j, 1000000 ≤ j → loc' j = loc j
theorem Trk.refl (a : Act) (loc : Nat → Value) : Trk a loc loc := fun _ _ _ => rfl
theorem Trk.trans {a a1 : Act} {l l1 l2 : Nat → Value} (h : Trk a l l1) (hs : a1.tmps.size = a.tmps.size) (k : Trk a1 l1 l2) : Trk a l l2 := fun hn j hj => (k (by rw [hs]; exact hn) j hj).trans (h hn j hj)
theorem Trk.set (a : Act) (loc : Nat → Value) {k : Nat} (l : Value) (hk : a.tmps.size ≤ 1000000 → k < 1000000) : Trk a loc (fun j => if j = k then l else loc j) := fun h j hj => by
 have := hk h
 exact if_neg (by omega)
theorem Trk.dst {a : Act} {o : Oper} {k : Nat} (hd : ∀ t, o.dst = some t → t < a.tmps.size) (h : o.dst = some k) (loc : Nat → Value) (l : Value) : Trk a loc (fun j => if j = k then l else loc j) :=
 Trk.set a loc l fun hn => Nat.lt_of_lt_of_le (hd k h) hn
def EGives (E : Env) (w0 : Base) (A0 : Nat → Prop) (w : World) (loc : Nat → Value) (o : Oper) (a : Act) (K : SV → St → Prop) (Q : Exit → Act → World → Prop) : Prop :=
 ∀ next : Act → World → Prop, (∀ x τ a' w' loc', K x τ → Inv E.gpv w0 A0 (τ.put o.dst x) a' w' loc' → a'.tmps.size = a.tmps.size → Trk a loc loc' → next a' w') → o.wp E.P a w next Q
theorem put_size (a : Act) (d : Option Nat) (v : Value) : (a.put d v).tmps.size = a.tmps.size := by cases d <;> simp [Act.put]
theorem EGives.run {K : SV → St → Prop} {v : Value} {x : SV} {τ : St} {w' : World} {loc' : Nat → Value} (hd : ∀ t, o.dst = some t → t < a.tmps.size) (ht : Trk a loc loc') (hr : (execOp a.eval o).run E.P w = .ok (.value v) w') (h : Inv E.gpv w0 A0 τ a w' loc')
   (hx : RS w' (fun b => A0 b ∨ act τ loc' b) loc' v x) (hK : K x τ) : EGives E w0 A0 w loc o a K Q :=
 fun next hn => wp_of_run hr (hn x τ _ w' loc' hK (h.put hd hx) (put_size _ _ _) ht)
theorem EGives.pure (h : Inv E.gpv w0 A0 σ a w loc) (hd : ∀ t, o.dst = some t → t < a.tmps.size) {K : SV → St → Prop} (hp : ppop E o.op σ fun x => K x σ) : EGives E w0 A0 w loc o a K Q :=
 fun next hn => ppop_sound h hp next fun x v w' hK hx hb => hn x σ _ w' loc hK ((h.grow hb).put hd hx) (put_size _ _ _) (Trk.refl _ _)
theorem size_alloc (w : World) (ob : Obj) : (w.alloc ob).heap.size = w.heap.size + 1 := by show (w.heap.push ob).size = _; simp
theorem Inv.new (h : Inv E.gpv w0 A0 σ a w loc) (k : Nat) (cells : Array Value) (e : TypeId) (l : Value) (ob : Ob) (hl : ∀ b, blk l = some b → b = w.heap.size)
   (ho : ∀ A' loc', (∀ b, b < w.heap.size → A' b → (A0 b ∨ act σ loc b)) → (∀ j, j ≠ k → loc' j = loc j) → loc' k = l → ObAt (w.alloc (.cells cells e)) A' loc' 0 l ob) :
   Inv E.gpv w0 A0 (σ.make k ob) a (w.alloc (.cells cells e)) (fun j => if j = k then l else loc j) := by
 refine h.remake k (h.iB.below (Below.alloc (Below.refl _ _) (Nat.le_refl _) _)) (by rw [size_alloc]; omega) (fun b hb _ => Below.heap_alloc w _ b hb) l ob (fun b hb => ?_) ho
 have := hl b hb
 subst this
 exact ⟨h.fresh (Nat.le_refl _), by rw [size_alloc]; omega, .inl (Nat.le_refl _)⟩
theorem heap_new (w : World) (ob : Obj) : (w.alloc ob).heap[w.heap.size]? = some ob := by show (w.heap.push ob)[_]? = _; simp
theorem RS.alloc {A A' : Nat → Prop} {loc' : Nat → Value} {v : Value} {x : SV} (h : RS w A loc v x) (ob : Obj) (hA : ∀ b, b < w.heap.size → A' b → A b) (hl : ∀ k, x.ment k = true → loc' k = loc k) : RS (w.alloc ob) A' loc' v x :=
 h.step (fun b hb _ => Below.heap_alloc w _ b hb) hA hl
theorem alloc_sound (h : Inv E.gpv w0 A0 σ a w loc) (hd : ∀ t, o.dst = some t → t < a.tmps.size) {T : Nat} (ho : o.op = .alloc T) {K : SV → St → Prop} (hp : epop E o.dst (.alloc T) σ K) : EGives E w0 A0 w loc o a K Q := by
 simp only [epop] at hp
 split at hp
 · rename_i d i hdst hi
   have tk := E.ok T i hi
   obtain ⟨z, hz, hzc⟩ := tk.run_zero w
   have hinv := h.new d z.cells T (.pointer (some ⟨w.heap.size, 0, none⟩)) (.box (i.zero.map fun v => .sh (.val v))) (fun b hb => by simpa [blk] using hb.symm) (fun A' loc' hA hl1 hl2 => by
     refine .box (heap_new w _) ?_ (fun j hj => ?_) (fun j x hx => ?_)
     · rw [List.length_map, ← hzc]; simp
     · have : z.cells[j] ∈ i.zero := by rw [← hzc]; simp
       simpa [Array.getD, hj] using List.all_eq_true.1 tk.zone _ this
     · simp only [List.getElem?_map, Option.map_eq_some_iff] at hx
       obtain ⟨u, hu, rfl⟩ := hx
       rw [← hzc, Array.getElem?_toList] at hu
       rw [getD_of_getElem? hu]
       exact .sh (.val u))
   refine EGives.run hd (Trk.dst hd hdst _ _) ?_ hinv (.bp (b := w.heap.size) (by simp)) hp
   simp only [execOp, ho, Instr.alloc, Sem.run_bind, hz, Result.andThen_ok, newVar, newRow, run_newObj, Sem.run_pure]
   rfl
 · exact hp.elim
theorem RS.cells_of {A : Nat → Prop} {v : Value} {x : SV} (h : RS w A loc v x) {ys : List SV} (hy : x.cells = some ys) (h1 : ys.all SV.one = true) :
   v.cells.size = ys.length ∧ ∀ j y, ys[j]? = some y → RS w A loc (v.cells.getD j undef) y ∧ (v.cells.getD j undef).oneCell' = true := by
 have single : v.cells = #[v] → x.one = true → v.cells.size = [x].length ∧ ∀ j y, [x][j]? = some y → RS w A loc (v.cells.getD j undef) y ∧ (v.cells.getD j undef).oneCell' = true := by
   intro hc ho
   rw [hc]
   refine ⟨rfl, fun j y hj => ?_⟩
   cases j with
   | zero => simp at hj; subst hj; exact ⟨h, h.one_cell ho⟩
   | succ j => simp at hj
 have shc : ∀ {d : PV}, x = .sh d → d.cells = some [d] → ys = [x] → v.cells.size = ys.length ∧ ∀ j y, ys[j]? = some y → RS w A loc (v.cells.getD j undef) y ∧ (v.cells.getD j undef).oneCell' = true := by
   rintro d rfl hdc rfl
   have ho : d.one = true := by simpa [SV.one] using h1
   have := h.one_cell (x := .sh d) (by simpa [SV.one] using ho)
   exact single (by cases v <;> first | rfl | simp [Value.oneCell'] at this) ho
 cases x with
 | sh d =>
   cases d with
   | agg ds =>
     simp only [SV.cells, Option.some.injEq] at hy
     subst hy
     obtain ⟨cs, rfl, hn, h2, hr⟩ := h.sh_inv.agg_inv
     refine ⟨by simpa [Value.cells] using hn, fun j y hj => ?_⟩
     simp only [List.getElem?_map, Option.map_eq_some_iff] at hj
     obtain ⟨d, hd, rfl⟩ := hj
     have := (List.getElem?_eq_some_iff.1 hd).1
     exact ⟨.sh (hr j d hd), h2 j (show j < cs.size by omega)⟩
   | any => simp [SV.cells] at hy
   | tup vs => simp [SV.cells] at hy
   | _ => simp only [SV.cells, Option.some.injEq] at hy; exact shc rfl rfl hy.symm
 | bp k off =>
   simp only [SV.cells, Option.some.injEq] at hy; subst hy
   obtain ⟨b, _, rfl⟩ := h.bp_eq
   exact single rfl rfl
 | rp k sz i j =>
   simp only [SV.cells, Option.some.injEq] at hy; subst hy
   obtain ⟨b, _, _, _, rfl⟩ := h.rp_eq
   exact single rfl rfl
 | sub k sz i n =>
   simp only [SV.cells, Option.some.injEq] at hy; subst hy
   obtain ⟨b, _, _, _, _, rfl, _⟩ := h.sub_eq
   exact single rfl rfl
 | row k =>
   simp only [SV.cells, Option.some.injEq] at hy; subst hy
   obtain ⟨p, n, c, _, rfl⟩ := h.row_eq
   exact single rfl rfl
 | mr k =>
   simp only [SV.cells, Option.some.injEq] at hy; subst hy
   obtain ⟨b, _, rfl⟩ := h.mr_eq
   exact single rfl rfl
 | mg pre k =>
   simp only [SV.cells, Option.some.injEq] at hy; subst hy
   obtain ⟨b, cs, hl, rfl, hn, hlast, h2, hr⟩ := h.mg_eq
   refine ⟨by simpa [Value.cells] using hn, fun j y hj => ?_⟩
   rcases Nat.lt_or_ge j pre.length with hlt | hge
   · rw [List.getElem?_append_left (by simpa using hlt), List.getElem?_map] at hj
     obtain ⟨d, hd, rfl⟩ := Option.map_eq_some_iff.1 hj
     exact ⟨.sh (hr j d hd), h2 j (by omega)⟩
   · rw [List.getElem?_append_right (by simpa using hge)] at hj
     have hj0 : j = pre.length := by
       have := (List.getElem?_eq_some_iff.1 hj).1
       simp at this; omega
     subst hj0
     simp at hj
     subst hj
     exact ⟨by show RS w A loc (cs.getD pre.length undef) _; rw [hlast]; exact .mr hl, h2 _ (by omega)⟩
theorem box_sound (h : Inv E.gpv w0 A0 σ a w loc) (hd : ∀ t, o.dst = some t → t < a.tmps.size) {T : Nat} {y : Operand} (ho : o.op = .box T y) {K : SV → St → Prop} (hp : epop E o.dst (.box T y) σ K) : EGives E w0 A0 w loc o a K Q := by
 simp only [epop] at hp
 split at hp
 · rename_i d cs hdst hcs
   obtain ⟨h1, hK⟩ := hp
   obtain ⟨hn, hc⟩ := RS.cells_of (ev_ok h y) hcs h1
   have hinv := h.new d (a.eval y).cells T (.pointer (some ⟨w.heap.size, 0, none⟩)) (.box (cs.map (SV.kill d))) (fun b hb => by simpa [blk] using hb.symm) (fun A' loc' hA hl1 hl2 => by
     refine .box (heap_new w _) (by simpa using hn) (fun j hj => ?_) (fun j x hx => ?_)
     · have : j < cs.length := by omega
       exact (hc j cs[j] (by simp [this])).2
     · simp only [List.getElem?_map, Option.map_eq_some_iff] at hx
       obtain ⟨u, hu, rfl⟩ := hx
       exact ((hc j u hu).1.kill d).alloc _ hA (fun k hk => hl1 k (SV.kill_ment hk)))
   refine EGives.run hd (Trk.dst hd hdst _ _) ?_ hinv (.bp (b := w.heap.size) (by simp)) hK
   simp only [execOp, ho, Instr.box, Sem.run_bind, Result.andThen_ok, newVar, newRow, run_newObj, Sem.run_pure]
   rfl
 · exact hp.elim
theorem run_storeAt {T : Nat} {i : TI} (hi : E.tt T = some i) {v : Value} (hv : v.cells.size = i.size) (h1 : ∀ j, j < v.cells.size → (v.cells.getD j undef).oneCell' = true) {b off : Nat} {cur : Array Value} {e : TypeId} (hg : w.heap[b]? = some (.cells cur e (0, 0))) (hle : off + i.size ≤ cur.size) :
   (Instr.storeAt T (.pointer (some ⟨b, off, none⟩)) v).run E.P w = .ok () (w.setRow b (cur.toList.take off ++ v.cells.toList ++ cur.toList.drop (off + i.size)).toArray) := by
 have hs := (E.ok T i hi).run_sizeOf w
 have hst := run_storeCells_at (P := E.P) b off e v.cells.toList 0 cur w hg (by simp; omega) (fun u hu => by
   obtain ⟨j, hj, rfl⟩ := List.getElem_of_mem hu
   have := h1 j (by simpa using hj)
   simpa [Array.getD, show j < v.cells.size by simpa using hj] using this)
 simp only [Nat.add_zero, Array.length_toList, hv] at hst
 simp only [Instr.storeAt, Instr.sureAddr, Sem.run_bind, Sem.run_pure, Result.andThen_ok, storeVar, hs, hv, ne_eq, not_true_eq_false, if_false, hst]
theorem spliced {α : Type} (cs ys : List α) (off n : Nat) (hn : ys.length = n) (hle : off + n ≤ cs.length) (j : Nat) :
   (cs.take off ++ ys ++ cs.drop (off + n))[j]? = if off ≤ j ∧ j < off + n then ys[j - off]? else cs[j]? := by
 by_cases hin : off ≤ j ∧ j < off + n
 · rw [if_pos hin, List.append_assoc, List.getElem?_append_right (by simp; omega), List.getElem?_append_left (by simp; omega)]
   simp only [List.length_take, show min off cs.length = off by omega]
 · rw [if_neg hin]
   by_cases hlt : j < off
   · rw [List.append_assoc, List.getElem?_append_left (by simp; omega), List.getElem?_take, if_pos hlt]
   · rw [List.append_assoc, List.getElem?_append_right (by simp; omega), List.getElem?_append_right (by simp; omega), List.getElem?_drop]
     simp only [List.length_take]
     rw [show off + n + (j - min off cs.length - ys.length) = j by omega]
theorem spliced_length {α : Type} (cs ys : List α) (off n : Nat) (hn : ys.length = n) (hle : off + n ≤ cs.length) : (cs.take off ++ ys ++ cs.drop (off + n)).length = cs.length := by
 simp; omega
theorem store_sound (h : Inv E.gpv w0 A0 σ a w loc) (hd : ∀ t, o.dst = some t → t < a.tmps.size) {T : Nat} {p y : Operand} (ho : o.op = .store T p y) {K : SV → St → Prop} (hp : epop E o.dst (.store T p y) σ K) : EGives E w0 A0 w loc o a K Q := by
 have fin : ∀ {w' : World} {τ : St} {loc' : Nat → Value}, (Instr.storeAt T (a.eval p) (a.eval y)).run E.P w = .ok () w' → Inv E.gpv w0 A0 τ a w' loc' → K (.sh .any) τ → Trk a loc loc' → EGives E w0 A0 w loc o a K Q := fun {w' τ loc'} hr hinv hK htr next hn => by
   unfold Oper.wp
   have : (execOp a.eval o).run E.P w = .ok .skip w' := by simp only [execOp, ho, Sem.run_bind, hr, Result.andThen_ok, Sem.run_pure]
   rw [this]
   exact hn _ _ _ _ _ hK (hinv.put hd (.sh (.any _))) (put_size _ _ _) htr
 simp only [epop] at hp
 split at hp
 · rename_i i ys hi hys
   obtain ⟨hl, h1, hp⟩ := hp
   obtain ⟨hn, hc⟩ := RS.cells_of (ev_ok h y) hys h1
   have hone : ∀ j, j < (a.eval y).cells.size → ((a.eval y).cells.getD j undef).oneCell' = true := fun j hj => (hc j ys[j] (by simp [show j < ys.length by omega])).2
   have hpv := ev_ok h p
   split at hp
   · rename_i k off ep
     rw [ep] at hpv
     obtain ⟨b, hlk, hv⟩ := hpv.bp_eq
     split at hp
     · rename_i cs hk
       obtain ⟨hle, hK⟩ := hp
       obtain ⟨b', e, xs, hv', hg, hxn, hx1, hxr⟩ := box_inv (h.iO k _ hk)
       rw [hlk] at hv'
       injection hv' with q; injection q with q; injection q with q
       subst q
       have hbl : blk (loc k) = some b := by rw [hlk]; rfl
       refine fin (by rw [hv]; exact run_storeAt hi (by omega) hone hg (by omega)) (h.rewrite k hk ?_ (by simp [World.setRow]) (fun b2 hb2 hne => setRow_other w b b2 _ (fun e => hne (by rw [hbl, e]))) (.box (splice cs off ys)) ?_) hK (Trk.refl _ _)
       · exact h.iB.next rfl rfl rfl (by simp [World.setRow]) (fun b2 _ hb2 => setRow_other w b b2 _ (fun e => (h.iF k _ b hk hbl).1.1 (e ▸ hb2)))
       · intro A' hA
         rw [hlk]
         have hlenx : (xs.toList).length = cs.length := by simpa using hxn
         have hsp := fun j => spliced xs.toList (a.eval y).cells.toList off i.size (by simp; omega) (by simp; omega) j
         refine .box (setRow_heap w b xs _ e _ hg) ?_ (fun j hj => ?_) (fun j x hx => ?_)
         · rw [List.size_toArray, spliced_length _ _ _ _ (by simp; omega) (by simp; omega), splice, hl, spliced_length _ _ _ _ hl hle, hlenx]
         · rw [Array.getD_eq_getD_getElem?, List.getElem?_toArray, hsp j]
           have hjl : j < xs.size := by
             rw [List.size_toArray, spliced_length _ _ _ _ (by simp; omega) (by simp; omega)] at hj
             simpa using hj
           split
           · have := hone (j - off) (by omega)
             rwa [Array.getD_eq_getD_getElem?, ← Array.getElem?_toList] at this
           · have := hx1 j hjl
             rwa [Array.getD_eq_getD_getElem?, ← Array.getElem?_toList] at this
         · rw [splice, hl, spliced cs ys off i.size hl hle j] at hx
           rw [Array.getD_eq_getD_getElem?, List.getElem?_toArray, hsp j]
           have stp : ∀ {v : Value} {x : SV}, RS w (fun b => A0 b ∨ act σ loc b) loc v x → RS (w.setRow b (xs.toList.take off ++ (a.eval y).cells.toList ++ xs.toList.drop (off + i.size)).toArray) A' loc v x := fun hx =>
             hx.step (fun b2 hb2 hn2 => setRow_other w b b2 _ (fun e => hn2 (.inr ⟨k, _, hk, by rw [hbl, e]⟩))) hA (fun _ _ => rfl)
           split at hx
           · rename_i hin
             rw [if_pos hin, Array.getElem?_toList, ← Array.getD_eq_getD_getElem?]
             exact stp (hc _ x hx).1
           · rename_i hin
             rw [if_neg hin, Array.getElem?_toList, ← Array.getD_eq_getD_getElem?]
             exact stp (hxr _ x hx)
     · exact hp.elim
   · rename_i k sz n j ep
     rw [ep] at hpv
     obtain ⟨b, m, c, hlk, hv⟩ := hpv.rp_eq
     split at hp
     · rename_i e sz' rows hk
       obtain ⟨rfl, hle, hp⟩ := hp
       split at hp
       · rename_i r hrow
         obtain ⟨xs, hz, hown, hsz, hm, hx1, hxr⟩ := rw_inv (h.iO k _ hk)
         have hbl : blk (loc k) = some b := by rw [hlk]; rfl
         have hnl := (List.getElem?_eq_some_iff.1 hrow).1
         have hrl := hz r (List.mem_of_getElem? hrow)
         obtain ⟨hxl, hown2⟩ := hown
         rcases hown2 with ⟨hv', _⟩ | ⟨g, cap, cur, hv', hB, hh, hcap, hcm, hcs, ht⟩
         · rw [hlk] at hv'; cases hv'
         · rw [hlk] at hv'
           injection hv' with q1 q2 q3
           injection q1 with q1; injection q1 with q1
           subst q1; subst q2; subst q3
           have htot : rows.length * sz' ≤ c * sz' := Nat.mul_le_mul_right _ hcap
           have hin1 : (n + 1) * sz' ≤ rows.length * sz' := Nat.mul_le_mul_right _ hnl
           rw [Nat.add_mul, Nat.one_mul] at hin1
           have hoff : n * sz' + j + i.size ≤ cur.toList.length := by simp; omega
           have hoff' : n * sz' + j + i.size ≤ xs.length := by omega
           have hyl : (a.eval y).cells.toList.length = i.size := by simp; omega
           refine fin (by rw [hv]; exact run_storeAt hi (by omega) hone hh (by simpa using hoff)) (h.rewrite k hk ?_ (by simp [World.setRow]) (fun b2 hb2 hne => setRow_other w b b2 _ (fun e => hne (by rw [hbl, e]))) (.rw e sz' (rows.set n (splice r j ys))) ?_) hp (Trk.refl _ _)
           · exact h.iB.next rfl rfl rfl (by simp [World.setRow]) (fun b2 _ hb2 => setRow_other w b b2 _ (fun e => (h.iF k _ b hk hbl).1.1 (e ▸ hb2)))
           · intro A' hA
             rw [hlk]
             have stp : ∀ {v : Value} {x : SV}, RS w (fun b => A0 b ∨ act σ loc b) loc v x → RS (w.setRow b (cur.toList.take (n * sz' + j) ++ (a.eval y).cells.toList ++ cur.toList.drop (n * sz' + j + i.size)).toArray) A' loc v x := fun hx =>
               hx.step (fun b2 hb2 hn2 => setRow_other w b b2 _ (fun e => hn2 (.inr ⟨k, _, hk, by rw [hbl, e]⟩))) hA (fun _ _ => rfl)
             refine .rw (xs.take (n * sz' + j) ++ (a.eval y).cells.toList ++ xs.drop (n * sz' + j + i.size)) ?_ ?_ hsz (by simpa using hm) ?_ ?_
             · intro r' hr'
               rcases List.mem_or_eq_of_mem_set hr' with hr' | rfl
               · exact hz r' hr'
               · rw [splice, hl, spliced_length _ _ _ _ hl (by omega)]; exact hrl
             · refine ⟨by rw [spliced_length _ _ _ _ hyl hoff', List.length_set]; exact hxl, .inr ⟨b, c, _, by rw [List.length_set], hB, setRow_heap w b cur _ e _ hh, by rw [List.length_set]; exact hcap, hcm, ?_, ?_⟩⟩
               · rw [List.size_toArray, spliced_length _ _ _ _ hyl hoff]; simpa using hcs
               · rw [List.length_set]
                 apply List.ext_getElem?
                 intro q
                 rw [List.getElem?_take, List.toList_toArray, spliced _ _ _ _ hyl hoff q, spliced _ _ _ _ hyl hoff' q]
                 by_cases hq : q < rows.length * sz'
                 · rw [if_pos hq]
                   split
                   · rfl
                   · rw [← ht, List.getElem?_take, if_pos hq]
                 · rw [if_neg hq, if_neg (by omega), ← ht, List.getElem?_take, if_neg hq]
             · intro x hx
               simp only [List.mem_append] at hx
               rcases hx with (hx | hx) | hx
               · exact hx1 x (List.mem_of_mem_take hx)
               · obtain ⟨q, hq, rfl⟩ := List.getElem_of_mem hx
                 have := hone q (by simpa using hq)
                 simpa [Array.getD, show q < (a.eval y).cells.size by simpa using hq] using this
               · exact hx1 x (List.mem_of_mem_drop hx)
             · intro n' j' r' x hn' hj'
               rw [List.getD_eq_getElem?_getD, spliced _ _ _ _ hyl hoff' (n' * sz' + j')]
               by_cases e1 : n' = n
               · subst e1
                 rw [List.getElem?_set_self hnl] at hn'
                 injection hn' with hn'
                 subst hn'
                 rw [splice, hl, spliced r ys j i.size hl (by omega) j'] at hj'
                 by_cases hin : j ≤ j' ∧ j' < j + i.size
                 · rw [if_pos hin] at hj'
                   rw [if_pos (by omega), show n' * sz' + j' - (n' * sz' + j) = j' - j by omega, Array.getElem?_toList, ← Array.getD_eq_getD_getElem?]
                   exact stp (hc _ x hj').1
                 · rw [if_neg hin] at hj'
                   rw [if_neg (by omega), ← List.getD_eq_getElem?_getD]
                   exact stp (hxr _ _ r x hrow hj')
               · rw [List.getElem?_set_ne (Ne.symm e1)] at hn'
                 have hjl : j' < sz' := by rw [← hz r' (List.mem_of_getElem? hn')]; exact (List.getElem?_eq_some_iff.1 hj').1
                 rw [if_neg ?_, ← List.getD_eq_getElem?_getD]
                 · exact stp (hxr _ _ r' x hn' hj')
                 · rintro ⟨h3, h4⟩
                   rcases Nat.lt_or_gt_of_ne e1 with h5 | h5
                   · have : (n' + 1) * sz' ≤ n * sz' := Nat.mul_le_mul_right _ h5
                     rw [Nat.add_mul, Nat.one_mul] at this; omega
                   · have : (n + 1) * sz' ≤ n' * sz' := Nat.mul_le_mul_right _ h5
                     rw [Nat.add_mul, Nat.one_mul] at this; omega
       · exact hp.elim
     · exact hp.elim
   · exact hp.elim
 · exact hp.elim
end
end Go.Pw
