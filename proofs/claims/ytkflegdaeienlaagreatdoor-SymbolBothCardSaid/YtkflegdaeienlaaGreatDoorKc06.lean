/- Merged from the working texts PwFl. -/
import Derived.Test.YtkflegdaeienlaaGreatDoorKc05
import Derived.Laws.CopyRow
import Derived.Great.BuildSlice
import Derived.Laws.MakeOwn
set_option linter.all false
set_option maxHeartbeats 400000
set_option linter.unusedVariables false
set_option linter.unusedSimpArgs false
namespace Go.Pw
open Go.RowKit
section
variable {E : Env} {w0 : Base} {A0 : Nat → Prop} {σ : St} {a : Act} {w : World} {loc : Nat → Value} {o : Oper} {Q : Exit → Act → World → Prop}
theorem fill_all (sz : Nat) : ∀ (vs : List Value) (k : Nat) (cells : Array Value), (∀ v ∈ vs, v.cells.size = sz) → (k + vs.length) * sz ≤ cells.size →
   ∃ c' : Array Value, Instr.fill (fun i => some (i * sz, sz)) cells ((List.range' k vs.length).zip vs) = some c' ∧ c'.size = cells.size ∧ (∀ t, t < k * sz → c'[t]? = cells[t]?) ∧
     ∀ (i j : Nat) (v : Value), vs[i]? = some v → j < sz → c'[(k + i) * sz + j]? = v.cells[j]?
 | [], k, cells, _, _ => ⟨cells, rfl, rfl, fun _ _ => rfl, fun i j v h => by simp at h⟩
 | v :: vs, k, cells, hsz, hle => by
   have hv := hsz v (by simp)
   have hk : (k + 1) * sz ≤ (k + (v :: vs).length) * sz := Nat.mul_le_mul_right _ (by rw [List.length_cons]; omega)
   have hk1 : (k + 1) * sz = k * sz + sz := by rw [Nat.add_mul, Nat.one_mul]
   have hfold := fold_set (k * sz) v.cells.toList 0 cells (by simp; omega)
   have hset : v.cells.zipIdx.foldl (fun cs (x : Value × Nat) => cs.setIfInBounds (k * sz + x.2) x.1) cells = (v.cells.toList.zipIdx 0).foldl (fun cs (p : Value × Nat) => cs.setIfInBounds (k * sz + p.2) p.1) cells := by
     rw [← Array.foldl_toList, Array.toList_zipIdx]
   obtain ⟨c', hf, hs, hlow, hhi⟩ := fill_all sz vs (k + 1) (v.cells.zipIdx.foldl (fun cs (x : Value × Nat) => cs.setIfInBounds (k * sz + x.2) x.1) cells) (fun u hu => hsz u (by simp [hu])) (by rw [hset, hfold.1]; simp at hle; rw [show k + 1 + vs.length = k + (vs.length + 1) by omega]; exact hle)
   refine ⟨c', ?_, by rw [hs, hset, hfold.1], fun t ht => ?_, fun i j u hi hj => ?_⟩
   · simp only [List.length_cons, List.range'_succ, List.zip_cons_cons, Instr.fill]
     rw [if_neg (by simp; omega)]
     exact hf
   · rw [hlow t (by omega), hset, hfold.2 t, if_neg (by simp; omega)]
   · cases i with
     | zero =>
       simp only [List.getElem?_cons_zero, Option.some.injEq] at hi
       subst hi
       rw [Nat.add_zero, hlow _ (by omega), hset, hfold.2 _, if_pos (by simp; omega)]
       simp
     | succ i =>
       rw [show k + (i + 1) = k + 1 + i by omega]
       exact hhi i j u (by simpa using hi) hj
theorem range0 (f : Nat → Value) : (Array.range 0).map f = #[] := Array.ext' (by simp)
theorem run_lit {A : Nat → Prop} {T e len : Nat} {i ie : TI} (hi : E.tt T = some i) (hk : i.kind = .sl e) (hie : E.tt e = some ie) {parts : Array (Nat × Operand)} {ds : List PV} (hidx : parts.toList.map (·.1) = List.range len) (hsmall : len * ie.size ≤ 2 ^ 24) (hl : ds.length = (parts.toList.map (·.2)).length)
   (hall : (ds.all fun x => match x.cells with | some cs => decide (cs.length = ie.size) && cs.all PV.one | none => false) = true)
   (hR : ∀ (j : Nat) (d : PV) (x : Operand), ds[j]? = some d → (parts.toList.map (·.2))[j]? = some x → R w A (a.eval x) d) :
   ∃ cells : Array Value, (Instr.buildSlice T len (parts.map fun (i, x) => (i, a.eval x))).run E.P w = .ok (.slice (some ⟨w.heap.size, 0, none⟩) len len) (w.alloc (.cells cells e)) ∧ cells.size = len * ie.size ∧ ds.length = len ∧
     (∀ r ∈ (ds.map fun x => x.cells.getD []), r.length = ie.size) ∧ ∀ (i j : Nat) (r : List PV) (d : PV), (ds.map fun x => x.cells.getD [])[i]? = some r → r[j]? = some d → R w A (cells.getD (i * ie.size + j) undef) d ∧ (cells.getD (i * ie.size + j) undef).oneCell' = true := by
 have hu := (E.ok T i hi).kind
 rw [hk] at hu
 have tk := E.ok e ie hie
 have hpl : parts.size = len := by have := congrArg List.length hidx; simpa using this
 have hdl : ds.length = len := by simp at hl; omega
 have hcell : ∀ (j : Nat) (d : PV), ds[j]? = some d → ∃ cs : List PV, d.cells = some cs ∧ cs.length = ie.size ∧ cs.all PV.one = true := by
   intro j d hj
   have := List.all_eq_true.1 hall d (List.mem_of_getElem? hj)
   split at this
   · rename_i cs hcs
     simp only [Bool.and_eq_true, decide_eq_true_eq] at this
     exact ⟨cs, hcs, this.1, this.2⟩
   · cases this
 let vs := parts.toList.map fun p => a.eval p.2
 have hvs : ∀ (j : Nat) (d : PV), ds[j]? = some d → ∃ v : Value, vs[j]? = some v ∧ R w A v d := by
   intro j d hj
   have hjl : j < parts.toList.length := by have := (List.getElem?_eq_some_iff.1 hj).1; simp; omega
   exact ⟨a.eval (parts.toList[j]).2, by simp [vs, List.getElem?_map, List.getElem?_eq_getElem hjl], hR j d _ hj (by simp [List.getElem?_map, List.getElem?_eq_getElem hjl])⟩
 have hvl : vs.length = len := by simp [vs, hpl]
 have hvc : ∀ v ∈ vs, v.cells.size = ie.size := by
   intro v hv
   obtain ⟨j, hj, rfl⟩ := List.getElem_of_mem hv
   have hjd : ds[j]? = some ds[j] := List.getElem?_eq_getElem (by omega)
   obtain ⟨cs, hcs, hcl, hco⟩ := hcell j _ hjd
   obtain ⟨v', hv', hRv⟩ := hvs j _ hjd
   rw [List.getElem?_eq_getElem hj] at hv'
   injection hv' with hv'
   rw [hv', (R.cells_of hRv hcs hco).1, hcl]
 obtain ⟨I, hI, hIs, hIb⟩ := tk.info
 have hzz := tk.zero
 simp only [hI, Option.bind_some] at hzz
 obtain ⟨z, hz1, hz2⟩ := Option.map_eq_some_iff.1 hzz
 have hparts : (parts.map fun (i, x) => (i, a.eval x)).toList = (List.range' 0 vs.length).zip vs := by
   apply List.ext_getElem
   · simp [vs]
   · intro j hj hj'
     have hjp : j < parts.size := by simpa using hj
     have h3 : parts.toList[j].1 = j := by
       have h4 : (parts.toList.map (·.1))[j]? = some j := by rw [hidx, List.getElem?_range (by omega)]
       rw [List.getElem?_map, List.getElem?_eq_getElem (by simpa using hjp)] at h4
       simpa using h4
     simp only [Array.getElem_toList] at h3
     simp [vs, h3]
 have key : ∃ cells : Array Value, (Instr.buildSlice T len (parts.map fun (i, x) => (i, a.eval x))).run E.P w = .ok (.slice (some ⟨w.heap.size, 0, none⟩) len len) (w.alloc (.cells cells e)) ∧ cells.size = len * ie.size ∧
     ∀ (i j : Nat) (v : Value), vs[i]? = some v → j < ie.size → cells[i * ie.size + j]? = v.cells[j]? := by
   rcases Nat.eq_zero_or_pos len with h0 | h0
   · subst h0
     have hv0 : vs = [] := List.eq_nil_of_length_eq_zero hvl
     refine ⟨#[], ?_, by simp, fun i j v hv => by rw [hv0] at hv; simp at hv⟩
     have hp0 : parts.map (fun (i, x) => (i, a.eval x)) = #[] := by apply Array.ext'; rw [hparts, hv0]; rfl
     rw [hp0]
     simp only [Instr.buildSlice, Sem.run_bind, run_underlying hu, Result.andThen_ok, tk.run_sizeOf, Nat.zero_mul]
     simp [Instr.fill, newRow, range0]
   · obtain ⟨c', hf, hs, _, hhi⟩ := fill_all ie.size vs 0 ((Array.range (len * I.size)).map (z.cells[· % z.cells.size]!)) hvc (by simp [hvl, hIs])
     refine ⟨c', ?_, by rw [hs]; simp [hIs], fun i j v hv hj => by have := hhi i j v hv hj; rwa [Nat.zero_add] at this⟩
     refine run_buildSlice w T e len _ c' I z hu hI hz1 (by rw [hIs]; omega) (by rw [hIs]; have := Nat.mul_pos h0 tk.pos; omega) ?_
     rw [hparts, hIs]
     rw [hIs] at hf
     exact hf
 obtain ⟨cells, hrun, hcs, hcg⟩ := key
 have hrows : ∀ (i : Nat) (r : List PV), (ds.map fun x => x.cells.getD [])[i]? = some r → ∃ (d : PV) (v : Value), ds[i]? = some d ∧ vs[i]? = some v ∧ r.length = ie.size ∧ (∀ (j : Nat) (y : PV), r[j]? = some y → R w A (v.cells.getD j undef) y ∧ (v.cells.getD j undef).oneCell' = true) := by
   intro i r hr
   rw [List.getElem?_map] at hr
   obtain ⟨d, hd1, rfl⟩ := Option.map_eq_some_iff.1 hr
   obtain ⟨cs, hcs1, hcl, hco⟩ := hcell i d hd1
   obtain ⟨v, hv1, hRv⟩ := hvs i d hd1
   refine ⟨d, v, hd1, hv1, by rw [hcs1]; exact hcl, ?_⟩
   rw [hcs1]
   exact (R.cells_of hRv hcs1 hco).2
 have hsz2 : ∀ r ∈ (ds.map fun x => x.cells.getD []), r.length = ie.size := by
   intro r hr
   obtain ⟨i, hi', rfl⟩ := List.getElem_of_mem hr
   obtain ⟨_, _, _, _, h4, _⟩ := hrows i _ (List.getElem?_eq_getElem hi')
   exact h4
 refine ⟨cells, hrun, hcs, hdl, hsz2, fun i j r d hr hj => ?_⟩
 obtain ⟨d0, v, _, hv1, hrl, hrr⟩ := hrows i r hr
 have hjl : j < ie.size := by rw [← hrl]; exact (List.getElem?_eq_some_iff.1 hj).1
 have h5 := hcg i j v hv1 hjl
 rw [Array.getD_eq_getD_getElem?, h5, ← Array.getD_eq_getD_getElem?]
 exact hrr j d hj
theorem Inv.blk_lt (h : Inv E.gpv w0 A0 σ a w loc) : ∀ b, (A0 b ∨ act σ loc b) → b < w.heap.size := by
 rintro b (hb | ⟨j, ob, hj, hb⟩)
 · exact h.iA b hb
 · exact (h.iF j ob b hj hb).2
theorem R.new {A : Nat → Prop} {w' : World} {b e sz n c : Nat} {cells : Array Value} {rows : List (List PV)} (hb : w'.heap[b]? = some (.cells cells e (0, 0))) (hA : ¬ A b) (hn : rows.length = n) (h0 : 0 < n) (hsz : 0 < sz) (hc : n ≤ c) (hm : n ≤ maxN) (hcs : n * sz ≤ cells.size) (hz : ∀ r ∈ rows, r.length = sz)
   (hr : ∀ (i j : Nat) (r : List PV) (d : PV), rows[i]? = some r → r[j]? = some d → R w' A (cells.getD (i * sz + j) undef) d ∧ (cells.getD (i * sz + j) undef).oneCell' = true) : R w' A (.slice (some ⟨b, 0, none⟩) n c) (.sl rows) := by
 refine .sl (fun i j => cells.getD (i * sz + j) undef) hn h0 hsz hc hm hA hz (fun i j hi hj => ?_) (fun i j hi hj => ?_) (fun i j r d hi hj => (hr i j r d hi hj).1)
 · rw [Nat.zero_add]
   exact cell_of_heap hb (Nat.lt_of_lt_of_le (idx_lt hi hj) hcs)
 · have hr1 : rows[i]? = some (rows[i]'(by omega)) := List.getElem?_eq_getElem _
   have hl := hz _ (List.mem_of_getElem? hr1)
   exact (hr i j _ _ hr1 (List.getElem?_eq_getElem (by omega))).2
theorem lit_sound (h : Inv E.gpv w0 A0 σ a w loc) {T len : Nat} {parts : Array (Nat × Operand)} (ho : o.op = .buildSlice T len parts) {K : SV → Prop} (hp : litP E σ T len parts.toList fun d => K (.sh d)) : Gives E w0 A0 σ w loc o a K Q := by
 unfold litP at hp
 split at hp
 · rename_i i hi
   split at hp
   · rename_i e hk
     split at hp
     · rename_i ie hie
       obtain ⟨hidx, hsmall, hp⟩ := hp
       obtain ⟨ds, τ, ⟨hall, hK⟩, h1, hl, hR, hsub, hq⟩ := withShs_sound _ _ _ h hp
       obtain rfl := hq rfl
       have tk := E.ok e ie hie
       obtain ⟨cells, hrun, hcs, hdl, hz, hr⟩ := run_lit hi hk hie hidx hsmall hl hall hR
       have hrun2 : (execOp a.eval o).run E.P w = .ok (.value (.slice (some ⟨w.heap.size, 0, none⟩) len len)) (w.alloc (.cells cells e)) := by
         simp only [execOp, ho, Sem.run_bind, hrun, Result.andThen_ok, Sem.run_pure]
       have hbel : Below w.heap.size w (w.alloc (.cells cells e)) := Below.alloc (Below.refl _ _) (Nat.le_refl _) _
       intro next hn
       by_cases h0 : ds = []
       · rw [if_pos h0] at hK
         have hl0 : len = 0 := by rw [← hdl, h0]; rfl
         subst hl0
         exact wp_of_run hrun2 (hn _ _ _ hK (.sh (.e0 _)) hbel)
       · rw [if_neg h0] at hK
         have hlen24 : len ≤ 2 ^ 24 := Nat.le_trans (Nat.le_mul_of_pos_right _ tk.pos) hsmall
         have hpos : 0 < len := by rw [← hdl]; exact List.length_pos_iff.2 h0
         refine wp_of_run hrun2 (hn _ _ _ hK (.sh (R.new (sz := ie.size) (b := w.heap.size) (e := e) (cells := cells) ?_ (fun hA => ?_) (by simpa using hdl) hpos tk.pos (Nat.le_refl _) (by unfold maxN; omega) (by omega) hz (fun i j r d hi hj => ?_))) hbel)
         · show (w.heap.push _)[w.heap.size]? = _; simp
         · have := h1.blk_lt _ hA; omega
         · exact ⟨(hr i j r d hi hj).1.step (fun b hb _ => hbel.block b hb) (fun _ _ => id), (hr i j r d hi hj).2⟩
     · exact hp.elim
   · exact hp.elim
 · exact hp.elim
theorem mod_idx {i j sz : Nat} (hj : j < sz) : (i * sz + j) % sz = j ∧ (i * sz + j) / sz = i := by
 refine ⟨by rw [Nat.mul_comm, Nat.mul_add_mod, Nat.mod_eq_of_lt hj], ?_⟩
 rw [Nat.mul_comm, Nat.mul_add_div (by omega), Nat.div_eq_of_lt hj, Nat.add_zero]
theorem run_append_gen {t e : Nat} {i ie : TI} (hi : E.tt t = some i) (hk : i.kind = .sl e) (hie : E.tt e = some ie) (ty : TypeId) {B : Nat} {v xv : Value} {n : Nat} {xs : List Value} {A : Nat → Prop} {more : List (List PV)}
   (hown : w.ownsRow B e ie.size v n xs) (hx : R w A xv (.sl more)) (hz : ∀ r ∈ more, r.length = ie.size) (hby : (n + more.length) * ie.bytes ≤ maxN) (hlen : n + more.length ≤ maxN) (hB : B ≤ w.heap.size) :
   ∃ v' w' news, (Builtin.append_ #[t, t] ty #[v, xv]).run E.P w = .ok v' w' ∧ w'.ownsRow B e ie.size v' (n + more.length) (xs ++ news) ∧ w.grownBy w' v.ownBlock ∧ (v'.ownBlock = v.ownBlock ∨ v'.ownBlock = some w.heap.size) ∧
     news.length = more.length * ie.size ∧ (∀ u ∈ news, u.oneCell' = true) ∧ ∀ i j r d, more[i]? = some r → r[j]? = some d → R w A (news.getD (i * ie.size + j) undef) d := by
 have tk := E.ok e ie hie
 have hu := (E.ok t i hi).kind
 rw [hk] at hu
 obtain ⟨I, hI, hIs, hIb⟩ := tk.info
 have hzz := tk.zero
 simp only [hI, Option.bind_some] at hzz
 obtain ⟨z, hz1, hz2⟩ := Option.map_eq_some_iff.1 hzz
 have hzsz : z.cells.size = ie.size := by rw [← tk.zsz, ← hz2]; simp
 unfold maxN at hby hlen
 rcases hx.sl_inv with ⟨rfl, p, c, rfl, hc⟩ | ⟨b, off, c, sz, f, rfl, hpos, hsz, hcc, hm, hA, hz', hcell, hone, hr⟩
 · cases p with
   | none =>
     obtain rfl := hc rfl
     refine ⟨v, w, [], run_append_owned_none (P := E.P) (w := w) B t ty e I ie.size hu hI v n xs hown, by simpa using hown, ⟨rfl, rfl, rfl, Nat.le_refl _, fun _ _ _ => rfl⟩, .inl rfl, by simp, by simp, fun i j r d h => by simp at h⟩
   | some ad =>
     obtain ⟨v', w', hr, h1, h2, h3, h4⟩ := run_append_own_at (P := E.P) (w := w) B t ty e I z ie.size ie.bytes hu hI hz1 hIs hIb hzsz tk.pos v n xs hown ad 0 c [] (by simp) (fun j u h => by simp at h) (by simp) (by simp only [maxLen]; simp at hlen; omega) (by simpa using hby) hB
     exact ⟨v', w', [], hr, by simpa using h1, h2, h4, by simp, by simp, fun i j r d h => by simp at h⟩
 · have hss : sz = ie.size := by
     have hmem : more[0] ∈ more := List.getElem_mem _
     rw [← hz _ hmem, hz' _ hmem]
   subst hss
   let news := (List.range (more.length * ie.size)).map fun q => f (q / ie.size) (q % ie.size)
   have hnl : news.length = more.length * ie.size := by simp [news]
   have hget : ∀ q, q < more.length * ie.size → news[q]? = some (f (q / ie.size) (q % ie.size)) ∧ q / ie.size < more.length ∧ q % ie.size < ie.size ∧ q / ie.size * ie.size + q % ie.size = q := fun q hq =>
     ⟨by simp [news, hq], Nat.div_lt_of_lt_mul (by rwa [Nat.mul_comm] at hq), Nat.mod_lt _ tk.pos, by rw [Nat.mul_comm]; exact Nat.div_add_mod _ _⟩
   obtain ⟨v', w', hr', h1, h2, h3, h4⟩ := run_append_own_at (P := E.P) (w := w) B t ty e I z ie.size ie.bytes hu hI hz1 hIs hIb hzsz tk.pos v n xs hown ⟨b, off, none⟩ more.length c news hnl (fun j u hj => by
     have hjl : j < more.length * ie.size := by rw [← hnl]; exact (List.getElem?_eq_some_iff.1 hj).1
     obtain ⟨g1, g2, g3, g4⟩ := hget j hjl
     rw [g1] at hj
     injection hj with hj
     have := hcell _ _ g2 g3
     rw [g4] at this
     rw [add_mk, this, hj]) (fun u hu' => by
     obtain ⟨q, hq, rfl⟩ := List.getElem_of_mem hu'
     obtain ⟨g1, g2, g3, g4⟩ := hget q (by rw [← hnl]; exact hq)
     have := hone _ _ g2 g3
     rw [List.getElem?_eq_getElem hq] at g1
     injection g1 with g1
     rw [g1]; exact this) (by simp only [maxLen]; omega) hby hB
   refine ⟨v', w', news, hr', h1, h2, h4, hnl, fun u hu' => ?_, fun i' j r d hi' hj => ?_⟩
   · obtain ⟨q, hq, rfl⟩ := List.getElem_of_mem hu'
     obtain ⟨g1, g2, g3, g4⟩ := hget q (by rw [← hnl]; exact hq)
     have := hone _ _ g2 g3
     rw [List.getElem?_eq_getElem hq] at g1
     injection g1 with g1
     rw [g1]; exact this
   · have hil := (List.getElem?_eq_some_iff.1 hi').1
     have hjl : j < ie.size := by rw [← hz r (List.mem_of_getElem? hi')]; exact (List.getElem?_eq_some_iff.1 hj).1
     obtain ⟨g1, _, _, _⟩ := hget _ (idx_lt hil hjl)
     rw [List.getD_eq_getElem?_getD, g1, (mod_idx hjl).1, (mod_idx hjl).2]
     exact hr i' j r d hi' hj
theorem run_append_e0 {t e : Nat} {i ie : TI} (hi : E.tt t = some i) (hk : i.kind = .sl e) (hie : E.tt e = some ie) (ty : TypeId) {p : Option Addr} {xv : Value} {A : Nat → Prop} {more : List (List PV)} (hx : R w A xv (.sl more)) (hby : more.length * ie.bytes ≤ maxN) (h0 : more ≠ []) :
   (Builtin.append_ #[t, t] ty #[.slice p 0 0, xv]).run E.P w = (Builtin.append_ #[t, t] ty #[.slice none 0 0, xv]).run E.P w := by
 have tk := E.ok e ie hie
 have hu := (E.ok t i hi).kind
 rw [hk] at hu
 obtain ⟨I, hI, hIs, hIb⟩ := tk.info
 unfold maxN at hby
 rcases hx.sl_inv with ⟨rfl, _⟩ | ⟨b, off, c, sz, f, rfl, hpos, hsz, hcc, hm, hA, hz', hcell, hone, hr⟩
 · exact absurd rfl h0
 · have hn : ¬ more.length ≤ 0 := by omega
   have hcap : Builtin.nextslicecap more.length 0 = more.length := by simp [Builtin.nextslicecap, hpos]
   have hld : ∀ (q : Addr) (w : World), (loadCells q 0).run E.P w = .ok #[] w := fun q w => by simp [loadCells, loadCellsFrom]
   unfold maxN at hm
   have hbig : ¬ ((9223372036854775807 : Int) < (more.length : Int) ∧ I.bytes = 0) := by omega
   have hb2 : ¬ more.length * I.bytes > 2 ^ 48 := by rw [hIb]; omega
   cases p with
   | none => rfl
   | some q =>
     simp [Builtin.append_, Builtin.lenOf, Sem.run_bind, run_underlying hu, tk.run_sizeOf, Result.andThen_ok, hn, typeInfo, hI, hcap, hb2, Builtin.firstCells, hld, h0, hbig]
theorem run_builtin {c : Call} (ho : o.op = .call c) {b : Builtin} (hc : c.callee = .builtin b) (w : World) {v : Value} {w' : World}
   (hr : ∀ consts, (builtin b c.argTypes o.type consts (c.args.map a.eval)).run E.P w = .ok (.value v) w') : (execOp a.eval o).run E.P w = .ok (.value v) w' := by
 simp only [execOp, ho, resolve, hc, Sem.run_bind, Sem.run_pure, Result.andThen_ok, invoke, hr]
theorem add_sound (h : Inv E.gpv w0 A0 σ a w loc) {c : Call} (ho : o.op = .call c) (hc : c.callee = .builtin .append) {K : SV → Prop} (hp : addP E σ c.args.toList c.argTypes.toList fun d => K (.sh d)) : Gives E w0 A0 σ w loc o a K Q := by
 unfold addP at hp
 split at hp
 · rename_i s x t t' hargs htys
   obtain ⟨rfl, hp⟩ := hp
   have hca : c.args = #[s, x] := Array.ext' hargs
   have hct : c.argTypes = #[t', t'] := Array.ext' htys
   split at hp
   · rename_i i hi
     split at hp
     · rename_i e hk
       split at hp
       · rename_i ie hie
         have tk := E.ok e ie hie
         split at hp
         · rename_i es
           obtain ⟨d, τ, hp2, h1, hxr, hsub, hq⟩ := withSh_sound h hp
           obtain rfl := hq rfl
           clear hp
           have hp := hp2
           have hsv := ev_ok h1 s
           rw [es] at hsv
           obtain ⟨p, hv⟩ := hsv.sh_inv.e0_inv
           split at hp
           · rename_i more
             obtain ⟨hall, hby, hlen, hK⟩ := hp
             have hzm : ∀ r ∈ more, r.length = ie.size := fun r hr => by
               have := List.all_eq_true.1 hall r hr
               simp only [Bool.and_eq_true, decide_eq_true_eq] at this
               exact this.1
             have hrunx : ∀ {v' : Value} {w' : World}, (Builtin.append_ #[t', t'] o.type #[a.eval s, a.eval x]).run E.P w = .ok v' w' → (execOp a.eval o).run E.P w = .ok (.value v') w' := fun hr =>
               run_builtin ho hc w (fun consts => by
                 rw [hca, hct]
                 simp only [builtin, Sem.run_bind, List.map_toArray, List.map_cons, List.map_nil, hr, Result.andThen_ok, Sem.run_pure])
             intro next hn
             by_cases h0 : more = []
             · subst h0
               have hu := (E.ok t' i hi).kind
               rw [hk] at hu
               have hr0 : (Builtin.append_ #[t', t'] o.type #[a.eval s, a.eval x]).run E.P w = .ok (.slice p 0 0) w := by
                 rw [hv]
                 have hld : ∀ (q : Addr) (w : World), (loadCells q 0).run E.P w = .ok #[] w := fun q w => by simp [loadCells, loadCellsFrom]
                 have hst : ∀ (q : Addr) (w : World), (storeCells q []).run E.P w = .ok () w := fun q w => by simp [storeCells]
                 rcases hxr.sl_inv with ⟨_, q, c, hxv, _⟩ | ⟨b, off, c, sz, f, _, hpos, _⟩
                 · rw [hxv]
                   cases p <;> cases q <;> simp [Builtin.append_, Builtin.lenOf, Sem.run_bind, run_underlying hu, tk.run_sizeOf, Result.andThen_ok, Builtin.firstCells, hld, hst]
                 · simp at hpos
               exact wp_of_run (hrunx hr0) (hn _ _ _ hK (.sh (.nilsl _ 0 (fun _ => rfl))) (Below.refl _ _))
             · have hown : w.ownsRow 0 e ie.size (.slice none 0 0) 0 [] := ⟨by simp, .inl ⟨rfl, rfl⟩⟩
               obtain ⟨v', w', news, hrun, ho', hg, hbl, hnl, hn1, hnr⟩ := run_append_gen hi hk hie o.type hown hxr hzm (by simpa using hby) (by simpa using hlen) (Nat.zero_le _)
               have hrun' := (run_append_e0 (p := p) hi hk hie o.type hxr hby h0).trans hrun
               rw [← hv] at hrun'
               have hbel : Below w.heap.size w w' := Below.grown (Below.refl _ _) hg (Nat.le_refl _) (fun k hk => by simp [Value.ownBlock] at hk)
               obtain ⟨hxl, ⟨hv', hn0⟩ | ⟨g, cap, cur, hv', hB, hh, hcap, hcm, hcs, ht⟩⟩ := ho'
               · simp at hn0; exact absurd hn0 h0
               · have hgs : w.heap.size ≤ g := by
                   rcases hbl with hbl | hbl
                   · rw [hv'] at hbl; simp [Value.ownBlock] at hbl
                   · rw [hv'] at hbl; simp [Value.ownBlock] at hbl; omega
                 simp only [Nat.zero_add, List.nil_append] at hv' hcap ht hxl
                 refine wp_of_run (hrunx hrun') (hn _ _ _ hK (.sh ?_) hbel)
                 rw [hv']
                 have hle : more.length * ie.size ≤ cap * ie.size := Nat.mul_le_mul_right _ hcap
                 refine R.new (sz := ie.size) hh (fun hA => ?_) rfl (List.length_pos_iff.2 h0) tk.pos hcap hlen (by omega) hzm (fun i' j r d hi' hj => ?_)
                 · have := h1.blk_lt _ hA; omega
                 · have hil := (List.getElem?_eq_some_iff.1 hi').1
                   have hjl : j < ie.size := by rw [← hzm r (List.mem_of_getElem? hi')]; exact (List.getElem?_eq_some_iff.1 hj).1
                   have hlt := idx_lt hil hjl
                   have hcell : cur.getD (i' * ie.size + j) undef = news.getD (i' * ie.size + j) undef := by
                     rw [← ht, List.getD_eq_getElem?_getD, List.getElem?_take, if_pos hlt, Array.getElem?_toList, Array.getD_eq_getD_getElem?]
                   rw [hcell]
                   refine ⟨(hnr i' j r d hi' hj).step (fun b hb _ => hbel.block b hb) (fun _ _ => id), hn1 _ ?_⟩
                   rw [List.getD_eq_getElem?_getD, List.getElem?_eq_getElem (by omega)]
                   exact List.getElem_mem _
           · exact hp.elim
         · exact hp.elim
       · exact hp.elim
     · exact hp.elim
   · exact hp.elim
 · exact hp.elim
theorem wrap_i64 (n : Int) (h1 : -9223372036854775808 ≤ n) (h2 : n ≤ 9223372036854775807) : IntKind.i64.wrap n = n := by
 exact IntWalk.i64_in n ⟨by omega, by omega⟩
theorem run_mk {T e : Nat} {i ie : TI} (hi : E.tt T = some i) (hk : i.kind = .sl e) (hie : E.tt e = some ie) {n m : Nat} (hnm' : n ≤ m) (hby : m * ie.bytes ≤ 140737488355328) (hmm' : m ≤ 140737488355328) :
   ∃ z : Value, (Instr.makeSlice T (.int .i64 (n : Int)) (.int .i64 (m : Int))).run E.P w = .ok (.slice (some ⟨w.heap.size, 0, none⟩) n m) (w.alloc (.cells (madeCells z.cells (m * ie.size)) e)) ∧ z.cells.toList = ie.zero ∧
     (∀ i j, i < m → j < ie.size → (madeCells z.cells (m * ie.size))[i * ie.size + j]? = some (z.cells.getD j undef)) ∧ ∀ j, j < ie.size → (z.cells.getD j undef).oneCell' = true := by
 have hu := (E.ok T i hi).kind
 rw [hk] at hu
 have tk := E.ok e ie hie
 have h0 : (0 : Int) ≤ (n : Int) := Int.natCast_nonneg n
 have hnm : (n : Int) ≤ (m : Int) := by omega
 obtain ⟨z, hz, hzc⟩ := tk.run_zero w
 obtain ⟨I, hI, hIs, hIb⟩ := tk.info
 have hzsz : z.cells.size = ie.size := by rw [← tk.zsz, ← hzc]; simp
 have hwn : IntKind.i64.wrap (n : Int) = n := wrap_i64 _ (by omega) (by omega)
 have hwm : IntKind.i64.wrap (m : Int) = m := wrap_i64 _ (by omega) (by omega)
 have hby' : ¬ ((ie.bytes : Int) * (m : Int) > 2 ^ 48) := by
   have h8 : ie.bytes * m ≤ 140737488355328 := by rw [Nat.mul_comm]; exact hby
   have h9 : (ie.bytes : Int) * (m : Int) = ((ie.bytes * m : Nat) : Int) := (Int.natCast_mul _ _).symm
   rw [h9]; omega
 have hrun : (Instr.makeSlice T (.int .i64 (n : Int)) (.int .i64 (m : Int))).run E.P w = .ok (.slice (some ⟨w.heap.size, 0, none⟩) n m) (w.alloc (.cells (madeCells z.cells (m * ie.size)) e)) := by
   simp only [Instr.makeSlice, Sem.run_bind, run_underlying hu, Result.andThen_ok, asInt, asIntOf, Sem.run_pure, typeInfo, run_program, hI, hwn, hwm, hIb]
   have hc : ((decide ((m : Int) < 0) || decide ((ie.bytes : Int) * (m : Int) > 2 ^ 48)) || decide ((n : Int) < 0) || decide ((n : Int) > (m : Int))) = false := by
     simp only [Bool.or_eq_false_iff, decide_eq_false_iff_not]
     exact ⟨⟨⟨by omega, hby'⟩, by omega⟩, by omega⟩
   have hc' : ¬ (((decide ((m : Int) < 0) || decide ((ie.bytes : Int) * (m : Int) > 2 ^ 48)) = true ∨ (n : Int) < 0) ∨ (n : Int) > (m : Int)) := by
     rintro ((hq | hq) | hq)
     · simp only [Bool.or_eq_true, decide_eq_true_eq] at hq
       rcases hq with hq | hq
       · omega
       · exact hby' hq
     · omega
     · omega
   simp only [Sem.run_ite, hc, hc', if_false, Bool.false_eq_true, Sem.run_bind, run_askRoom, Result.andThen_ok, tk.run_sizeOf, Int.toNat_natCast, Sem.run_pure]
   by_cases hm0 : m * ie.size = 0
   · have e0 : ∀ f : Nat → Value, (Array.range (m * ie.size)).map f = #[] := by intro f; rw [hm0]; exact range0 f
     simp only [hm0, if_true, Sem.run_pure, Result.andThen_ok, newRow, Sem.run_bind, run_newObj, madeCells]
     rw [← hm0, e0, e0]
     rfl
   · simp only [hm0, if_false, Sem.run_bind, hz, Sem.run_pure, Result.andThen_ok, newRow, run_newObj, madeCells]
     rfl
 have hget : ∀ i j, i < m → j < ie.size → (madeCells z.cells (m * ie.size))[i * ie.size + j]? = some (z.cells.getD j undef) := by
   intro i j hi' hj
   have hlt := idx_lt hi' hj
   simp [madeCells, hlt, hzsz, (mod_idx (i := i) hj).1, Array.getD, hj]
 have hzone : ∀ j, j < ie.size → (z.cells.getD j undef).oneCell' = true := by
   intro j hj
   have : z.cells[j]'(by omega) ∈ ie.zero := by rw [← hzc]; simp
   simpa [Array.getD, show j < z.cells.size by omega] using List.all_eq_true.1 tk.zone _ this
 exact ⟨z, hrun, hzc, hget, hzone⟩
theorem mk_sound (h : Inv E.gpv w0 A0 σ a w loc) {T : Nat} {x y : Operand} (ho : o.op = .makeSlice T x y) {K : SV → Prop} (hp : ppop E (.makeSlice T x y) σ K) : Gives E w0 A0 σ w loc o a K Q := by
 simp only [ppop, mkP] at hp
 split at hp
 · rename_i i hi
   split at hp
   · rename_i e hk
     split at hp
     · rename_i ie hie
       split at hp
       · rename_i n m ex ey
         obtain ⟨rfl, h0, hby, hm, hK⟩ := hp
         obtain ⟨n, rfl⟩ := Int.eq_ofNat_of_zero_le h0
         unfold maxN at hby hm
         simp only [Int.toNat_natCast] at hK hby
         have tk := E.ok e ie hie
         obtain ⟨z, hrun, hzc, hget, hzone⟩ := run_mk (w := w) hi hk hie (Nat.le_refl n) hby (by omega)
         have hx := ev_ok h x
         rw [ex] at hx
         have hy := ev_ok h y
         rw [ey] at hy
         have hrun2 : (execOp a.eval o).run E.P w = .ok (.value (.slice (some ⟨w.heap.size, 0, none⟩) n n)) (w.alloc (.cells (madeCells z.cells (n * ie.size)) e)) := by
           simp only [execOp, ho, hx.val_eq, hy.val_eq, Sem.run_bind, hrun, Result.andThen_ok, Sem.run_pure]
         have hbel : Below w.heap.size w (w.alloc (.cells (madeCells z.cells (n * ie.size)) e)) := Below.alloc (Below.refl _ _) (Nat.le_refl _) _
         intro next hn
         by_cases hn0 : (n : Int) = 0
         · rw [if_pos hn0] at hK
           have : n = 0 := by omega
           subst this
           exact wp_of_run hrun2 (hn _ _ _ hK (.sh (.e0 _)) hbel)
         · rw [if_neg hn0] at hK
           refine wp_of_run hrun2 (hn _ _ _ hK (.sh (R.new (sz := ie.size) (b := w.heap.size) (e := e) (cells := madeCells z.cells (n * ie.size)) ?_ (fun hA => ?_) (by simp) (by omega) tk.pos (Nat.le_refl _) (by unfold maxN; omega) (by simp [madeCells]) (fun r hr => by rw [(List.mem_replicate.1 hr).2]; simp [tk.zsz]) (fun i' j r d hi' hj => ?_))) hbel)
           · show (w.heap.push _)[w.heap.size]? = _; simp
           · have := h.blk_lt _ hA; omega
           · rw [List.getElem?_replicate] at hi'
             split at hi'
             · rename_i hin
               injection hi' with hi'
               subst hi'
               rw [List.getElem?_map] at hj
               obtain ⟨u, hu', rfl⟩ := Option.map_eq_some_iff.1 hj
               have hjl : j < ie.size := by rw [← tk.zsz]; exact (List.getElem?_eq_some_iff.1 hu').1
               rw [Array.getD_eq_getD_getElem?, hget i' j hin hjl]
               refine ⟨?_, hzone j hjl⟩
               rw [← hzc, Array.getElem?_toList] at hu'
               rw [Option.getD_some, getD_of_getElem? hu']
               exact .val u
             · cases hi'
       · exact hp.elim
     · exact hp.elim
   · exact hp.elim
 · exact hp.elim
end
end Go.Pw
