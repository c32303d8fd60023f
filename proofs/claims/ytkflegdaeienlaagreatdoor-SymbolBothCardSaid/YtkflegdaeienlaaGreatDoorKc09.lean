/- Merged from the working texts PwI. -/
import Derived.Test.YtkflegdaeienlaaGreatDoorKc08
set_option linter.all false
set_option maxHeartbeats 400000
set_option linter.unusedVariables false
set_option linter.unusedSimpArgs false
namespace Go.Pw
open Go.RowKit
section
variable {E : Env} {w0 : Base} {A0 : Nat → Prop} {σ : St} {a : Act} {w : World} {loc : Nat → Value} {o : Oper} {Q : Exit → Act → World → Prop}
theorem getElem?_SR {rows : List (List PV)} {i j : Nat} {r : List SV} {x : SV} (hi : (SR rows)[i]? = some r) (hj : r[j]? = some x) : ∃ r' d, rows[i]? = some r' ∧ r'[j]? = some d ∧ x = .sh d := by
 simp only [SR, List.getElem?_map, Option.map_eq_some_iff] at hi
 obtain ⟨r', h1, rfl⟩ := hi
 simp only [List.getElem?_map, Option.map_eq_some_iff] at hj
 obtain ⟨d, h2, rfl⟩ := hj
 exact ⟨r', d, h1, h2, rfl⟩
theorem SR_length (rows : List (List PV)) : (SR rows).length = rows.length := by simp [SR]
theorem SR_mem {rows : List (List PV)} {n : Nat} (h : ∀ r ∈ rows, r.length = n) : ∀ r ∈ SR rows, r.length = n := by
 intro r hr
 obtain ⟨q, hq, rfl⟩ := List.mem_map.1 hr
 simpa using h q hq
theorem ObAt.newRow {w : World} {A' : Nat → Prop} {loc' : Nat → Value} {B : Nat} (hB : B ≤ w.heap.size) {e sz n cap : Nat} {cells : Array Value} {rows : List (List PV)} (hsz : 0 < sz) (hn : rows.length = n) (hnc : n ≤ cap) (hcm : cap ≤ maxLen) (hm : n ≤ maxN)
   (hcs : cells.size = cap * sz) (hz : ∀ r ∈ rows, r.length = sz) (h1 : ∀ x ∈ cells.toList, x.oneCell' = true)
   (hr : ∀ i j r d, rows[i]? = some r → r[j]? = some d → R (w.alloc (.cells cells e)) A' (cells.getD (i * sz + j) undef) d) :
   ObAt (w.alloc (.cells cells e)) A' loc' B (.slice (some ⟨w.heap.size, 0, none⟩) n cap) (.rw e sz (SR rows)) := by
 have hle : n * sz ≤ cap * sz := Nat.mul_le_mul_right _ hnc
 refine .rw (cells.toList.take (n * sz)) (SR_mem hz) ⟨by rw [SR_length, hn]; simp; omega, .inr ⟨w.heap.size, cap, cells, by rw [SR_length, hn], hB, heap_new w _, by rw [SR_length, hn]; exact hnc, hcm, hcs, by rw [SR_length, hn]⟩⟩ hsz (by rw [SR_length, hn]; exact hm)
   (fun x hx => h1 x (List.mem_of_mem_take hx)) (fun i j r x hi hj => ?_)
 obtain ⟨r', d, h2, h3, rfl⟩ := getElem?_SR hi hj
 have hil : i < n := by rw [← hn]; exact (List.getElem?_eq_some_iff.1 h2).1
 have hjl : j < sz := by rw [← hz r' (List.mem_of_getElem? h2)]; exact (List.getElem?_eq_some_iff.1 h3).1
 rw [List.getD_eq_getElem?_getD, List.getElem?_take, if_pos (idx_lt hil hjl), Array.getElem?_toList, ← Array.getD_eq_getD_getElem?]
 exact .sh (hr i j r' d h2 h3)
theorem buildSlice_sound (h : Inv E.gpv w0 A0 σ a w loc) (hd : ∀ t, o.dst = some t → t < a.tmps.size) {T len : Nat} {parts : Array (Nat × Operand)} (ho : o.op = .buildSlice T len parts) {K : SV → St → Prop} (hp : epop E o.dst (.buildSlice T len parts) σ K) : EGives E w0 A0 w loc o a K Q := by
 simp only [epop] at hp
 split at hp
 · rename_i dd i hdst hi
   split at hp
   · rename_i e hk
     have hu := (E.ok T i hi).kind
     rw [hk] at hu
     split at hp
     · rename_i ie hie
       have tk := E.ok e ie hie
       obtain ⟨hidx, hsmall, hp⟩ := hp
       obtain ⟨ds, τ, ⟨hall, hK⟩, h1, hl, hR, hsub, hq⟩ := withShs_sound _ _ _ h hp
       have hpl : parts.size = len := by have := congrArg List.length hidx; simpa using this
       have hdl : ds.length = len := by simp at hl; omega
       have hcell : ∀ (j : Nat) (d : PV), ds[j]? = some d → ∃ cs : List PV, d.cells = some cs ∧ cs.length = ie.size ∧ cs.all PV.one = true := by
         intro j d hj
         have := List.all_eq_true.1 hall d (List.mem_of_getElem? hj)
         split at this
         · rename_i cs hcs
           simp only [Bool.and_eq_true, decide_eq_true_eq] at this
           exact ⟨cs, hcs, this.1, this.2⟩
         · cases this
       let vs := parts.toList.map fun p => a.eval p.2
       have hvs : ∀ (j : Nat) (d : PV), ds[j]? = some d → ∃ v : Value, vs[j]? = some v ∧ R w (fun b => A0 b ∨ act τ loc b) v d := by
         intro j d hj
         have hjl : j < parts.toList.length := by have := (List.getElem?_eq_some_iff.1 hj).1; simp; omega
         exact ⟨a.eval (parts.toList[j]).2, by simp [vs, List.getElem?_map, List.getElem?_eq_getElem hjl], hR j d _ hj (by simp [List.getElem?_map, List.getElem?_eq_getElem hjl])⟩
       have hvl : vs.length = len := by simp [vs, hpl]
       have hvc : ∀ v ∈ vs, v.cells.size = ie.size := by
         intro v hv
         obtain ⟨j, hj, rfl⟩ := List.getElem_of_mem hv
         have hjd : ds[j]? = some ds[j] := List.getElem?_eq_getElem (by omega)
         obtain ⟨cs, hcs, hcl, hco⟩ := hcell j _ hjd
         obtain ⟨v', hv', hRv⟩ := hvs j _ hjd
         rw [List.getElem?_eq_getElem hj] at hv'
         injection hv' with hv'
         rw [hv', (R.cells_of hRv hcs hco).1, hcl]
       obtain ⟨I, hI, hIs, hIb⟩ := tk.info
       have hzz := tk.zero
       simp only [hI, Option.bind_some] at hzz
       obtain ⟨z, hz1, hz2⟩ := Option.map_eq_some_iff.1 hzz
       have hparts : (parts.map fun (i, x) => (i, a.eval x)).toList = (List.range' 0 vs.length).zip vs := by
         apply List.ext_getElem
         · simp [vs]
         · intro j hj hj'
           have hjp : j < parts.size := by simpa using hj
           have h3 : parts.toList[j].1 = j := by
             have h4 : (parts.toList.map (·.1))[j]? = some j := by rw [hidx, List.getElem?_range (by omega)]
             rw [List.getElem?_map, List.getElem?_eq_getElem (by simpa using hjp)] at h4
             simpa using h4
           simp only [Array.getElem_toList] at h3
           simp [vs, h3]
       have key : ∃ cells : Array Value, (Instr.buildSlice T len (parts.map fun (i, x) => (i, a.eval x))).run E.P w = .ok (.slice (some ⟨w.heap.size, 0, none⟩) len len) (w.alloc (.cells cells e)) ∧ cells.size = len * ie.size ∧
           ∀ (i j : Nat) (v : Value), vs[i]? = some v → j < ie.size → cells[i * ie.size + j]? = v.cells[j]? := by
         rcases Nat.eq_zero_or_pos len with h0 | h0
         · subst h0
           have hv0 : vs = [] := List.eq_nil_of_length_eq_zero hvl
           refine ⟨#[], ?_, by simp, fun i j v hv => by rw [hv0] at hv; simp at hv⟩
           have hp0 : parts.map (fun (i, x) => (i, a.eval x)) = #[] := by apply Array.ext'; rw [hparts, hv0]; rfl
           rw [hp0]
           simp only [Instr.buildSlice, Sem.run_bind, run_underlying hu, Result.andThen_ok, tk.run_sizeOf, Nat.zero_mul]
           simp [Instr.fill, newRow, range0]
         · obtain ⟨c', hf, hs, _, hhi⟩ := fill_all ie.size vs 0 ((Array.range (len * I.size)).map (z.cells[· % z.cells.size]!)) hvc (by simp [hvl, hIs])
           refine ⟨c', ?_, by rw [hs]; simp [hIs], fun i j v hv hj => by have := hhi i j v hv hj; rwa [Nat.zero_add] at this⟩
           refine run_buildSlice w T e len _ c' I z hu hI hz1 (by rw [hIs]; omega) (by rw [hIs]; have := Nat.mul_pos h0 tk.pos; omega) ?_
           rw [hparts, hIs]
           rw [hIs] at hf
           exact hf
       obtain ⟨cells, hrun, hcs, hcg⟩ := key
       have hrows : ∀ (i : Nat) (r : List PV), (ds.map fun x => x.cells.getD [])[i]? = some r → ∃ (d : PV) (v : Value), ds[i]? = some d ∧ vs[i]? = some v ∧ r.length = ie.size ∧ (∀ (j : Nat) (y : PV), r[j]? = some y → R w (fun b => A0 b ∨ act τ loc b) (v.cells.getD j undef) y ∧ (v.cells.getD j undef).oneCell' = true) := by
         intro i r hr
         rw [List.getElem?_map] at hr
         obtain ⟨d, hd1, rfl⟩ := Option.map_eq_some_iff.1 hr
         obtain ⟨cs, hcs1, hcl, hco⟩ := hcell i d hd1
         obtain ⟨v, hv1, hRv⟩ := hvs i d hd1
         refine ⟨d, v, hd1, hv1, by rw [hcs1]; exact hcl, ?_⟩
         rw [hcs1]
         exact (R.cells_of hRv hcs1 hco).2
       have hsz2 : ∀ r ∈ (ds.map fun x => x.cells.getD []), r.length = ie.size := by
         intro r hr
         obtain ⟨i, hi', rfl⟩ := List.getElem_of_mem hr
         obtain ⟨_, _, _, _, h4, _⟩ := hrows i _ (List.getElem?_eq_getElem hi')
         exact h4
       have hlen24 : len ≤ 2 ^ 24 := Nat.le_trans (Nat.le_mul_of_pos_right _ tk.pos) hsmall
       have hinv := h1.new dd cells e (.slice (some ⟨w.heap.size, 0, none⟩) len len) (.rw e ie.size (SR (ds.map fun x => x.cells.getD []))) (fun b hb => by simpa [blk] using hb.symm) (fun A' loc' hA hl1 hl2 => by
         refine ObAt.newRow (Nat.zero_le _) tk.pos (by simpa using hdl) (Nat.le_refl _) (by unfold maxLen; omega) (by unfold maxN; omega) hcs hsz2 (fun x hx => ?_) (fun i j r y hi' hj => ?_)
         · obtain ⟨t, ht, rfl⟩ := List.getElem_of_mem hx
           have ht' : t < len * ie.size := by simpa [hcs] using ht
           have hi0 : t / ie.size < len := Nat.div_lt_of_lt_mul (by rwa [Nat.mul_comm] at ht')
           have hj0 : t % ie.size < ie.size := Nat.mod_lt _ tk.pos
           have hrow : (ds.map fun x => x.cells.getD [])[t / ie.size]? = some ((ds.map fun x => x.cells.getD [])[t / ie.size]'(by simp; omega)) := List.getElem?_eq_getElem _
           obtain ⟨d, v, _, hv1, hrl, hrr⟩ := hrows _ _ hrow
           have h5 := hcg (t / ie.size) (t % ie.size) v hv1 hj0
           have h6 : t / ie.size * ie.size + t % ie.size = t := by rw [Nat.mul_comm]; exact Nat.div_add_mod _ _
           rw [h6] at h5
           have h7 := (hrr (t % ie.size) _ (List.getElem?_eq_getElem (by omega))).2
           rw [Array.getD_eq_getD_getElem?, ← h5] at h7
           simpa [Array.getElem?_eq_getElem (show t < cells.size by omega)] using h7
         · obtain ⟨d, v, _, hv1, hrl, hrr⟩ := hrows i r hi'
           have hjl : j < ie.size := by rw [← hrl]; exact (List.getElem?_eq_some_iff.1 hj).1
           have h5 := hcg i j v hv1 hjl
           rw [Array.getD_eq_getD_getElem?, h5, ← Array.getD_eq_getD_getElem?]
           exact (hrr j y hj).1.step (fun b hb _ => Below.heap_alloc w _ b hb) hA)
       refine EGives.run hd (Trk.dst hd hdst _ _) ?_ hinv (.row (a := some ⟨w.heap.size, 0, none⟩) (n := len) (c := len) (by simp)) hK
       simp only [execOp, ho, Sem.run_bind, hrun, Result.andThen_ok, Sem.run_pure]
     · exact hp.elim
   · exact hp.elim
 · exact hp.elim
theorem makeSlice_sound (h : Inv E.gpv w0 A0 σ a w loc) (hd : ∀ t, o.dst = some t → t < a.tmps.size) {T : Nat} {x y : Operand} (ho : o.op = .makeSlice T x y) {K : SV → St → Prop} (hp : epop E o.dst (.makeSlice T x y) σ K) : EGives E w0 A0 w loc o a K Q := by
 simp only [epop] at hp
 split at hp
 · rename_i dd i hdst hi
   split at hp
   · rename_i e hk
     have hu := (E.ok T i hi).kind
     rw [hk] at hu
     split at hp
     · rename_i ie hie
       have tk := E.ok e ie hie
       split at hp
       · rename_i n m ex ey
         obtain ⟨h0, hnm, hby, hmm, hK⟩ := hp
         obtain ⟨n, rfl⟩ := Int.eq_ofNat_of_zero_le h0
         obtain ⟨m, rfl⟩ := Int.eq_ofNat_of_zero_le (show 0 ≤ m by omega)
         have hnm' : n ≤ m := by omega
         have hmm' : m ≤ maxN := by omega
         unfold maxN at hby hmm'
         simp only [Int.toNat_natCast] at hK hby
         obtain ⟨z, hz, hzc⟩ := tk.run_zero w
         obtain ⟨I, hI, hIs, hIb⟩ := tk.info
         have hzsz : z.cells.size = ie.size := by rw [← tk.zsz, ← hzc]; simp
         have hwn : IntKind.i64.wrap (n : Int) = n := wrap_i64 _ (by omega) (by omega)
         have hwm : IntKind.i64.wrap (m : Int) = m := wrap_i64 _ (by omega) (by omega)
         have hby' : ¬ ((ie.bytes : Int) * (m : Int) > 2 ^ 48) := by
           have h8 : ie.bytes * m ≤ 140737488355328 := by rw [Nat.mul_comm]; exact hby
           have h9 : (ie.bytes : Int) * (m : Int) = ((ie.bytes * m : Nat) : Int) := (Int.natCast_mul _ _).symm
           rw [h9]; omega
         have hrun : (Instr.makeSlice T (.int .i64 (n : Int)) (.int .i64 (m : Int))).run E.P w = .ok (.slice (some ⟨w.heap.size, 0, none⟩) n m) (w.alloc (.cells (madeCells z.cells (m * ie.size)) e)) := by
           simp only [Instr.makeSlice, Sem.run_bind, run_underlying hu, Result.andThen_ok, asInt, asIntOf, Sem.run_pure, typeInfo, run_program, hI, hwn, hwm, hIb]
           have hc : ((decide ((m : Int) < 0) || decide ((ie.bytes : Int) * (m : Int) > 2 ^ 48)) || decide ((n : Int) < 0) || decide ((n : Int) > (m : Int))) = false := by
             simp only [Bool.or_eq_false_iff, decide_eq_false_iff_not]
             exact ⟨⟨⟨by omega, hby'⟩, by omega⟩, by omega⟩
           have hc' : ¬ (((decide ((m : Int) < 0) || decide ((ie.bytes : Int) * (m : Int) > 2 ^ 48)) = true ∨ (n : Int) < 0) ∨ (n : Int) > (m : Int)) := by
             rintro ((hq | hq) | hq)
             · simp only [Bool.or_eq_true, decide_eq_true_eq] at hq
               rcases hq with hq | hq
               · omega
               · exact hby' hq
             · omega
             · omega
           simp only [Sem.run_ite, hc, hc', if_false, Bool.false_eq_true, Sem.run_bind, run_askRoom, Result.andThen_ok, tk.run_sizeOf, Int.toNat_natCast, Sem.run_pure]
           by_cases hm0 : m * ie.size = 0
           · have e0 : ∀ f : Nat → Value, (Array.range (m * ie.size)).map f = #[] := by intro f; rw [hm0]; exact range0 f
             simp only [hm0, if_true, Sem.run_pure, Result.andThen_ok, newRow, Sem.run_bind, run_newObj, madeCells]
             rw [← hm0, e0, e0]
             rfl
           · simp only [hm0, if_false, Sem.run_bind, hz, Sem.run_pure, Result.andThen_ok, newRow, run_newObj, madeCells]
             rfl
         have hget : ∀ i j, i < m → j < ie.size → (madeCells z.cells (m * ie.size))[i * ie.size + j]? = some (z.cells.getD j undef) := by
           intro i j hi' hj
           have hlt := idx_lt hi' hj
           simp [madeCells, hlt, hzsz, (mod_idx (i := i) hj).1, Array.getD, hj]
         have hzone : ∀ j, j < ie.size → (z.cells.getD j undef).oneCell' = true := by
           intro j hj
           have : z.cells[j]'(by omega) ∈ ie.zero := by rw [← hzc]; simp
           simpa [Array.getD, show j < z.cells.size by omega] using List.all_eq_true.1 tk.zone _ this
         have hinv := h.new dd (madeCells z.cells (m * ie.size)) e (.slice (some ⟨w.heap.size, 0, none⟩) n m) (.rw e ie.size (SR (List.replicate n (ie.zero.map .val)))) (fun b hb => by simpa [blk] using hb.symm) (fun A' loc' hA hl1 hl2 => by
           refine ObAt.newRow (Nat.zero_le _) tk.pos (by simp) hnm' (by unfold maxLen; omega) (by unfold maxN; omega) (by simp [madeCells]) (fun r hr => by rw [(List.mem_replicate.1 hr).2]; simp [tk.zsz]) (fun x hx => ?_) (fun i j r y hi' hj => ?_)
           · obtain ⟨t, ht, rfl⟩ := List.getElem_of_mem hx
             have ht' : t < m * ie.size := by simpa [madeCells] using ht
             have hi0 : t / ie.size < m := Nat.div_lt_of_lt_mul (by rwa [Nat.mul_comm] at ht')
             have hj0 : t % ie.size < ie.size := Nat.mod_lt _ tk.pos
             have h5 := hget _ _ hi0 hj0
             have h6 : t / ie.size * ie.size + t % ie.size = t := by rw [Nat.mul_comm]; exact Nat.div_add_mod _ _
             rw [h6] at h5
             have h7 := hzone _ hj0
             have h8 : (madeCells z.cells (m * ie.size))[t]'(by simpa using ht) = z.cells.getD (t % ie.size) undef := (Array.getElem?_eq_some_iff.1 h5).2
             simp only [Array.getElem_toList, h8]; exact h7
           · rw [List.getElem?_replicate] at hi'
             split at hi'
             · rename_i hin
               injection hi' with hi'
               subst hi'
               simp only [List.getElem?_map, Option.map_eq_some_iff] at hj
               obtain ⟨u, hu', rfl⟩ := hj
               have hjl : j < ie.size := by rw [← tk.zsz]; exact (List.getElem?_eq_some_iff.1 hu').1
               rw [Array.getD_eq_getD_getElem?, hget i j (by omega) hjl]
               rw [← hzc, Array.getElem?_toList] at hu'
               rw [getD_of_getElem? hu']
               exact .val u
             · cases hi')
         refine EGives.run hd (Trk.dst hd hdst _ _) ?_ hinv (.row (a := some ⟨w.heap.size, 0, none⟩) (n := n) (c := m) (by simp)) hK
         simp only [execOp, ho, bound_of h ex, bound_of h ey, Sem.run_bind, hrun, Result.andThen_ok, Sem.run_pure]
       · exact hp.elim
     · exact hp.elim
   · exact hp.elim
 · exact hp.elim
end
end Go.Pw
