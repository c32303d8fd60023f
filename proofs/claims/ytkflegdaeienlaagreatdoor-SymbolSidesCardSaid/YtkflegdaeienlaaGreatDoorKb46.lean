/- Merged from the working texts PyB PyC PyF. -/
import Derived.Test.YtkflegdaeienlaaGreatDoorKb38
import Derived.Test.YtkflegdaeienlaaGreatDoorKb45
import Derived.Test.YtkflegdaeienlaaGreatDoorRows
import Derived.ChangeSame
import Derived.ChangeVars
import Derived.JoinedOf
import Derived.RowKit
import Derived.RowKitTokens
import Derived.LaidLaws
import Derived.LaidHandle
import Derived.Lay
import Derived.OpenShut
import Derived.Carry
import Derived.ChangeCalls
import Derived.Test.YtkflegdaeienlaaGreatDoorTie
import Derived.Test.YtkflegdaeienlaaGreatDoorCards
import Derived.SevenTiedAt
set_option linter.all false
set_option maxHeartbeats 400000
set_option maxRecDepth 100000
set_option linter.unusedVariables false
namespace Go.Proofs.YtkflegdaeienlaaGreatDoor
open Go.ChangeShapes Go.WideShapes Go.RowKit Go.Pw
theorem own : ownKnob Tryz.prog.godebug = none := by kernel_rfl
theorem laidOut : laidOutB Tryz.prog = true := by kernel_rfl
theorem hasG : Tryz.prog.globalNamed "fluxion/trace.has" = some 0 := by kernel_rfl
abbrev laidL : List (String × DataW Unit) := [("fluxion/trace.has", Rows.laid_fluxion_trace_has)]
theorem trodAll_below {H : Type} {enc : TypeId × Value → H} {W W' : World} (hb : Below W.heap.size W W') : ∀ {ts : List TypeId} {vs : List Value} {ds : List (DataW H)} {ps : List MemPlace}, (∀ t ∈ ts, Tryz.prog.readableRec t = true ∧ t < Tryz.prog.types.size) →
   DataW.TrodAll enc Tryz.prog W 0 (fun _ => true) true ts vs ds ps → (∀ x ∈ ps, x.block < W.heap.size) → DataW.TrodAll enc Tryz.prog W' 0 (fun b => decide (b < W.heap.size)) true ts vs ds ps
 | [], [], [], ps, _, h, _ => h
 | t :: ts, v :: vs, d :: ds, ps, ht, h, hl => by
   obtain ⟨p, q, h1, h2, rfl⟩ := h
   have ht0 := ht t (by simp)
   exact ⟨p, q, Below.trod laidOut ht0.1 ht0.2 h1 hb (fun x hx => hl x (by simp [hx])), trodAll_below hb (fun t' ht' => ht t' (by simp [ht'])) h2 (fun x hx => hl x (by simp [hx])), rfl⟩
 | [], _ :: _, _, _, _, h, _ => h.elim
 | [], [], _ :: _, _, _, h, _ => h.elim
 | _ :: _, [], _, _, _, h, _ => h.elim
 | _ :: _, _ :: _, [], _, _, h, _ => h.elim
theorem keptBut_below {W W' : World} (hb : Below W.heap.size W W') (may : MemPlace → Prop) : W.keptBut W' may := by
 refine ⟨hb.os, hb.output, fun i hi => ?_⟩
 rw [hb.block i hi]
 cases h : W.heap[i]? with
 | none => rfl
 | some o =>
   cases o with
   | cells c t fr => exact ⟨rfl, rfl, rfl, fun _ _ => rfl⟩
   | map es cl => exact .inr ⟨rfl, rfl⟩
   | _ => rfl
def tab : List (List Bool) := [[false, false, false], [false, false, false], [false, false, true], [true, true, false], [true, true, false], [true, true, false], [true, true, false], [true, false, false]]
theorem tab_flat : ∀ j, j < 24 → ∀ r b, tab[j / 3]? = some r → r[j % 3]? = some b → b = [false, false, false, false, false, false, false, false, true, true, true, false, true, true, false, true, true, false, true, true, false, true, false, false].getD j false := by
 intro j hj r b h1 h2
 have key : ∀ j, j < 24 → ((tab[j / 3]?).bind fun r => r[j % 3]?) = some ([false, false, false, false, false, false, false, false, true, true, true, false, true, true, false, true, true, false, true, true, false, true, false, false].getD j false) := by decide
 have := key j hj
 rw [h1] at this
 simp only [Option.bind_some] at this
 rw [h2] at this
 exact Option.some.inj this
theorem one_cell {cs : List Value} {b : Bool} {n : Nat} (h : (cs.drop n).take 1 = [.bool b]) : cs[n]? = some (.bool b) := by
 have : ((cs.drop n).take 1)[0]? = some (.bool b) := by rw [h]; rfl
 rw [List.getElem?_take, if_pos (by omega), List.getElem?_drop] at this
 simpa using this
theorem tab_cells {H : Type} {enc : TypeId × Value → H} {W : World} {base : Nat} {sp : Nat → Bool} {held : Bool} {fuel : Nat} {cs : List Value} {q : List MemPlace} (h : DataW.trod enc Tryz.prog W base sp held fuel 194 cs = some (.agg (tab.map fun r => .agg (r.map fun b => .lit (.bool b))), q)) (j : Nat) (hj : j < 24) :
   cs[j]? = some (.bool ([false, false, false, false, false, false, false, false, true, true, true, false, true, true, false, true, true, false, true, true, false, true, false, false].getD j false)) := by
 obtain ⟨xs, m, _, hx, hl, hxl, hf⟩ := DataW.trod_array Tryz.underlying194 h
 have hc193 : Tryz.prog.cellsOf 193 = 3 := by kernel_rfl
 have hc4 : Tryz.prog.cellsOf 4 = 1 := by kernel_rfl
 rw [hc193] at hf
 have hx1 : xs.map (·.1) = tab.map fun r => DataW.agg (r.map fun b => .lit (.bool b)) := by
   have := congrArg Prod.fst hx
   injection this with this
   exact this.symm
 have hi8 : j / 3 < 8 := by omega
 have hk3 : j % 3 < 3 := by omega
 obtain ⟨r, hr⟩ : ∃ r, tab[j / 3]? = some r := ⟨_, List.getElem?_eq_getElem (show j / 3 < tab.length from hi8)⟩
 obtain ⟨x, hxi⟩ : ∃ x, xs[j / 3]? = some x := ⟨_, List.getElem?_eq_getElem (by omega)⟩
 have e1 : x.1 = DataW.agg (r.map fun b => .lit (.bool b)) := by
   have := congrArg (fun l => l[j / 3]?) hx1
   simp only [List.getElem?_map, hr, hxi, Option.map_some] at this
   exact Option.some.inj this
 have h2 := hf (j / 3) hi8
 rw [hxi] at h2
 obtain ⟨ys, m2, _, hy, hl2, hyl, hg⟩ := DataW.trod_array Tryz.underlying193 h2
 rw [hc4] at hg
 have hy1 : ys.map (·.1) = r.map fun b => DataW.lit (.bool b) := by
   have h5 : x.1 = .agg (ys.map (·.1)) := by rw [hy]
   rw [e1] at h5
   injection h5 with h5
   exact h5.symm
 have hrl : r.length = 3 := by
   have := congrArg List.length hy1
   simp at this
   omega
 obtain ⟨b, hb⟩ : ∃ b, r[j % 3]? = some b := ⟨_, List.getElem?_eq_getElem (by omega)⟩
 obtain ⟨y, hyk⟩ : ∃ y, ys[j % 3]? = some y := ⟨_, List.getElem?_eq_getElem (by omega)⟩
 have e2 : y.1 = DataW.lit (.bool b) := by
   have := congrArg (fun l => l[j % 3]?) hy1
   simp only [List.getElem?_map, hb, hyk, Option.map_some] at this
   exact Option.some.inj this
 have h3 := hg (j % 3) hk3
 rw [hyk] at h3
 obtain ⟨b', h6, h7⟩ := DataW.trod_bool Tryz.underlying4 h3
 have e3 : b' = b := by
   rw [h7] at e2
   injection e2 with e2
   injection e2
 subst e3
 have h8 := one_cell h6
 rw [List.getElem?_take, if_pos (by omega), List.getElem?_drop, show j / 3 * 3 + j % 3 * 1 = j by omega] at h8
 rw [h8, tab_flat j hj r b' hr hb]
theorem has_of_laid {W : World} (h : laidMetH Tryz.prog laidL W) (g : Nat) : R W (fun _ => False) (.pointer (some ⟨g, 0, none⟩)) (E.gpv g) := by
 have h' : laidMet Tryz.prog laidL W := h
 obtain ⟨ps, ⟨g0, t, cs, fuel, p, q, h1, h2, h3, h4, _⟩, _⟩ := h'
 obtain rfl : 0 = g0 := Option.some.inj (hasG.symm.trans h1)
 have ht : t = 194 := by
   have : (Tryz.prog.globals[0]?).map (·.type) = some 194 := by kernel_rfl
   exact (Option.some.inj (this.symm.trans h2)).symm
 subst ht
 refine has_R (fun h => h) (fun j hj => ?_) g
 rw [Nat.zero_add, World.var?_cell h1 h3 j]
 have := tab_cells h4 j hj
 rwa [Array.getElem?_toList] at this
end Go.Proofs.YtkflegdaeienlaaGreatDoor
set_option maxRecDepth 100000
set_option linter.unusedVariables false
namespace Go.Proofs.YtkflegdaeienlaaGreatDoor
open Go.ChangeShapes Go.WideShapes Go.RowKit Go.Pw
theorem single {t e : TypeId} {w : World} {base : Nat} {v u : Value} (ht : Tryz.prog.underlying t = some (.slice e)) (h : Value.okWide Tryz.prog w .any base t v) (hc : v.cells.toList = [u]) : v = u := by
 cases v with
 | agg cs =>
   unfold Value.okWide at h
   rw [ht] at h
   simp only [Cell.okWide, ht, Cell.ok] at h
 | _ => simp [Value.cells] at hc; exact hc
theorem single_int {t : TypeId} {k : IntKind} {w : World} {base : Nat} {v u : Value} (ht : Tryz.prog.underlying t = some (.int k)) (h : Value.okWide Tryz.prog w .any base t v) (hc : v.cells.toList = [u]) : v = u := by
 cases v with
 | agg cs =>
   unfold Value.okWide at h
   rw [ht] at h
   simp only [Cell.okWide, ht, Cell.ok] at h
 | _ => simp [Value.cells] at hc; exact hc
theorem law_lifted {f : FuncId} {fn : Func} {s : ChangeSpec} {ts : List TypeId} {os : Os} (started : os.Started) {H : Type} {enc : TypeId × Value → H}
   (noInit : Tryz.prog.inits.idxOf? f = none) (hf : Tryz.prog.funcs[f]? = some fn) (hts : fn.params.toList = ts) (hres : fn.resultTypes = #[4]) (hv : s.vars = []) (hread : ∀ t ∈ ts, Tryz.prog.readableRec t = true ∧ t < Tryz.prog.types.size)
   (hsp : ∀ ds : List (DataW H), ds.length = ts.length → s.fn H ds = { results := [.lit (.bool true)], args := ds })
   (witness : ∃ (w : World) (tape : Tape) (i : Input), w.os = os ∧ (w.forCall tape i).Shaped Tryz.checked.prog ∧ i.vars = [] ∧ Input.okWide Tryz.checked.prog (w.forCall tape i) .any w.heap.size f i ∧
     ((s.pre enc Tryz.checked.prog fn [] false (w.forCall tape i).memory i.args ∧ laidMetH Tryz.prog laidL (w.forCall tape i).memory) ∧ sizedMet enc Tryz.checked.prog fn (OpenSpec.ofChange s) false (w.forCall tape i).memory i.args) ∧ ({} : Assume).holds Tryz.checked.prog (lone (Frame.enter Tryz.checked.prog f i.args .normal) [] (w.forCall tape i)))
   (contract : ∀ (W : World) (args : Array Value) (ds : List (DataW H)) (p : List MemPlace), DataW.TrodAll enc Tryz.prog W 0 (fun _ => true) true ts args.toList ds p → (∀ y ∈ DataW.weightsEach Tryz.prog ts ds, y ≤ reachBytes) →
     (∀ g, R W (fun _ => False) (.pointer (some ⟨g, 0, none⟩)) (E.gpv g)) → (∀ (j : Nat) t v, ts[j]? = some t → args[j]? = some v → ∃ base, Value.okWide Tryz.prog W .any base t v) → Calls Tryz.prog f args W fun e W' => e = .returned (.bool true) ∧ Below W.heap.size W W') :
   ReturnsInHanded {} Tryz.checked os f .any (fun w args => (s.pre enc Tryz.prog fn [] false w args ∧ laidMetH Tryz.prog laidL w) ∧ sizedMet enc Tryz.prog fn (OpenSpec.ofChange s) false w args)
     (s.post enc Tryz.prog fn false true false false) := by
 refine returnsInHanded_of_change_and (C := Tryz.checked) (X := fun w _ => laidMetH Tryz.prog laidL w) (fun _ _ _ hh h => h.of_heap hh) own started noInit hf witness ?_
 intro W base args ds gs before hval hW hconds hwt hL _
 have hW' := hW
 obtain ⟨p, q, hA0, hV0, rfl, hfz, hnd⟩ := hW
 have hA : DataW.TrodAll enc Tryz.prog W 0 (fun _ => true) true fn.params.toList args.toList ds p := hA0
 have hV : DataW.TrodVars enc Tryz.prog W (fun _ => true) s.vars gs q := hV0
 rw [hv] at hV
 obtain ⟨rfl, rfl⟩ : gs = [] ∧ q = [] := by
   cases gs with
   | nil => exact ⟨rfl, hV⟩
   | cons g r => exact absurd hV (by intro h; cases h)
 have hlt : ∀ x ∈ p, x.block < W.heap.size := fun x hx => hA.lt x hx
 have hwt' : ∀ y ∈ DataW.weightsEach Tryz.prog ts ds, y ≤ reachBytes := by
   have hw2 : (DataW.weightsEach Tryz.prog (fn.params.toList ++ s.plain.varTypes Tryz.prog) (ds ++ [])).all (· ≤ reachBytes) = true := hwt
   have hvt : s.plain.varTypes Tryz.prog = [] := by
     show s.plain.vars.filterMap _ = []
     have : s.plain.vars = [] := hv
     rw [this]; rfl
   rw [hvt, List.append_nil, List.append_nil, hts] at hw2
   exact fun y hy => by simpa using List.all_eq_true.1 hw2 y hy
 rw [hts] at hA
 have hlen : ds.length = ts.length := (trodAll_length hA).2
 refine (contract W args ds p hA hwt' (has_of_laid hL) (fun j t v h1 h2 => ⟨base, hval j t v (by rw [← hts] at h1; simpa using h1) h2⟩)).mono ?_
 rintro e W' ⟨rfl, hb⟩
 have e1 : s.fn H (ds ++ []) = { results := [.lit (.bool true)], args := ds } := by rw [List.append_nil]; exact hsp ds hlen
 refine ⟨_, rfl, _, _, _, [], p, [], hW', ?_, ?_, ?_, keptBut_below hb _, fun h => by cases h⟩
 · rw [e1, hres]
   exact trodAll_mk1 (shut_bool Tryz.underlying4 true)
 · rw [e1]
   show DataW.TrodAll enc Tryz.prog W' 0 _ true fn.params.toList args.toList ds p
   rw [hts]
   exact trodAll_below hb hread hA hlt
 · rw [e1, hv]; rfl
end Go.Proofs.YtkflegdaeienlaaGreatDoor
set_option maxRecDepth 100000
set_option linter.unusedVariables false
namespace Go.Proofs.YtkflegdaeienlaaGreatDoor
open Go Go.ChangeShapes Go.WideShapes Go.RowKit Go.Pw
theorem mem_each {H : Type} {P : Program} {t : TypeId} {ts : List TypeId} {d : DataW H} {ds : List (DataW H)} (h : ∀ y ∈ DataW.weightsEach P (t :: ts) (d :: ds), y ≤ reachBytes) : (∀ y ∈ d.weights P t, y ≤ reachBytes) ∧ ∀ y ∈ DataW.weightsEach P ts ds, y ≤ reachBytes := by
 simp only [DataW.weightsEach, List.mem_append] at h
 exact ⟨fun y hy => h y (.inl hy), fun y hy => h y (.inr hy)⟩
theorem con_calls {f : FuncId} {args : List PV} {W : World} {vs : Array Value} (h : Con E f args (.val (.bool true))) (hn : vs.size = args.length) (hR : ∀ j x, args[j]? = some x → R W (fun _ => False) (vs.getD j undef) x) (hG : ∀ g, R W (fun _ => False) (.pointer (some ⟨g, 0, none⟩)) (E.gpv g)) :
   Calls Tryz.prog f vs W fun e W' => e = .returned (.bool true) ∧ Below W.heap.size W W' := by
 refine Calls.mono (h.2 W (fun _ => False) vs hn hR (fun b hb => hb.elim) hG) ?_
 rintro e W' ⟨v, rfl, hv, hb⟩
 rw [(RS.sh (loc := fun _ => undef) hv).val_eq]
 exact ⟨rfl, hb⟩
theorem trodAll_4 {H : Type} {enc : TypeId × Value → H} {P : Program} {w : World} {base : Nat} {spare : Nat → Bool} {held : Bool} {t t' t'' t3 : TypeId} {args : Array Value} {ds : List (DataW H)} {ps : List MemPlace} (h : DataW.TrodAll enc P w base spare held [t, t', t'', t3] args.toList ds ps) :
   ∃ v v' v'' v3 d d' d'' d3 p p' p'' p3, args = #[v, v', v'', v3] ∧ ds = [d, d', d'', d3] ∧ DataW.Trod enc P w base spare held t v d p ∧ DataW.Trod enc P w base spare held t' v' d' p' ∧ DataW.Trod enc P w base spare held t'' v'' d'' p'' ∧ DataW.Trod enc P w base spare held t3 v3 d3 p3 := by
 obtain ⟨v, vs, d, ds', p, q, hargs, rfl, rfl, hd, hrest⟩ := trodAll_cons h
 obtain ⟨v', vs', d', ds'', p', q', rfl, rfl, rfl, hd', hrest'⟩ := trodAll_cons hrest
 obtain ⟨v'', vs'', d'', ds''', p'', q'', rfl, rfl, rfl, hd'', hrest''⟩ := trodAll_cons hrest'
 obtain ⟨v3, vs3, d3, ds3, p3, q3, rfl, rfl, rfl, hd3, hrest3⟩ := trodAll_cons hrest''
 obtain ⟨rfl, rfl, rfl⟩ := trodAll_nil hrest3
 exact ⟨v, v', v'', v3, d, d', d'', d3, p, p', p'', p3, by cases args; simp_all, rfl, hd, hd', hd'', hd3⟩
theorem sides_contract {H : Type} {enc : TypeId × Value → H} (W : World) (args : Array Value) (ds : List (DataW H)) (p : List MemPlace) (hA : DataW.TrodAll enc Tryz.prog W 0 (fun _ => true) true [33, 3, 26, 26] args.toList ds p)
   (hw : ∀ y ∈ DataW.weightsEach Tryz.prog [33, 3, 26, 26] ds, y ≤ reachBytes) (hG : ∀ g, R W (fun _ => False) (.pointer (some ⟨g, 0, none⟩)) (E.gpv g)) (hval : ∀ (j : Nat) t v, [33, 3, 26, 26][j]? = some t → args[j]? = some v → ∃ base, Value.okWide Tryz.prog W .any base t v) :
   Calls Tryz.prog 9 args W fun e W' => e = .returned (.bool true) ∧ Below W.heap.size W W' := by
 obtain ⟨v0, v1, v2, v3, d0, d1, d2, d3, p0, p1, p2, p3, rfl, rfl, ⟨n0, h0⟩, ⟨n1, h1⟩, ⟨n2, h2⟩, ⟨n3, h3⟩⟩ := trodAll_4 hA
 obtain ⟨w0, hw⟩ := mem_each hw
 obtain ⟨w1, hw⟩ := mem_each hw
 obtain ⟨w2, hw⟩ := mem_each hw
 obtain ⟨w3, hw⟩ := mem_each hw
 obtain ⟨u0, J, e0, mJ, rJ⟩ := rd_matrix h0 w0
 obtain ⟨c, e1, _, hc⟩ := DataW.trod_int Tryz.underlying3 h1
 obtain ⟨u2, D, e2, mD, rD, _⟩ := rd_rats h2 w2
 obtain ⟨u3, V, e3, mV, rV, _⟩ := rd_rats h3 w3
 obtain ⟨b0, k0⟩ := hval 0 33 v0 rfl rfl
 obtain ⟨b1, k1⟩ := hval 1 3 v1 rfl rfl
 obtain ⟨b2, k2⟩ := hval 2 26 v2 rfl rfl
 obtain ⟨b3, k3⟩ := hval 3 26 v3 rfl rfl
 obtain rfl := single Tryz.underlying33 k0 e0
 obtain rfl := single_int Tryz.underlying3 k1 e1
 obtain rfl := single Tryz.underlying26 k2 e2
 obtain rfl := single Tryz.underlying26 k3 e3
 have hb : -9223372036854775808 ≤ c ∧ c ≤ 9223372036854775807 := by
   simp only [Lit.wf, Bool.and_eq_true, decide_eq_true_eq] at hc
   have g1 : IntKind.i64.min = -9223372036854775808 := by decide
   have g2 : IntKind.i64.max = 9223372036854775807 := by decide
   rw [g1, g2] at hc
   exact hc
 refine con_calls (law_sides con_alive J c D V hb.1 hb.2 mJ mD.ok mV.ok) rfl (fun j x hj => ?_) hG
 match j, hj with
 | 0, hj => simp only [List.getElem?_cons_zero, Option.some.injEq] at hj; subst hj; exact rJ
 | 1, hj => simp only [List.getElem?_cons_succ, List.getElem?_cons_zero, Option.some.injEq] at hj; subst hj; exact .val _
 | 2, hj => simp only [List.getElem?_cons_succ, List.getElem?_cons_zero, Option.some.injEq] at hj; subst hj; exact rD
 | 3, hj => simp only [List.getElem?_cons_succ, List.getElem?_cons_zero, Option.some.injEq] at hj; subst hj; exact rV
 | j + 4, hj => simp at hj
theorem laidH_of {w : World} (h : laidMet Tryz.prog laidL w) : laidMetH Tryz.prog laidL w := h
noncomputable abbrev wit (os : Os) (args : Array Value) : World := (World.laidAll Tryz.prog os laidL).forCall (fun _ _ => 0) ⟨#[], args, []⟩
theorem wit_fits (os : Os) : (World.holding Tryz.prog os ⟨#[], #[], []⟩).layFits Tryz.prog laidL [] = true := by kernel_rfl
theorem wit_ifaces (os : Os) : (World.holding Tryz.prog os ⟨#[], #[], []⟩).layIfaces Tryz.prog laidL (World.laidAll Tryz.prog os laidL) = true := by kernel_rfl
theorem wit_laid (os : Os) (args : Array Value) : laidMetH Tryz.prog laidL (wit os args).memory := laidH_of (laidMet_laidAll (P := Tryz.prog) (os := os) (laid := laidL) args (wit_fits os) (wit_ifaces os))
abbrev arg9 : Array Value := #[.slice none 0 0, .int .i64 0, .slice none 0 0, .slice none 0 0]
theorem p1 (os : Os) : (wit os arg9).variablesB Tryz.checked.prog = true := by kernel_rfl
theorem p2 (os : Os) : ((wit os arg9).heap.toList.drop Tryz.checked.prog.globals.size).take ((begin Tryz.checked.prog (fun _ _ => 0) default).world.heap.size - Tryz.checked.prog.globals.size) = (begin Tryz.checked.prog (fun _ _ => 0) default).world.heap.toList.drop Tryz.checked.prog.globals.size := by kernel_rfl
theorem p3 (os : Os) : Input.okWideB Tryz.checked.prog (wit os arg9) 9 ⟨#[], arg9, []⟩ = true := by kernel_rfl
theorem p4 {H : Type} (enc : TypeId × Value → H) (os : Os) : Rows.symbolSidesSpec.preB enc Tryz.checked.prog Tryz.f9 [] false (wit os arg9).memory arg9 8 = true := by kernel_rfl
theorem p5 {H : Type} (enc : TypeId × Value → H) (os : Os) : Rows.symbolSidesSpec.sizedB enc Tryz.checked.prog Tryz.f9 false (wit os arg9).memory arg9 8 = true := by kernel_rfl
theorem sides_wit {H : Type} (enc : TypeId × Value → H) (os : Os) : ∃ (w : World) (tape : Tape) (i : Input), w.os = os ∧ (w.forCall tape i).Shaped Tryz.checked.prog ∧ i.vars = [] ∧ Input.okWide Tryz.checked.prog (w.forCall tape i) .any w.heap.size 9 i ∧
     ((Rows.symbolSidesSpec.pre enc Tryz.checked.prog Tryz.f9 [] false (w.forCall tape i).memory i.args ∧ laidMetH Tryz.prog laidL (w.forCall tape i).memory) ∧ sizedMet enc Tryz.checked.prog Tryz.f9 (OpenSpec.ofChange Rows.symbolSidesSpec) false (w.forCall tape i).memory i.args) ∧ ({} : Assume).holds Tryz.checked.prog (lone (Frame.enter Tryz.checked.prog 9 i.args .normal) [] (w.forCall tape i)) :=
 ChangeSpec.witness_at (enc := enc) (C := Tryz.checked) (os := os) (X := fun w _ => laidMetH Tryz.prog laidL w) false (World.laidAll Tryz.prog os laidL) arg9 8 (World.laidAll_os _ _ _) (p1 os) (p2 os) (p3 os) (p4 enc os) (p5 enc os) (wit_laid os arg9)
theorem read9 : ∀ t ∈ [33, 3, 26, 26], Tryz.prog.readableRec t = true ∧ t < Tryz.prog.types.size := by
 intro t ht
 have : t = 33 ∨ t = 3 ∨ t = 26 := by simpa using ht
 rcases this with rfl | rfl | rfl
 · exact ⟨by kernel_rfl, of_decide_eq_true (by kernel_rfl)⟩
 · exact ⟨by kernel_rfl, of_decide_eq_true (by kernel_rfl)⟩
 · exact ⟨by kernel_rfl, of_decide_eq_true (by kernel_rfl)⟩
theorem sides_spec {H : Type} (ds : List (DataW H)) (hl : ds.length = 4) : Rows.symbolSidesSpec.fn H ds = { results := [.lit (.bool true)], args := ds } := by
 match ds, hl with
 | [d0, d1, d2, d3], _ => rfl
theorem sides_lifted (os : Os) (started : os.Started) (H : Type) (enc : TypeId × Value → H) :
   ReturnsInHanded {} Tryz.checked os 9 .any (fun w args => (Rows.symbolSidesSpec.pre enc Tryz.prog Tryz.f9 [] false w args ∧ laidMetH Tryz.prog laidL w) ∧ sizedMet enc Tryz.prog Tryz.f9 (OpenSpec.ofChange Rows.symbolSidesSpec) false w args)
     (Rows.symbolSidesSpec.post enc Tryz.prog Tryz.f9 false true false false) :=
 law_lifted (ts := [33, 3, 26, 26]) started (by kernel_rfl) Tryz.func9 (by kernel_rfl) (by kernel_rfl) rfl read9 (fun ds hl => sides_spec ds hl) (sides_wit enc os) (fun W args ds p hA hw hG hval => sides_contract W args ds p hA hw hG hval)
theorem sides_closed : joinedFacts Tryz.pinned.checked.prog 9 Tryz.f9 Rows.symbolSidesSpec Rows.symbolSidesRow = true := by kernel_rfl
theorem sides_holds : Rows.SymbolSidesSaid :=
 OpenClaim.holds_of_wide 9 Tryz.f9 rfl rfl rfl rfl rfl rfl rfl ⟨rfl, rfl, rfl, rfl, rfl⟩ rfl rfl rfl rfl rfl (by kernel_rfl) Tryz.func9 sides_closed
   (of_decide_eq_true (by kernel_rfl)) (by unfold Func.isWrapper; rw [if_neg (of_decide_eq_false (by kernel_rfl))]; exact ⟨rfl, rfl⟩)
   (fun os started H enc _ => sides_lifted os started H enc)
theorem sides_wants (f : FuncId) (fn : Func) (hf : Tryz.prog.funcNamed "fluxion/fluxionlaw14.SymbolSides" = some f) (hfn : Tryz.prog.funcs[f]? = some fn) : f = 9 ∧ fn = Tryz.f9 := by
  obtain rfl : f = 9 := Option.some.inj ((show Tryz.prog.funcNamed "fluxion/fluxionlaw14.SymbolSides" = some 9 by kernel_rfl).symm.trans hf) |>.symm
  exact ⟨rfl, (Option.some.inj (Tryz.func9.symm.trans hfn)).symm⟩
theorem sides_card : Rows.SymbolSidesCardSaid :=
  Claim7.holds_tied_plain_at .later [] [.data] true (true, "4472187ea9be754762b7ad03be2b2b7bb4b2a2352a41ea48afc9431f23885302") false
    sides_holds (fun _ h => by cases h) (by kernel_rfl) (fun _ h => by cases h) symbolSides_row_tie rfl ⟨rfl, rfl⟩ (by kernel_rfl) rfl
    (fun f fn hf hfn => by
      obtain ⟨rfl, rfl⟩ := sides_wants f fn hf hfn
      exact ⟨by kernel_rfl, fun j t ht => by
        have ht' : Tryz.f9.params[j]? = some t := ht
        rw [show Tryz.f9.params = #[33, 3, 26, 26] by kernel_rfl] at ht'
        have h3 : t = 33 ∨ t = 3 ∨ t = 26 := by
          have := Array.mem_of_getElem? ht'
          simpa using this
        rcases h3 with rfl | rfl | rfl
        · exact (show Tryz.prog.wantsStandIn 33 = false by kernel_rfl)
        · exact (show Tryz.prog.wantsStandIn 3 = false by kernel_rfl)
        · exact (show Tryz.prog.wantsStandIn 26 = false by kernel_rfl)⟩)
    (by kernel_rfl)
end Go.Proofs.YtkflegdaeienlaaGreatDoor
