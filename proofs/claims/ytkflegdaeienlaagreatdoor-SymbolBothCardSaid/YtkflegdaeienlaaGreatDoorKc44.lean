/- Merged from the working texts PyB PyC PpB PzA. -/
import Derived.Test.YtkflegdaeienlaaGreatDoorKc36
import Derived.Test.YtkflegdaeienlaaGreatDoorKc43
import Derived.Test.YtkflegdaeienlaaGreatDoorRows
import Derived.ChangeSame
import Derived.ChangeVars
import Derived.JoinedOf
import Derived.RowKit
import Derived.RowKitTokens
import Derived.LaidLaws
import Derived.LaidHandle
import Derived.Lay
import Derived.OpenShut
import Derived.Carry
import Derived.ChangeCalls
import Derived.Test.YtkflegdaeienlaaGreatDoorKc34
set_option linter.all false
set_option maxHeartbeats 400000
set_option maxRecDepth 100000
set_option linter.unusedVariables false
namespace Go.Proofs.YtkflegdaeienlaaGreatDoor
open Go.ChangeShapes Go.WideShapes Go.RowKit Go.Pw
theorem own : ownKnob Tryz.prog.godebug = none := by kernel_rfl
theorem laidOut : laidOutB Tryz.prog = true := by kernel_rfl
theorem hasG : Tryz.prog.globalNamed "fluxion/trace.has" = some 0 := by kernel_rfl
abbrev laidL : List (String × DataW Unit) := [("fluxion/trace.has", Rows.laid_fluxion_trace_has)]
theorem trodAll_below {H : Type} {enc : TypeId × Value → H} {W W' : World} (hb : Below W.heap.size W W') : ∀ {ts : List TypeId} {vs : List Value} {ds : List (DataW H)} {ps : List MemPlace}, (∀ t ∈ ts, Tryz.prog.readableRec t = true ∧ t < Tryz.prog.types.size) →
   DataW.TrodAll enc Tryz.prog W 0 (fun _ => true) true ts vs ds ps → (∀ x ∈ ps, x.block < W.heap.size) → DataW.TrodAll enc Tryz.prog W' 0 (fun b => decide (b < W.heap.size)) true ts vs ds ps
 | [], [], [], ps, _, h, _ => h
 | t :: ts, v :: vs, d :: ds, ps, ht, h, hl => by
   obtain ⟨p, q, h1, h2, rfl⟩ := h
   have ht0 := ht t (by simp)
   exact ⟨p, q, Below.trod laidOut ht0.1 ht0.2 h1 hb (fun x hx => hl x (by simp [hx])), trodAll_below hb (fun t' ht' => ht t' (by simp [ht'])) h2 (fun x hx => hl x (by simp [hx])), rfl⟩
 | [], _ :: _, _, _, _, h, _ => h.elim
 | [], [], _ :: _, _, _, h, _ => h.elim
 | _ :: _, [], _, _, _, h, _ => h.elim
 | _ :: _, _ :: _, [], _, _, h, _ => h.elim
theorem keptBut_below {W W' : World} (hb : Below W.heap.size W W') (may : MemPlace → Prop) : W.keptBut W' may := by
 refine ⟨hb.os, hb.output, fun i hi => ?_⟩
 rw [hb.block i hi]
 cases h : W.heap[i]? with
 | none => rfl
 | some o =>
   cases o with
   | cells c t fr => exact ⟨rfl, rfl, rfl, fun _ _ => rfl⟩
   | map es cl => exact .inr ⟨rfl, rfl⟩
   | _ => rfl
def tab : List (List Bool) := [[false, false, false], [false, false, false], [false, false, true], [true, true, false], [true, true, false], [true, true, false], [true, true, false], [true, false, false]]
theorem tab_flat : ∀ j, j < 24 → ∀ r b, tab[j / 3]? = some r → r[j % 3]? = some b → b = [false, false, false, false, false, false, false, false, true, true, true, false, true, true, false, true, true, false, true, true, false, true, false, false].getD j false := by
 intro j hj r b h1 h2
 have key : ∀ j, j < 24 → ((tab[j / 3]?).bind fun r => r[j % 3]?) = some ([false, false, false, false, false, false, false, false, true, true, true, false, true, true, false, true, true, false, true, true, false, true, false, false].getD j false) := by decide
 have := key j hj
 rw [h1] at this
 simp only [Option.bind_some] at this
 rw [h2] at this
 exact Option.some.inj this
theorem one_cell {cs : List Value} {b : Bool} {n : Nat} (h : (cs.drop n).take 1 = [.bool b]) : cs[n]? = some (.bool b) := by
 have : ((cs.drop n).take 1)[0]? = some (.bool b) := by rw [h]; rfl
 rw [List.getElem?_take, if_pos (by omega), List.getElem?_drop] at this
 simpa using this
theorem tab_cells {H : Type} {enc : TypeId × Value → H} {W : World} {base : Nat} {sp : Nat → Bool} {held : Bool} {fuel : Nat} {cs : List Value} {q : List MemPlace} (h : DataW.trod enc Tryz.prog W base sp held fuel 194 cs = some (.agg (tab.map fun r => .agg (r.map fun b => .lit (.bool b))), q)) (j : Nat) (hj : j < 24) :
   cs[j]? = some (.bool ([false, false, false, false, false, false, false, false, true, true, true, false, true, true, false, true, true, false, true, true, false, true, false, false].getD j false)) := by
 obtain ⟨xs, m, _, hx, hl, hxl, hf⟩ := DataW.trod_array Tryz.underlying194 h
 have hc193 : Tryz.prog.cellsOf 193 = 3 := by kernel_rfl
 have hc4 : Tryz.prog.cellsOf 4 = 1 := by kernel_rfl
 rw [hc193] at hf
 have hx1 : xs.map (·.1) = tab.map fun r => DataW.agg (r.map fun b => .lit (.bool b)) := by
   have := congrArg Prod.fst hx
   injection this with this
   exact this.symm
 have hi8 : j / 3 < 8 := by omega
 have hk3 : j % 3 < 3 := by omega
 obtain ⟨r, hr⟩ : ∃ r, tab[j / 3]? = some r := ⟨_, List.getElem?_eq_getElem (show j / 3 < tab.length from hi8)⟩
 obtain ⟨x, hxi⟩ : ∃ x, xs[j / 3]? = some x := ⟨_, List.getElem?_eq_getElem (by omega)⟩
 have e1 : x.1 = DataW.agg (r.map fun b => .lit (.bool b)) := by
   have := congrArg (fun l => l[j / 3]?) hx1
   simp only [List.getElem?_map, hr, hxi, Option.map_some] at this
   exact Option.some.inj this
 have h2 := hf (j / 3) hi8
 rw [hxi] at h2
 obtain ⟨ys, m2, _, hy, hl2, hyl, hg⟩ := DataW.trod_array Tryz.underlying193 h2
 rw [hc4] at hg
 have hy1 : ys.map (·.1) = r.map fun b => DataW.lit (.bool b) := by
   have h5 : x.1 = .agg (ys.map (·.1)) := by rw [hy]
   rw [e1] at h5
   injection h5 with h5
   exact h5.symm
 have hrl : r.length = 3 := by
   have := congrArg List.length hy1
   simp at this
   omega
 obtain ⟨b, hb⟩ : ∃ b, r[j % 3]? = some b := ⟨_, List.getElem?_eq_getElem (by omega)⟩
 obtain ⟨y, hyk⟩ : ∃ y, ys[j % 3]? = some y := ⟨_, List.getElem?_eq_getElem (by omega)⟩
 have e2 : y.1 = DataW.lit (.bool b) := by
   have := congrArg (fun l => l[j % 3]?) hy1
   simp only [List.getElem?_map, hb, hyk, Option.map_some] at this
   exact Option.some.inj this
 have h3 := hg (j % 3) hk3
 rw [hyk] at h3
 obtain ⟨b', h6, h7⟩ := DataW.trod_bool Tryz.underlying4 h3
 have e3 : b' = b := by
   rw [h7] at e2
   injection e2 with e2
   injection e2
 subst e3
 have h8 := one_cell h6
 rw [List.getElem?_take, if_pos (by omega), List.getElem?_drop, show j / 3 * 3 + j % 3 * 1 = j by omega] at h8
 rw [h8, tab_flat j hj r b' hr hb]
theorem has_of_laid {W : World} (h : laidMetH Tryz.prog laidL W) (g : Nat) : R W (fun _ => False) (.pointer (some ⟨g, 0, none⟩)) (E.gpv g) := by
 have h' : laidMet Tryz.prog laidL W := h
 obtain ⟨ps, ⟨g0, t, cs, fuel, p, q, h1, h2, h3, h4, _⟩, _⟩ := h'
 obtain rfl : 0 = g0 := Option.some.inj (hasG.symm.trans h1)
 have ht : t = 194 := by
   have : (Tryz.prog.globals[0]?).map (·.type) = some 194 := by kernel_rfl
   exact (Option.some.inj (this.symm.trans h2)).symm
 subst ht
 refine has_R (fun h => h) (fun j hj => ?_) g
 rw [Nat.zero_add, World.var?_cell h1 h3 j]
 have := tab_cells h4 j hj
 rwa [Array.getElem?_toList] at this
end Go.Proofs.YtkflegdaeienlaaGreatDoor
set_option maxRecDepth 100000
set_option linter.unusedVariables false
namespace Go.Proofs.YtkflegdaeienlaaGreatDoor
open Go.ChangeShapes Go.WideShapes Go.RowKit Go.Pw
theorem single {t e : TypeId} {w : World} {base : Nat} {v u : Value} (ht : Tryz.prog.underlying t = some (.slice e)) (h : Value.okWide Tryz.prog w .any base t v) (hc : v.cells.toList = [u]) : v = u := by
 cases v with
 | agg cs =>
   unfold Value.okWide at h
   rw [ht] at h
   simp only [Cell.okWide, ht, Cell.ok] at h
 | _ => simp [Value.cells] at hc; exact hc
theorem single_int {t : TypeId} {k : IntKind} {w : World} {base : Nat} {v u : Value} (ht : Tryz.prog.underlying t = some (.int k)) (h : Value.okWide Tryz.prog w .any base t v) (hc : v.cells.toList = [u]) : v = u := by
 cases v with
 | agg cs =>
   unfold Value.okWide at h
   rw [ht] at h
   simp only [Cell.okWide, ht, Cell.ok] at h
 | _ => simp [Value.cells] at hc; exact hc
theorem law_lifted {f : FuncId} {fn : Func} {s : ChangeSpec} {ts : List TypeId} {os : Os} (started : os.Started) {H : Type} {enc : TypeId × Value → H}
   (noInit : Tryz.prog.inits.idxOf? f = none) (hf : Tryz.prog.funcs[f]? = some fn) (hts : fn.params.toList = ts) (hres : fn.resultTypes = #[4]) (hv : s.vars = []) (hread : ∀ t ∈ ts, Tryz.prog.readableRec t = true ∧ t < Tryz.prog.types.size)
   (hsp : ∀ ds : List (DataW H), ds.length = ts.length → s.fn H ds = { results := [.lit (.bool true)], args := ds })
   (witness : ∃ (w : World) (tape : Tape) (i : Input), w.os = os ∧ (w.forCall tape i).Shaped Tryz.checked.prog ∧ i.vars = [] ∧ Input.okWide Tryz.checked.prog (w.forCall tape i) .any w.heap.size f i ∧
     ((s.pre enc Tryz.checked.prog fn [] false (w.forCall tape i).memory i.args ∧ laidMetH Tryz.prog laidL (w.forCall tape i).memory) ∧ sizedMet enc Tryz.checked.prog fn (OpenSpec.ofChange s) false (w.forCall tape i).memory i.args) ∧ ({} : Assume).holds Tryz.checked.prog (lone (Frame.enter Tryz.checked.prog f i.args .normal) [] (w.forCall tape i)))
   (contract : ∀ (W : World) (args : Array Value) (ds : List (DataW H)) (p : List MemPlace), DataW.TrodAll enc Tryz.prog W 0 (fun _ => true) true ts args.toList ds p → (∀ y ∈ DataW.weightsEach Tryz.prog ts ds, y ≤ reachBytes) →
     (∀ g, R W (fun _ => False) (.pointer (some ⟨g, 0, none⟩)) (E.gpv g)) → (∀ (j : Nat) t v, ts[j]? = some t → args[j]? = some v → ∃ base, Value.okWide Tryz.prog W .any base t v) → Calls Tryz.prog f args W fun e W' => e = .returned (.bool true) ∧ Below W.heap.size W W') :
   ReturnsInHanded {} Tryz.checked os f .any (fun w args => (s.pre enc Tryz.prog fn [] false w args ∧ laidMetH Tryz.prog laidL w) ∧ sizedMet enc Tryz.prog fn (OpenSpec.ofChange s) false w args)
     (s.post enc Tryz.prog fn false true false false) := by
 refine returnsInHanded_of_change_and (C := Tryz.checked) (X := fun w _ => laidMetH Tryz.prog laidL w) (fun _ _ _ hh h => h.of_heap hh) own started noInit hf witness ?_
 intro W base args ds gs before hval hW hconds hwt hL _
 have hW' := hW
 obtain ⟨p, q, hA0, hV0, rfl, hfz, hnd⟩ := hW
 have hA : DataW.TrodAll enc Tryz.prog W 0 (fun _ => true) true fn.params.toList args.toList ds p := hA0
 have hV : DataW.TrodVars enc Tryz.prog W (fun _ => true) s.vars gs q := hV0
 rw [hv] at hV
 obtain ⟨rfl, rfl⟩ : gs = [] ∧ q = [] := by
   cases gs with
   | nil => exact ⟨rfl, hV⟩
   | cons g r => exact absurd hV (by intro h; cases h)
 have hlt : ∀ x ∈ p, x.block < W.heap.size := fun x hx => hA.lt x hx
 have hwt' : ∀ y ∈ DataW.weightsEach Tryz.prog ts ds, y ≤ reachBytes := by
   have hw2 : (DataW.weightsEach Tryz.prog (fn.params.toList ++ s.plain.varTypes Tryz.prog) (ds ++ [])).all (· ≤ reachBytes) = true := hwt
   have hvt : s.plain.varTypes Tryz.prog = [] := by
     show s.plain.vars.filterMap _ = []
     have : s.plain.vars = [] := hv
     rw [this]; rfl
   rw [hvt, List.append_nil, List.append_nil, hts] at hw2
   exact fun y hy => by simpa using List.all_eq_true.1 hw2 y hy
 rw [hts] at hA
 have hlen : ds.length = ts.length := (trodAll_length hA).2
 refine (contract W args ds p hA hwt' (has_of_laid hL) (fun j t v h1 h2 => ⟨base, hval j t v (by rw [← hts] at h1; simpa using h1) h2⟩)).mono ?_
 rintro e W' ⟨rfl, hb⟩
 have e1 : s.fn H (ds ++ []) = { results := [.lit (.bool true)], args := ds } := by rw [List.append_nil]; exact hsp ds hlen
 refine ⟨_, rfl, _, _, _, [], p, [], hW', ?_, ?_, ?_, keptBut_below hb _, fun h => by cases h⟩
 · rw [e1, hres]
   exact trodAll_mk1 (shut_bool Tryz.underlying4 true)
 · rw [e1]
   show DataW.TrodAll enc Tryz.prog W' 0 _ true fn.params.toList args.toList ds p
   rw [hts]
   exact trodAll_below hb hread hA hlt
 · rw [e1, hv]; rfl
end Go.Proofs.YtkflegdaeienlaaGreatDoor
set_option linter.unusedVariables false
namespace Go.Pw
def sg (s : Bool) (n : Nat) : Int := if s then -(n : Int) else n
theorem sg_natAbs (s : Bool) (n : Nat) : (sg s n).natAbs = n := by cases s <;> simp [sg]
theorem sg_num (q : Rat) : sg (decide (q.num < 0)) q.num.natAbs = q.num := by
 by_cases h : q.num < 0
 · rw [decide_eq_true h]; simp only [sg, if_true]; omega
 · rw [decide_eq_false h]; simp only [sg, Bool.false_eq_true, if_false]; omega
def qof (s : Bool) (n d : Nat) : Rat := mkRat (sg s n) d
theorem qof_eq {s : Bool} {n d : Nat} (h : d ≠ 0) : (qof s n d).num = sg s n / (Nat.gcd n d : Nat) ∧ (qof s n d).den = d / Nat.gcd n d := by
 unfold qof
 rw [Rat.mkRat_def, dif_neg h, Rat.normalize_eq]
 constructor <;> simp only [sg_natAbs]
theorem qof_den {s : Bool} {n d : Nat} (h : d ≠ 0) : (qof s n d).den = d / Nat.gcd n d := (qof_eq h).2
theorem sg_div {s : Bool} {n g : Nat} (h : g ∣ n) : sg s n / (g : Nat) = sg s (n / g) := by
 cases s
 · simp [sg]
 · simp only [sg, if_true]
   rw [Int.neg_ediv_of_dvd (Int.natCast_dvd_natCast.2 h), Int.natCast_ediv]
theorem qof_num {s : Bool} {n d : Nat} (h : d ≠ 0) : (qof s n d).num = sg s (n / Nat.gcd n d) := by
 rw [(qof_eq h).1, sg_div (Nat.gcd_dvd_left n d)]
theorem qof_abs {s : Bool} {n d : Nat} (h : d ≠ 0) : (qof s n d).num.natAbs = n / Nat.gcd n d := by rw [qof_num h, sg_natAbs]
theorem qof_neg {s : Bool} {n d : Nat} (h : d ≠ 0) : decide ((qof s n d).num < 0) = (s && decide (n / Nat.gcd n d ≠ 0)) := by
 rw [qof_num h]
 generalize n / Nat.gcd n d = k
 cases s
 · simp only [sg, Bool.false_eq_true, if_false, Bool.false_and, decide_eq_false_iff_not]; omega
 · simp only [sg, if_true, Bool.true_and, decide_eq_decide]; omega
theorem qof_self (q : Rat) : qof (decide (q.num < 0)) q.num.natAbs q.den = q := by
 unfold qof; rw [sg_num]; exact Rat.mkRat_self q
theorem qof_add (a b : Rat) (s : Bool) (n : Nat) (h : sg s n = a.num * b.den + b.num * a.den) : qof s n (a.den * b.den) = a + b := by
 unfold qof; rw [h]; exact (Rat.add_def' a b).symm
theorem qof_mul (a b : Rat) (s : Bool) (n : Nat) (h : sg s n = a.num * b.num) : qof s n (a.den * b.den) = a * b := by
 unfold qof; rw [h]; exact (Rat.mul_def' a b).symm
theorem qof_zero (s : Bool) {d : Nat} : qof s 0 d = 0 := by unfold qof; cases s <;> simp [sg]
theorem mkRat_div (n : Int) (d : Nat) : mkRat n d = (n : Rat) / (d : Rat) := by
 have := Rat.divInt_eq_div n d
 rw [Rat.divInt_ofNat] at this
 rw [this]; rfl
def sadd' (s : Bool) (n : Nat) (t : Bool) (m : Nat) : Bool × Nat := if s = t then (s, n + m) else if m ≤ n then (s, n - m) else (t, m - n)
theorem sg_sadd (s : Bool) (n : Nat) (t : Bool) (m : Nat) : sg (sadd' s n t m).1 (sadd' s n t m).2 = sg s n + sg t m := by
 unfold sadd' sg
 cases s <;> cases t <;> (try simp only [reduceCtorEq, if_true, if_false, Bool.false_eq_true]) <;> (try split) <;> (try simp only [if_true, if_false, Bool.false_eq_true]) <;> omega
theorem sg_mul (s t : Bool) (n m : Nat) : sg (s != t) (n * m) = sg s n * sg t m := by
 cases s <;> cases t <;> simp [sg, Int.neg_mul, Int.mul_neg]
theorem sg_mul_nat (s : Bool) (n m : Nat) : sg s (n * m) = sg s n * m := by
 cases s <;> simp [sg, Int.neg_mul]
end Go.Pw
set_option maxRecDepth 100000
set_option linter.unusedVariables false
namespace Go.Pw
open Go Go.Proofs
def ofQ (q : Rat) : Rt := ⟨0, decide (q.num < 0), dg q.num.natAbs, dg q.den⟩
def toQ (x : Rt) : Rat := mkRat (sg x.neg (val x.num)) (val x.den)
theorem toQ_ofQ (q : Rat) : toQ (ofQ q) = q := by
 unfold toQ ofQ
 simp only [val_dg]
 exact qof_self q
def Sm (D M : Nat) (q : Rat) : Prop := ∃ z : Int, q = mkRat z D ∧ z.natAbs ≤ M
theorem sg_abs (z : Int) : sg (decide (z < 0)) z.natAbs = z := by
 by_cases h : z < 0
 · rw [decide_eq_true h]; simp only [sg, if_true]; omega
 · rw [decide_eq_false h]; simp only [sg, Bool.false_eq_true, if_false]; omega
theorem Sm.bounds {D M : Nat} {q : Rat} (hD : D ≠ 0) (h : Sm D M q) : q.num.natAbs ≤ M ∧ q.den ≤ D := by
 obtain ⟨z, rfl, hz⟩ := h
 have e : mkRat z D = qof (decide (z < 0)) z.natAbs D := by unfold qof; rw [sg_abs]
 rw [e, qof_abs hD, qof_den hD]
 exact ⟨Nat.le_trans (Nat.div_le_self _ _) hz, Nat.div_le_self _ _⟩
theorem Sm.mono {D M N : Nat} {q : Rat} (h : Sm D M q) (hle : M ≤ N) : Sm D N q := by
 obtain ⟨z, e, hz⟩ := h
 exact ⟨z, e, Nat.le_trans hz hle⟩
theorem Sm.zero (D M : Nat) : Sm D M 0 := ⟨0, by simp, Nat.zero_le _⟩
theorem Sm.add {D M N : Nat} {a b : Rat} (ha : Sm D M a) (hb : Sm D N b) : Sm D (M + N) (a + b) := by
 obtain ⟨z, rfl, hz⟩ := ha
 obtain ⟨w, rfl, hw⟩ := hb
 refine ⟨z + w, ?_, by omega⟩
 rw [mkRat_div, mkRat_div, mkRat_div, Rat.intCast_add, Rat.div_def, Rat.div_def, Rat.div_def, Rat.add_mul]
theorem Sm.mul {D E M N : Nat} {a b : Rat} (ha : Sm D M a) (hb : Sm E N b) : Sm (D * E) (M * N) (a * b) := by
 obtain ⟨z, rfl, hz⟩ := ha
 obtain ⟨w, rfl, hw⟩ := hb
 refine ⟨z * w, Rat.mkRat_mul_mkRat .., ?_⟩
 rw [Int.natAbs_mul]
 exact Nat.mul_le_mul hz hw
theorem Sm.neg {D M : Nat} {a : Rat} (ha : Sm D M a) : Sm D M (-a) := by
 obtain ⟨z, rfl, hz⟩ := ha
 exact ⟨-z, by rw [Rat.neg_mkRat], by omega⟩
theorem nrat_ofQ {s : Bool} {n d : Nat} (hd : d ≠ 0) (h1 : (qof s n d).num.natAbs < 2 ^ 4096) (h2 : (qof s n d).den < 2 ^ 4096) : nrat s n d = ofQ (qof s n d) := by
 rw [qof_abs hd] at h1
 rw [qof_den hd] at h2
 have k1 := (bl_le_iff _ 4096).2 h1
 have k2 := (bl_le_iff _ 4096).2 h2
 unfold nrat ofQ
 rw [if_neg hd, if_neg (by omega), qof_abs hd, qof_den hd, qof_neg hd]
theorem lft00 : lft 0 0 = 0 := rfl
theorem radd_ofQ {a b : Rat} (h1 : (a + b).num.natAbs < 2 ^ 4096) (h2 : (a + b).den < 2 ^ 4096) : radd (ofQ a) (ofQ b) = ofQ (a + b) := by
 have e := qof_add a b (sadd (decide (a.num < 0)) (a.num.natAbs * b.den) (decide (b.num < 0)) (b.num.natAbs * a.den)).1 (sadd (decide (a.num < 0)) (a.num.natAbs * b.den) (decide (b.num < 0)) (b.num.natAbs * a.den)).2
   ((sg_sadd _ _ _ _).trans (by rw [sg_mul_nat, sg_mul_nat, sg_num, sg_num]))
 have hd : a.den * b.den ≠ 0 := Nat.mul_ne_zero a.den_nz b.den_nz
 unfold radd
 simp only [ofQ, val_dg]
 rw [if_neg (by rw [lft00]; exact fun h => h rfl), nrat_ofQ hd (by rw [e]; exact h1) (by rw [e]; exact h2), e]
 rfl
theorem rmul_ofQ {a b : Rat} (h1 : (a * b).num.natAbs < 2 ^ 4096) (h2 : (a * b).den < 2 ^ 4096) : rmul (ofQ a) (ofQ b) = ofQ (a * b) := by
 have e := qof_mul a b (decide (a.num < 0) != decide (b.num < 0)) (a.num.natAbs * b.num.natAbs) (by rw [sg_mul, sg_num, sg_num])
 have hd : a.den * b.den ≠ 0 := Nat.mul_ne_zero a.den_nz b.den_nz
 unfold rmul
 simp only [ofQ, val_dg]
 rw [if_neg (by rw [lft00]; exact fun h => h rfl), nrat_ofQ hd (by rw [e]; exact h1) (by rw [e]; exact h2), e]
 rfl
theorem rng_ofQ {a : Rat} (h1 : a.num.natAbs < 2 ^ 4096) (h2 : a.den < 2 ^ 4096) : rng (ofQ a) = ofQ (-a) := by
 have e : qof (!decide (a.num < 0)) a.num.natAbs a.den = -a := by
   have h := sg_num a
   have h' : sg (!decide (a.num < 0)) a.num.natAbs = -a.num := by
     by_cases h : a.num < 0
     · rw [decide_eq_true h]; simp only [sg, Bool.not_true, Bool.false_eq_true, if_false]; omega
     · rw [decide_eq_false h]; simp only [sg, Bool.not_false, if_true]; omega
   unfold qof
   rw [h', ← Rat.neg_mkRat, Rat.mkRat_self]
 unfold rng
 simp only [ofQ, val_dg]
 rw [if_neg (fun h => h rfl), nrat_ofQ a.den_nz (by rw [e, Rat.neg_num, Int.natAbs_neg]; exact h1) (by rw [e, Rat.neg_den]; exact h2), e]
 rfl
def sumq (f : Nat → Rat) : Nat → Rat
 | 0 => 0
 | n + 1 => sumq f n + f n
theorem sumq_add (f g : Nat → Rat) (n : Nat) : sumq (fun i => f i + g i) n = sumq f n + sumq g n := by
 induction n with
 | zero => simp only [sumq]; grind
 | succ n ih => simp only [sumq, ih]; grind
theorem sumq_mul (c : Rat) (f : Nat → Rat) (n : Nat) : sumq (fun i => c * f i) n = c * sumq f n := by
 induction n with
 | zero => simp [sumq]
 | succ n ih => simp only [sumq, ih]; grind
theorem sumq_zero (n : Nat) : sumq (fun _ => 0) n = 0 := by
 induction n with
 | zero => rfl
 | succ n ih => simp only [sumq, ih]; grind
theorem sumq_swap (F : Nat → Nat → Rat) (n m : Nat) : sumq (fun i => sumq (fun k => F i k) m) n = sumq (fun k => sumq (fun i => F i k) n) m := by
 induction n with
 | zero => simp only [sumq]; exact (sumq_zero m).symm
 | succ n ih => simp only [sumq]; rw [ih, sumq_add]
theorem sumq_congr {f g : Nat → Rat} {n : Nat} (h : ∀ i, i < n → f i = g i) : sumq f n = sumq g n := by
 induction n with
 | zero => rfl
 | succ n ih => simp only [sumq]; rw [ih fun i hi => h i (by omega), h n (by omega)]
def Nice (D M : Nat) (x : Rt) : Prop := x = ofQ (toQ x) ∧ Sm D M (toQ x)
theorem nice_of {D M : Nat} {q : Rat} (h : Sm D M q) : Nice D M (ofQ q) := by
 unfold Nice; rw [toQ_ofQ]; exact ⟨rfl, h⟩
theorem rof01 : rof 0 1 = ofQ 0 := by
 have e : qof (decide ((0 : Int) < 0) != decide ((1 : Int) < 0)) (0 : Int).natAbs (1 : Int).natAbs = 0 := qof_zero _
 unfold rof
 rw [nrat_ofQ (by decide) (by rw [e]; decide +kernel) (by rw [e]; decide +kernel), e]
theorem fdot_ofQ {D D' M M' : Nat} {A B : Nat → Rt} (hD : D ≠ 0) (hD' : D' ≠ 0) (h1 : D * D' < 2 ^ 4096) : ∀ n, n * (M * M') + M * M' < 2 ^ 4096 → (∀ k, k < n → Nice D M (A k)) → (∀ k, k < n → Nice D' M' (B k)) →
   fdot A B n = ofQ (sumq (fun k => toQ (A k) * toQ (B k)) n) ∧ Sm (D * D') (n * (M * M')) (sumq (fun k => toQ (A k) * toQ (B k)) n) := by
 have hDD : D * D' ≠ 0 := Nat.mul_ne_zero hD hD'
 intro n
 induction n with
 | zero => intro _ _ _; exact ⟨rof01, Sm.zero _ _⟩
 | succ n ih =>
   intro hb ha hbb
   rw [Nat.add_mul, Nat.one_mul] at hb
   obtain ⟨e, s⟩ := ih (by omega) (fun k hk => ha k (by omega)) (fun k hk => hbb k (by omega))
   obtain ⟨ea, sa⟩ := ha n (by omega)
   obtain ⟨eb, sb⟩ := hbb n (by omega)
   have sp := sa.mul sb
   have ss := s.add sp
   have bp := sp.bounds hDD
   have bs := ss.bounds hDD
   rw [fdot_succ, e]
   conv => lhs; lhs; rw [ea, eb]
   refine ⟨?_, ?_⟩
   · rw [ea, eb, toQ_ofQ, toQ_ofQ, rmul_ofQ (by omega) (by omega), radd_ofQ (by omega) (by omega)]
     rfl
   · simp only [sumq]
     rw [Nat.add_mul, Nat.one_mul]
     exact ss
theorem rof_ofQ (a : Int) (b : Nat) (ha : 0 ≤ a) (ha' : a < 2 ^ 64) (hb : b ≠ 0) (hb' : b < 2 ^ 64) : rof a b = ofQ (mkRat a b) := by
 have e : qof (decide (a < 0) != decide ((b : Int) < 0)) a.natAbs (b : Int).natAbs = mkRat a b := by
   rw [decide_eq_false (by omega : ¬ a < 0), decide_eq_false (by omega : ¬ (b : Int) < 0)]
   unfold qof sg
   simp only [bne_self_eq_false, Bool.false_eq_true, if_false, Int.natAbs_of_nonneg ha, Int.natAbs_natCast]
 have hS : Sm b a.natAbs (mkRat a b) := ⟨a, rfl, Nat.le_refl _⟩
 have hB := hS.bounds hb
 have k : (2 : Nat) ^ 64 < 2 ^ 4096 := by decide +kernel
 unfold rof
 rw [nrat_ofQ (by omega) (by rw [e]; omega) (by rw [e]; omega), e]
theorem sm_part (a : Int) (b : Nat) (hb : 1 ≤ b) (hb' : b ≤ 9) (M : Nat) (hM : a.natAbs * 2520 ≤ M) : Sm 2520 M (mkRat a b) := by
 obtain ⟨c, hc, hcp⟩ : ∃ c, b * c = 2520 ∧ 1 ≤ c := by
   have : b = 1 ∨ b = 2 ∨ b = 3 ∨ b = 4 ∨ b = 5 ∨ b = 6 ∨ b = 7 ∨ b = 8 ∨ b = 9 := by omega
   rcases this with rfl | rfl | rfl | rfl | rfl | rfl | rfl | rfl | rfl
   · exact ⟨2520, by decide⟩
   · exact ⟨1260, by decide⟩
   · exact ⟨840, by decide⟩
   · exact ⟨630, by decide⟩
   · exact ⟨504, by decide⟩
   · exact ⟨420, by decide⟩
   · exact ⟨360, by decide⟩
   · exact ⟨315, by decide⟩
   · exact ⟨280, by decide⟩
 refine ⟨a * c, ?_, ?_⟩
 · rw [← hc]; exact (Rat.mkRat_mul_right (show c ≠ 0 by omega)).symm
 · rw [Int.natAbs_mul, Int.natAbs_natCast]
   have : c ≤ 2520 := by rw [← hc]; exact Nat.le_mul_of_pos_left c hb
   exact Nat.le_trans (Nat.mul_le_mul_left _ this) hM
theorem nice_numX (x : Rt) : Nice 2520 123480 (numX x) := by
 have h1 : 0 ≤ (x.num.getD 0 0 : Int) % 50 := Int.emod_nonneg _ (by decide)
 have h2 : (x.num.getD 0 0 : Int) % 50 < 50 := Int.emod_lt_of_pos _ (by decide)
 obtain ⟨b, hb, hb1, hb2⟩ : ∃ b : Nat, (1 + (x.den.getD 0 0 : Int) % 9) = (b : Int) ∧ 1 ≤ b ∧ b ≤ 9 := ⟨(1 + (x.den.getD 0 0 : Int) % 9).toNat, by omega, by omega, by omega⟩
 have e := rof_ofQ ((x.num.getD 0 0 : Int) % 50) b h1 (by omega) (by omega) (by omega)
 have hs := sm_part ((x.num.getD 0 0 : Int) % 50) b hb1 hb2 123480 (by omega)
 have bs := hs.bounds (by decide)
 have k : (123480 : Nat) < 2 ^ 4096 := by decide +kernel
 unfold numX
 rw [hb, e]
 split
 · rw [rng_ofQ (by omega) (by omega)]
   exact nice_of hs.neg
 · exact nice_of hs
theorem nice_numI (l : List Rt) (i : Nat) (hi : i < 40) : Nice 2520 123480 (numI l i) := by
 unfold numI
 split
 · exact nice_numX _
 · have e := rof_ofQ ((i : Int) + 2) 1 (by omega) (by omega) (by decide) (by decide)
   rw [show ((1 : Nat) : Int) = 1 from rfl] at e
   rw [e]
   exact nice_of (sm_part _ 1 (by decide) (by decide) _ (by omega))
theorem both_sums (j : List (List Rt)) (d w : List Rt) (n m : Nat) (hn : n ≤ 9) (hm : m ≤ 9) (hl : j.length = n) (hj : ∀ i, i < n → ∀ k, k < m → Nice 2520 123480 ((j.getD i []).getD k default)) (hd : ∀ k, k < m → Nice 2520 123480 (d.getD k default)) (hw : ∀ i, i < n → Nice 2520 123480 (w.getD i default)) :
   fdot (fun i => w.getD i default) (fun i => (salong j d m n).getD i default) n = fdot (fun k => d.getD k default) (fun k => (sback j w m).getD k default) m := by
 have k1 : 2520 * 2520 < 2 ^ 4096 := by decide +kernel
 have k2 : 2520 * (2520 * 2520) < 2 ^ 4096 := by decide +kernel
 have k3 : (10 * (123480 * 123480)) < 2 ^ 4096 := by decide +kernel
 have k4 : (10 * (123480 * (9 * (123480 * 123480)))) < 2 ^ 4096 := by decide +kernel
 have ea : ∀ i, i < n → (salong j d m n).getD i default = ofQ (sumq (fun k => toQ ((j.getD i []).getD k default) * toQ (d.getD k default)) m) ∧ Sm (2520 * 2520) (9 * (123480 * 123480)) (sumq (fun k => toQ ((j.getD i []).getD k default) * toQ (d.getD k default)) m) := fun i hi => by
   unfold salong
   rw [getD_rmap, if_pos hi]
   obtain ⟨e, s⟩ := fdot_ofQ (A := fun k => (j.getD i []).getD k default) (B := fun k => d.getD k default) (by decide) (by decide) k1 m (by omega) (fun k hk => hj i hi k hk) hd
   exact ⟨e, s.mono (Nat.mul_le_mul_right _ hm)⟩
 have eb : ∀ k, k < m → (sback j w m).getD k default = ofQ (sumq (fun i => toQ ((j.getD i []).getD k default) * toQ (w.getD i default)) n) ∧ Sm (2520 * 2520) (9 * (123480 * 123480)) (sumq (fun i => toQ ((j.getD i []).getD k default) * toQ (w.getD i default)) n) := fun k hk => by
   unfold sback
   rw [getD_rmap, if_pos hk, hl]
   obtain ⟨e, s⟩ := fdot_ofQ (A := fun i => (j.getD i []).getD k default) (B := fun i => w.getD i default) (by decide) (by decide) k1 n (by omega) (fun i hi => hj i hi k hk) hw
   exact ⟨e, s.mono (Nat.mul_le_mul_right _ hn)⟩
 obtain ⟨e1, _⟩ := fdot_ofQ (A := fun i => w.getD i default) (B := fun i => (salong j d m n).getD i default) (D := 2520) (D' := 2520 * 2520) (M := 123480) (M' := 9 * (123480 * 123480)) (by decide) (by decide) k2 n (by omega) hw (fun i hi => by
   obtain ⟨e, s⟩ := ea i hi
   show Nice _ _ ((salong j d m n).getD i default)
   rw [e]; exact nice_of s)
 obtain ⟨e2, _⟩ := fdot_ofQ (A := fun k => d.getD k default) (B := fun k => (sback j w m).getD k default) (D := 2520) (D' := 2520 * 2520) (M := 123480) (M' := 9 * (123480 * 123480)) (by decide) (by decide) k2 m (by omega) hd (fun k hk => by
   obtain ⟨e, s⟩ := eb k hk
   show Nice _ _ ((sback j w m).getD k default)
   rw [e]; exact nice_of s)
 rw [e1, e2]
 congr 1
 refine Eq.trans (sumq_congr (g := fun i => sumq (fun k => toQ (w.getD i default) * (toQ ((j.getD i []).getD k default) * toQ (d.getD k default))) m) fun i hi => ?_) (Eq.trans ?_ (sumq_congr (g := fun k => sumq (fun i => toQ (d.getD k default) * (toQ ((j.getD i []).getD k default) * toQ (w.getD i default))) n) fun k hk => ?_).symm)
 · show toQ (w.getD i default) * toQ ((salong j d m n).getD i default) = _
   rw [(ea i hi).1, toQ_ofQ, ← sumq_mul]
 · rw [sumq_swap]
   exact sumq_congr fun k _ => sumq_congr fun i _ => by grind
 · show toQ (d.getD k default) * toQ ((sback j w m).getD k default) = _
   rw [(eb k hk).1, toQ_ofQ, ← sumq_mul]
end Go.Pw
