/- Merged from the working text PyG: SymbolBoth: for every input the call returns true, and the arguments read as before. -/
import Derived.Test.YtkflegdaeienlaaGreatDoorKc45
import Derived.Test.YtkflegdaeienlaaGreatDoorKc44
import Derived.Test.YtkflegdaeienlaaGreatDoorKc35
import Derived.Test.YtkflegdaeienlaaGreatDoorKc24
import Derived.Test.YtkflegdaeienlaaGreatDoorTie
import Derived.Test.YtkflegdaeienlaaGreatDoorCards
import Derived.SevenTiedAt
set_option linter.all false
set_option maxHeartbeats 400000
set_option maxRecDepth 100000
set_option linter.unusedVariables false
namespace Go.Proofs.YtkflegdaeienlaaGreatDoor
open Go Go.ChangeShapes Go.WideShapes Go.RowKit Go.Pw
theorem mem_each {H : Type} {P : Program} {t : TypeId} {ts : List TypeId} {d : DataW H} {ds : List (DataW H)} (h : ∀ y ∈ DataW.weightsEach P (t :: ts) (d :: ds), y ≤ reachBytes) : (∀ y ∈ d.weights P t, y ≤ reachBytes) ∧ ∀ y ∈ DataW.weightsEach P ts ds, y ≤ reachBytes := by
 simp only [DataW.weightsEach, List.mem_append] at h
 exact ⟨fun y hy => h y (.inl hy), fun y hy => h y (.inr hy)⟩
theorem con_calls {f : FuncId} {args : List PV} {W : World} {vs : Array Value} (h : Con E f args (.val (.bool true))) (hn : vs.size = args.length) (hR : ∀ j x, args[j]? = some x → R W (fun _ => False) (vs.getD j undef) x) (hG : ∀ g, R W (fun _ => False) (.pointer (some ⟨g, 0, none⟩)) (E.gpv g)) :
   Calls Tryz.prog f vs W fun e W' => e = .returned (.bool true) ∧ Below W.heap.size W W' := by
 refine Calls.mono (h.2 W (fun _ => False) vs hn hR (fun b hb => hb.elim) hG) ?_
 rintro e W' ⟨v, rfl, hv, hb⟩
 rw [(RS.sh (loc := fun _ => undef) hv).val_eq]
 exact ⟨rfl, hb⟩
theorem trodAll_5 {H : Type} {enc : TypeId × Value → H} {P : Program} {w : World} {base : Nat} {spare : Nat → Bool} {held : Bool} {t t' t'' t3 t4 : TypeId} {args : Array Value} {ds : List (DataW H)} {ps : List MemPlace} (h : DataW.TrodAll enc P w base spare held [t, t', t'', t3, t4] args.toList ds ps) :
   ∃ v v' v'' v3 v4 d d' d'' d3 d4 p p' p'' p3 p4, args = #[v, v', v'', v3, v4] ∧ ds = [d, d', d'', d3, d4] ∧ DataW.Trod enc P w base spare held t v d p ∧ DataW.Trod enc P w base spare held t' v' d' p' ∧ DataW.Trod enc P w base spare held t'' v'' d'' p'' ∧ DataW.Trod enc P w base spare held t3 v3 d3 p3 ∧ DataW.Trod enc P w base spare held t4 v4 d4 p4 := by
 obtain ⟨v, vs, d, ds', p, q, hargs, rfl, rfl, hd, hrest⟩ := trodAll_cons h
 obtain ⟨v', vs', d', ds'', p', q', rfl, rfl, rfl, hd', hrest'⟩ := trodAll_cons hrest
 obtain ⟨v'', vs'', d'', ds2, p'', q'', rfl, rfl, rfl, hd'', hrest''⟩ := trodAll_cons hrest'
 obtain ⟨v3, vs3, d3, ds3, p3, q3, rfl, rfl, rfl, hd3, hrest3⟩ := trodAll_cons hrest''
 obtain ⟨v4, vs4, d4, ds4, p4, q4, rfl, rfl, rfl, hd4, hrest4⟩ := trodAll_cons hrest3
 obtain ⟨rfl, rfl, rfl⟩ := trodAll_nil hrest4
 exact ⟨v, v', v'', v3, v4, d, d', d'', d3, d4, p, p', p'', p3, p4, by cases args; simp_all, rfl, hd, hd', hd'', hd3, hd4⟩
theorem u8_wf {m : Int} (hwf : Lit.wf (.int .u8 m) = true) : ∃ n : Nat, m = n ∧ n < 256 := by
 simp only [Lit.wf, Bool.and_eq_true, decide_eq_true_eq] at hwf
 have h1 : IntKind.u8.min = 0 := by decide
 have h2 : IntKind.u8.max = 255 := by decide
 rw [h1, h2] at hwf
 exact ⟨m.toNat, by omega, by omega⟩
theorem both_contract {H : Type} {enc : TypeId × Value → H} (W : World) (args : Array Value) (ds : List (DataW H)) (p : List MemPlace) (hA : DataW.TrodAll enc Tryz.prog W 0 (fun _ => true) true [33, 5, 5, 26, 26] args.toList ds p)
   (hw : ∀ y ∈ DataW.weightsEach Tryz.prog [33, 5, 5, 26, 26] ds, y ≤ reachBytes) (hG : ∀ g, R W (fun _ => False) (.pointer (some ⟨g, 0, none⟩)) (E.gpv g)) (hval : ∀ (j : Nat) t v, [33, 5, 5, 26, 26][j]? = some t → args[j]? = some v → ∃ base, Value.okWide Tryz.prog W .any base t v) :
   Calls Tryz.prog 10 args W fun e W' => e = .returned (.bool true) ∧ Below W.heap.size W W' := by
 obtain ⟨v0, v1, v2, v3, v4, d0, d1, d2, d3, d4, p0, p1, p2, p3, p4, rfl, rfl, ⟨n0, h0⟩, ⟨n1, h1⟩, ⟨n2, h2⟩, ⟨n3, h3⟩, ⟨n4, h4⟩⟩ := trodAll_5 hA
 obtain ⟨w0, hw⟩ := mem_each hw
 obtain ⟨w1, hw⟩ := mem_each hw
 obtain ⟨w2, hw⟩ := mem_each hw
 obtain ⟨w3, hw⟩ := mem_each hw
 obtain ⟨w4, hw⟩ := mem_each hw
 obtain ⟨u0, J, e0, mJ, rJ⟩ := rd_matrix h0 w0
 obtain ⟨r, e1, _, hr⟩ := DataW.trod_int Tryz.underlying5 h1
 obtain ⟨c, e2, _, hc⟩ := DataW.trod_int Tryz.underlying5 h2
 obtain ⟨u3, D, e3, mD, rD, _⟩ := rd_rats h3 w3
 obtain ⟨u4, V, e4, mV, rV, _⟩ := rd_rats h4 w4
 obtain ⟨b0, k0⟩ := hval 0 33 v0 rfl rfl
 obtain ⟨b1, k1⟩ := hval 1 5 v1 rfl rfl
 obtain ⟨b2, k2⟩ := hval 2 5 v2 rfl rfl
 obtain ⟨b3, k3⟩ := hval 3 26 v3 rfl rfl
 obtain ⟨b4, k4⟩ := hval 4 26 v4 rfl rfl
 obtain rfl := single Tryz.underlying33 k0 e0
 obtain rfl := single_int Tryz.underlying5 k1 e1
 obtain rfl := single_int Tryz.underlying5 k2 e2
 obtain rfl := single Tryz.underlying26 k3 e3
 obtain rfl := single Tryz.underlying26 k4 e4
 obtain ⟨r, rfl, hrr⟩ := u8_wf hr
 obtain ⟨c, rfl, hcc⟩ := u8_wf hc
 refine con_calls (law_both con_alive J r c hrr hcc D V mJ mD.ok mV.ok) rfl (fun j x hj => ?_) hG
 match j, hj with
 | 0, hj => simp only [List.getElem?_cons_zero, Option.some.injEq] at hj; subst hj; exact rJ
 | 1, hj => simp only [List.getElem?_cons_succ, List.getElem?_cons_zero, Option.some.injEq] at hj; subst hj; exact .val _
 | 2, hj => simp only [List.getElem?_cons_succ, List.getElem?_cons_zero, Option.some.injEq] at hj; subst hj; exact .val _
 | 3, hj => simp only [List.getElem?_cons_succ, List.getElem?_cons_zero, Option.some.injEq] at hj; subst hj; exact rD
 | 4, hj => simp only [List.getElem?_cons_succ, List.getElem?_cons_zero, Option.some.injEq] at hj; subst hj; exact rV
 | j + 5, hj => simp at hj
theorem laidH_of {w : World} (h : laidMet Tryz.prog laidL w) : laidMetH Tryz.prog laidL w := h
noncomputable abbrev wit (os : Os) (args : Array Value) : World := (World.laidAll Tryz.prog os laidL).forCall (fun _ _ => 0) ⟨#[], args, []⟩
theorem wit_fits (os : Os) : (World.holding Tryz.prog os ⟨#[], #[], []⟩).layFits Tryz.prog laidL [] = true := by kernel_rfl
theorem wit_ifaces (os : Os) : (World.holding Tryz.prog os ⟨#[], #[], []⟩).layIfaces Tryz.prog laidL (World.laidAll Tryz.prog os laidL) = true := by kernel_rfl
theorem wit_laid (os : Os) (args : Array Value) : laidMetH Tryz.prog laidL (wit os args).memory := laidH_of (laidMet_laidAll (P := Tryz.prog) (os := os) (laid := laidL) args (wit_fits os) (wit_ifaces os))
abbrev arg10 : Array Value := #[.slice none 0 0, .int .u8 0, .int .u8 0, .slice none 0 0, .slice none 0 0]
theorem p1 (os : Os) : (wit os arg10).variablesB Tryz.checked.prog = true := by kernel_rfl
theorem p2 (os : Os) : ((wit os arg10).heap.toList.drop Tryz.checked.prog.globals.size).take ((begin Tryz.checked.prog (fun _ _ => 0) default).world.heap.size - Tryz.checked.prog.globals.size) = (begin Tryz.checked.prog (fun _ _ => 0) default).world.heap.toList.drop Tryz.checked.prog.globals.size := by kernel_rfl
theorem p3 (os : Os) : Input.okWideB Tryz.checked.prog (wit os arg10) 10 ⟨#[], arg10, []⟩ = true := by kernel_rfl
theorem p4 {H : Type} (enc : TypeId × Value → H) (os : Os) : Rows.symbolBothSpec.preB enc Tryz.checked.prog Tryz.f10 [] false (wit os arg10).memory arg10 8 = true := by kernel_rfl
theorem p5 {H : Type} (enc : TypeId × Value → H) (os : Os) : Rows.symbolBothSpec.sizedB enc Tryz.checked.prog Tryz.f10 false (wit os arg10).memory arg10 8 = true := by kernel_rfl
theorem both_wit {H : Type} (enc : TypeId × Value → H) (os : Os) : ∃ (w : World) (tape : Tape) (i : Input), w.os = os ∧ (w.forCall tape i).Shaped Tryz.checked.prog ∧ i.vars = [] ∧ Input.okWide Tryz.checked.prog (w.forCall tape i) .any w.heap.size 10 i ∧
     ((Rows.symbolBothSpec.pre enc Tryz.checked.prog Tryz.f10 [] false (w.forCall tape i).memory i.args ∧ laidMetH Tryz.prog laidL (w.forCall tape i).memory) ∧ sizedMet enc Tryz.checked.prog Tryz.f10 (OpenSpec.ofChange Rows.symbolBothSpec) false (w.forCall tape i).memory i.args) ∧ ({} : Assume).holds Tryz.checked.prog (lone (Frame.enter Tryz.checked.prog 10 i.args .normal) [] (w.forCall tape i)) :=
 ChangeSpec.witness_at (enc := enc) (C := Tryz.checked) (os := os) (X := fun w _ => laidMetH Tryz.prog laidL w) false (World.laidAll Tryz.prog os laidL) arg10 8 (World.laidAll_os _ _ _) (p1 os) (p2 os) (p3 os) (p4 enc os) (p5 enc os) (wit_laid os arg10)
theorem read10 : ∀ t ∈ [33, 5, 5, 26, 26], Tryz.prog.readableRec t = true ∧ t < Tryz.prog.types.size := by
 intro t ht
 have : t = 33 ∨ t = 5 ∨ t = 26 := by simpa using ht
 rcases this with rfl | rfl | rfl
 · exact ⟨by kernel_rfl, of_decide_eq_true (by kernel_rfl)⟩
 · exact ⟨by kernel_rfl, of_decide_eq_true (by kernel_rfl)⟩
 · exact ⟨by kernel_rfl, of_decide_eq_true (by kernel_rfl)⟩
theorem both_spec {H : Type} (ds : List (DataW H)) (hl : ds.length = 5) : Rows.symbolBothSpec.fn H ds = { results := [.lit (.bool true)], args := ds } := by
 match ds, hl with
 | [d0, d1, d2, d3, d4], _ => rfl
theorem both_lifted (os : Os) (started : os.Started) (H : Type) (enc : TypeId × Value → H) :
   ReturnsInHanded {} Tryz.checked os 10 .any (fun w args => (Rows.symbolBothSpec.pre enc Tryz.prog Tryz.f10 [] false w args ∧ laidMetH Tryz.prog laidL w) ∧ sizedMet enc Tryz.prog Tryz.f10 (OpenSpec.ofChange Rows.symbolBothSpec) false w args)
     (Rows.symbolBothSpec.post enc Tryz.prog Tryz.f10 false true false false) :=
 law_lifted (ts := [33, 5, 5, 26, 26]) started (by kernel_rfl) Tryz.func10 (by kernel_rfl) (by kernel_rfl) rfl read10 (fun ds hl => both_spec ds hl) (both_wit enc os) (fun W args ds p hA hw hG hval => both_contract W args ds p hA hw hG hval)
theorem both_closed : joinedFacts Tryz.pinned.checked.prog 10 Tryz.f10 Rows.symbolBothSpec Rows.symbolBothRow = true := by kernel_rfl
theorem both_holds : Rows.SymbolBothSaid :=
 OpenClaim.holds_of_wide 10 Tryz.f10 rfl rfl rfl rfl rfl rfl rfl ⟨rfl, rfl, rfl, rfl, rfl⟩ rfl rfl rfl rfl rfl (by kernel_rfl) Tryz.func10 both_closed
   (of_decide_eq_true (by kernel_rfl)) (by unfold Func.isWrapper; rw [if_neg (of_decide_eq_false (by kernel_rfl))]; exact ⟨rfl, rfl⟩)
   (fun os started H enc _ => both_lifted os started H enc)
theorem both_wants (f : FuncId) (fn : Func) (hf : Tryz.prog.funcNamed "fluxion/fluxionlaw14.SymbolBoth" = some f) (hfn : Tryz.prog.funcs[f]? = some fn) : f = 10 ∧ fn = Tryz.f10 := by
  obtain rfl : f = 10 := Option.some.inj ((show Tryz.prog.funcNamed "fluxion/fluxionlaw14.SymbolBoth" = some 10 by kernel_rfl).symm.trans hf) |>.symm
  exact ⟨rfl, (Option.some.inj (Tryz.func10.symm.trans hfn)).symm⟩
theorem both_card : Rows.SymbolBothCardSaid :=
  Claim7.holds_tied_plain_at .later [] [.data] true (true, "4472187ea9be754762b7ad03be2b2b7bb4b2a2352a41ea48afc9431f23885302") false
    both_holds (fun _ h => by cases h) (by kernel_rfl) (fun _ h => by cases h) symbolBoth_row_tie rfl ⟨rfl, rfl⟩ (by kernel_rfl) rfl
    (fun f fn hf hfn => by
      obtain ⟨rfl, rfl⟩ := both_wants f fn hf hfn
      exact ⟨by kernel_rfl, fun j t ht => by
        have ht' : Tryz.f10.params[j]? = some t := ht
        rw [show Tryz.f10.params = #[33, 5, 5, 26, 26] by kernel_rfl] at ht'
        have h3 : t = 33 ∨ t = 5 ∨ t = 26 := by
          have := Array.mem_of_getElem? ht'
          simpa using this
        rcases h3 with rfl | rfl | rfl
        · exact (show Tryz.prog.wantsStandIn 33 = false by kernel_rfl)
        · exact (show Tryz.prog.wantsStandIn 5 = false by kernel_rfl)
        · exact (show Tryz.prog.wantsStandIn 26 = false by kernel_rfl)⟩)
    (by kernel_rfl)
end Go.Proofs.YtkflegdaeienlaaGreatDoor
