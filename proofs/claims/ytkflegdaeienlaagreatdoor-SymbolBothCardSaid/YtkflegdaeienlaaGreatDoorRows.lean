/-
  NARROWER THAN 'FOR EVERY INPUT', by the rows' own cells (each row's printed sentence says how): SymbolJacobians: laid · SymbolSeconds: laid · SymbolSchwarz: laid · SymbolAlone: laid · SymbolRuns: laid · SymbolProducts: laid · SymbolSides: laid · SymbolBoth: laid · SymbolValues: laid · SymbolChain: laid.
  DERIVED. THE GIVEN ROWS OF THIS SEAT. 10 by the template 'for every input the law returns true; each argument reads behind the call as it read before'; 0 by the template 'total and deterministic' (their statements: YtkflegdaeienlaaGreatDoorTotals.lean).
  GIVEN WITH THE SEED: the statements are not yours to turn. If you find one false, say at which input.
  Laid BY PROGRAM, IN A SANDBOX (cutbox-rows.mjs): the forced cells as the released guide's own fill.sh prints them over the translation a41eee51a013d466… (all of the seat's roots in one cut). By AI agents, Wed Nov 11 2026. No macro, syntax, notation, axiom, sorry.
-/
import Derived.Test.YtkflegdaeienlaaGreatDoorChecked
import GoSem.Claim
import GoSem.ClaimJoined
import GoSem.ClaimMapViews
import Derived.JoinedTies
import Derived.KernelRfl
namespace Go.Proofs.YtkflegdaeienlaaGreatDoor
/- THE CELL 'sum', in the pinned program and in every row, IS THE sha256 OF THE DUMP (.gsa) THAT YtkflegdaeienlaaGreatDoorProg.lean LOADS. Nothing in Lean hashes anything: it is a label: what it is worth is what the hold of that sum in a sandbox is worth. -/
noncomputable def Tryz.pinned : Pinned := { name := "ytkflegdaeienlaagreatdoor", sum := "a41eee51a013d46684775c94dd57e0b15014c6d1e4e74d9c6f166e19f2282927", checked := Tryz.checked }
namespace Rows
def none {H : Type} : Left H := { results := [], args := [] }

/- WHAT THE LISTED PACKAGE-LEVEL VARIABLES READ AS WHEN THE CALL BEGINS. Each datum BY PROGRAM (the guide's laid-datum.mjs) off the statement by which the dump's own 'gosem.cut.vars' lays the variable. In a bare row this is a premise. The card (YtkflegdaeienlaaGreatDoorCards.lean) ties it to the program's text. -/
def laid_fluxion_trace_has {H : Type} : DataW H := .agg [.agg [.lit (.bool false), .lit (.bool false), .lit (.bool false)], .agg [.lit (.bool false), .lit (.bool false), .lit (.bool false)], .agg [.lit (.bool false), .lit (.bool false), .lit (.bool true)], .agg [.lit (.bool true), .lit (.bool true), .lit (.bool false)], .agg [.lit (.bool true), .lit (.bool true), .lit (.bool false)], .agg [.lit (.bool true), .lit (.bool true), .lit (.bool false)], .agg [.lit (.bool true), .lit (.bool true), .lit (.bool false)], .agg [.lit (.bool true), .lit (.bool false), .lit (.bool false)]]

/-- 'fluxionlaw14.SymbolJacobians': WHATEVER THE INPUT: true; the input reads as it did. -/
def symbolJacobiansSpec : ChangeSpec := { name := "symbolJacobians", fn := fun _ => fun
  | [d1, d2] => { results := [.lit (.bool true)], args := [d1, d2] }
  | _ => none }
def symbolJacobiansRow : OpenClaim := { program := "ytkflegdaeienlaagreatdoor", sum := "a41eee51a013d46684775c94dd57e0b15014c6d1e4e74d9c6f166e19f2282927", func := "fluxion/fluxionlaw14.SymbolJacobians", spec := "symbolJacobians", inPlace := ["internal/abi.NoEscape"], unfollowed := true, recurses := true, named := ["fluxion/trace.has"], apart := false, laid := [("fluxion/trace.has", laid_fluxion_trace_has)] }
def SymbolJacobiansSaid : Prop := symbolJacobiansRow.holds Tryz.pinned (OpenSpec.ofChange symbolJacobiansSpec)

/-- ITS FALSE NEIGHBOUR: 'it returns false'. Refute it at one input. -/
def symbolJacobiansWrong : ChangeSpec := { name := "symbolJacobians", fn := fun _ => fun
  | [d1, d2] => { results := [.lit (.bool false)], args := [d1, d2] }
  | _ => none }
def SymbolJacobiansWrongFalsely : Prop := symbolJacobiansRow.holds Tryz.pinned (OpenSpec.ofChange symbolJacobiansWrong)

/-- 'fluxionlaw14.SymbolSeconds': WHATEVER THE INPUT: true; the input reads as it did. -/
def symbolSecondsSpec : ChangeSpec := { name := "symbolSeconds", fn := fun _ => fun
  | [d1, d2, d3] => { results := [.lit (.bool true)], args := [d1, d2, d3] }
  | _ => none }
def symbolSecondsRow : OpenClaim := { program := "ytkflegdaeienlaagreatdoor", sum := "a41eee51a013d46684775c94dd57e0b15014c6d1e4e74d9c6f166e19f2282927", func := "fluxion/fluxionlaw14.SymbolSeconds", spec := "symbolSeconds", inPlace := ["internal/abi.NoEscape"], unfollowed := true, recurses := true, named := ["fluxion/trace.has"], apart := false, laid := [("fluxion/trace.has", laid_fluxion_trace_has)] }
def SymbolSecondsSaid : Prop := symbolSecondsRow.holds Tryz.pinned (OpenSpec.ofChange symbolSecondsSpec)

/-- ITS FALSE NEIGHBOUR: 'it returns false'. Refute it at one input. -/
def symbolSecondsWrong : ChangeSpec := { name := "symbolSeconds", fn := fun _ => fun
  | [d1, d2, d3] => { results := [.lit (.bool false)], args := [d1, d2, d3] }
  | _ => none }
def SymbolSecondsWrongFalsely : Prop := symbolSecondsRow.holds Tryz.pinned (OpenSpec.ofChange symbolSecondsWrong)

/-- 'fluxionlaw14.SymbolSchwarz': WHATEVER THE INPUT: true; the input reads as it did. -/
def symbolSchwarzSpec : ChangeSpec := { name := "symbolSchwarz", fn := fun _ => fun
  | [d1, d2, d3] => { results := [.lit (.bool true)], args := [d1, d2, d3] }
  | _ => none }
def symbolSchwarzRow : OpenClaim := { program := "ytkflegdaeienlaagreatdoor", sum := "a41eee51a013d46684775c94dd57e0b15014c6d1e4e74d9c6f166e19f2282927", func := "fluxion/fluxionlaw14.SymbolSchwarz", spec := "symbolSchwarz", inPlace := ["internal/abi.NoEscape"], unfollowed := true, recurses := true, named := ["fluxion/trace.has"], apart := false, laid := [("fluxion/trace.has", laid_fluxion_trace_has)] }
def SymbolSchwarzSaid : Prop := symbolSchwarzRow.holds Tryz.pinned (OpenSpec.ofChange symbolSchwarzSpec)

/-- ITS FALSE NEIGHBOUR: 'it returns false'. Refute it at one input. -/
def symbolSchwarzWrong : ChangeSpec := { name := "symbolSchwarz", fn := fun _ => fun
  | [d1, d2, d3] => { results := [.lit (.bool false)], args := [d1, d2, d3] }
  | _ => none }
def SymbolSchwarzWrongFalsely : Prop := symbolSchwarzRow.holds Tryz.pinned (OpenSpec.ofChange symbolSchwarzWrong)

/-- 'fluxionlaw14.SymbolAlone': WHATEVER THE INPUT: true; the input reads as it did. -/
def symbolAloneSpec : ChangeSpec := { name := "symbolAlone", fn := fun _ => fun
  | [d1, d2] => { results := [.lit (.bool true)], args := [d1, d2] }
  | _ => none }
def symbolAloneRow : OpenClaim := { program := "ytkflegdaeienlaagreatdoor", sum := "a41eee51a013d46684775c94dd57e0b15014c6d1e4e74d9c6f166e19f2282927", func := "fluxion/fluxionlaw14.SymbolAlone", spec := "symbolAlone", inPlace := ["internal/abi.NoEscape"], unfollowed := true, recurses := true, named := ["fluxion/trace.has"], apart := false, laid := [("fluxion/trace.has", laid_fluxion_trace_has)] }
def SymbolAloneSaid : Prop := symbolAloneRow.holds Tryz.pinned (OpenSpec.ofChange symbolAloneSpec)

/-- ITS FALSE NEIGHBOUR: 'it returns false'. Refute it at one input. -/
def symbolAloneWrong : ChangeSpec := { name := "symbolAlone", fn := fun _ => fun
  | [d1, d2] => { results := [.lit (.bool false)], args := [d1, d2] }
  | _ => none }
def SymbolAloneWrongFalsely : Prop := symbolAloneRow.holds Tryz.pinned (OpenSpec.ofChange symbolAloneWrong)

/-- 'fluxionlaw14.SymbolRuns': WHATEVER THE INPUT: true; the input reads as it did. -/
def symbolRunsSpec : ChangeSpec := { name := "symbolRuns", fn := fun _ => fun
  | [d] => { results := [.lit (.bool true)], args := [d] }
  | _ => none }
def symbolRunsRow : OpenClaim := { program := "ytkflegdaeienlaagreatdoor", sum := "a41eee51a013d46684775c94dd57e0b15014c6d1e4e74d9c6f166e19f2282927", func := "fluxion/fluxionlaw14.SymbolRuns", spec := "symbolRuns", inPlace := ["internal/abi.NoEscape"], unfollowed := true, recurses := true, named := ["fluxion/trace.has"], apart := false, laid := [("fluxion/trace.has", laid_fluxion_trace_has)] }
def SymbolRunsSaid : Prop := symbolRunsRow.holds Tryz.pinned (OpenSpec.ofChange symbolRunsSpec)

/-- ITS FALSE NEIGHBOUR: 'it returns false'. Refute it at one input. -/
def symbolRunsWrong : ChangeSpec := { name := "symbolRuns", fn := fun _ => fun
  | [d] => { results := [.lit (.bool false)], args := [d] }
  | _ => none }
def SymbolRunsWrongFalsely : Prop := symbolRunsRow.holds Tryz.pinned (OpenSpec.ofChange symbolRunsWrong)

/-- 'fluxionlaw14.SymbolProducts': WHATEVER THE INPUT: true; the input reads as it did. -/
def symbolProductsSpec : ChangeSpec := { name := "symbolProducts", fn := fun _ => fun
  | [d1, d2, d3] => { results := [.lit (.bool true)], args := [d1, d2, d3] }
  | _ => none }
def symbolProductsRow : OpenClaim := { program := "ytkflegdaeienlaagreatdoor", sum := "a41eee51a013d46684775c94dd57e0b15014c6d1e4e74d9c6f166e19f2282927", func := "fluxion/fluxionlaw14.SymbolProducts", spec := "symbolProducts", inPlace := ["internal/abi.NoEscape"], unfollowed := true, recurses := true, named := ["fluxion/trace.has"], apart := false, laid := [("fluxion/trace.has", laid_fluxion_trace_has)] }
def SymbolProductsSaid : Prop := symbolProductsRow.holds Tryz.pinned (OpenSpec.ofChange symbolProductsSpec)

/-- ITS FALSE NEIGHBOUR: 'it returns false'. Refute it at one input. -/
def symbolProductsWrong : ChangeSpec := { name := "symbolProducts", fn := fun _ => fun
  | [d1, d2, d3] => { results := [.lit (.bool false)], args := [d1, d2, d3] }
  | _ => none }
def SymbolProductsWrongFalsely : Prop := symbolProductsRow.holds Tryz.pinned (OpenSpec.ofChange symbolProductsWrong)

/-- 'fluxionlaw14.SymbolSides': WHATEVER THE INPUT: true; the input reads as it did. -/
def symbolSidesSpec : ChangeSpec := { name := "symbolSides", fn := fun _ => fun
  | [d1, d2, d3, d4] => { results := [.lit (.bool true)], args := [d1, d2, d3, d4] }
  | _ => none }
def symbolSidesRow : OpenClaim := { program := "ytkflegdaeienlaagreatdoor", sum := "a41eee51a013d46684775c94dd57e0b15014c6d1e4e74d9c6f166e19f2282927", func := "fluxion/fluxionlaw14.SymbolSides", spec := "symbolSides", inPlace := ["internal/abi.NoEscape"], unfollowed := true, recurses := true, named := ["fluxion/trace.has"], apart := false, laid := [("fluxion/trace.has", laid_fluxion_trace_has)] }
def SymbolSidesSaid : Prop := symbolSidesRow.holds Tryz.pinned (OpenSpec.ofChange symbolSidesSpec)

/-- ITS FALSE NEIGHBOUR: 'it returns false'. Refute it at one input. -/
def symbolSidesWrong : ChangeSpec := { name := "symbolSides", fn := fun _ => fun
  | [d1, d2, d3, d4] => { results := [.lit (.bool false)], args := [d1, d2, d3, d4] }
  | _ => none }
def SymbolSidesWrongFalsely : Prop := symbolSidesRow.holds Tryz.pinned (OpenSpec.ofChange symbolSidesWrong)

/-- 'fluxionlaw14.SymbolBoth': WHATEVER THE INPUT: true; the input reads as it did. -/
def symbolBothSpec : ChangeSpec := { name := "symbolBoth", fn := fun _ => fun
  | [d1, d2, d3, d4, d5] => { results := [.lit (.bool true)], args := [d1, d2, d3, d4, d5] }
  | _ => none }
def symbolBothRow : OpenClaim := { program := "ytkflegdaeienlaagreatdoor", sum := "a41eee51a013d46684775c94dd57e0b15014c6d1e4e74d9c6f166e19f2282927", func := "fluxion/fluxionlaw14.SymbolBoth", spec := "symbolBoth", inPlace := ["internal/abi.NoEscape"], unfollowed := true, recurses := true, named := ["fluxion/trace.has"], apart := false, laid := [("fluxion/trace.has", laid_fluxion_trace_has)] }
def SymbolBothSaid : Prop := symbolBothRow.holds Tryz.pinned (OpenSpec.ofChange symbolBothSpec)

/-- ITS FALSE NEIGHBOUR: 'it returns false'. Refute it at one input. -/
def symbolBothWrong : ChangeSpec := { name := "symbolBoth", fn := fun _ => fun
  | [d1, d2, d3, d4, d5] => { results := [.lit (.bool false)], args := [d1, d2, d3, d4, d5] }
  | _ => none }
def SymbolBothWrongFalsely : Prop := symbolBothRow.holds Tryz.pinned (OpenSpec.ofChange symbolBothWrong)

/-- 'fluxionlaw14.SymbolValues': WHATEVER THE INPUT: true; the input reads as it did. -/
def symbolValuesSpec : ChangeSpec := { name := "symbolValues", fn := fun _ => fun
  | [d1, d2] => { results := [.lit (.bool true)], args := [d1, d2] }
  | _ => none }
def symbolValuesRow : OpenClaim := { program := "ytkflegdaeienlaagreatdoor", sum := "a41eee51a013d46684775c94dd57e0b15014c6d1e4e74d9c6f166e19f2282927", func := "fluxion/fluxionlaw14.SymbolValues", spec := "symbolValues", inPlace := ["internal/abi.NoEscape"], unfollowed := true, recurses := true, named := ["fluxion/trace.has"], apart := false, laid := [("fluxion/trace.has", laid_fluxion_trace_has)] }
def SymbolValuesSaid : Prop := symbolValuesRow.holds Tryz.pinned (OpenSpec.ofChange symbolValuesSpec)

/-- ITS FALSE NEIGHBOUR: 'it returns false'. Refute it at one input. -/
def symbolValuesWrong : ChangeSpec := { name := "symbolValues", fn := fun _ => fun
  | [d1, d2] => { results := [.lit (.bool false)], args := [d1, d2] }
  | _ => none }
def SymbolValuesWrongFalsely : Prop := symbolValuesRow.holds Tryz.pinned (OpenSpec.ofChange symbolValuesWrong)

/-- 'fluxionlaw14.SymbolChain': WHATEVER THE INPUT: true; the input reads as it did. -/
def symbolChainSpec : ChangeSpec := { name := "symbolChain", fn := fun _ => fun
  | [d1, d2, d3] => { results := [.lit (.bool true)], args := [d1, d2, d3] }
  | _ => none }
def symbolChainRow : OpenClaim := { program := "ytkflegdaeienlaagreatdoor", sum := "a41eee51a013d46684775c94dd57e0b15014c6d1e4e74d9c6f166e19f2282927", func := "fluxion/fluxionlaw14.SymbolChain", spec := "symbolChain", inPlace := ["internal/abi.NoEscape"], unfollowed := true, recurses := true, named := ["fluxion/trace.has"], apart := false, laid := [("fluxion/trace.has", laid_fluxion_trace_has)] }
def SymbolChainSaid : Prop := symbolChainRow.holds Tryz.pinned (OpenSpec.ofChange symbolChainSpec)

/-- ITS FALSE NEIGHBOUR: 'it returns false'. Refute it at one input. -/
def symbolChainWrong : ChangeSpec := { name := "symbolChain", fn := fun _ => fun
  | [d1, d2, d3] => { results := [.lit (.bool false)], args := [d1, d2, d3] }
  | _ => none }
def SymbolChainWrongFalsely : Prop := symbolChainRow.holds Tryz.pinned (OpenSpec.ofChange symbolChainWrong)

/- THE SECOND FORM. 'bulk': how many values and letters a reading holds, each counted each time it is reached (what is shared counts as often as it is met; a slice's spare places count too). A statement '..UptoSaid' is the law's where the arguments, and the package variables that the reading takes, are together of bulk at most 1048576: NARROWER than '..Said'. Prove '..Said' where nothing that the law and all that it calls make is longer than what came in: it says more and counts as full. Else prove '..UptoSaid'. A law counts once. -/
mutual
def uptoBulk {H : Type} : DataW H → Nat
  | .lit (.string bytes) => bytes.length + 1
  | .lit _ => 1
  | .nil => 1
  | .ptr d => uptoBulk d + 1
  | .slice elems spare => uptoBulkAll elems + uptoBulkAll spare + 1
  | .agg parts => uptoBulkAll parts + 1
  | .iface _ d => uptoBulk d + 1
  | .map entries => uptoBulkEntries entries + 1
  | .held _ => 1
def uptoBulkAll {H : Type} : List (DataW H) → Nat
  | [] => 0
  | d :: r => uptoBulk d + uptoBulkAll r
def uptoBulkEntries {H : Type} : List (Lit × DataW H) → Nat
  | [] => 0
  | x :: r => uptoBulkEntry x + uptoBulkEntries r
def uptoBulkEntry {H : Type} : Lit × DataW H → Nat
  | (.string bytes, d) => bytes.length + uptoBulk d + 1
  | (_, d) => uptoBulk d + 1
 end
def uptoSmall : (H : Type) → List (DataW H) → Bool := fun _ ds => decide (uptoBulkAll ds ≤ 1048576)
def OpenSpec.upto (s : _root_.Go.ChangeSpec) : _root_.Go.OpenSpec := { _root_.Go.OpenSpec.ofChange s with cond := some uptoSmall }

/-- 'fluxionlaw14.SymbolJacobians', WHERE WHAT IT READS IS OF BULK AT MOST 1048576: true; the input reads as it did. -/
def symbolJacobiansUptoRow : OpenClaim := { program := "ytkflegdaeienlaagreatdoor", sum := "a41eee51a013d46684775c94dd57e0b15014c6d1e4e74d9c6f166e19f2282927", func := "fluxion/fluxionlaw14.SymbolJacobians", spec := "symbolJacobians", inPlace := ["internal/abi.NoEscape"], unfollowed := true, recurses := true, named := ["fluxion/trace.has"], apart := false, laid := [("fluxion/trace.has", laid_fluxion_trace_has)], narrowed := true }
def SymbolJacobiansUptoSaid : Prop := symbolJacobiansUptoRow.holds Tryz.pinned (OpenSpec.upto symbolJacobiansSpec)

/-- 'fluxionlaw14.SymbolSeconds', WHERE WHAT IT READS IS OF BULK AT MOST 1048576: true; the input reads as it did. -/
def symbolSecondsUptoRow : OpenClaim := { program := "ytkflegdaeienlaagreatdoor", sum := "a41eee51a013d46684775c94dd57e0b15014c6d1e4e74d9c6f166e19f2282927", func := "fluxion/fluxionlaw14.SymbolSeconds", spec := "symbolSeconds", inPlace := ["internal/abi.NoEscape"], unfollowed := true, recurses := true, named := ["fluxion/trace.has"], apart := false, laid := [("fluxion/trace.has", laid_fluxion_trace_has)], narrowed := true }
def SymbolSecondsUptoSaid : Prop := symbolSecondsUptoRow.holds Tryz.pinned (OpenSpec.upto symbolSecondsSpec)

/-- 'fluxionlaw14.SymbolSchwarz', WHERE WHAT IT READS IS OF BULK AT MOST 1048576: true; the input reads as it did. -/
def symbolSchwarzUptoRow : OpenClaim := { program := "ytkflegdaeienlaagreatdoor", sum := "a41eee51a013d46684775c94dd57e0b15014c6d1e4e74d9c6f166e19f2282927", func := "fluxion/fluxionlaw14.SymbolSchwarz", spec := "symbolSchwarz", inPlace := ["internal/abi.NoEscape"], unfollowed := true, recurses := true, named := ["fluxion/trace.has"], apart := false, laid := [("fluxion/trace.has", laid_fluxion_trace_has)], narrowed := true }
def SymbolSchwarzUptoSaid : Prop := symbolSchwarzUptoRow.holds Tryz.pinned (OpenSpec.upto symbolSchwarzSpec)

/-- 'fluxionlaw14.SymbolAlone', WHERE WHAT IT READS IS OF BULK AT MOST 1048576: true; the input reads as it did. -/
def symbolAloneUptoRow : OpenClaim := { program := "ytkflegdaeienlaagreatdoor", sum := "a41eee51a013d46684775c94dd57e0b15014c6d1e4e74d9c6f166e19f2282927", func := "fluxion/fluxionlaw14.SymbolAlone", spec := "symbolAlone", inPlace := ["internal/abi.NoEscape"], unfollowed := true, recurses := true, named := ["fluxion/trace.has"], apart := false, laid := [("fluxion/trace.has", laid_fluxion_trace_has)], narrowed := true }
def SymbolAloneUptoSaid : Prop := symbolAloneUptoRow.holds Tryz.pinned (OpenSpec.upto symbolAloneSpec)

/-- 'fluxionlaw14.SymbolRuns', WHERE WHAT IT READS IS OF BULK AT MOST 1048576: true; the input reads as it did. -/
def symbolRunsUptoRow : OpenClaim := { program := "ytkflegdaeienlaagreatdoor", sum := "a41eee51a013d46684775c94dd57e0b15014c6d1e4e74d9c6f166e19f2282927", func := "fluxion/fluxionlaw14.SymbolRuns", spec := "symbolRuns", inPlace := ["internal/abi.NoEscape"], unfollowed := true, recurses := true, named := ["fluxion/trace.has"], apart := false, laid := [("fluxion/trace.has", laid_fluxion_trace_has)], narrowed := true }
def SymbolRunsUptoSaid : Prop := symbolRunsUptoRow.holds Tryz.pinned (OpenSpec.upto symbolRunsSpec)

/-- 'fluxionlaw14.SymbolProducts', WHERE WHAT IT READS IS OF BULK AT MOST 1048576: true; the input reads as it did. -/
def symbolProductsUptoRow : OpenClaim := { program := "ytkflegdaeienlaagreatdoor", sum := "a41eee51a013d46684775c94dd57e0b15014c6d1e4e74d9c6f166e19f2282927", func := "fluxion/fluxionlaw14.SymbolProducts", spec := "symbolProducts", inPlace := ["internal/abi.NoEscape"], unfollowed := true, recurses := true, named := ["fluxion/trace.has"], apart := false, laid := [("fluxion/trace.has", laid_fluxion_trace_has)], narrowed := true }
def SymbolProductsUptoSaid : Prop := symbolProductsUptoRow.holds Tryz.pinned (OpenSpec.upto symbolProductsSpec)

/-- 'fluxionlaw14.SymbolSides', WHERE WHAT IT READS IS OF BULK AT MOST 1048576: true; the input reads as it did. -/
def symbolSidesUptoRow : OpenClaim := { program := "ytkflegdaeienlaagreatdoor", sum := "a41eee51a013d46684775c94dd57e0b15014c6d1e4e74d9c6f166e19f2282927", func := "fluxion/fluxionlaw14.SymbolSides", spec := "symbolSides", inPlace := ["internal/abi.NoEscape"], unfollowed := true, recurses := true, named := ["fluxion/trace.has"], apart := false, laid := [("fluxion/trace.has", laid_fluxion_trace_has)], narrowed := true }
def SymbolSidesUptoSaid : Prop := symbolSidesUptoRow.holds Tryz.pinned (OpenSpec.upto symbolSidesSpec)

/-- 'fluxionlaw14.SymbolBoth', WHERE WHAT IT READS IS OF BULK AT MOST 1048576: true; the input reads as it did. -/
def symbolBothUptoRow : OpenClaim := { program := "ytkflegdaeienlaagreatdoor", sum := "a41eee51a013d46684775c94dd57e0b15014c6d1e4e74d9c6f166e19f2282927", func := "fluxion/fluxionlaw14.SymbolBoth", spec := "symbolBoth", inPlace := ["internal/abi.NoEscape"], unfollowed := true, recurses := true, named := ["fluxion/trace.has"], apart := false, laid := [("fluxion/trace.has", laid_fluxion_trace_has)], narrowed := true }
def SymbolBothUptoSaid : Prop := symbolBothUptoRow.holds Tryz.pinned (OpenSpec.upto symbolBothSpec)

/-- 'fluxionlaw14.SymbolValues', WHERE WHAT IT READS IS OF BULK AT MOST 1048576: true; the input reads as it did. -/
def symbolValuesUptoRow : OpenClaim := { program := "ytkflegdaeienlaagreatdoor", sum := "a41eee51a013d46684775c94dd57e0b15014c6d1e4e74d9c6f166e19f2282927", func := "fluxion/fluxionlaw14.SymbolValues", spec := "symbolValues", inPlace := ["internal/abi.NoEscape"], unfollowed := true, recurses := true, named := ["fluxion/trace.has"], apart := false, laid := [("fluxion/trace.has", laid_fluxion_trace_has)], narrowed := true }
def SymbolValuesUptoSaid : Prop := symbolValuesUptoRow.holds Tryz.pinned (OpenSpec.upto symbolValuesSpec)

/-- 'fluxionlaw14.SymbolChain', WHERE WHAT IT READS IS OF BULK AT MOST 1048576: true; the input reads as it did. -/
def symbolChainUptoRow : OpenClaim := { program := "ytkflegdaeienlaagreatdoor", sum := "a41eee51a013d46684775c94dd57e0b15014c6d1e4e74d9c6f166e19f2282927", func := "fluxion/fluxionlaw14.SymbolChain", spec := "symbolChain", inPlace := ["internal/abi.NoEscape"], unfollowed := true, recurses := true, named := ["fluxion/trace.has"], apart := false, laid := [("fluxion/trace.has", laid_fluxion_trace_has)], narrowed := true }
def SymbolChainUptoSaid : Prop := symbolChainUptoRow.holds Tryz.pinned (OpenSpec.upto symbolChainSpec)

end Rows
end Go.Proofs.YtkflegdaeienlaaGreatDoor
