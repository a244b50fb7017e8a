/-
  No cell of these rows narrows 'for every input' (looked for: loops, veiled, ifaces, maps, wideKeys, modest, calm, conditions, laid).
  DERIVED. THE GIVEN ROWS OF THIS SEAT. 15 by the template 'for every input the law returns true; each argument reads behind the call as it read before'; 0 by the template 'total and deterministic' (their statements: YtnajffjobgeenaaTotals.lean).
  GIVEN WITH THE SEED: the statements are not yours to turn. If you find one false, say at which input.
  Laid BY PROGRAM, IN A SANDBOX (cutbox-rows.mjs): the forced cells as the released guide's own fill.sh prints them over the translation 162c883589df363c… (all of the seat's roots in one cut). By AI agents, Wed Nov 11 2026. No macro, syntax, notation, axiom, sorry.
-/
import Derived.Test.YtnajffjobgeenaaChecked
import GoSem.Claim
import GoSem.ClaimJoined
import GoSem.ClaimMapViews
import Derived.JoinedTies
import Derived.KernelRfl
namespace Go.Proofs.Ytnajffjobgeenaa
/- THE CELL 'sum', in the pinned program and in every row, IS THE sha256 OF THE DUMP (.gsa) THAT YtnajffjobgeenaaProg.lean LOADS. Nothing in Lean hashes anything: it is a label: what it is worth is what the hold of that sum in a sandbox is worth. -/
noncomputable def Try.pinned : Pinned := { name := "ytnajffjobgeenaa", sum := "162c883589df363c3db83c2761d1abea8f333b13021ea5697d67d0cb75218397", checked := Try.checked }
namespace Rows
def none {H : Type} : Left H := { results := [], args := [] }

/-- 'laws.FnExactIsMask': WHATEVER THE INPUT: true; the input reads as it did. -/
def fnExactIsMaskSpec : ChangeSpec := { name := "fnExactIsMask", fn := fun _ => fun
  | [d] => { results := [.lit (.bool true)], args := [d] }
  | _ => none }
def fnExactIsMaskRow : OpenClaim := { program := "ytnajffjobgeenaa", sum := "162c883589df363c3db83c2761d1abea8f333b13021ea5697d67d0cb75218397", func := "loop.example/g01328/laws.FnExactIsMask", spec := "fnExactIsMask", unfollowed := true, recurses := true, plainKeys := false, apart := false }
def FnExactIsMaskSaid : Prop := fnExactIsMaskRow.holds Try.pinned (OpenSpec.ofChange fnExactIsMaskSpec)

/-- ITS FALSE NEIGHBOUR: 'it returns false'. Refute it at one input. -/
def fnExactIsMaskWrong : ChangeSpec := { name := "fnExactIsMask", fn := fun _ => fun
  | [d] => { results := [.lit (.bool false)], args := [d] }
  | _ => none }
def FnExactIsMaskWrongFalsely : Prop := fnExactIsMaskRow.holds Try.pinned (OpenSpec.ofChange fnExactIsMaskWrong)

/-- 'laws.FnExactIsGraph': WHATEVER THE INPUT: true; the input reads as it did. -/
def fnExactIsGraphSpec : ChangeSpec := { name := "fnExactIsGraph", fn := fun _ => fun
  | [d1, d2] => { results := [.lit (.bool true)], args := [d1, d2] }
  | _ => none }
def fnExactIsGraphRow : OpenClaim := { program := "ytnajffjobgeenaa", sum := "162c883589df363c3db83c2761d1abea8f333b13021ea5697d67d0cb75218397", func := "loop.example/g01328/laws.FnExactIsGraph", spec := "fnExactIsGraph", unfollowed := true, recurses := true, plainKeys := false, apart := false }
def FnExactIsGraphSaid : Prop := fnExactIsGraphRow.holds Try.pinned (OpenSpec.ofChange fnExactIsGraphSpec)

/-- ITS FALSE NEIGHBOUR: 'it returns false'. Refute it at one input. -/
def fnExactIsGraphWrong : ChangeSpec := { name := "fnExactIsGraph", fn := fun _ => fun
  | [d1, d2] => { results := [.lit (.bool false)], args := [d1, d2] }
  | _ => none }
def FnExactIsGraphWrongFalsely : Prop := fnExactIsGraphRow.holds Try.pinned (OpenSpec.ofChange fnExactIsGraphWrong)

/-- 'laws.FnExactRoughOf': WHATEVER THE INPUT: true; the input reads as it did. -/
def fnExactRoughOfSpec : ChangeSpec := { name := "fnExactRoughOf", fn := fun _ => fun
  | [d] => { results := [.lit (.bool true)], args := [d] }
  | _ => none }
def fnExactRoughOfRow : OpenClaim := { program := "ytnajffjobgeenaa", sum := "162c883589df363c3db83c2761d1abea8f333b13021ea5697d67d0cb75218397", func := "loop.example/g01328/laws.FnExactRoughOf", spec := "fnExactRoughOf", unfollowed := true, recurses := true, plainKeys := false, apart := false }
def FnExactRoughOfSaid : Prop := fnExactRoughOfRow.holds Try.pinned (OpenSpec.ofChange fnExactRoughOfSpec)

/-- ITS FALSE NEIGHBOUR: 'it returns false'. Refute it at one input. -/
def fnExactRoughOfWrong : ChangeSpec := { name := "fnExactRoughOf", fn := fun _ => fun
  | [d] => { results := [.lit (.bool false)], args := [d] }
  | _ => none }
def FnExactRoughOfWrongFalsely : Prop := fnExactRoughOfRow.holds Try.pinned (OpenSpec.ofChange fnExactRoughOfWrong)

/-- 'laws.FnExactBentAt': WHATEVER THE INPUT: true; the input reads as it did. -/
def fnExactBentAtSpec : ChangeSpec := { name := "fnExactBentAt", fn := fun _ => fun
  | [d1, d2, d3, d4] => { results := [.lit (.bool true)], args := [d1, d2, d3, d4] }
  | _ => none }
def fnExactBentAtRow : OpenClaim := { program := "ytnajffjobgeenaa", sum := "162c883589df363c3db83c2761d1abea8f333b13021ea5697d67d0cb75218397", func := "loop.example/g01328/laws.FnExactBentAt", spec := "fnExactBentAt", unfollowed := true, recurses := true, plainKeys := false, apart := false }
def FnExactBentAtSaid : Prop := fnExactBentAtRow.holds Try.pinned (OpenSpec.ofChange fnExactBentAtSpec)

/-- ITS FALSE NEIGHBOUR: 'it returns false'. Refute it at one input. -/
def fnExactBentAtWrong : ChangeSpec := { name := "fnExactBentAt", fn := fun _ => fun
  | [d1, d2, d3, d4] => { results := [.lit (.bool false)], args := [d1, d2, d3, d4] }
  | _ => none }
def FnExactBentAtWrongFalsely : Prop := fnExactBentAtRow.holds Try.pinned (OpenSpec.ofChange fnExactBentAtWrong)

/-- 'laws.FnExactSteadyAt': WHATEVER THE INPUT: true; the input reads as it did. -/
def fnExactSteadyAtSpec : ChangeSpec := { name := "fnExactSteadyAt", fn := fun _ => fun
  | [d1, d2, d3, d4] => { results := [.lit (.bool true)], args := [d1, d2, d3, d4] }
  | _ => none }
def fnExactSteadyAtRow : OpenClaim := { program := "ytnajffjobgeenaa", sum := "162c883589df363c3db83c2761d1abea8f333b13021ea5697d67d0cb75218397", func := "loop.example/g01328/laws.FnExactSteadyAt", spec := "fnExactSteadyAt", unfollowed := true, recurses := true, plainKeys := false, apart := false }
def FnExactSteadyAtSaid : Prop := fnExactSteadyAtRow.holds Try.pinned (OpenSpec.ofChange fnExactSteadyAtSpec)

/-- ITS FALSE NEIGHBOUR: 'it returns false'. Refute it at one input. -/
def fnExactSteadyAtWrong : ChangeSpec := { name := "fnExactSteadyAt", fn := fun _ => fun
  | [d1, d2, d3, d4] => { results := [.lit (.bool false)], args := [d1, d2, d3, d4] }
  | _ => none }
def FnExactSteadyAtWrongFalsely : Prop := fnExactSteadyAtRow.holds Try.pinned (OpenSpec.ofChange fnExactSteadyAtWrong)

/-- 'laws.FnExactQuietList': WHATEVER THE INPUT: true; the input reads as it did. -/
def fnExactQuietListSpec : ChangeSpec := { name := "fnExactQuietList", fn := fun _ => fun
  | [d1, d2] => { results := [.lit (.bool true)], args := [d1, d2] }
  | _ => none }
def fnExactQuietListRow : OpenClaim := { program := "ytnajffjobgeenaa", sum := "162c883589df363c3db83c2761d1abea8f333b13021ea5697d67d0cb75218397", func := "loop.example/g01328/laws.FnExactQuietList", spec := "fnExactQuietList", unfollowed := true, recurses := true, plainKeys := false, apart := false }
def FnExactQuietListSaid : Prop := fnExactQuietListRow.holds Try.pinned (OpenSpec.ofChange fnExactQuietListSpec)

/-- ITS FALSE NEIGHBOUR: 'it returns false'. Refute it at one input. -/
def fnExactQuietListWrong : ChangeSpec := { name := "fnExactQuietList", fn := fun _ => fun
  | [d1, d2] => { results := [.lit (.bool false)], args := [d1, d2] }
  | _ => none }
def FnExactQuietListWrongFalsely : Prop := fnExactQuietListRow.holds Try.pinned (OpenSpec.ofChange fnExactQuietListWrong)

/-- 'laws.FnExactNaturalBends': WHATEVER THE INPUT: true; the input reads as it did. -/
def fnExactNaturalBendsSpec : ChangeSpec := { name := "fnExactNaturalBends", fn := fun _ => fun
  | [d1, d2] => { results := [.lit (.bool true)], args := [d1, d2] }
  | _ => none }
def fnExactNaturalBendsRow : OpenClaim := { program := "ytnajffjobgeenaa", sum := "162c883589df363c3db83c2761d1abea8f333b13021ea5697d67d0cb75218397", func := "loop.example/g01328/laws.FnExactNaturalBends", spec := "fnExactNaturalBends", unfollowed := true, recurses := true, plainKeys := false, apart := false }
def FnExactNaturalBendsSaid : Prop := fnExactNaturalBendsRow.holds Try.pinned (OpenSpec.ofChange fnExactNaturalBendsSpec)

/-- ITS FALSE NEIGHBOUR: 'it returns false'. Refute it at one input. -/
def fnExactNaturalBendsWrong : ChangeSpec := { name := "fnExactNaturalBends", fn := fun _ => fun
  | [d1, d2] => { results := [.lit (.bool false)], args := [d1, d2] }
  | _ => none }
def FnExactNaturalBendsWrongFalsely : Prop := fnExactNaturalBendsRow.holds Try.pinned (OpenSpec.ofChange fnExactNaturalBendsWrong)

/-- 'laws.FnExactSameNet': WHATEVER THE INPUT: true; the input reads as it did. -/
def fnExactSameNetSpec : ChangeSpec := { name := "fnExactSameNet", fn := fun _ => fun
  | [d1, d2] => { results := [.lit (.bool true)], args := [d1, d2] }
  | _ => none }
def fnExactSameNetRow : OpenClaim := { program := "ytnajffjobgeenaa", sum := "162c883589df363c3db83c2761d1abea8f333b13021ea5697d67d0cb75218397", func := "loop.example/g01328/laws.FnExactSameNet", spec := "fnExactSameNet", inPlace := ["math.Float32bits", "math.Float64bits"], unfollowed := true, recurses := true, plainKeys := false, apart := false }
def FnExactSameNetSaid : Prop := fnExactSameNetRow.holds Try.pinned (OpenSpec.ofChange fnExactSameNetSpec)

/-- ITS FALSE NEIGHBOUR: 'it returns false'. Refute it at one input. -/
def fnExactSameNetWrong : ChangeSpec := { name := "fnExactSameNet", fn := fun _ => fun
  | [d1, d2] => { results := [.lit (.bool false)], args := [d1, d2] }
  | _ => none }
def FnExactSameNetWrongFalsely : Prop := fnExactSameNetRow.holds Try.pinned (OpenSpec.ofChange fnExactSameNetWrong)

/-- 'laws.FnExactSpiralPoints': WHATEVER THE INPUT: true; the input reads as it did. -/
def fnExactSpiralPointsSpec : ChangeSpec := { name := "fnExactSpiralPoints", fn := fun _ => fun
  | [d1, d2, d3, d4] => { results := [.lit (.bool true)], args := [d1, d2, d3, d4] }
  | _ => none }
def fnExactSpiralPointsRow : OpenClaim := { program := "ytnajffjobgeenaa", sum := "162c883589df363c3db83c2761d1abea8f333b13021ea5697d67d0cb75218397", func := "loop.example/g01328/laws.FnExactSpiralPoints", spec := "fnExactSpiralPoints", inPlace := ["math.Float32frombits", "math.Float64frombits", "math.Float64bits"], unfollowed := true, recurses := true, plainKeys := false, apart := false }
def FnExactSpiralPointsSaid : Prop := fnExactSpiralPointsRow.holds Try.pinned (OpenSpec.ofChange fnExactSpiralPointsSpec)

/-- ITS FALSE NEIGHBOUR: 'it returns false'. Refute it at one input. -/
def fnExactSpiralPointsWrong : ChangeSpec := { name := "fnExactSpiralPoints", fn := fun _ => fun
  | [d1, d2, d3, d4] => { results := [.lit (.bool false)], args := [d1, d2, d3, d4] }
  | _ => none }
def FnExactSpiralPointsWrongFalsely : Prop := fnExactSpiralPointsRow.holds Try.pinned (OpenSpec.ofChange fnExactSpiralPointsWrong)

/-- 'laws.FnExactSteadySlopes': WHATEVER THE INPUT: true; the input reads as it did. -/
def fnExactSteadySlopesSpec : ChangeSpec := { name := "fnExactSteadySlopes", fn := fun _ => fun
  | [d1, d2] => { results := [.lit (.bool true)], args := [d1, d2] }
  | _ => none }
def fnExactSteadySlopesRow : OpenClaim := { program := "ytnajffjobgeenaa", sum := "162c883589df363c3db83c2761d1abea8f333b13021ea5697d67d0cb75218397", func := "loop.example/g01328/laws.FnExactSteadySlopes", spec := "fnExactSteadySlopes", inPlace := ["math.sqrt"], unfollowed := true, recurses := true, plainKeys := false, apart := false }
def FnExactSteadySlopesSaid : Prop := fnExactSteadySlopesRow.holds Try.pinned (OpenSpec.ofChange fnExactSteadySlopesSpec)

/-- ITS FALSE NEIGHBOUR: 'it returns false'. Refute it at one input. -/
def fnExactSteadySlopesWrong : ChangeSpec := { name := "fnExactSteadySlopes", fn := fun _ => fun
  | [d1, d2] => { results := [.lit (.bool false)], args := [d1, d2] }
  | _ => none }
def FnExactSteadySlopesWrongFalsely : Prop := fnExactSteadySlopesRow.holds Try.pinned (OpenSpec.ofChange fnExactSteadySlopesWrong)

/-- 'laws.FnExactValidNet': WHATEVER THE INPUT: true; the input reads as it did. -/
def fnExactValidNetSpec : ChangeSpec := { name := "fnExactValidNet", fn := fun _ => fun
  | [d] => { results := [.lit (.bool true)], args := [d] }
  | _ => none }
def fnExactValidNetRow : OpenClaim := { program := "ytnajffjobgeenaa", sum := "162c883589df363c3db83c2761d1abea8f333b13021ea5697d67d0cb75218397", func := "loop.example/g01328/laws.FnExactValidNet", spec := "fnExactValidNet", unfollowed := true, recurses := true, plainKeys := false, apart := false }
def FnExactValidNetSaid : Prop := fnExactValidNetRow.holds Try.pinned (OpenSpec.ofChange fnExactValidNetSpec)

/-- ITS FALSE NEIGHBOUR: 'it returns false'. Refute it at one input. -/
def fnExactValidNetWrong : ChangeSpec := { name := "fnExactValidNet", fn := fun _ => fun
  | [d] => { results := [.lit (.bool false)], args := [d] }
  | _ => none }
def FnExactValidNetWrongFalsely : Prop := fnExactValidNetRow.holds Try.pinned (OpenSpec.ofChange fnExactValidNetWrong)

/-- 'laws.FnExactGridNet': WHATEVER THE INPUT: true; the input reads as it did. -/
def fnExactGridNetSpec : ChangeSpec := { name := "fnExactGridNet", fn := fun _ => fun
  | [d1, d2] => { results := [.lit (.bool true)], args := [d1, d2] }
  | _ => none }
def fnExactGridNetRow : OpenClaim := { program := "ytnajffjobgeenaa", sum := "162c883589df363c3db83c2761d1abea8f333b13021ea5697d67d0cb75218397", func := "loop.example/g01328/laws.FnExactGridNet", spec := "fnExactGridNet", unfollowed := true, recurses := true, plainKeys := false, apart := false }
def FnExactGridNetSaid : Prop := fnExactGridNetRow.holds Try.pinned (OpenSpec.ofChange fnExactGridNetSpec)

/-- ITS FALSE NEIGHBOUR: 'it returns false'. Refute it at one input. -/
def fnExactGridNetWrong : ChangeSpec := { name := "fnExactGridNet", fn := fun _ => fun
  | [d1, d2] => { results := [.lit (.bool false)], args := [d1, d2] }
  | _ => none }
def FnExactGridNetWrongFalsely : Prop := fnExactGridNetRow.holds Try.pinned (OpenSpec.ofChange fnExactGridNetWrong)

/-- 'laws.FnExactEulerOf': WHATEVER THE INPUT: true; the input reads as it did. -/
def fnExactEulerOfSpec : ChangeSpec := { name := "fnExactEulerOf", fn := fun _ => fun
  | [d] => { results := [.lit (.bool true)], args := [d] }
  | _ => none }
def fnExactEulerOfRow : OpenClaim := { program := "ytnajffjobgeenaa", sum := "162c883589df363c3db83c2761d1abea8f333b13021ea5697d67d0cb75218397", func := "loop.example/g01328/laws.FnExactEulerOf", spec := "fnExactEulerOf", unfollowed := true, recurses := true, plainKeys := false, apart := false }
def FnExactEulerOfSaid : Prop := fnExactEulerOfRow.holds Try.pinned (OpenSpec.ofChange fnExactEulerOfSpec)

/-- ITS FALSE NEIGHBOUR: 'it returns false'. Refute it at one input. -/
def fnExactEulerOfWrong : ChangeSpec := { name := "fnExactEulerOf", fn := fun _ => fun
  | [d] => { results := [.lit (.bool false)], args := [d] }
  | _ => none }
def FnExactEulerOfWrongFalsely : Prop := fnExactEulerOfRow.holds Try.pinned (OpenSpec.ofChange fnExactEulerOfWrong)

/-- 'laws.FnExactFacetPoint': WHATEVER THE INPUT: true; the input reads as it did. -/
def fnExactFacetPointSpec : ChangeSpec := { name := "fnExactFacetPoint", fn := fun _ => fun
  | [d1, d2] => { results := [.lit (.bool true)], args := [d1, d2] }
  | _ => none }
def fnExactFacetPointRow : OpenClaim := { program := "ytnajffjobgeenaa", sum := "162c883589df363c3db83c2761d1abea8f333b13021ea5697d67d0cb75218397", func := "loop.example/g01328/laws.FnExactFacetPoint", spec := "fnExactFacetPoint", unfollowed := true, recurses := true, plainKeys := false, apart := false }
def FnExactFacetPointSaid : Prop := fnExactFacetPointRow.holds Try.pinned (OpenSpec.ofChange fnExactFacetPointSpec)

/-- ITS FALSE NEIGHBOUR: 'it returns false'. Refute it at one input. -/
def fnExactFacetPointWrong : ChangeSpec := { name := "fnExactFacetPoint", fn := fun _ => fun
  | [d1, d2] => { results := [.lit (.bool false)], args := [d1, d2] }
  | _ => none }
def FnExactFacetPointWrongFalsely : Prop := fnExactFacetPointRow.holds Try.pinned (OpenSpec.ofChange fnExactFacetPointWrong)

/-- 'laws.FnExactBoxNet': WHATEVER THE INPUT: true; the input reads as it did. -/
def fnExactBoxNetSpec : ChangeSpec := { name := "fnExactBoxNet", fn := fun _ => fun
  | [d1, d2, d3] => { results := [.lit (.bool true)], args := [d1, d2, d3] }
  | _ => none }
def fnExactBoxNetRow : OpenClaim := { program := "ytnajffjobgeenaa", sum := "162c883589df363c3db83c2761d1abea8f333b13021ea5697d67d0cb75218397", func := "loop.example/g01328/laws.FnExactBoxNet", spec := "fnExactBoxNet", unfollowed := true, recurses := true, plainKeys := false, apart := false }
def FnExactBoxNetSaid : Prop := fnExactBoxNetRow.holds Try.pinned (OpenSpec.ofChange fnExactBoxNetSpec)

/-- ITS FALSE NEIGHBOUR: 'it returns false'. Refute it at one input. -/
def fnExactBoxNetWrong : ChangeSpec := { name := "fnExactBoxNet", fn := fun _ => fun
  | [d1, d2, d3] => { results := [.lit (.bool false)], args := [d1, d2, d3] }
  | _ => none }
def FnExactBoxNetWrongFalsely : Prop := fnExactBoxNetRow.holds Try.pinned (OpenSpec.ofChange fnExactBoxNetWrong)

/- THE SECOND FORM. 'bulk': how many values and letters a reading holds, each counted each time it is reached (what is shared counts as often as it is met; a slice's spare places count too). A statement '..UptoSaid' is the law's where the arguments, and the package variables that the reading takes, are together of bulk at most 1048576: NARROWER than '..Said'. Prove '..Said' where nothing that the law and all that it calls make is longer than what came in: it says more and counts as full. Else prove '..UptoSaid'. A law counts once. -/
mutual
def uptoBulk {H : Type} : DataW H → Nat
  | .lit (.string bytes) => bytes.length + 1
  | .lit _ => 1
  | .nil => 1
  | .ptr d => uptoBulk d + 1
  | .slice elems spare => uptoBulkAll elems + uptoBulkAll spare + 1
  | .agg parts => uptoBulkAll parts + 1
  | .iface _ d => uptoBulk d + 1
  | .map entries => uptoBulkEntries entries + 1
  | .held _ => 1
def uptoBulkAll {H : Type} : List (DataW H) → Nat
  | [] => 0
  | d :: r => uptoBulk d + uptoBulkAll r
def uptoBulkEntries {H : Type} : List (Lit × DataW H) → Nat
  | [] => 0
  | x :: r => uptoBulkEntry x + uptoBulkEntries r
def uptoBulkEntry {H : Type} : Lit × DataW H → Nat
  | (.string bytes, d) => bytes.length + uptoBulk d + 1
  | (_, d) => uptoBulk d + 1
 end
def uptoSmall : (H : Type) → List (DataW H) → Bool := fun _ ds => decide (uptoBulkAll ds ≤ 1048576)
def OpenSpec.upto (s : _root_.Go.ChangeSpec) : _root_.Go.OpenSpec := { _root_.Go.OpenSpec.ofChange s with cond := some uptoSmall }

/-- 'laws.FnExactIsMask', WHERE WHAT IT READS IS OF BULK AT MOST 1048576: true; the input reads as it did. -/
def fnExactIsMaskUptoRow : OpenClaim := { program := "ytnajffjobgeenaa", sum := "162c883589df363c3db83c2761d1abea8f333b13021ea5697d67d0cb75218397", func := "loop.example/g01328/laws.FnExactIsMask", spec := "fnExactIsMask", unfollowed := true, recurses := true, plainKeys := false, apart := false, narrowed := true }
def FnExactIsMaskUptoSaid : Prop := fnExactIsMaskUptoRow.holds Try.pinned (OpenSpec.upto fnExactIsMaskSpec)

/-- 'laws.FnExactIsGraph', WHERE WHAT IT READS IS OF BULK AT MOST 1048576: true; the input reads as it did. -/
def fnExactIsGraphUptoRow : OpenClaim := { program := "ytnajffjobgeenaa", sum := "162c883589df363c3db83c2761d1abea8f333b13021ea5697d67d0cb75218397", func := "loop.example/g01328/laws.FnExactIsGraph", spec := "fnExactIsGraph", unfollowed := true, recurses := true, plainKeys := false, apart := false, narrowed := true }
def FnExactIsGraphUptoSaid : Prop := fnExactIsGraphUptoRow.holds Try.pinned (OpenSpec.upto fnExactIsGraphSpec)

/-- 'laws.FnExactRoughOf', WHERE WHAT IT READS IS OF BULK AT MOST 1048576: true; the input reads as it did. -/
def fnExactRoughOfUptoRow : OpenClaim := { program := "ytnajffjobgeenaa", sum := "162c883589df363c3db83c2761d1abea8f333b13021ea5697d67d0cb75218397", func := "loop.example/g01328/laws.FnExactRoughOf", spec := "fnExactRoughOf", unfollowed := true, recurses := true, plainKeys := false, apart := false, narrowed := true }
def FnExactRoughOfUptoSaid : Prop := fnExactRoughOfUptoRow.holds Try.pinned (OpenSpec.upto fnExactRoughOfSpec)

/-- 'laws.FnExactBentAt', WHERE WHAT IT READS IS OF BULK AT MOST 1048576: true; the input reads as it did. -/
def fnExactBentAtUptoRow : OpenClaim := { program := "ytnajffjobgeenaa", sum := "162c883589df363c3db83c2761d1abea8f333b13021ea5697d67d0cb75218397", func := "loop.example/g01328/laws.FnExactBentAt", spec := "fnExactBentAt", unfollowed := true, recurses := true, plainKeys := false, apart := false, narrowed := true }
def FnExactBentAtUptoSaid : Prop := fnExactBentAtUptoRow.holds Try.pinned (OpenSpec.upto fnExactBentAtSpec)

/-- 'laws.FnExactSteadyAt', WHERE WHAT IT READS IS OF BULK AT MOST 1048576: true; the input reads as it did. -/
def fnExactSteadyAtUptoRow : OpenClaim := { program := "ytnajffjobgeenaa", sum := "162c883589df363c3db83c2761d1abea8f333b13021ea5697d67d0cb75218397", func := "loop.example/g01328/laws.FnExactSteadyAt", spec := "fnExactSteadyAt", unfollowed := true, recurses := true, plainKeys := false, apart := false, narrowed := true }
def FnExactSteadyAtUptoSaid : Prop := fnExactSteadyAtUptoRow.holds Try.pinned (OpenSpec.upto fnExactSteadyAtSpec)

/-- 'laws.FnExactQuietList', WHERE WHAT IT READS IS OF BULK AT MOST 1048576: true; the input reads as it did. -/
def fnExactQuietListUptoRow : OpenClaim := { program := "ytnajffjobgeenaa", sum := "162c883589df363c3db83c2761d1abea8f333b13021ea5697d67d0cb75218397", func := "loop.example/g01328/laws.FnExactQuietList", spec := "fnExactQuietList", unfollowed := true, recurses := true, plainKeys := false, apart := false, narrowed := true }
def FnExactQuietListUptoSaid : Prop := fnExactQuietListUptoRow.holds Try.pinned (OpenSpec.upto fnExactQuietListSpec)

/-- 'laws.FnExactNaturalBends', WHERE WHAT IT READS IS OF BULK AT MOST 1048576: true; the input reads as it did. -/
def fnExactNaturalBendsUptoRow : OpenClaim := { program := "ytnajffjobgeenaa", sum := "162c883589df363c3db83c2761d1abea8f333b13021ea5697d67d0cb75218397", func := "loop.example/g01328/laws.FnExactNaturalBends", spec := "fnExactNaturalBends", unfollowed := true, recurses := true, plainKeys := false, apart := false, narrowed := true }
def FnExactNaturalBendsUptoSaid : Prop := fnExactNaturalBendsUptoRow.holds Try.pinned (OpenSpec.upto fnExactNaturalBendsSpec)

/-- 'laws.FnExactSameNet', WHERE WHAT IT READS IS OF BULK AT MOST 1048576: true; the input reads as it did. -/
def fnExactSameNetUptoRow : OpenClaim := { program := "ytnajffjobgeenaa", sum := "162c883589df363c3db83c2761d1abea8f333b13021ea5697d67d0cb75218397", func := "loop.example/g01328/laws.FnExactSameNet", spec := "fnExactSameNet", inPlace := ["math.Float32bits", "math.Float64bits"], unfollowed := true, recurses := true, plainKeys := false, apart := false, narrowed := true }
def FnExactSameNetUptoSaid : Prop := fnExactSameNetUptoRow.holds Try.pinned (OpenSpec.upto fnExactSameNetSpec)

/-- 'laws.FnExactSpiralPoints', WHERE WHAT IT READS IS OF BULK AT MOST 1048576: true; the input reads as it did. -/
def fnExactSpiralPointsUptoRow : OpenClaim := { program := "ytnajffjobgeenaa", sum := "162c883589df363c3db83c2761d1abea8f333b13021ea5697d67d0cb75218397", func := "loop.example/g01328/laws.FnExactSpiralPoints", spec := "fnExactSpiralPoints", inPlace := ["math.Float32frombits", "math.Float64frombits", "math.Float64bits"], unfollowed := true, recurses := true, plainKeys := false, apart := false, narrowed := true }
def FnExactSpiralPointsUptoSaid : Prop := fnExactSpiralPointsUptoRow.holds Try.pinned (OpenSpec.upto fnExactSpiralPointsSpec)

/-- 'laws.FnExactSteadySlopes', WHERE WHAT IT READS IS OF BULK AT MOST 1048576: true; the input reads as it did. -/
def fnExactSteadySlopesUptoRow : OpenClaim := { program := "ytnajffjobgeenaa", sum := "162c883589df363c3db83c2761d1abea8f333b13021ea5697d67d0cb75218397", func := "loop.example/g01328/laws.FnExactSteadySlopes", spec := "fnExactSteadySlopes", inPlace := ["math.sqrt"], unfollowed := true, recurses := true, plainKeys := false, apart := false, narrowed := true }
def FnExactSteadySlopesUptoSaid : Prop := fnExactSteadySlopesUptoRow.holds Try.pinned (OpenSpec.upto fnExactSteadySlopesSpec)

/-- 'laws.FnExactValidNet', WHERE WHAT IT READS IS OF BULK AT MOST 1048576: true; the input reads as it did. -/
def fnExactValidNetUptoRow : OpenClaim := { program := "ytnajffjobgeenaa", sum := "162c883589df363c3db83c2761d1abea8f333b13021ea5697d67d0cb75218397", func := "loop.example/g01328/laws.FnExactValidNet", spec := "fnExactValidNet", unfollowed := true, recurses := true, plainKeys := false, apart := false, narrowed := true }
def FnExactValidNetUptoSaid : Prop := fnExactValidNetUptoRow.holds Try.pinned (OpenSpec.upto fnExactValidNetSpec)

/-- 'laws.FnExactGridNet', WHERE WHAT IT READS IS OF BULK AT MOST 1048576: true; the input reads as it did. -/
def fnExactGridNetUptoRow : OpenClaim := { program := "ytnajffjobgeenaa", sum := "162c883589df363c3db83c2761d1abea8f333b13021ea5697d67d0cb75218397", func := "loop.example/g01328/laws.FnExactGridNet", spec := "fnExactGridNet", unfollowed := true, recurses := true, plainKeys := false, apart := false, narrowed := true }
def FnExactGridNetUptoSaid : Prop := fnExactGridNetUptoRow.holds Try.pinned (OpenSpec.upto fnExactGridNetSpec)

/-- 'laws.FnExactEulerOf', WHERE WHAT IT READS IS OF BULK AT MOST 1048576: true; the input reads as it did. -/
def fnExactEulerOfUptoRow : OpenClaim := { program := "ytnajffjobgeenaa", sum := "162c883589df363c3db83c2761d1abea8f333b13021ea5697d67d0cb75218397", func := "loop.example/g01328/laws.FnExactEulerOf", spec := "fnExactEulerOf", unfollowed := true, recurses := true, plainKeys := false, apart := false, narrowed := true }
def FnExactEulerOfUptoSaid : Prop := fnExactEulerOfUptoRow.holds Try.pinned (OpenSpec.upto fnExactEulerOfSpec)

/-- 'laws.FnExactFacetPoint', WHERE WHAT IT READS IS OF BULK AT MOST 1048576: true; the input reads as it did. -/
def fnExactFacetPointUptoRow : OpenClaim := { program := "ytnajffjobgeenaa", sum := "162c883589df363c3db83c2761d1abea8f333b13021ea5697d67d0cb75218397", func := "loop.example/g01328/laws.FnExactFacetPoint", spec := "fnExactFacetPoint", unfollowed := true, recurses := true, plainKeys := false, apart := false, narrowed := true }
def FnExactFacetPointUptoSaid : Prop := fnExactFacetPointUptoRow.holds Try.pinned (OpenSpec.upto fnExactFacetPointSpec)

/-- 'laws.FnExactBoxNet', WHERE WHAT IT READS IS OF BULK AT MOST 1048576: true; the input reads as it did. -/
def fnExactBoxNetUptoRow : OpenClaim := { program := "ytnajffjobgeenaa", sum := "162c883589df363c3db83c2761d1abea8f333b13021ea5697d67d0cb75218397", func := "loop.example/g01328/laws.FnExactBoxNet", spec := "fnExactBoxNet", unfollowed := true, recurses := true, plainKeys := false, apart := false, narrowed := true }
def FnExactBoxNetUptoSaid : Prop := fnExactBoxNetUptoRow.holds Try.pinned (OpenSpec.upto fnExactBoxNetSpec)

end Rows
end Go.Proofs.Ytnajffjobgeenaa
