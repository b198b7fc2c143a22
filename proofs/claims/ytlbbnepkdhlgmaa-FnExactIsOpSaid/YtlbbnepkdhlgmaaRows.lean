/-
  No cell of these rows narrows 'for every input' (looked for: loops, veiled, ifaces, maps, wideKeys, modest, calm, conditions, laid).
  DERIVED. THE GIVEN ROWS OF THIS SEAT. 12 by the template 'for every input the law returns true; each argument reads behind the call as it read before'; 0 by the template 'total and deterministic' (their statements: YtlbbnepkdhlgmaaTotals.lean).
  GIVEN WITH THE SEED: the statements are not yours to turn. If you find one false, say at which input.
  Laid BY PROGRAM, IN A SANDBOX (cutbox-rows.mjs): the forced cells as the released guide's own fill.sh prints them over the translation a9ea892903e83aeb… (all of the seat's roots in one cut). By AI agents, Wed Nov 11 2026. No macro, syntax, notation, axiom, sorry.
-/
import Derived.Test.YtlbbnepkdhlgmaaChecked
import GoSem.Claim
import GoSem.ClaimJoined
import GoSem.ClaimMapViews
import Derived.JoinedTies
import Derived.KernelRfl
namespace Go.Proofs.Ytlbbnepkdhlgmaa
/- THE CELL 'sum', in the pinned program and in every row, IS THE sha256 OF THE DUMP (.gsa) THAT YtlbbnepkdhlgmaaProg.lean LOADS. Nothing in Lean hashes anything: it is a label: what it is worth is what the hold of that sum in a sandbox is worth. -/
noncomputable def Try.pinned : Pinned := { name := "ytlbbnepkdhlgmaa", sum := "a9ea892903e83aebfb458a5cfa43479fcc7744645e9258921fb55e1d3fec4481", checked := Try.checked }
namespace Rows
def none {H : Type} : Left H := { results := [], args := [] }

/-- 'laws.FnExactIndexOf': WHATEVER THE INPUT: true; the input reads as it did. -/
def fnExactIndexOfSpec : ChangeSpec := { name := "fnExactIndexOf", fn := fun _ => fun
  | [d] => { results := [.lit (.bool true)], args := [d] }
  | _ => none }
def fnExactIndexOfRow : OpenClaim := { program := "ytlbbnepkdhlgmaa", sum := "a9ea892903e83aebfb458a5cfa43479fcc7744645e9258921fb55e1d3fec4481", func := "loop.example/g01628/laws.FnExactIndexOf", spec := "fnExactIndexOf", apart := false }
def FnExactIndexOfSaid : Prop := fnExactIndexOfRow.holds Try.pinned (OpenSpec.ofChange fnExactIndexOfSpec)

/-- ITS FALSE NEIGHBOUR: 'it returns false'. Refute it at one input. -/
def fnExactIndexOfWrong : ChangeSpec := { name := "fnExactIndexOf", fn := fun _ => fun
  | [d] => { results := [.lit (.bool false)], args := [d] }
  | _ => none }
def FnExactIndexOfWrongFalsely : Prop := fnExactIndexOfRow.holds Try.pinned (OpenSpec.ofChange fnExactIndexOfWrong)

/-- 'laws.FnExactEncodeFixed': WHATEVER THE INPUT: true; the input reads as it did. -/
def fnExactEncodeFixedSpec : ChangeSpec := { name := "fnExactEncodeFixed", fn := fun _ => fun
  | [d1, d2] => { results := [.lit (.bool true)], args := [d1, d2] }
  | _ => none }
def fnExactEncodeFixedRow : OpenClaim := { program := "ytlbbnepkdhlgmaa", sum := "a9ea892903e83aebfb458a5cfa43479fcc7744645e9258921fb55e1d3fec4481", func := "loop.example/g01628/laws.FnExactEncodeFixed", spec := "fnExactEncodeFixed", apart := false }
def FnExactEncodeFixedSaid : Prop := fnExactEncodeFixedRow.holds Try.pinned (OpenSpec.ofChange fnExactEncodeFixedSpec)

/-- ITS FALSE NEIGHBOUR: 'it returns false'. Refute it at one input. -/
def fnExactEncodeFixedWrong : ChangeSpec := { name := "fnExactEncodeFixed", fn := fun _ => fun
  | [d1, d2] => { results := [.lit (.bool false)], args := [d1, d2] }
  | _ => none }
def FnExactEncodeFixedWrongFalsely : Prop := fnExactEncodeFixedRow.holds Try.pinned (OpenSpec.ofChange fnExactEncodeFixedWrong)

/-- 'laws.FnExactMarked': WHATEVER THE INPUT: true; the input reads as it did. -/
def fnExactMarkedSpec : ChangeSpec := { name := "fnExactMarked", fn := fun _ => fun
  | [d] => { results := [.lit (.bool true)], args := [d] }
  | _ => none }
def fnExactMarkedRow : OpenClaim := { program := "ytlbbnepkdhlgmaa", sum := "a9ea892903e83aebfb458a5cfa43479fcc7744645e9258921fb55e1d3fec4481", func := "loop.example/g01628/laws.FnExactMarked", spec := "fnExactMarked", apart := false }
def FnExactMarkedSaid : Prop := fnExactMarkedRow.holds Try.pinned (OpenSpec.ofChange fnExactMarkedSpec)

/-- ITS FALSE NEIGHBOUR: 'it returns false'. Refute it at one input. -/
def fnExactMarkedWrong : ChangeSpec := { name := "fnExactMarked", fn := fun _ => fun
  | [d] => { results := [.lit (.bool false)], args := [d] }
  | _ => none }
def FnExactMarkedWrongFalsely : Prop := fnExactMarkedRow.holds Try.pinned (OpenSpec.ofChange fnExactMarkedWrong)

/-- 'laws.FnExactAnnounceCell': WHATEVER THE INPUT: true; the input reads as it did. -/
def fnExactAnnounceCellSpec : ChangeSpec := { name := "fnExactAnnounceCell", fn := fun _ => fun
  | [d1, d2] => { results := [.lit (.bool true)], args := [d1, d2] }
  | _ => none }
def fnExactAnnounceCellRow : OpenClaim := { program := "ytlbbnepkdhlgmaa", sum := "a9ea892903e83aebfb458a5cfa43479fcc7744645e9258921fb55e1d3fec4481", func := "loop.example/g01628/laws.FnExactAnnounceCell", spec := "fnExactAnnounceCell", apart := false }
def FnExactAnnounceCellSaid : Prop := fnExactAnnounceCellRow.holds Try.pinned (OpenSpec.ofChange fnExactAnnounceCellSpec)

/-- ITS FALSE NEIGHBOUR: 'it returns false'. Refute it at one input. -/
def fnExactAnnounceCellWrong : ChangeSpec := { name := "fnExactAnnounceCell", fn := fun _ => fun
  | [d1, d2] => { results := [.lit (.bool false)], args := [d1, d2] }
  | _ => none }
def FnExactAnnounceCellWrongFalsely : Prop := fnExactAnnounceCellRow.holds Try.pinned (OpenSpec.ofChange fnExactAnnounceCellWrong)

/-- 'laws.FnExactCellCount': WHATEVER THE INPUT: true; the input reads as it did. -/
def fnExactCellCountSpec : ChangeSpec := { name := "fnExactCellCount", fn := fun _ => fun
  | [d] => { results := [.lit (.bool true)], args := [d] }
  | _ => none }
def fnExactCellCountRow : OpenClaim := { program := "ytlbbnepkdhlgmaa", sum := "a9ea892903e83aebfb458a5cfa43479fcc7744645e9258921fb55e1d3fec4481", func := "loop.example/g01628/laws.FnExactCellCount", spec := "fnExactCellCount", apart := false }
def FnExactCellCountSaid : Prop := fnExactCellCountRow.holds Try.pinned (OpenSpec.ofChange fnExactCellCountSpec)

/-- ITS FALSE NEIGHBOUR: 'it returns false'. Refute it at one input. -/
def fnExactCellCountWrong : ChangeSpec := { name := "fnExactCellCount", fn := fun _ => fun
  | [d] => { results := [.lit (.bool false)], args := [d] }
  | _ => none }
def FnExactCellCountWrongFalsely : Prop := fnExactCellCountRow.holds Try.pinned (OpenSpec.ofChange fnExactCellCountWrong)

/-- 'laws.FnExactHazardCell': WHATEVER THE INPUT: true; the input reads as it did. -/
def fnExactHazardCellSpec : ChangeSpec := { name := "fnExactHazardCell", fn := fun _ => fun
  | [d1, d2, d3] => { results := [.lit (.bool true)], args := [d1, d2, d3] }
  | _ => none }
def fnExactHazardCellRow : OpenClaim := { program := "ytlbbnepkdhlgmaa", sum := "a9ea892903e83aebfb458a5cfa43479fcc7744645e9258921fb55e1d3fec4481", func := "loop.example/g01628/laws.FnExactHazardCell", spec := "fnExactHazardCell", apart := false }
def FnExactHazardCellSaid : Prop := fnExactHazardCellRow.holds Try.pinned (OpenSpec.ofChange fnExactHazardCellSpec)

/-- ITS FALSE NEIGHBOUR: 'it returns false'. Refute it at one input. -/
def fnExactHazardCellWrong : ChangeSpec := { name := "fnExactHazardCell", fn := fun _ => fun
  | [d1, d2, d3] => { results := [.lit (.bool false)], args := [d1, d2, d3] }
  | _ => none }
def FnExactHazardCellWrongFalsely : Prop := fnExactHazardCellRow.holds Try.pinned (OpenSpec.ofChange fnExactHazardCellWrong)

/-- 'laws.FnExactHeadCell': WHATEVER THE INPUT: true; the input reads as it did. -/
def fnExactHeadCellSpec : ChangeSpec := { name := "fnExactHeadCell", fn := fun _ => fun
  | [d1, d2] => { results := [.lit (.bool true)], args := [d1, d2] }
  | _ => none }
def fnExactHeadCellRow : OpenClaim := { program := "ytlbbnepkdhlgmaa", sum := "a9ea892903e83aebfb458a5cfa43479fcc7744645e9258921fb55e1d3fec4481", func := "loop.example/g01628/laws.FnExactHeadCell", spec := "fnExactHeadCell", apart := false }
def FnExactHeadCellSaid : Prop := fnExactHeadCellRow.holds Try.pinned (OpenSpec.ofChange fnExactHeadCellSpec)

/-- ITS FALSE NEIGHBOUR: 'it returns false'. Refute it at one input. -/
def fnExactHeadCellWrong : ChangeSpec := { name := "fnExactHeadCell", fn := fun _ => fun
  | [d1, d2] => { results := [.lit (.bool false)], args := [d1, d2] }
  | _ => none }
def FnExactHeadCellWrongFalsely : Prop := fnExactHeadCellRow.holds Try.pinned (OpenSpec.ofChange fnExactHeadCellWrong)

/-- 'laws.FnExactNodeCell': WHATEVER THE INPUT: true; the input reads as it did. -/
def fnExactNodeCellSpec : ChangeSpec := { name := "fnExactNodeCell", fn := fun _ => fun
  | [d1, d2, d3] => { results := [.lit (.bool true)], args := [d1, d2, d3] }
  | _ => none }
def fnExactNodeCellRow : OpenClaim := { program := "ytlbbnepkdhlgmaa", sum := "a9ea892903e83aebfb458a5cfa43479fcc7744645e9258921fb55e1d3fec4481", func := "loop.example/g01628/laws.FnExactNodeCell", spec := "fnExactNodeCell", apart := false }
def FnExactNodeCellSaid : Prop := fnExactNodeCellRow.holds Try.pinned (OpenSpec.ofChange fnExactNodeCellSpec)

/-- ITS FALSE NEIGHBOUR: 'it returns false'. Refute it at one input. -/
def fnExactNodeCellWrong : ChangeSpec := { name := "fnExactNodeCell", fn := fun _ => fun
  | [d1, d2, d3] => { results := [.lit (.bool false)], args := [d1, d2, d3] }
  | _ => none }
def FnExactNodeCellWrongFalsely : Prop := fnExactNodeCellRow.holds Try.pinned (OpenSpec.ofChange fnExactNodeCellWrong)

/-- 'laws.FnExactIsOp': WHATEVER THE INPUT: true; the input reads as it did. -/
def fnExactIsOpSpec : ChangeSpec := { name := "fnExactIsOp", fn := fun _ => fun
  | [d] => { results := [.lit (.bool true)], args := [d] }
  | _ => none }
def fnExactIsOpRow : OpenClaim := { program := "ytlbbnepkdhlgmaa", sum := "a9ea892903e83aebfb458a5cfa43479fcc7744645e9258921fb55e1d3fec4481", func := "loop.example/g01628/laws.FnExactIsOp", spec := "fnExactIsOp", apart := false }
def FnExactIsOpSaid : Prop := fnExactIsOpRow.holds Try.pinned (OpenSpec.ofChange fnExactIsOpSpec)

/-- ITS FALSE NEIGHBOUR: 'it returns false'. Refute it at one input. -/
def fnExactIsOpWrong : ChangeSpec := { name := "fnExactIsOp", fn := fun _ => fun
  | [d] => { results := [.lit (.bool false)], args := [d] }
  | _ => none }
def FnExactIsOpWrongFalsely : Prop := fnExactIsOpRow.holds Try.pinned (OpenSpec.ofChange fnExactIsOpWrong)

/-- 'laws.FnExactLoadCell': WHATEVER THE INPUT: true; the input reads as it did. -/
def fnExactLoadCellSpec : ChangeSpec := { name := "fnExactLoadCell", fn := fun _ => fun
  | [d1, d2] => { results := [.lit (.bool true)], args := [d1, d2] }
  | _ => none }
def fnExactLoadCellRow : OpenClaim := { program := "ytlbbnepkdhlgmaa", sum := "a9ea892903e83aebfb458a5cfa43479fcc7744645e9258921fb55e1d3fec4481", func := "loop.example/g01628/laws.FnExactLoadCell", spec := "fnExactLoadCell", apart := false }
def FnExactLoadCellSaid : Prop := fnExactLoadCellRow.holds Try.pinned (OpenSpec.ofChange fnExactLoadCellSpec)

/-- ITS FALSE NEIGHBOUR: 'it returns false'. Refute it at one input. -/
def fnExactLoadCellWrong : ChangeSpec := { name := "fnExactLoadCell", fn := fun _ => fun
  | [d1, d2] => { results := [.lit (.bool false)], args := [d1, d2] }
  | _ => none }
def FnExactLoadCellWrongFalsely : Prop := fnExactLoadCellRow.holds Try.pinned (OpenSpec.ofChange fnExactLoadCellWrong)

/-- 'laws.FnExactUnmarked': WHATEVER THE INPUT: true; the input reads as it did. -/
def fnExactUnmarkedSpec : ChangeSpec := { name := "fnExactUnmarked", fn := fun _ => fun
  | [d] => { results := [.lit (.bool true)], args := [d] }
  | _ => none }
def fnExactUnmarkedRow : OpenClaim := { program := "ytlbbnepkdhlgmaa", sum := "a9ea892903e83aebfb458a5cfa43479fcc7744645e9258921fb55e1d3fec4481", func := "loop.example/g01628/laws.FnExactUnmarked", spec := "fnExactUnmarked", apart := false }
def FnExactUnmarkedSaid : Prop := fnExactUnmarkedRow.holds Try.pinned (OpenSpec.ofChange fnExactUnmarkedSpec)

/-- ITS FALSE NEIGHBOUR: 'it returns false'. Refute it at one input. -/
def fnExactUnmarkedWrong : ChangeSpec := { name := "fnExactUnmarked", fn := fun _ => fun
  | [d] => { results := [.lit (.bool false)], args := [d] }
  | _ => none }
def FnExactUnmarkedWrongFalsely : Prop := fnExactUnmarkedRow.holds Try.pinned (OpenSpec.ofChange fnExactUnmarkedWrong)

/-- 'laws.FnExactCountDifferences': WHATEVER THE INPUT: true; the input reads as it did. -/
def fnExactCountDifferencesSpec : ChangeSpec := { name := "fnExactCountDifferences", fn := fun _ => fun
  | [d1, d2] => { results := [.lit (.bool true)], args := [d1, d2] }
  | _ => none }
def fnExactCountDifferencesRow : OpenClaim := { program := "ytlbbnepkdhlgmaa", sum := "a9ea892903e83aebfb458a5cfa43479fcc7744645e9258921fb55e1d3fec4481", func := "loop.example/g01628/laws.FnExactCountDifferences", spec := "fnExactCountDifferences", apart := false }
def FnExactCountDifferencesSaid : Prop := fnExactCountDifferencesRow.holds Try.pinned (OpenSpec.ofChange fnExactCountDifferencesSpec)

/-- ITS FALSE NEIGHBOUR: 'it returns false'. Refute it at one input. -/
def fnExactCountDifferencesWrong : ChangeSpec := { name := "fnExactCountDifferences", fn := fun _ => fun
  | [d1, d2] => { results := [.lit (.bool false)], args := [d1, d2] }
  | _ => none }
def FnExactCountDifferencesWrongFalsely : Prop := fnExactCountDifferencesRow.holds Try.pinned (OpenSpec.ofChange fnExactCountDifferencesWrong)

/- THE SECOND FORM. 'bulk': how many values and letters a reading holds, each counted each time it is reached (what is shared counts as often as it is met; a slice's spare places count too). A statement '..UptoSaid' is the law's where the arguments, and the package variables that the reading takes, are together of bulk at most 1048576: NARROWER than '..Said'. Prove '..Said' where nothing that the law and all that it calls make is longer than what came in: it says more and counts as full. Else prove '..UptoSaid'. A law counts once. -/
mutual
def uptoBulk {H : Type} : DataW H → Nat
  | .lit (.string bytes) => bytes.length + 1
  | .lit _ => 1
  | .nil => 1
  | .ptr d => uptoBulk d + 1
  | .slice elems spare => uptoBulkAll elems + uptoBulkAll spare + 1
  | .agg parts => uptoBulkAll parts + 1
  | .iface _ d => uptoBulk d + 1
  | .map entries => uptoBulkEntries entries + 1
  | .held _ => 1
def uptoBulkAll {H : Type} : List (DataW H) → Nat
  | [] => 0
  | d :: r => uptoBulk d + uptoBulkAll r
def uptoBulkEntries {H : Type} : List (Lit × DataW H) → Nat
  | [] => 0
  | x :: r => uptoBulkEntry x + uptoBulkEntries r
def uptoBulkEntry {H : Type} : Lit × DataW H → Nat
  | (.string bytes, d) => bytes.length + uptoBulk d + 1
  | (_, d) => uptoBulk d + 1
 end
def uptoSmall : (H : Type) → List (DataW H) → Bool := fun _ ds => decide (uptoBulkAll ds ≤ 1048576)
def OpenSpec.upto (s : _root_.Go.ChangeSpec) : _root_.Go.OpenSpec := { _root_.Go.OpenSpec.ofChange s with cond := some uptoSmall }

/-- 'laws.FnExactIndexOf', WHERE WHAT IT READS IS OF BULK AT MOST 1048576: true; the input reads as it did. -/
def fnExactIndexOfUptoRow : OpenClaim := { program := "ytlbbnepkdhlgmaa", sum := "a9ea892903e83aebfb458a5cfa43479fcc7744645e9258921fb55e1d3fec4481", func := "loop.example/g01628/laws.FnExactIndexOf", spec := "fnExactIndexOf", apart := false, narrowed := true }
def FnExactIndexOfUptoSaid : Prop := fnExactIndexOfUptoRow.holds Try.pinned (OpenSpec.upto fnExactIndexOfSpec)

/-- 'laws.FnExactEncodeFixed', WHERE WHAT IT READS IS OF BULK AT MOST 1048576: true; the input reads as it did. -/
def fnExactEncodeFixedUptoRow : OpenClaim := { program := "ytlbbnepkdhlgmaa", sum := "a9ea892903e83aebfb458a5cfa43479fcc7744645e9258921fb55e1d3fec4481", func := "loop.example/g01628/laws.FnExactEncodeFixed", spec := "fnExactEncodeFixed", apart := false, narrowed := true }
def FnExactEncodeFixedUptoSaid : Prop := fnExactEncodeFixedUptoRow.holds Try.pinned (OpenSpec.upto fnExactEncodeFixedSpec)

/-- 'laws.FnExactMarked', WHERE WHAT IT READS IS OF BULK AT MOST 1048576: true; the input reads as it did. -/
def fnExactMarkedUptoRow : OpenClaim := { program := "ytlbbnepkdhlgmaa", sum := "a9ea892903e83aebfb458a5cfa43479fcc7744645e9258921fb55e1d3fec4481", func := "loop.example/g01628/laws.FnExactMarked", spec := "fnExactMarked", apart := false, narrowed := true }
def FnExactMarkedUptoSaid : Prop := fnExactMarkedUptoRow.holds Try.pinned (OpenSpec.upto fnExactMarkedSpec)

/-- 'laws.FnExactAnnounceCell', WHERE WHAT IT READS IS OF BULK AT MOST 1048576: true; the input reads as it did. -/
def fnExactAnnounceCellUptoRow : OpenClaim := { program := "ytlbbnepkdhlgmaa", sum := "a9ea892903e83aebfb458a5cfa43479fcc7744645e9258921fb55e1d3fec4481", func := "loop.example/g01628/laws.FnExactAnnounceCell", spec := "fnExactAnnounceCell", apart := false, narrowed := true }
def FnExactAnnounceCellUptoSaid : Prop := fnExactAnnounceCellUptoRow.holds Try.pinned (OpenSpec.upto fnExactAnnounceCellSpec)

/-- 'laws.FnExactCellCount', WHERE WHAT IT READS IS OF BULK AT MOST 1048576: true; the input reads as it did. -/
def fnExactCellCountUptoRow : OpenClaim := { program := "ytlbbnepkdhlgmaa", sum := "a9ea892903e83aebfb458a5cfa43479fcc7744645e9258921fb55e1d3fec4481", func := "loop.example/g01628/laws.FnExactCellCount", spec := "fnExactCellCount", apart := false, narrowed := true }
def FnExactCellCountUptoSaid : Prop := fnExactCellCountUptoRow.holds Try.pinned (OpenSpec.upto fnExactCellCountSpec)

/-- 'laws.FnExactHazardCell', WHERE WHAT IT READS IS OF BULK AT MOST 1048576: true; the input reads as it did. -/
def fnExactHazardCellUptoRow : OpenClaim := { program := "ytlbbnepkdhlgmaa", sum := "a9ea892903e83aebfb458a5cfa43479fcc7744645e9258921fb55e1d3fec4481", func := "loop.example/g01628/laws.FnExactHazardCell", spec := "fnExactHazardCell", apart := false, narrowed := true }
def FnExactHazardCellUptoSaid : Prop := fnExactHazardCellUptoRow.holds Try.pinned (OpenSpec.upto fnExactHazardCellSpec)

/-- 'laws.FnExactHeadCell', WHERE WHAT IT READS IS OF BULK AT MOST 1048576: true; the input reads as it did. -/
def fnExactHeadCellUptoRow : OpenClaim := { program := "ytlbbnepkdhlgmaa", sum := "a9ea892903e83aebfb458a5cfa43479fcc7744645e9258921fb55e1d3fec4481", func := "loop.example/g01628/laws.FnExactHeadCell", spec := "fnExactHeadCell", apart := false, narrowed := true }
def FnExactHeadCellUptoSaid : Prop := fnExactHeadCellUptoRow.holds Try.pinned (OpenSpec.upto fnExactHeadCellSpec)

/-- 'laws.FnExactNodeCell', WHERE WHAT IT READS IS OF BULK AT MOST 1048576: true; the input reads as it did. -/
def fnExactNodeCellUptoRow : OpenClaim := { program := "ytlbbnepkdhlgmaa", sum := "a9ea892903e83aebfb458a5cfa43479fcc7744645e9258921fb55e1d3fec4481", func := "loop.example/g01628/laws.FnExactNodeCell", spec := "fnExactNodeCell", apart := false, narrowed := true }
def FnExactNodeCellUptoSaid : Prop := fnExactNodeCellUptoRow.holds Try.pinned (OpenSpec.upto fnExactNodeCellSpec)

/-- 'laws.FnExactIsOp', WHERE WHAT IT READS IS OF BULK AT MOST 1048576: true; the input reads as it did. -/
def fnExactIsOpUptoRow : OpenClaim := { program := "ytlbbnepkdhlgmaa", sum := "a9ea892903e83aebfb458a5cfa43479fcc7744645e9258921fb55e1d3fec4481", func := "loop.example/g01628/laws.FnExactIsOp", spec := "fnExactIsOp", apart := false, narrowed := true }
def FnExactIsOpUptoSaid : Prop := fnExactIsOpUptoRow.holds Try.pinned (OpenSpec.upto fnExactIsOpSpec)

/-- 'laws.FnExactLoadCell', WHERE WHAT IT READS IS OF BULK AT MOST 1048576: true; the input reads as it did. -/
def fnExactLoadCellUptoRow : OpenClaim := { program := "ytlbbnepkdhlgmaa", sum := "a9ea892903e83aebfb458a5cfa43479fcc7744645e9258921fb55e1d3fec4481", func := "loop.example/g01628/laws.FnExactLoadCell", spec := "fnExactLoadCell", apart := false, narrowed := true }
def FnExactLoadCellUptoSaid : Prop := fnExactLoadCellUptoRow.holds Try.pinned (OpenSpec.upto fnExactLoadCellSpec)

/-- 'laws.FnExactUnmarked', WHERE WHAT IT READS IS OF BULK AT MOST 1048576: true; the input reads as it did. -/
def fnExactUnmarkedUptoRow : OpenClaim := { program := "ytlbbnepkdhlgmaa", sum := "a9ea892903e83aebfb458a5cfa43479fcc7744645e9258921fb55e1d3fec4481", func := "loop.example/g01628/laws.FnExactUnmarked", spec := "fnExactUnmarked", apart := false, narrowed := true }
def FnExactUnmarkedUptoSaid : Prop := fnExactUnmarkedUptoRow.holds Try.pinned (OpenSpec.upto fnExactUnmarkedSpec)

/-- 'laws.FnExactCountDifferences', WHERE WHAT IT READS IS OF BULK AT MOST 1048576: true; the input reads as it did. -/
def fnExactCountDifferencesUptoRow : OpenClaim := { program := "ytlbbnepkdhlgmaa", sum := "a9ea892903e83aebfb458a5cfa43479fcc7744645e9258921fb55e1d3fec4481", func := "loop.example/g01628/laws.FnExactCountDifferences", spec := "fnExactCountDifferences", apart := false, narrowed := true }
def FnExactCountDifferencesUptoSaid : Prop := fnExactCountDifferencesUptoRow.holds Try.pinned (OpenSpec.upto fnExactCountDifferencesSpec)

end Rows
end Go.Proofs.Ytlbbnepkdhlgmaa
