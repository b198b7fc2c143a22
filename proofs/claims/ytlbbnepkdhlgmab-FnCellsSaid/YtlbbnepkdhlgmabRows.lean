/-
  No cell of these rows narrows 'for every input' (looked for: loops, veiled, ifaces, maps, wideKeys, modest, calm, conditions, laid).
  DERIVED. THE GIVEN ROWS OF THIS SEAT. 12 by the template 'for every input the law returns true; each argument reads behind the call as it read before'; 0 by the template 'total and deterministic' (their statements: YtlbbnepkdhlgmabTotals.lean).
  GIVEN WITH THE SEED: the statements are not yours to turn. If you find one false, say at which input.
  Laid BY PROGRAM, IN A SANDBOX (cutbox-rows.mjs): the forced cells as the released guide's own fill.sh prints them over the translation 33da6bd1f4b9872e… (all of the seat's roots in one cut). By AI agents, Wed Nov 11 2026. No macro, syntax, notation, axiom, sorry.
-/
import Derived.Test.YtlbbnepkdhlgmabChecked
import GoSem.Claim
import GoSem.ClaimJoined
import GoSem.ClaimMapViews
import Derived.JoinedTies
import Derived.KernelRfl
namespace Go.Proofs.Ytlbbnepkdhlgmab
/- THE CELL 'sum', in the pinned program and in every row, IS THE sha256 OF THE DUMP (.gsa) THAT YtlbbnepkdhlgmabProg.lean LOADS. Nothing in Lean hashes anything: it is a label: what it is worth is what the hold of that sum in a sandbox is worth. -/
noncomputable def Try.pinned : Pinned := { name := "ytlbbnepkdhlgmab", sum := "33da6bd1f4b9872ea9fbe169ac58c19a7482eaf135e9561d3ac1447cf0b3bd56", checked := Try.checked }
namespace Rows
def none {H : Type} : Left H := { results := [], args := [] }

/-- 'laws.FnExactIsEntry': WHATEVER THE INPUT: true; the input reads as it did. -/
def fnExactIsEntrySpec : ChangeSpec := { name := "fnExactIsEntry", fn := fun _ => fun
  | [d] => { results := [.lit (.bool true)], args := [d] }
  | _ => none }
def fnExactIsEntryRow : OpenClaim := { program := "ytlbbnepkdhlgmab", sum := "33da6bd1f4b9872ea9fbe169ac58c19a7482eaf135e9561d3ac1447cf0b3bd56", func := "loop.example/g01628/laws.FnExactIsEntry", spec := "fnExactIsEntry", apart := false }
def FnExactIsEntrySaid : Prop := fnExactIsEntryRow.holds Try.pinned (OpenSpec.ofChange fnExactIsEntrySpec)

/-- ITS FALSE NEIGHBOUR: 'it returns false'. Refute it at one input. -/
def fnExactIsEntryWrong : ChangeSpec := { name := "fnExactIsEntry", fn := fun _ => fun
  | [d] => { results := [.lit (.bool false)], args := [d] }
  | _ => none }
def FnExactIsEntryWrongFalsely : Prop := fnExactIsEntryRow.holds Try.pinned (OpenSpec.ofChange fnExactIsEntryWrong)

/-- 'laws.FnExactDecodeHex': WHATEVER THE INPUT: true; the input reads as it did. -/
def fnExactDecodeHexSpec : ChangeSpec := { name := "fnExactDecodeHex", fn := fun _ => fun
  | [d] => { results := [.lit (.bool true)], args := [d] }
  | _ => none }
def fnExactDecodeHexRow : OpenClaim := { program := "ytlbbnepkdhlgmab", sum := "33da6bd1f4b9872ea9fbe169ac58c19a7482eaf135e9561d3ac1447cf0b3bd56", func := "loop.example/g01628/laws.FnExactDecodeHex", spec := "fnExactDecodeHex", inPlace := ["internal/bytealg.IndexByteString"], apart := false }
def FnExactDecodeHexSaid : Prop := fnExactDecodeHexRow.holds Try.pinned (OpenSpec.ofChange fnExactDecodeHexSpec)

/-- ITS FALSE NEIGHBOUR: 'it returns false'. Refute it at one input. -/
def fnExactDecodeHexWrong : ChangeSpec := { name := "fnExactDecodeHex", fn := fun _ => fun
  | [d] => { results := [.lit (.bool false)], args := [d] }
  | _ => none }
def FnExactDecodeHexWrongFalsely : Prop := fnExactDecodeHexRow.holds Try.pinned (OpenSpec.ofChange fnExactDecodeHexWrong)

/-- 'laws.FnExactDecodeVarint': WHATEVER THE INPUT: true; the input reads as it did. -/
def fnExactDecodeVarintSpec : ChangeSpec := { name := "fnExactDecodeVarint", fn := fun _ => fun
  | [d] => { results := [.lit (.bool true)], args := [d] }
  | _ => none }
def fnExactDecodeVarintRow : OpenClaim := { program := "ytlbbnepkdhlgmab", sum := "33da6bd1f4b9872ea9fbe169ac58c19a7482eaf135e9561d3ac1447cf0b3bd56", func := "loop.example/g01628/laws.FnExactDecodeVarint", spec := "fnExactDecodeVarint", apart := false }
def FnExactDecodeVarintSaid : Prop := fnExactDecodeVarintRow.holds Try.pinned (OpenSpec.ofChange fnExactDecodeVarintSpec)

/-- ITS FALSE NEIGHBOUR: 'it returns false'. Refute it at one input. -/
def fnExactDecodeVarintWrong : ChangeSpec := { name := "fnExactDecodeVarint", fn := fun _ => fun
  | [d] => { results := [.lit (.bool false)], args := [d] }
  | _ => none }
def FnExactDecodeVarintWrongFalsely : Prop := fnExactDecodeVarintRow.holds Try.pinned (OpenSpec.ofChange fnExactDecodeVarintWrong)

/-- 'laws.FnExactIsNeeded': WHATEVER THE INPUT: true; the input reads as it did. -/
def fnExactIsNeededSpec : ChangeSpec := { name := "fnExactIsNeeded", fn := fun _ => fun
  | [d1, d2] => { results := [.lit (.bool true)], args := [d1, d2] }
  | _ => none }
def fnExactIsNeededRow : OpenClaim := { program := "ytlbbnepkdhlgmab", sum := "33da6bd1f4b9872ea9fbe169ac58c19a7482eaf135e9561d3ac1447cf0b3bd56", func := "loop.example/g01628/laws.FnExactIsNeeded", spec := "fnExactIsNeeded", unfollowed := true, recurses := true, apart := false }
def FnExactIsNeededSaid : Prop := fnExactIsNeededRow.holds Try.pinned (OpenSpec.ofChange fnExactIsNeededSpec)

/-- ITS FALSE NEIGHBOUR: 'it returns false'. Refute it at one input. -/
def fnExactIsNeededWrong : ChangeSpec := { name := "fnExactIsNeeded", fn := fun _ => fun
  | [d1, d2] => { results := [.lit (.bool false)], args := [d1, d2] }
  | _ => none }
def FnExactIsNeededWrongFalsely : Prop := fnExactIsNeededRow.holds Try.pinned (OpenSpec.ofChange fnExactIsNeededWrong)

/-- 'laws.FnExactIsPast': WHATEVER THE INPUT: true; the input reads as it did. -/
def fnExactIsPastSpec : ChangeSpec := { name := "fnExactIsPast", fn := fun _ => fun
  | [d1, d2] => { results := [.lit (.bool true)], args := [d1, d2] }
  | _ => none }
def fnExactIsPastRow : OpenClaim := { program := "ytlbbnepkdhlgmab", sum := "33da6bd1f4b9872ea9fbe169ac58c19a7482eaf135e9561d3ac1447cf0b3bd56", func := "loop.example/g01628/laws.FnExactIsPast", spec := "fnExactIsPast", unfollowed := true, recurses := true, apart := false }
def FnExactIsPastSaid : Prop := fnExactIsPastRow.holds Try.pinned (OpenSpec.ofChange fnExactIsPastSpec)

/-- ITS FALSE NEIGHBOUR: 'it returns false'. Refute it at one input. -/
def fnExactIsPastWrong : ChangeSpec := { name := "fnExactIsPast", fn := fun _ => fun
  | [d1, d2] => { results := [.lit (.bool false)], args := [d1, d2] }
  | _ => none }
def FnExactIsPastWrongFalsely : Prop := fnExactIsPastRow.holds Try.pinned (OpenSpec.ofChange fnExactIsPastWrong)

/-- 'laws.FnExactStoreCell': WHATEVER THE INPUT: true; the input reads as it did. -/
def fnExactStoreCellSpec : ChangeSpec := { name := "fnExactStoreCell", fn := fun _ => fun
  | [d1, d2, d3] => { results := [.lit (.bool true)], args := [d1, d2, d3] }
  | _ => none }
def fnExactStoreCellRow : OpenClaim := { program := "ytlbbnepkdhlgmab", sum := "33da6bd1f4b9872ea9fbe169ac58c19a7482eaf135e9561d3ac1447cf0b3bd56", func := "loop.example/g01628/laws.FnExactStoreCell", spec := "fnExactStoreCell", apart := false }
def FnExactStoreCellSaid : Prop := fnExactStoreCellRow.holds Try.pinned (OpenSpec.ofChange fnExactStoreCellSpec)

/-- ITS FALSE NEIGHBOUR: 'it returns false'. Refute it at one input. -/
def fnExactStoreCellWrong : ChangeSpec := { name := "fnExactStoreCell", fn := fun _ => fun
  | [d1, d2, d3] => { results := [.lit (.bool false)], args := [d1, d2, d3] }
  | _ => none }
def FnExactStoreCellWrongFalsely : Prop := fnExactStoreCellRow.holds Try.pinned (OpenSpec.ofChange fnExactStoreCellWrong)

/-- 'laws.FnExactSwapCell': WHATEVER THE INPUT: true; the input reads as it did. -/
def fnExactSwapCellSpec : ChangeSpec := { name := "fnExactSwapCell", fn := fun _ => fun
  | [d1, d2, d3, d4] => { results := [.lit (.bool true)], args := [d1, d2, d3, d4] }
  | _ => none }
def fnExactSwapCellRow : OpenClaim := { program := "ytlbbnepkdhlgmab", sum := "33da6bd1f4b9872ea9fbe169ac58c19a7482eaf135e9561d3ac1447cf0b3bd56", func := "loop.example/g01628/laws.FnExactSwapCell", spec := "fnExactSwapCell", apart := false }
def FnExactSwapCellSaid : Prop := fnExactSwapCellRow.holds Try.pinned (OpenSpec.ofChange fnExactSwapCellSpec)

/-- ITS FALSE NEIGHBOUR: 'it returns false'. Refute it at one input. -/
def fnExactSwapCellWrong : ChangeSpec := { name := "fnExactSwapCell", fn := fun _ => fun
  | [d1, d2, d3, d4] => { results := [.lit (.bool false)], args := [d1, d2, d3, d4] }
  | _ => none }
def FnExactSwapCellWrongFalsely : Prop := fnExactSwapCellRow.holds Try.pinned (OpenSpec.ofChange fnExactSwapCellWrong)

/-- 'laws.FnExactNewCells': WHATEVER THE INPUT: true; the input reads as it did. -/
def fnExactNewCellsSpec : ChangeSpec := { name := "fnExactNewCells", fn := fun _ => fun
  | [d] => { results := [.lit (.bool true)], args := [d] }
  | _ => none }
def fnExactNewCellsRow : OpenClaim := { program := "ytlbbnepkdhlgmab", sum := "33da6bd1f4b9872ea9fbe169ac58c19a7482eaf135e9561d3ac1447cf0b3bd56", func := "loop.example/g01628/laws.FnExactNewCells", spec := "fnExactNewCells", apart := false }
def FnExactNewCellsSaid : Prop := fnExactNewCellsRow.holds Try.pinned (OpenSpec.ofChange fnExactNewCellsSpec)

/-- ITS FALSE NEIGHBOUR: 'it returns false'. Refute it at one input. -/
def fnExactNewCellsWrong : ChangeSpec := { name := "fnExactNewCells", fn := fun _ => fun
  | [d] => { results := [.lit (.bool false)], args := [d] }
  | _ => none }
def FnExactNewCellsWrongFalsely : Prop := fnExactNewCellsRow.holds Try.pinned (OpenSpec.ofChange fnExactNewCellsWrong)

/-- 'laws.FnExactPcName': WHATEVER THE INPUT: true; the input reads as it did. -/
def fnExactPcNameSpec : ChangeSpec := { name := "fnExactPcName", fn := fun _ => fun
  | [d] => { results := [.lit (.bool true)], args := [d] }
  | _ => none }
def fnExactPcNameRow : OpenClaim := { program := "ytlbbnepkdhlgmab", sum := "33da6bd1f4b9872ea9fbe169ac58c19a7482eaf135e9561d3ac1447cf0b3bd56", func := "loop.example/g01628/laws.FnExactPcName", spec := "fnExactPcName", apart := false }
def FnExactPcNameSaid : Prop := fnExactPcNameRow.holds Try.pinned (OpenSpec.ofChange fnExactPcNameSpec)

/-- ITS FALSE NEIGHBOUR: 'it returns false'. Refute it at one input. -/
def fnExactPcNameWrong : ChangeSpec := { name := "fnExactPcName", fn := fun _ => fun
  | [d] => { results := [.lit (.bool false)], args := [d] }
  | _ => none }
def FnExactPcNameWrongFalsely : Prop := fnExactPcNameRow.holds Try.pinned (OpenSpec.ofChange fnExactPcNameWrong)

/-- 'laws.FnExactIsPc': WHATEVER THE INPUT: true; the input reads as it did. -/
def fnExactIsPcSpec : ChangeSpec := { name := "fnExactIsPc", fn := fun _ => fun
  | [d] => { results := [.lit (.bool true)], args := [d] }
  | _ => none }
def fnExactIsPcRow : OpenClaim := { program := "ytlbbnepkdhlgmab", sum := "33da6bd1f4b9872ea9fbe169ac58c19a7482eaf135e9561d3ac1447cf0b3bd56", func := "loop.example/g01628/laws.FnExactIsPc", spec := "fnExactIsPc", apart := false }
def FnExactIsPcSaid : Prop := fnExactIsPcRow.holds Try.pinned (OpenSpec.ofChange fnExactIsPcSpec)

/-- ITS FALSE NEIGHBOUR: 'it returns false'. Refute it at one input. -/
def fnExactIsPcWrong : ChangeSpec := { name := "fnExactIsPc", fn := fun _ => fun
  | [d] => { results := [.lit (.bool false)], args := [d] }
  | _ => none }
def FnExactIsPcWrongFalsely : Prop := fnExactIsPcRow.holds Try.pinned (OpenSpec.ofChange fnExactIsPcWrong)

/-- 'laws.FnCells': WHATEVER THE INPUT: true; the input reads as it did. -/
def fnCellsSpec : ChangeSpec := { name := "fnCells", fn := fun _ => fun
  | [d] => { results := [.lit (.bool true)], args := [d] }
  | _ => none }
def fnCellsRow : OpenClaim := { program := "ytlbbnepkdhlgmab", sum := "33da6bd1f4b9872ea9fbe169ac58c19a7482eaf135e9561d3ac1447cf0b3bd56", func := "loop.example/g01628/laws.FnCells", spec := "fnCells", apart := false }
def FnCellsSaid : Prop := fnCellsRow.holds Try.pinned (OpenSpec.ofChange fnCellsSpec)

/-- ITS FALSE NEIGHBOUR: 'it returns false'. Refute it at one input. -/
def fnCellsWrong : ChangeSpec := { name := "fnCells", fn := fun _ => fun
  | [d] => { results := [.lit (.bool false)], args := [d] }
  | _ => none }
def FnCellsWrongFalsely : Prop := fnCellsRow.holds Try.pinned (OpenSpec.ofChange fnCellsWrong)

/-- 'laws.FnExactSplitEntries': WHATEVER THE INPUT: true; the input reads as it did. -/
def fnExactSplitEntriesSpec : ChangeSpec := { name := "fnExactSplitEntries", fn := fun _ => fun
  | [d1, d2, d3, d4] => { results := [.lit (.bool true)], args := [d1, d2, d3, d4] }
  | _ => none }
def fnExactSplitEntriesRow : OpenClaim := { program := "ytlbbnepkdhlgmab", sum := "33da6bd1f4b9872ea9fbe169ac58c19a7482eaf135e9561d3ac1447cf0b3bd56", func := "loop.example/g01628/laws.FnExactSplitEntries", spec := "fnExactSplitEntries", unfollowed := true, recurses := true, apart := false }
def FnExactSplitEntriesSaid : Prop := fnExactSplitEntriesRow.holds Try.pinned (OpenSpec.ofChange fnExactSplitEntriesSpec)

/-- ITS FALSE NEIGHBOUR: 'it returns false'. Refute it at one input. -/
def fnExactSplitEntriesWrong : ChangeSpec := { name := "fnExactSplitEntries", fn := fun _ => fun
  | [d1, d2, d3, d4] => { results := [.lit (.bool false)], args := [d1, d2, d3, d4] }
  | _ => none }
def FnExactSplitEntriesWrongFalsely : Prop := fnExactSplitEntriesRow.holds Try.pinned (OpenSpec.ofChange fnExactSplitEntriesWrong)

/- THE SECOND FORM. 'bulk': how many values and letters a reading holds, each counted each time it is reached (what is shared counts as often as it is met; a slice's spare places count too). A statement '..UptoSaid' is the law's where the arguments, and the package variables that the reading takes, are together of bulk at most 1048576: NARROWER than '..Said'. Prove '..Said' where nothing that the law and all that it calls make is longer than what came in: it says more and counts as full. Else prove '..UptoSaid'. A law counts once. -/
mutual
def uptoBulk {H : Type} : DataW H → Nat
  | .lit (.string bytes) => bytes.length + 1
  | .lit _ => 1
  | .nil => 1
  | .ptr d => uptoBulk d + 1
  | .slice elems spare => uptoBulkAll elems + uptoBulkAll spare + 1
  | .agg parts => uptoBulkAll parts + 1
  | .iface _ d => uptoBulk d + 1
  | .map entries => uptoBulkEntries entries + 1
  | .held _ => 1
def uptoBulkAll {H : Type} : List (DataW H) → Nat
  | [] => 0
  | d :: r => uptoBulk d + uptoBulkAll r
def uptoBulkEntries {H : Type} : List (Lit × DataW H) → Nat
  | [] => 0
  | x :: r => uptoBulkEntry x + uptoBulkEntries r
def uptoBulkEntry {H : Type} : Lit × DataW H → Nat
  | (.string bytes, d) => bytes.length + uptoBulk d + 1
  | (_, d) => uptoBulk d + 1
 end
def uptoSmall : (H : Type) → List (DataW H) → Bool := fun _ ds => decide (uptoBulkAll ds ≤ 1048576)
def OpenSpec.upto (s : _root_.Go.ChangeSpec) : _root_.Go.OpenSpec := { _root_.Go.OpenSpec.ofChange s with cond := some uptoSmall }

/-- 'laws.FnExactIsEntry', WHERE WHAT IT READS IS OF BULK AT MOST 1048576: true; the input reads as it did. -/
def fnExactIsEntryUptoRow : OpenClaim := { program := "ytlbbnepkdhlgmab", sum := "33da6bd1f4b9872ea9fbe169ac58c19a7482eaf135e9561d3ac1447cf0b3bd56", func := "loop.example/g01628/laws.FnExactIsEntry", spec := "fnExactIsEntry", apart := false, narrowed := true }
def FnExactIsEntryUptoSaid : Prop := fnExactIsEntryUptoRow.holds Try.pinned (OpenSpec.upto fnExactIsEntrySpec)

/-- 'laws.FnExactDecodeHex', WHERE WHAT IT READS IS OF BULK AT MOST 1048576: true; the input reads as it did. -/
def fnExactDecodeHexUptoRow : OpenClaim := { program := "ytlbbnepkdhlgmab", sum := "33da6bd1f4b9872ea9fbe169ac58c19a7482eaf135e9561d3ac1447cf0b3bd56", func := "loop.example/g01628/laws.FnExactDecodeHex", spec := "fnExactDecodeHex", inPlace := ["internal/bytealg.IndexByteString"], apart := false, narrowed := true }
def FnExactDecodeHexUptoSaid : Prop := fnExactDecodeHexUptoRow.holds Try.pinned (OpenSpec.upto fnExactDecodeHexSpec)

/-- 'laws.FnExactDecodeVarint', WHERE WHAT IT READS IS OF BULK AT MOST 1048576: true; the input reads as it did. -/
def fnExactDecodeVarintUptoRow : OpenClaim := { program := "ytlbbnepkdhlgmab", sum := "33da6bd1f4b9872ea9fbe169ac58c19a7482eaf135e9561d3ac1447cf0b3bd56", func := "loop.example/g01628/laws.FnExactDecodeVarint", spec := "fnExactDecodeVarint", apart := false, narrowed := true }
def FnExactDecodeVarintUptoSaid : Prop := fnExactDecodeVarintUptoRow.holds Try.pinned (OpenSpec.upto fnExactDecodeVarintSpec)

/-- 'laws.FnExactIsNeeded', WHERE WHAT IT READS IS OF BULK AT MOST 1048576: true; the input reads as it did. -/
def fnExactIsNeededUptoRow : OpenClaim := { program := "ytlbbnepkdhlgmab", sum := "33da6bd1f4b9872ea9fbe169ac58c19a7482eaf135e9561d3ac1447cf0b3bd56", func := "loop.example/g01628/laws.FnExactIsNeeded", spec := "fnExactIsNeeded", unfollowed := true, recurses := true, apart := false, narrowed := true }
def FnExactIsNeededUptoSaid : Prop := fnExactIsNeededUptoRow.holds Try.pinned (OpenSpec.upto fnExactIsNeededSpec)

/-- 'laws.FnExactIsPast', WHERE WHAT IT READS IS OF BULK AT MOST 1048576: true; the input reads as it did. -/
def fnExactIsPastUptoRow : OpenClaim := { program := "ytlbbnepkdhlgmab", sum := "33da6bd1f4b9872ea9fbe169ac58c19a7482eaf135e9561d3ac1447cf0b3bd56", func := "loop.example/g01628/laws.FnExactIsPast", spec := "fnExactIsPast", unfollowed := true, recurses := true, apart := false, narrowed := true }
def FnExactIsPastUptoSaid : Prop := fnExactIsPastUptoRow.holds Try.pinned (OpenSpec.upto fnExactIsPastSpec)

/-- 'laws.FnExactStoreCell', WHERE WHAT IT READS IS OF BULK AT MOST 1048576: true; the input reads as it did. -/
def fnExactStoreCellUptoRow : OpenClaim := { program := "ytlbbnepkdhlgmab", sum := "33da6bd1f4b9872ea9fbe169ac58c19a7482eaf135e9561d3ac1447cf0b3bd56", func := "loop.example/g01628/laws.FnExactStoreCell", spec := "fnExactStoreCell", apart := false, narrowed := true }
def FnExactStoreCellUptoSaid : Prop := fnExactStoreCellUptoRow.holds Try.pinned (OpenSpec.upto fnExactStoreCellSpec)

/-- 'laws.FnExactSwapCell', WHERE WHAT IT READS IS OF BULK AT MOST 1048576: true; the input reads as it did. -/
def fnExactSwapCellUptoRow : OpenClaim := { program := "ytlbbnepkdhlgmab", sum := "33da6bd1f4b9872ea9fbe169ac58c19a7482eaf135e9561d3ac1447cf0b3bd56", func := "loop.example/g01628/laws.FnExactSwapCell", spec := "fnExactSwapCell", apart := false, narrowed := true }
def FnExactSwapCellUptoSaid : Prop := fnExactSwapCellUptoRow.holds Try.pinned (OpenSpec.upto fnExactSwapCellSpec)

/-- 'laws.FnExactNewCells', WHERE WHAT IT READS IS OF BULK AT MOST 1048576: true; the input reads as it did. -/
def fnExactNewCellsUptoRow : OpenClaim := { program := "ytlbbnepkdhlgmab", sum := "33da6bd1f4b9872ea9fbe169ac58c19a7482eaf135e9561d3ac1447cf0b3bd56", func := "loop.example/g01628/laws.FnExactNewCells", spec := "fnExactNewCells", apart := false, narrowed := true }
def FnExactNewCellsUptoSaid : Prop := fnExactNewCellsUptoRow.holds Try.pinned (OpenSpec.upto fnExactNewCellsSpec)

/-- 'laws.FnExactPcName', WHERE WHAT IT READS IS OF BULK AT MOST 1048576: true; the input reads as it did. -/
def fnExactPcNameUptoRow : OpenClaim := { program := "ytlbbnepkdhlgmab", sum := "33da6bd1f4b9872ea9fbe169ac58c19a7482eaf135e9561d3ac1447cf0b3bd56", func := "loop.example/g01628/laws.FnExactPcName", spec := "fnExactPcName", apart := false, narrowed := true }
def FnExactPcNameUptoSaid : Prop := fnExactPcNameUptoRow.holds Try.pinned (OpenSpec.upto fnExactPcNameSpec)

/-- 'laws.FnExactIsPc', WHERE WHAT IT READS IS OF BULK AT MOST 1048576: true; the input reads as it did. -/
def fnExactIsPcUptoRow : OpenClaim := { program := "ytlbbnepkdhlgmab", sum := "33da6bd1f4b9872ea9fbe169ac58c19a7482eaf135e9561d3ac1447cf0b3bd56", func := "loop.example/g01628/laws.FnExactIsPc", spec := "fnExactIsPc", apart := false, narrowed := true }
def FnExactIsPcUptoSaid : Prop := fnExactIsPcUptoRow.holds Try.pinned (OpenSpec.upto fnExactIsPcSpec)

/-- 'laws.FnCells', WHERE WHAT IT READS IS OF BULK AT MOST 1048576: true; the input reads as it did. -/
def fnCellsUptoRow : OpenClaim := { program := "ytlbbnepkdhlgmab", sum := "33da6bd1f4b9872ea9fbe169ac58c19a7482eaf135e9561d3ac1447cf0b3bd56", func := "loop.example/g01628/laws.FnCells", spec := "fnCells", apart := false, narrowed := true }
def FnCellsUptoSaid : Prop := fnCellsUptoRow.holds Try.pinned (OpenSpec.upto fnCellsSpec)

/-- 'laws.FnExactSplitEntries', WHERE WHAT IT READS IS OF BULK AT MOST 1048576: true; the input reads as it did. -/
def fnExactSplitEntriesUptoRow : OpenClaim := { program := "ytlbbnepkdhlgmab", sum := "33da6bd1f4b9872ea9fbe169ac58c19a7482eaf135e9561d3ac1447cf0b3bd56", func := "loop.example/g01628/laws.FnExactSplitEntries", spec := "fnExactSplitEntries", unfollowed := true, recurses := true, apart := false, narrowed := true }
def FnExactSplitEntriesUptoSaid : Prop := fnExactSplitEntriesUptoRow.holds Try.pinned (OpenSpec.upto fnExactSplitEntriesSpec)

end Rows
end Go.Proofs.Ytlbbnepkdhlgmab
