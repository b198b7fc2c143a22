/-
  No cell of these rows narrows 'for every input' (looked for: loops, veiled, ifaces, maps, wideKeys, modest, calm, conditions, laid).
  DERIVED. THE GIVEN ROWS OF THIS SEAT. 12 by the template 'for every input the law returns true; each argument reads behind the call as it read before'; 0 by the template 'total and deterministic' (their statements: YtpemnidfncodoaaTotals.lean).
  GIVEN WITH THE SEED: the statements are not yours to turn. If you find one false, say at which input.
  Laid BY PROGRAM, IN A SANDBOX (cutbox-rows.mjs): the forced cells as the released guide's own fill.sh prints them over the translation e90338332e2964b3… (all of the seat's roots in one cut). By AI agents, Wed Nov 11 2026. No macro, syntax, notation, axiom, sorry.
-/
import Derived.Test.YtpemnidfncodoaaChecked
import GoSem.Claim
import GoSem.ClaimJoined
import GoSem.ClaimMapViews
import Derived.JoinedTies
import Derived.KernelRfl
namespace Go.Proofs.Ytpemnidfncodoaa
/- THE CELL 'sum', in the pinned program and in every row, IS THE sha256 OF THE DUMP (.gsa) THAT YtpemnidfncodoaaProg.lean LOADS. Nothing in Lean hashes anything: it is a label: what it is worth is what the hold of that sum in a sandbox is worth. -/
noncomputable def Try.pinned : Pinned := { name := "ytpemnidfncodoaa", sum := "e90338332e2964b3ada80345a84dffd280147b54316e794244b197332014c294", checked := Try.checked }
namespace Rows
def none {H : Type} : Left H := { results := [], args := [] }

/-- 'laws.FnExactConstants': WHATEVER THE INPUT: true; the input reads as it did. -/
def fnExactConstantsSpec : ChangeSpec := { name := "fnExactConstants", fn := fun _ => fun
  | [] => { results := [.lit (.bool true)], args := [] }
  | _ => none }
def fnExactConstantsRow : OpenClaim := { program := "ytpemnidfncodoaa", sum := "e90338332e2964b3ada80345a84dffd280147b54316e794244b197332014c294", func := "loop.example/g01628/laws.FnExactConstants", spec := "fnExactConstants", apart := false }
def FnExactConstantsSaid : Prop := fnExactConstantsRow.holds Try.pinned (OpenSpec.ofChange fnExactConstantsSpec)

/-- ITS FALSE NEIGHBOUR: 'it returns false'. Refute it at one input. -/
def fnExactConstantsWrong : ChangeSpec := { name := "fnExactConstants", fn := fun _ => fun
  | [] => { results := [.lit (.bool false)], args := [] }
  | _ => none }
def FnExactConstantsWrongFalsely : Prop := fnExactConstantsRow.holds Try.pinned (OpenSpec.ofChange fnExactConstantsWrong)

/-- 'laws.FnExactArenaCell': WHATEVER THE INPUT: true; the input reads as it did. -/
def fnExactArenaCellSpec : ChangeSpec := { name := "fnExactArenaCell", fn := fun _ => fun
  | [] => { results := [.lit (.bool true)], args := [] }
  | _ => none }
def fnExactArenaCellRow : OpenClaim := { program := "ytpemnidfncodoaa", sum := "e90338332e2964b3ada80345a84dffd280147b54316e794244b197332014c294", func := "loop.example/g01628/laws.FnExactArenaCell", spec := "fnExactArenaCell", apart := false }
def FnExactArenaCellSaid : Prop := fnExactArenaCellRow.holds Try.pinned (OpenSpec.ofChange fnExactArenaCellSpec)

/-- ITS FALSE NEIGHBOUR: 'it returns false'. Refute it at one input. -/
def fnExactArenaCellWrong : ChangeSpec := { name := "fnExactArenaCell", fn := fun _ => fun
  | [] => { results := [.lit (.bool false)], args := [] }
  | _ => none }
def FnExactArenaCellWrongFalsely : Prop := fnExactArenaCellRow.holds Try.pinned (OpenSpec.ofChange fnExactArenaCellWrong)

/-- 'laws.FnExactMakeHandle': WHATEVER THE INPUT: true; the input reads as it did. -/
def fnExactMakeHandleSpec : ChangeSpec := { name := "fnExactMakeHandle", fn := fun _ => fun
  | [d1, d2] => { results := [.lit (.bool true)], args := [d1, d2] }
  | _ => none }
def fnExactMakeHandleRow : OpenClaim := { program := "ytpemnidfncodoaa", sum := "e90338332e2964b3ada80345a84dffd280147b54316e794244b197332014c294", func := "loop.example/g01628/laws.FnExactMakeHandle", spec := "fnExactMakeHandle", apart := false }
def FnExactMakeHandleSaid : Prop := fnExactMakeHandleRow.holds Try.pinned (OpenSpec.ofChange fnExactMakeHandleSpec)

/-- ITS FALSE NEIGHBOUR: 'it returns false'. Refute it at one input. -/
def fnExactMakeHandleWrong : ChangeSpec := { name := "fnExactMakeHandle", fn := fun _ => fun
  | [d1, d2] => { results := [.lit (.bool false)], args := [d1, d2] }
  | _ => none }
def FnExactMakeHandleWrongFalsely : Prop := fnExactMakeHandleRow.holds Try.pinned (OpenSpec.ofChange fnExactMakeHandleWrong)

/-- 'laws.FnExactEncodeHex': WHATEVER THE INPUT: true; the input reads as it did. -/
def fnExactEncodeHexSpec : ChangeSpec := { name := "fnExactEncodeHex", fn := fun _ => fun
  | [d] => { results := [.lit (.bool true)], args := [d] }
  | _ => none }
def fnExactEncodeHexRow : OpenClaim := { program := "ytpemnidfncodoaa", sum := "e90338332e2964b3ada80345a84dffd280147b54316e794244b197332014c294", func := "loop.example/g01628/laws.FnExactEncodeHex", spec := "fnExactEncodeHex", apart := false }
def FnExactEncodeHexSaid : Prop := fnExactEncodeHexRow.holds Try.pinned (OpenSpec.ofChange fnExactEncodeHexSpec)

/-- ITS FALSE NEIGHBOUR: 'it returns false'. Refute it at one input. -/
def fnExactEncodeHexWrong : ChangeSpec := { name := "fnExactEncodeHex", fn := fun _ => fun
  | [d] => { results := [.lit (.bool false)], args := [d] }
  | _ => none }
def FnExactEncodeHexWrongFalsely : Prop := fnExactEncodeHexRow.holds Try.pinned (OpenSpec.ofChange fnExactEncodeHexWrong)

/-- 'laws.FnExactCodeName': WHATEVER THE INPUT: true; the input reads as it did. -/
def fnExactCodeNameSpec : ChangeSpec := { name := "fnExactCodeName", fn := fun _ => fun
  | [d] => { results := [.lit (.bool true)], args := [d] }
  | _ => none }
def fnExactCodeNameRow : OpenClaim := { program := "ytpemnidfncodoaa", sum := "e90338332e2964b3ada80345a84dffd280147b54316e794244b197332014c294", func := "loop.example/g01628/laws.FnExactCodeName", spec := "fnExactCodeName", apart := false }
def FnExactCodeNameSaid : Prop := fnExactCodeNameRow.holds Try.pinned (OpenSpec.ofChange fnExactCodeNameSpec)

/-- ITS FALSE NEIGHBOUR: 'it returns false'. Refute it at one input. -/
def fnExactCodeNameWrong : ChangeSpec := { name := "fnExactCodeName", fn := fun _ => fun
  | [d] => { results := [.lit (.bool false)], args := [d] }
  | _ => none }
def FnExactCodeNameWrongFalsely : Prop := fnExactCodeNameRow.holds Try.pinned (OpenSpec.ofChange fnExactCodeNameWrong)

/-- 'laws.FnExactPolicyName': WHATEVER THE INPUT: true; the input reads as it did. -/
def fnExactPolicyNameSpec : ChangeSpec := { name := "fnExactPolicyName", fn := fun _ => fun
  | [d] => { results := [.lit (.bool true)], args := [d] }
  | _ => none }
def fnExactPolicyNameRow : OpenClaim := { program := "ytpemnidfncodoaa", sum := "e90338332e2964b3ada80345a84dffd280147b54316e794244b197332014c294", func := "loop.example/g01628/laws.FnExactPolicyName", spec := "fnExactPolicyName", apart := false }
def FnExactPolicyNameSaid : Prop := fnExactPolicyNameRow.holds Try.pinned (OpenSpec.ofChange fnExactPolicyNameSpec)

/-- ITS FALSE NEIGHBOUR: 'it returns false'. Refute it at one input. -/
def fnExactPolicyNameWrong : ChangeSpec := { name := "fnExactPolicyName", fn := fun _ => fun
  | [d] => { results := [.lit (.bool false)], args := [d] }
  | _ => none }
def FnExactPolicyNameWrongFalsely : Prop := fnExactPolicyNameRow.holds Try.pinned (OpenSpec.ofChange fnExactPolicyNameWrong)

/-- 'laws.FnExactIsHandle': WHATEVER THE INPUT: true; the input reads as it did. -/
def fnExactIsHandleSpec : ChangeSpec := { name := "fnExactIsHandle", fn := fun _ => fun
  | [d] => { results := [.lit (.bool true)], args := [d] }
  | _ => none }
def fnExactIsHandleRow : OpenClaim := { program := "ytpemnidfncodoaa", sum := "e90338332e2964b3ada80345a84dffd280147b54316e794244b197332014c294", func := "loop.example/g01628/laws.FnExactIsHandle", spec := "fnExactIsHandle", apart := false }
def FnExactIsHandleSaid : Prop := fnExactIsHandleRow.holds Try.pinned (OpenSpec.ofChange fnExactIsHandleSpec)

/-- ITS FALSE NEIGHBOUR: 'it returns false'. Refute it at one input. -/
def fnExactIsHandleWrong : ChangeSpec := { name := "fnExactIsHandle", fn := fun _ => fun
  | [d] => { results := [.lit (.bool false)], args := [d] }
  | _ => none }
def FnExactIsHandleWrongFalsely : Prop := fnExactIsHandleRow.holds Try.pinned (OpenSpec.ofChange fnExactIsHandleWrong)

/-- 'laws.FnExactIsConfig': WHATEVER THE INPUT: true; the input reads as it did. -/
def fnExactIsConfigSpec : ChangeSpec := { name := "fnExactIsConfig", fn := fun _ => fun
  | [d] => { results := [.lit (.bool true)], args := [d] }
  | _ => none }
def fnExactIsConfigRow : OpenClaim := { program := "ytpemnidfncodoaa", sum := "e90338332e2964b3ada80345a84dffd280147b54316e794244b197332014c294", func := "loop.example/g01628/laws.FnExactIsConfig", spec := "fnExactIsConfig", apart := false }
def FnExactIsConfigSaid : Prop := fnExactIsConfigRow.holds Try.pinned (OpenSpec.ofChange fnExactIsConfigSpec)

/-- ITS FALSE NEIGHBOUR: 'it returns false'. Refute it at one input. -/
def fnExactIsConfigWrong : ChangeSpec := { name := "fnExactIsConfig", fn := fun _ => fun
  | [d] => { results := [.lit (.bool false)], args := [d] }
  | _ => none }
def FnExactIsConfigWrongFalsely : Prop := fnExactIsConfigRow.holds Try.pinned (OpenSpec.ofChange fnExactIsConfigWrong)

/-- 'laws.FnExactDecodeFixed': WHATEVER THE INPUT: true; the input reads as it did. -/
def fnExactDecodeFixedSpec : ChangeSpec := { name := "fnExactDecodeFixed", fn := fun _ => fun
  | [d1, d2] => { results := [.lit (.bool true)], args := [d1, d2] }
  | _ => none }
def fnExactDecodeFixedRow : OpenClaim := { program := "ytpemnidfncodoaa", sum := "e90338332e2964b3ada80345a84dffd280147b54316e794244b197332014c294", func := "loop.example/g01628/laws.FnExactDecodeFixed", spec := "fnExactDecodeFixed", apart := false }
def FnExactDecodeFixedSaid : Prop := fnExactDecodeFixedRow.holds Try.pinned (OpenSpec.ofChange fnExactDecodeFixedSpec)

/-- ITS FALSE NEIGHBOUR: 'it returns false'. Refute it at one input. -/
def fnExactDecodeFixedWrong : ChangeSpec := { name := "fnExactDecodeFixed", fn := fun _ => fun
  | [d1, d2] => { results := [.lit (.bool false)], args := [d1, d2] }
  | _ => none }
def FnExactDecodeFixedWrongFalsely : Prop := fnExactDecodeFixedRow.holds Try.pinned (OpenSpec.ofChange fnExactDecodeFixedWrong)

/-- 'laws.FnExactEncodeVarint': WHATEVER THE INPUT: true; the input reads as it did. -/
def fnExactEncodeVarintSpec : ChangeSpec := { name := "fnExactEncodeVarint", fn := fun _ => fun
  | [d] => { results := [.lit (.bool true)], args := [d] }
  | _ => none }
def fnExactEncodeVarintRow : OpenClaim := { program := "ytpemnidfncodoaa", sum := "e90338332e2964b3ada80345a84dffd280147b54316e794244b197332014c294", func := "loop.example/g01628/laws.FnExactEncodeVarint", spec := "fnExactEncodeVarint", apart := false }
def FnExactEncodeVarintSaid : Prop := fnExactEncodeVarintRow.holds Try.pinned (OpenSpec.ofChange fnExactEncodeVarintSpec)

/-- ITS FALSE NEIGHBOUR: 'it returns false'. Refute it at one input. -/
def fnExactEncodeVarintWrong : ChangeSpec := { name := "fnExactEncodeVarint", fn := fun _ => fun
  | [d] => { results := [.lit (.bool false)], args := [d] }
  | _ => none }
def FnExactEncodeVarintWrongFalsely : Prop := fnExactEncodeVarintRow.holds Try.pinned (OpenSpec.ofChange fnExactEncodeVarintWrong)

/-- 'laws.FnExactIsMarked': WHATEVER THE INPUT: true; the input reads as it did. -/
def fnExactIsMarkedSpec : ChangeSpec := { name := "fnExactIsMarked", fn := fun _ => fun
  | [d] => { results := [.lit (.bool true)], args := [d] }
  | _ => none }
def fnExactIsMarkedRow : OpenClaim := { program := "ytpemnidfncodoaa", sum := "e90338332e2964b3ada80345a84dffd280147b54316e794244b197332014c294", func := "loop.example/g01628/laws.FnExactIsMarked", spec := "fnExactIsMarked", apart := false }
def FnExactIsMarkedSaid : Prop := fnExactIsMarkedRow.holds Try.pinned (OpenSpec.ofChange fnExactIsMarkedSpec)

/-- ITS FALSE NEIGHBOUR: 'it returns false'. Refute it at one input. -/
def fnExactIsMarkedWrong : ChangeSpec := { name := "fnExactIsMarked", fn := fun _ => fun
  | [d] => { results := [.lit (.bool false)], args := [d] }
  | _ => none }
def FnExactIsMarkedWrongFalsely : Prop := fnExactIsMarkedRow.holds Try.pinned (OpenSpec.ofChange fnExactIsMarkedWrong)

/-- 'laws.FnExactGenerationOf': WHATEVER THE INPUT: true; the input reads as it did. -/
def fnExactGenerationOfSpec : ChangeSpec := { name := "fnExactGenerationOf", fn := fun _ => fun
  | [d] => { results := [.lit (.bool true)], args := [d] }
  | _ => none }
def fnExactGenerationOfRow : OpenClaim := { program := "ytpemnidfncodoaa", sum := "e90338332e2964b3ada80345a84dffd280147b54316e794244b197332014c294", func := "loop.example/g01628/laws.FnExactGenerationOf", spec := "fnExactGenerationOf", apart := false }
def FnExactGenerationOfSaid : Prop := fnExactGenerationOfRow.holds Try.pinned (OpenSpec.ofChange fnExactGenerationOfSpec)

/-- ITS FALSE NEIGHBOUR: 'it returns false'. Refute it at one input. -/
def fnExactGenerationOfWrong : ChangeSpec := { name := "fnExactGenerationOf", fn := fun _ => fun
  | [d] => { results := [.lit (.bool false)], args := [d] }
  | _ => none }
def FnExactGenerationOfWrongFalsely : Prop := fnExactGenerationOfRow.holds Try.pinned (OpenSpec.ofChange fnExactGenerationOfWrong)

/- THE SECOND FORM. 'bulk': how many values and letters a reading holds, each counted each time it is reached (what is shared counts as often as it is met; a slice's spare places count too). A statement '..UptoSaid' is the law's where the arguments, and the package variables that the reading takes, are together of bulk at most 1048576: NARROWER than '..Said'. Prove '..Said' where nothing that the law and all that it calls make is longer than what came in: it says more and counts as full. Else prove '..UptoSaid'. A law counts once. -/
mutual
def uptoBulk {H : Type} : DataW H → Nat
  | .lit (.string bytes) => bytes.length + 1
  | .lit _ => 1
  | .nil => 1
  | .ptr d => uptoBulk d + 1
  | .slice elems spare => uptoBulkAll elems + uptoBulkAll spare + 1
  | .agg parts => uptoBulkAll parts + 1
  | .iface _ d => uptoBulk d + 1
  | .map entries => uptoBulkEntries entries + 1
  | .held _ => 1
def uptoBulkAll {H : Type} : List (DataW H) → Nat
  | [] => 0
  | d :: r => uptoBulk d + uptoBulkAll r
def uptoBulkEntries {H : Type} : List (Lit × DataW H) → Nat
  | [] => 0
  | x :: r => uptoBulkEntry x + uptoBulkEntries r
def uptoBulkEntry {H : Type} : Lit × DataW H → Nat
  | (.string bytes, d) => bytes.length + uptoBulk d + 1
  | (_, d) => uptoBulk d + 1
 end
def uptoSmall : (H : Type) → List (DataW H) → Bool := fun _ ds => decide (uptoBulkAll ds ≤ 1048576)
def OpenSpec.upto (s : _root_.Go.ChangeSpec) : _root_.Go.OpenSpec := { _root_.Go.OpenSpec.ofChange s with cond := some uptoSmall }

/-- 'laws.FnExactConstants', WHERE WHAT IT READS IS OF BULK AT MOST 1048576: true; the input reads as it did. -/
def fnExactConstantsUptoRow : OpenClaim := { program := "ytpemnidfncodoaa", sum := "e90338332e2964b3ada80345a84dffd280147b54316e794244b197332014c294", func := "loop.example/g01628/laws.FnExactConstants", spec := "fnExactConstants", apart := false, narrowed := true }
def FnExactConstantsUptoSaid : Prop := fnExactConstantsUptoRow.holds Try.pinned (OpenSpec.upto fnExactConstantsSpec)

/-- 'laws.FnExactArenaCell', WHERE WHAT IT READS IS OF BULK AT MOST 1048576: true; the input reads as it did. -/
def fnExactArenaCellUptoRow : OpenClaim := { program := "ytpemnidfncodoaa", sum := "e90338332e2964b3ada80345a84dffd280147b54316e794244b197332014c294", func := "loop.example/g01628/laws.FnExactArenaCell", spec := "fnExactArenaCell", apart := false, narrowed := true }
def FnExactArenaCellUptoSaid : Prop := fnExactArenaCellUptoRow.holds Try.pinned (OpenSpec.upto fnExactArenaCellSpec)

/-- 'laws.FnExactMakeHandle', WHERE WHAT IT READS IS OF BULK AT MOST 1048576: true; the input reads as it did. -/
def fnExactMakeHandleUptoRow : OpenClaim := { program := "ytpemnidfncodoaa", sum := "e90338332e2964b3ada80345a84dffd280147b54316e794244b197332014c294", func := "loop.example/g01628/laws.FnExactMakeHandle", spec := "fnExactMakeHandle", apart := false, narrowed := true }
def FnExactMakeHandleUptoSaid : Prop := fnExactMakeHandleUptoRow.holds Try.pinned (OpenSpec.upto fnExactMakeHandleSpec)

/-- 'laws.FnExactEncodeHex', WHERE WHAT IT READS IS OF BULK AT MOST 1048576: true; the input reads as it did. -/
def fnExactEncodeHexUptoRow : OpenClaim := { program := "ytpemnidfncodoaa", sum := "e90338332e2964b3ada80345a84dffd280147b54316e794244b197332014c294", func := "loop.example/g01628/laws.FnExactEncodeHex", spec := "fnExactEncodeHex", apart := false, narrowed := true }
def FnExactEncodeHexUptoSaid : Prop := fnExactEncodeHexUptoRow.holds Try.pinned (OpenSpec.upto fnExactEncodeHexSpec)

/-- 'laws.FnExactCodeName', WHERE WHAT IT READS IS OF BULK AT MOST 1048576: true; the input reads as it did. -/
def fnExactCodeNameUptoRow : OpenClaim := { program := "ytpemnidfncodoaa", sum := "e90338332e2964b3ada80345a84dffd280147b54316e794244b197332014c294", func := "loop.example/g01628/laws.FnExactCodeName", spec := "fnExactCodeName", apart := false, narrowed := true }
def FnExactCodeNameUptoSaid : Prop := fnExactCodeNameUptoRow.holds Try.pinned (OpenSpec.upto fnExactCodeNameSpec)

/-- 'laws.FnExactPolicyName', WHERE WHAT IT READS IS OF BULK AT MOST 1048576: true; the input reads as it did. -/
def fnExactPolicyNameUptoRow : OpenClaim := { program := "ytpemnidfncodoaa", sum := "e90338332e2964b3ada80345a84dffd280147b54316e794244b197332014c294", func := "loop.example/g01628/laws.FnExactPolicyName", spec := "fnExactPolicyName", apart := false, narrowed := true }
def FnExactPolicyNameUptoSaid : Prop := fnExactPolicyNameUptoRow.holds Try.pinned (OpenSpec.upto fnExactPolicyNameSpec)

/-- 'laws.FnExactIsHandle', WHERE WHAT IT READS IS OF BULK AT MOST 1048576: true; the input reads as it did. -/
def fnExactIsHandleUptoRow : OpenClaim := { program := "ytpemnidfncodoaa", sum := "e90338332e2964b3ada80345a84dffd280147b54316e794244b197332014c294", func := "loop.example/g01628/laws.FnExactIsHandle", spec := "fnExactIsHandle", apart := false, narrowed := true }
def FnExactIsHandleUptoSaid : Prop := fnExactIsHandleUptoRow.holds Try.pinned (OpenSpec.upto fnExactIsHandleSpec)

/-- 'laws.FnExactIsConfig', WHERE WHAT IT READS IS OF BULK AT MOST 1048576: true; the input reads as it did. -/
def fnExactIsConfigUptoRow : OpenClaim := { program := "ytpemnidfncodoaa", sum := "e90338332e2964b3ada80345a84dffd280147b54316e794244b197332014c294", func := "loop.example/g01628/laws.FnExactIsConfig", spec := "fnExactIsConfig", apart := false, narrowed := true }
def FnExactIsConfigUptoSaid : Prop := fnExactIsConfigUptoRow.holds Try.pinned (OpenSpec.upto fnExactIsConfigSpec)

/-- 'laws.FnExactDecodeFixed', WHERE WHAT IT READS IS OF BULK AT MOST 1048576: true; the input reads as it did. -/
def fnExactDecodeFixedUptoRow : OpenClaim := { program := "ytpemnidfncodoaa", sum := "e90338332e2964b3ada80345a84dffd280147b54316e794244b197332014c294", func := "loop.example/g01628/laws.FnExactDecodeFixed", spec := "fnExactDecodeFixed", apart := false, narrowed := true }
def FnExactDecodeFixedUptoSaid : Prop := fnExactDecodeFixedUptoRow.holds Try.pinned (OpenSpec.upto fnExactDecodeFixedSpec)

/-- 'laws.FnExactEncodeVarint', WHERE WHAT IT READS IS OF BULK AT MOST 1048576: true; the input reads as it did. -/
def fnExactEncodeVarintUptoRow : OpenClaim := { program := "ytpemnidfncodoaa", sum := "e90338332e2964b3ada80345a84dffd280147b54316e794244b197332014c294", func := "loop.example/g01628/laws.FnExactEncodeVarint", spec := "fnExactEncodeVarint", apart := false, narrowed := true }
def FnExactEncodeVarintUptoSaid : Prop := fnExactEncodeVarintUptoRow.holds Try.pinned (OpenSpec.upto fnExactEncodeVarintSpec)

/-- 'laws.FnExactIsMarked', WHERE WHAT IT READS IS OF BULK AT MOST 1048576: true; the input reads as it did. -/
def fnExactIsMarkedUptoRow : OpenClaim := { program := "ytpemnidfncodoaa", sum := "e90338332e2964b3ada80345a84dffd280147b54316e794244b197332014c294", func := "loop.example/g01628/laws.FnExactIsMarked", spec := "fnExactIsMarked", apart := false, narrowed := true }
def FnExactIsMarkedUptoSaid : Prop := fnExactIsMarkedUptoRow.holds Try.pinned (OpenSpec.upto fnExactIsMarkedSpec)

/-- 'laws.FnExactGenerationOf', WHERE WHAT IT READS IS OF BULK AT MOST 1048576: true; the input reads as it did. -/
def fnExactGenerationOfUptoRow : OpenClaim := { program := "ytpemnidfncodoaa", sum := "e90338332e2964b3ada80345a84dffd280147b54316e794244b197332014c294", func := "loop.example/g01628/laws.FnExactGenerationOf", spec := "fnExactGenerationOf", apart := false, narrowed := true }
def FnExactGenerationOfUptoSaid : Prop := fnExactGenerationOfUptoRow.holds Try.pinned (OpenSpec.upto fnExactGenerationOfSpec)

end Rows
end Go.Proofs.Ytpemnidfncodoaa
