/-
  NARROWER THAN 'FOR EVERY INPUT', by the rows' own cells (each row's printed sentence says how): FnExactFormatInt: laid · FnExactFormatResult: laid · FnExactFormatOp: laid · FnExactFormatHandle: laid · FnExactFormatEntry: laid · FnExactFormatConfig: laid · FnExactFormatProgram: laid · FnExactFormatThread: laid · FnEntries: laid.
  DERIVED. THE GIVEN ROWS OF THIS SEAT. 9 by the template 'for every input the law returns true; each argument reads behind the call as it read before'; 0 by the template 'total and deterministic' (their statements: YtbenihcaleiacaaDoorTotals.lean).
  GIVEN WITH THE SEED: the statements are not yours to turn. If you find one false, say at which input.
  Laid BY PROGRAM, IN A SANDBOX (cutbox-rows.mjs): the forced cells as the released guide's own fill.sh prints them over the translation 8d5fb7cc03ba225f… (all of the seat's roots in one cut). By AI agents, Wed Nov 11 2026. No macro, syntax, notation, axiom, sorry.
-/
import Derived.Test.YtbenihcaleiacaaDoorChecked
import GoSem.Claim
import GoSem.ClaimJoined
import GoSem.ClaimMapViews
import Derived.JoinedTies
import Derived.KernelRfl
namespace Go.Proofs.YtbenihcaleiacaaDoor
/- THE CELL 'sum', in the pinned program and in every row, IS THE sha256 OF THE DUMP (.gsa) THAT YtbenihcaleiacaaDoorProg.lean LOADS. Nothing in Lean hashes anything: it is a label: what it is worth is what the hold of that sum in a sandbox is worth. -/
noncomputable def Tryd.pinned : Pinned := { name := "ytbenihcaleiacaadoor", sum := "8d5fb7cc03ba225f725f0e1be518a09554f11cb5cc63674fa1e6c2e9f332f130", checked := Tryd.checked }
namespace Rows
def none {H : Type} : Left H := { results := [], args := [] }

/- WHAT THE LISTED PACKAGE-LEVEL VARIABLES READ AS WHEN THE CALL BEGINS. Each datum BY PROGRAM (the guide's laid-datum.mjs) off the statement by which the dump's own 'gosem.cut.vars' lays the variable. In a bare row this is a premise. The card (YtbenihcaleiacaaDoorCards.lean) ties it to the program's text. -/
def laid_math_bits_deBruijn32tab {H : Type} : DataW H := .agg [.lit (.int .u8 0), .lit (.int .u8 1), .lit (.int .u8 28), .lit (.int .u8 2), .lit (.int .u8 29), .lit (.int .u8 14), .lit (.int .u8 24), .lit (.int .u8 3), .lit (.int .u8 30), .lit (.int .u8 22), .lit (.int .u8 20), .lit (.int .u8 15), .lit (.int .u8 25), .lit (.int .u8 17), .lit (.int .u8 4), .lit (.int .u8 8), .lit (.int .u8 31), .lit (.int .u8 27), .lit (.int .u8 13), .lit (.int .u8 23), .lit (.int .u8 21), .lit (.int .u8 19), .lit (.int .u8 16), .lit (.int .u8 7), .lit (.int .u8 26), .lit (.int .u8 12), .lit (.int .u8 18), .lit (.int .u8 6), .lit (.int .u8 11), .lit (.int .u8 5), .lit (.int .u8 10), .lit (.int .u8 9)]
def laid_math_bits_deBruijn64tab {H : Type} : DataW H := .agg [.lit (.int .u8 0), .lit (.int .u8 1), .lit (.int .u8 56), .lit (.int .u8 2), .lit (.int .u8 57), .lit (.int .u8 49), .lit (.int .u8 28), .lit (.int .u8 3), .lit (.int .u8 61), .lit (.int .u8 58), .lit (.int .u8 42), .lit (.int .u8 50), .lit (.int .u8 38), .lit (.int .u8 29), .lit (.int .u8 17), .lit (.int .u8 4), .lit (.int .u8 62), .lit (.int .u8 47), .lit (.int .u8 59), .lit (.int .u8 36), .lit (.int .u8 45), .lit (.int .u8 43), .lit (.int .u8 51), .lit (.int .u8 22), .lit (.int .u8 53), .lit (.int .u8 39), .lit (.int .u8 33), .lit (.int .u8 30), .lit (.int .u8 24), .lit (.int .u8 18), .lit (.int .u8 12), .lit (.int .u8 5), .lit (.int .u8 63), .lit (.int .u8 55), .lit (.int .u8 48), .lit (.int .u8 27), .lit (.int .u8 60), .lit (.int .u8 41), .lit (.int .u8 37), .lit (.int .u8 16), .lit (.int .u8 46), .lit (.int .u8 35), .lit (.int .u8 44), .lit (.int .u8 21), .lit (.int .u8 52), .lit (.int .u8 32), .lit (.int .u8 23), .lit (.int .u8 11), .lit (.int .u8 54), .lit (.int .u8 26), .lit (.int .u8 40), .lit (.int .u8 15), .lit (.int .u8 34), .lit (.int .u8 20), .lit (.int .u8 31), .lit (.int .u8 10), .lit (.int .u8 25), .lit (.int .u8 14), .lit (.int .u8 19), .lit (.int .u8 9), .lit (.int .u8 13), .lit (.int .u8 8), .lit (.int .u8 7), .lit (.int .u8 6)]
def laid_internal_strconv_uint64pow10 {H : Type} : DataW H := .agg [.lit (.int .u64 1), .lit (.int .u64 10), .lit (.int .u64 100), .lit (.int .u64 1000), .lit (.int .u64 10000), .lit (.int .u64 100000), .lit (.int .u64 1000000), .lit (.int .u64 10000000), .lit (.int .u64 100000000), .lit (.int .u64 1000000000), .lit (.int .u64 10000000000), .lit (.int .u64 100000000000), .lit (.int .u64 1000000000000), .lit (.int .u64 10000000000000), .lit (.int .u64 100000000000000), .lit (.int .u64 1000000000000000), .lit (.int .u64 10000000000000000), .lit (.int .u64 100000000000000000), .lit (.int .u64 1000000000000000000), .lit (.int .u64 10000000000000000000)]

/-- 'laws.FnExactFormatInt': WHATEVER THE INPUT: true; the input reads as it did. -/
def fnExactFormatIntSpec : ChangeSpec := { name := "fnExactFormatInt", fn := fun _ => fun
  | [d] => { results := [.lit (.bool true)], args := [d] }
  | _ => none }
def fnExactFormatIntRow : OpenClaim := { program := "ytbenihcaleiacaadoor", sum := "8d5fb7cc03ba225f725f0e1be518a09554f11cb5cc63674fa1e6c2e9f332f130", func := "loop.example/g01628/laws.FnExactFormatInt", spec := "fnExactFormatInt", named := ["internal/strconv.uint64pow10", "math/bits.deBruijn32tab", "math/bits.deBruijn64tab"], apart := false, laid := [("math/bits.deBruijn32tab", laid_math_bits_deBruijn32tab), ("math/bits.deBruijn64tab", laid_math_bits_deBruijn64tab), ("internal/strconv.uint64pow10", laid_internal_strconv_uint64pow10)] }
def FnExactFormatIntSaid : Prop := fnExactFormatIntRow.holds Tryd.pinned (OpenSpec.ofChange fnExactFormatIntSpec)

/-- ITS FALSE NEIGHBOUR: 'it returns false'. Refute it at one input. -/
def fnExactFormatIntWrong : ChangeSpec := { name := "fnExactFormatInt", fn := fun _ => fun
  | [d] => { results := [.lit (.bool false)], args := [d] }
  | _ => none }
def FnExactFormatIntWrongFalsely : Prop := fnExactFormatIntRow.holds Tryd.pinned (OpenSpec.ofChange fnExactFormatIntWrong)

/-- 'laws.FnExactFormatResult': WHATEVER THE INPUT: true; the input reads as it did. -/
def fnExactFormatResultSpec : ChangeSpec := { name := "fnExactFormatResult", fn := fun _ => fun
  | [d] => { results := [.lit (.bool true)], args := [d] }
  | _ => none }
def fnExactFormatResultRow : OpenClaim := { program := "ytbenihcaleiacaadoor", sum := "8d5fb7cc03ba225f725f0e1be518a09554f11cb5cc63674fa1e6c2e9f332f130", func := "loop.example/g01628/laws.FnExactFormatResult", spec := "fnExactFormatResult", named := ["internal/strconv.uint64pow10", "math/bits.deBruijn32tab", "math/bits.deBruijn64tab"], apart := false, laid := [("math/bits.deBruijn32tab", laid_math_bits_deBruijn32tab), ("math/bits.deBruijn64tab", laid_math_bits_deBruijn64tab), ("internal/strconv.uint64pow10", laid_internal_strconv_uint64pow10)] }
def FnExactFormatResultSaid : Prop := fnExactFormatResultRow.holds Tryd.pinned (OpenSpec.ofChange fnExactFormatResultSpec)

/-- ITS FALSE NEIGHBOUR: 'it returns false'. Refute it at one input. -/
def fnExactFormatResultWrong : ChangeSpec := { name := "fnExactFormatResult", fn := fun _ => fun
  | [d] => { results := [.lit (.bool false)], args := [d] }
  | _ => none }
def FnExactFormatResultWrongFalsely : Prop := fnExactFormatResultRow.holds Tryd.pinned (OpenSpec.ofChange fnExactFormatResultWrong)

/-- 'laws.FnExactFormatOp': WHATEVER THE INPUT: true; the input reads as it did. -/
def fnExactFormatOpSpec : ChangeSpec := { name := "fnExactFormatOp", fn := fun _ => fun
  | [d] => { results := [.lit (.bool true)], args := [d] }
  | _ => none }
def fnExactFormatOpRow : OpenClaim := { program := "ytbenihcaleiacaadoor", sum := "8d5fb7cc03ba225f725f0e1be518a09554f11cb5cc63674fa1e6c2e9f332f130", func := "loop.example/g01628/laws.FnExactFormatOp", spec := "fnExactFormatOp", named := ["internal/strconv.uint64pow10", "math/bits.deBruijn32tab", "math/bits.deBruijn64tab"], apart := false, laid := [("math/bits.deBruijn32tab", laid_math_bits_deBruijn32tab), ("math/bits.deBruijn64tab", laid_math_bits_deBruijn64tab), ("internal/strconv.uint64pow10", laid_internal_strconv_uint64pow10)] }
def FnExactFormatOpSaid : Prop := fnExactFormatOpRow.holds Tryd.pinned (OpenSpec.ofChange fnExactFormatOpSpec)

/-- ITS FALSE NEIGHBOUR: 'it returns false'. Refute it at one input. -/
def fnExactFormatOpWrong : ChangeSpec := { name := "fnExactFormatOp", fn := fun _ => fun
  | [d] => { results := [.lit (.bool false)], args := [d] }
  | _ => none }
def FnExactFormatOpWrongFalsely : Prop := fnExactFormatOpRow.holds Tryd.pinned (OpenSpec.ofChange fnExactFormatOpWrong)

/-- 'laws.FnExactFormatHandle': WHATEVER THE INPUT: true; the input reads as it did. -/
def fnExactFormatHandleSpec : ChangeSpec := { name := "fnExactFormatHandle", fn := fun _ => fun
  | [d] => { results := [.lit (.bool true)], args := [d] }
  | _ => none }
def fnExactFormatHandleRow : OpenClaim := { program := "ytbenihcaleiacaadoor", sum := "8d5fb7cc03ba225f725f0e1be518a09554f11cb5cc63674fa1e6c2e9f332f130", func := "loop.example/g01628/laws.FnExactFormatHandle", spec := "fnExactFormatHandle", named := ["internal/strconv.uint64pow10", "math/bits.deBruijn32tab", "math/bits.deBruijn64tab"], apart := false, laid := [("math/bits.deBruijn32tab", laid_math_bits_deBruijn32tab), ("math/bits.deBruijn64tab", laid_math_bits_deBruijn64tab), ("internal/strconv.uint64pow10", laid_internal_strconv_uint64pow10)] }
def FnExactFormatHandleSaid : Prop := fnExactFormatHandleRow.holds Tryd.pinned (OpenSpec.ofChange fnExactFormatHandleSpec)

/-- ITS FALSE NEIGHBOUR: 'it returns false'. Refute it at one input. -/
def fnExactFormatHandleWrong : ChangeSpec := { name := "fnExactFormatHandle", fn := fun _ => fun
  | [d] => { results := [.lit (.bool false)], args := [d] }
  | _ => none }
def FnExactFormatHandleWrongFalsely : Prop := fnExactFormatHandleRow.holds Tryd.pinned (OpenSpec.ofChange fnExactFormatHandleWrong)

/-- 'laws.FnExactFormatEntry': WHATEVER THE INPUT: true; the input reads as it did. -/
def fnExactFormatEntrySpec : ChangeSpec := { name := "fnExactFormatEntry", fn := fun _ => fun
  | [d] => { results := [.lit (.bool true)], args := [d] }
  | _ => none }
def fnExactFormatEntryRow : OpenClaim := { program := "ytbenihcaleiacaadoor", sum := "8d5fb7cc03ba225f725f0e1be518a09554f11cb5cc63674fa1e6c2e9f332f130", func := "loop.example/g01628/laws.FnExactFormatEntry", spec := "fnExactFormatEntry", named := ["internal/strconv.uint64pow10", "math/bits.deBruijn32tab", "math/bits.deBruijn64tab"], apart := false, laid := [("math/bits.deBruijn32tab", laid_math_bits_deBruijn32tab), ("math/bits.deBruijn64tab", laid_math_bits_deBruijn64tab), ("internal/strconv.uint64pow10", laid_internal_strconv_uint64pow10)] }
def FnExactFormatEntrySaid : Prop := fnExactFormatEntryRow.holds Tryd.pinned (OpenSpec.ofChange fnExactFormatEntrySpec)

/-- ITS FALSE NEIGHBOUR: 'it returns false'. Refute it at one input. -/
def fnExactFormatEntryWrong : ChangeSpec := { name := "fnExactFormatEntry", fn := fun _ => fun
  | [d] => { results := [.lit (.bool false)], args := [d] }
  | _ => none }
def FnExactFormatEntryWrongFalsely : Prop := fnExactFormatEntryRow.holds Tryd.pinned (OpenSpec.ofChange fnExactFormatEntryWrong)

/-- 'laws.FnExactFormatConfig': WHATEVER THE INPUT: true; the input reads as it did. -/
def fnExactFormatConfigSpec : ChangeSpec := { name := "fnExactFormatConfig", fn := fun _ => fun
  | [d] => { results := [.lit (.bool true)], args := [d] }
  | _ => none }
def fnExactFormatConfigRow : OpenClaim := { program := "ytbenihcaleiacaadoor", sum := "8d5fb7cc03ba225f725f0e1be518a09554f11cb5cc63674fa1e6c2e9f332f130", func := "loop.example/g01628/laws.FnExactFormatConfig", spec := "fnExactFormatConfig", inPlace := ["internal/abi.NoEscape", "internal/bytealg.MakeNoZero"], named := ["internal/strconv.uint64pow10", "math/bits.deBruijn32tab", "math/bits.deBruijn64tab"], apart := false, laid := [("math/bits.deBruijn32tab", laid_math_bits_deBruijn32tab), ("math/bits.deBruijn64tab", laid_math_bits_deBruijn64tab), ("internal/strconv.uint64pow10", laid_internal_strconv_uint64pow10)] }
def FnExactFormatConfigSaid : Prop := fnExactFormatConfigRow.holds Tryd.pinned (OpenSpec.ofChange fnExactFormatConfigSpec)

/-- ITS FALSE NEIGHBOUR: 'it returns false'. Refute it at one input. -/
def fnExactFormatConfigWrong : ChangeSpec := { name := "fnExactFormatConfig", fn := fun _ => fun
  | [d] => { results := [.lit (.bool false)], args := [d] }
  | _ => none }
def FnExactFormatConfigWrongFalsely : Prop := fnExactFormatConfigRow.holds Tryd.pinned (OpenSpec.ofChange fnExactFormatConfigWrong)

/-- 'laws.FnExactFormatProgram': WHATEVER THE INPUT: true; the input reads as it did. -/
def fnExactFormatProgramSpec : ChangeSpec := { name := "fnExactFormatProgram", fn := fun _ => fun
  | [d] => { results := [.lit (.bool true)], args := [d] }
  | _ => none }
def fnExactFormatProgramRow : OpenClaim := { program := "ytbenihcaleiacaadoor", sum := "8d5fb7cc03ba225f725f0e1be518a09554f11cb5cc63674fa1e6c2e9f332f130", func := "loop.example/g01628/laws.FnExactFormatProgram", spec := "fnExactFormatProgram", inPlace := ["internal/abi.NoEscape", "internal/bytealg.MakeNoZero"], named := ["internal/strconv.uint64pow10", "math/bits.deBruijn32tab", "math/bits.deBruijn64tab"], apart := false, laid := [("math/bits.deBruijn32tab", laid_math_bits_deBruijn32tab), ("math/bits.deBruijn64tab", laid_math_bits_deBruijn64tab), ("internal/strconv.uint64pow10", laid_internal_strconv_uint64pow10)] }
def FnExactFormatProgramSaid : Prop := fnExactFormatProgramRow.holds Tryd.pinned (OpenSpec.ofChange fnExactFormatProgramSpec)

/-- ITS FALSE NEIGHBOUR: 'it returns false'. Refute it at one input. -/
def fnExactFormatProgramWrong : ChangeSpec := { name := "fnExactFormatProgram", fn := fun _ => fun
  | [d] => { results := [.lit (.bool false)], args := [d] }
  | _ => none }
def FnExactFormatProgramWrongFalsely : Prop := fnExactFormatProgramRow.holds Tryd.pinned (OpenSpec.ofChange fnExactFormatProgramWrong)

/-- 'laws.FnExactFormatThread': WHATEVER THE INPUT: true; the input reads as it did. -/
def fnExactFormatThreadSpec : ChangeSpec := { name := "fnExactFormatThread", fn := fun _ => fun
  | [d] => { results := [.lit (.bool true)], args := [d] }
  | _ => none }
def fnExactFormatThreadRow : OpenClaim := { program := "ytbenihcaleiacaadoor", sum := "8d5fb7cc03ba225f725f0e1be518a09554f11cb5cc63674fa1e6c2e9f332f130", func := "loop.example/g01628/laws.FnExactFormatThread", spec := "fnExactFormatThread", inPlace := ["internal/abi.NoEscape", "internal/bytealg.MakeNoZero"], named := ["internal/strconv.uint64pow10", "math/bits.deBruijn32tab", "math/bits.deBruijn64tab"], apart := false, laid := [("math/bits.deBruijn32tab", laid_math_bits_deBruijn32tab), ("math/bits.deBruijn64tab", laid_math_bits_deBruijn64tab), ("internal/strconv.uint64pow10", laid_internal_strconv_uint64pow10)] }
def FnExactFormatThreadSaid : Prop := fnExactFormatThreadRow.holds Tryd.pinned (OpenSpec.ofChange fnExactFormatThreadSpec)

/-- ITS FALSE NEIGHBOUR: 'it returns false'. Refute it at one input. -/
def fnExactFormatThreadWrong : ChangeSpec := { name := "fnExactFormatThread", fn := fun _ => fun
  | [d] => { results := [.lit (.bool false)], args := [d] }
  | _ => none }
def FnExactFormatThreadWrongFalsely : Prop := fnExactFormatThreadRow.holds Tryd.pinned (OpenSpec.ofChange fnExactFormatThreadWrong)

/-- 'laws.FnEntries': WHATEVER THE INPUT: true; the input reads as it did. -/
def fnEntriesSpec : ChangeSpec := { name := "fnEntries", fn := fun _ => fun
  | [d] => { results := [.lit (.bool true)], args := [d] }
  | _ => none }
def fnEntriesRow : OpenClaim := { program := "ytbenihcaleiacaadoor", sum := "8d5fb7cc03ba225f725f0e1be518a09554f11cb5cc63674fa1e6c2e9f332f130", func := "loop.example/g01628/laws.FnEntries", spec := "fnEntries", unfollowed := true, recurses := true, named := ["internal/strconv.uint64pow10", "math/bits.deBruijn32tab", "math/bits.deBruijn64tab"], apart := false, laid := [("math/bits.deBruijn32tab", laid_math_bits_deBruijn32tab), ("math/bits.deBruijn64tab", laid_math_bits_deBruijn64tab), ("internal/strconv.uint64pow10", laid_internal_strconv_uint64pow10)] }
def FnEntriesSaid : Prop := fnEntriesRow.holds Tryd.pinned (OpenSpec.ofChange fnEntriesSpec)

/-- ITS FALSE NEIGHBOUR: 'it returns false'. Refute it at one input. -/
def fnEntriesWrong : ChangeSpec := { name := "fnEntries", fn := fun _ => fun
  | [d] => { results := [.lit (.bool false)], args := [d] }
  | _ => none }
def FnEntriesWrongFalsely : Prop := fnEntriesRow.holds Tryd.pinned (OpenSpec.ofChange fnEntriesWrong)

/- THE SECOND FORM. 'bulk': how many values and letters a reading holds, each counted each time it is reached (what is shared counts as often as it is met; a slice's spare places count too). A statement '..UptoSaid' is the law's where the arguments, and the package variables that the reading takes, are together of bulk at most 1048576: NARROWER than '..Said'. Prove '..Said' where nothing that the law and all that it calls make is longer than what came in: it says more and counts as full. Else prove '..UptoSaid'. A law counts once. -/
mutual
def uptoBulk {H : Type} : DataW H → Nat
  | .lit (.string bytes) => bytes.length + 1
  | .lit _ => 1
  | .nil => 1
  | .ptr d => uptoBulk d + 1
  | .slice elems spare => uptoBulkAll elems + uptoBulkAll spare + 1
  | .agg parts => uptoBulkAll parts + 1
  | .iface _ d => uptoBulk d + 1
  | .map entries => uptoBulkEntries entries + 1
  | .held _ => 1
def uptoBulkAll {H : Type} : List (DataW H) → Nat
  | [] => 0
  | d :: r => uptoBulk d + uptoBulkAll r
def uptoBulkEntries {H : Type} : List (Lit × DataW H) → Nat
  | [] => 0
  | x :: r => uptoBulkEntry x + uptoBulkEntries r
def uptoBulkEntry {H : Type} : Lit × DataW H → Nat
  | (.string bytes, d) => bytes.length + uptoBulk d + 1
  | (_, d) => uptoBulk d + 1
 end
def uptoSmall : (H : Type) → List (DataW H) → Bool := fun _ ds => decide (uptoBulkAll ds ≤ 1048576)
def OpenSpec.upto (s : _root_.Go.ChangeSpec) : _root_.Go.OpenSpec := { _root_.Go.OpenSpec.ofChange s with cond := some uptoSmall }

/-- 'laws.FnExactFormatInt', WHERE WHAT IT READS IS OF BULK AT MOST 1048576: true; the input reads as it did. -/
def fnExactFormatIntUptoRow : OpenClaim := { program := "ytbenihcaleiacaadoor", sum := "8d5fb7cc03ba225f725f0e1be518a09554f11cb5cc63674fa1e6c2e9f332f130", func := "loop.example/g01628/laws.FnExactFormatInt", spec := "fnExactFormatInt", named := ["internal/strconv.uint64pow10", "math/bits.deBruijn32tab", "math/bits.deBruijn64tab"], apart := false, laid := [("math/bits.deBruijn32tab", laid_math_bits_deBruijn32tab), ("math/bits.deBruijn64tab", laid_math_bits_deBruijn64tab), ("internal/strconv.uint64pow10", laid_internal_strconv_uint64pow10)], narrowed := true }
def FnExactFormatIntUptoSaid : Prop := fnExactFormatIntUptoRow.holds Tryd.pinned (OpenSpec.upto fnExactFormatIntSpec)

/-- 'laws.FnExactFormatResult', WHERE WHAT IT READS IS OF BULK AT MOST 1048576: true; the input reads as it did. -/
def fnExactFormatResultUptoRow : OpenClaim := { program := "ytbenihcaleiacaadoor", sum := "8d5fb7cc03ba225f725f0e1be518a09554f11cb5cc63674fa1e6c2e9f332f130", func := "loop.example/g01628/laws.FnExactFormatResult", spec := "fnExactFormatResult", named := ["internal/strconv.uint64pow10", "math/bits.deBruijn32tab", "math/bits.deBruijn64tab"], apart := false, laid := [("math/bits.deBruijn32tab", laid_math_bits_deBruijn32tab), ("math/bits.deBruijn64tab", laid_math_bits_deBruijn64tab), ("internal/strconv.uint64pow10", laid_internal_strconv_uint64pow10)], narrowed := true }
def FnExactFormatResultUptoSaid : Prop := fnExactFormatResultUptoRow.holds Tryd.pinned (OpenSpec.upto fnExactFormatResultSpec)

/-- 'laws.FnExactFormatOp', WHERE WHAT IT READS IS OF BULK AT MOST 1048576: true; the input reads as it did. -/
def fnExactFormatOpUptoRow : OpenClaim := { program := "ytbenihcaleiacaadoor", sum := "8d5fb7cc03ba225f725f0e1be518a09554f11cb5cc63674fa1e6c2e9f332f130", func := "loop.example/g01628/laws.FnExactFormatOp", spec := "fnExactFormatOp", named := ["internal/strconv.uint64pow10", "math/bits.deBruijn32tab", "math/bits.deBruijn64tab"], apart := false, laid := [("math/bits.deBruijn32tab", laid_math_bits_deBruijn32tab), ("math/bits.deBruijn64tab", laid_math_bits_deBruijn64tab), ("internal/strconv.uint64pow10", laid_internal_strconv_uint64pow10)], narrowed := true }
def FnExactFormatOpUptoSaid : Prop := fnExactFormatOpUptoRow.holds Tryd.pinned (OpenSpec.upto fnExactFormatOpSpec)

/-- 'laws.FnExactFormatHandle', WHERE WHAT IT READS IS OF BULK AT MOST 1048576: true; the input reads as it did. -/
def fnExactFormatHandleUptoRow : OpenClaim := { program := "ytbenihcaleiacaadoor", sum := "8d5fb7cc03ba225f725f0e1be518a09554f11cb5cc63674fa1e6c2e9f332f130", func := "loop.example/g01628/laws.FnExactFormatHandle", spec := "fnExactFormatHandle", named := ["internal/strconv.uint64pow10", "math/bits.deBruijn32tab", "math/bits.deBruijn64tab"], apart := false, laid := [("math/bits.deBruijn32tab", laid_math_bits_deBruijn32tab), ("math/bits.deBruijn64tab", laid_math_bits_deBruijn64tab), ("internal/strconv.uint64pow10", laid_internal_strconv_uint64pow10)], narrowed := true }
def FnExactFormatHandleUptoSaid : Prop := fnExactFormatHandleUptoRow.holds Tryd.pinned (OpenSpec.upto fnExactFormatHandleSpec)

/-- 'laws.FnExactFormatEntry', WHERE WHAT IT READS IS OF BULK AT MOST 1048576: true; the input reads as it did. -/
def fnExactFormatEntryUptoRow : OpenClaim := { program := "ytbenihcaleiacaadoor", sum := "8d5fb7cc03ba225f725f0e1be518a09554f11cb5cc63674fa1e6c2e9f332f130", func := "loop.example/g01628/laws.FnExactFormatEntry", spec := "fnExactFormatEntry", named := ["internal/strconv.uint64pow10", "math/bits.deBruijn32tab", "math/bits.deBruijn64tab"], apart := false, laid := [("math/bits.deBruijn32tab", laid_math_bits_deBruijn32tab), ("math/bits.deBruijn64tab", laid_math_bits_deBruijn64tab), ("internal/strconv.uint64pow10", laid_internal_strconv_uint64pow10)], narrowed := true }
def FnExactFormatEntryUptoSaid : Prop := fnExactFormatEntryUptoRow.holds Tryd.pinned (OpenSpec.upto fnExactFormatEntrySpec)

/-- 'laws.FnExactFormatConfig', WHERE WHAT IT READS IS OF BULK AT MOST 1048576: true; the input reads as it did. -/
def fnExactFormatConfigUptoRow : OpenClaim := { program := "ytbenihcaleiacaadoor", sum := "8d5fb7cc03ba225f725f0e1be518a09554f11cb5cc63674fa1e6c2e9f332f130", func := "loop.example/g01628/laws.FnExactFormatConfig", spec := "fnExactFormatConfig", inPlace := ["internal/abi.NoEscape", "internal/bytealg.MakeNoZero"], named := ["internal/strconv.uint64pow10", "math/bits.deBruijn32tab", "math/bits.deBruijn64tab"], apart := false, laid := [("math/bits.deBruijn32tab", laid_math_bits_deBruijn32tab), ("math/bits.deBruijn64tab", laid_math_bits_deBruijn64tab), ("internal/strconv.uint64pow10", laid_internal_strconv_uint64pow10)], narrowed := true }
def FnExactFormatConfigUptoSaid : Prop := fnExactFormatConfigUptoRow.holds Tryd.pinned (OpenSpec.upto fnExactFormatConfigSpec)

/-- 'laws.FnExactFormatProgram', WHERE WHAT IT READS IS OF BULK AT MOST 1048576: true; the input reads as it did. -/
def fnExactFormatProgramUptoRow : OpenClaim := { program := "ytbenihcaleiacaadoor", sum := "8d5fb7cc03ba225f725f0e1be518a09554f11cb5cc63674fa1e6c2e9f332f130", func := "loop.example/g01628/laws.FnExactFormatProgram", spec := "fnExactFormatProgram", inPlace := ["internal/abi.NoEscape", "internal/bytealg.MakeNoZero"], named := ["internal/strconv.uint64pow10", "math/bits.deBruijn32tab", "math/bits.deBruijn64tab"], apart := false, laid := [("math/bits.deBruijn32tab", laid_math_bits_deBruijn32tab), ("math/bits.deBruijn64tab", laid_math_bits_deBruijn64tab), ("internal/strconv.uint64pow10", laid_internal_strconv_uint64pow10)], narrowed := true }
def FnExactFormatProgramUptoSaid : Prop := fnExactFormatProgramUptoRow.holds Tryd.pinned (OpenSpec.upto fnExactFormatProgramSpec)

/-- 'laws.FnExactFormatThread', WHERE WHAT IT READS IS OF BULK AT MOST 1048576: true; the input reads as it did. -/
def fnExactFormatThreadUptoRow : OpenClaim := { program := "ytbenihcaleiacaadoor", sum := "8d5fb7cc03ba225f725f0e1be518a09554f11cb5cc63674fa1e6c2e9f332f130", func := "loop.example/g01628/laws.FnExactFormatThread", spec := "fnExactFormatThread", inPlace := ["internal/abi.NoEscape", "internal/bytealg.MakeNoZero"], named := ["internal/strconv.uint64pow10", "math/bits.deBruijn32tab", "math/bits.deBruijn64tab"], apart := false, laid := [("math/bits.deBruijn32tab", laid_math_bits_deBruijn32tab), ("math/bits.deBruijn64tab", laid_math_bits_deBruijn64tab), ("internal/strconv.uint64pow10", laid_internal_strconv_uint64pow10)], narrowed := true }
def FnExactFormatThreadUptoSaid : Prop := fnExactFormatThreadUptoRow.holds Tryd.pinned (OpenSpec.upto fnExactFormatThreadSpec)

/-- 'laws.FnEntries', WHERE WHAT IT READS IS OF BULK AT MOST 1048576: true; the input reads as it did. -/
def fnEntriesUptoRow : OpenClaim := { program := "ytbenihcaleiacaadoor", sum := "8d5fb7cc03ba225f725f0e1be518a09554f11cb5cc63674fa1e6c2e9f332f130", func := "loop.example/g01628/laws.FnEntries", spec := "fnEntries", unfollowed := true, recurses := true, named := ["internal/strconv.uint64pow10", "math/bits.deBruijn32tab", "math/bits.deBruijn64tab"], apart := false, laid := [("math/bits.deBruijn32tab", laid_math_bits_deBruijn32tab), ("math/bits.deBruijn64tab", laid_math_bits_deBruijn64tab), ("internal/strconv.uint64pow10", laid_internal_strconv_uint64pow10)], narrowed := true }
def FnEntriesUptoSaid : Prop := fnEntriesUptoRow.holds Tryd.pinned (OpenSpec.upto fnEntriesSpec)

end Rows
end Go.Proofs.YtbenihcaleiacaaDoor
