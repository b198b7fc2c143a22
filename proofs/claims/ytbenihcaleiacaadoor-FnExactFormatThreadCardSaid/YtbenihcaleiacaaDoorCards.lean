/-
  DERIVED. GIVEN WITH THE SEED: THE CARDS: each row of YtbenihcaleiacaaDoorRows.lean that lists a variable, with what it lists TIED to the program's text (the seventh form; the later family's looks); each row that meets fmt, with fmt's text TOLD by the authors' own Lean function (tested against real Go, not proved from fmt's source: count such statements apart). THE CARD IS WHAT COUNTS. Prove the row's statement (the work); the ties are given (YtbenihcaleiacaaDoorTie.lean); close each card by the builder's one call (the guide's Derived/Test/ToyasCard.lean, 'card_holds'). Laid BY PROGRAM, IN A SANDBOX (cutbox-door.mjs). By AI agents, Wed Nov 11 2026. No macro, syntax, notation, axiom, sorry.
-/
import Derived.Test.YtbenihcaleiacaaDoorRows
import GoSem.ClaimSeven
namespace Go.Proofs.YtbenihcaleiacaaDoor
namespace Rows

/-- THE TIED CARD OF 'laws.FnExactFormatInt'. -/
def fnExactFormatIntCard : Claim7 := { stood := { row := fnExactFormatIntRow, standIns := [], harness := (true, "09f36af9861a7a105113438f9fffb6cf80a57997f887bb0ee1182d51fc51ef71"), looks := false }, kinds := [], alts := [], laidByText := true, laidKinds := [.data, .data, .data], laidTests := true, laidLooks := .later }
def FnExactFormatIntCardSaid : Prop := Claim7.holds Tryd.pinned (.plain (OpenSpec.ofChange fnExactFormatIntSpec)) fnExactFormatIntCard

/-- THE TIED CARD OF 'laws.FnExactFormatResult'. -/
def fnExactFormatResultCard : Claim7 := { stood := { row := fnExactFormatResultRow, standIns := [], harness := (true, "09f36af9861a7a105113438f9fffb6cf80a57997f887bb0ee1182d51fc51ef71"), looks := false }, kinds := [], alts := [], laidByText := true, laidKinds := [.data, .data, .data], laidTests := true, laidLooks := .later }
def FnExactFormatResultCardSaid : Prop := Claim7.holds Tryd.pinned (.plain (OpenSpec.ofChange fnExactFormatResultSpec)) fnExactFormatResultCard

/-- THE TIED CARD OF 'laws.FnExactFormatOp'. -/
def fnExactFormatOpCard : Claim7 := { stood := { row := fnExactFormatOpRow, standIns := [], harness := (true, "09f36af9861a7a105113438f9fffb6cf80a57997f887bb0ee1182d51fc51ef71"), looks := false }, kinds := [], alts := [], laidByText := true, laidKinds := [.data, .data, .data], laidTests := true, laidLooks := .later }
def FnExactFormatOpCardSaid : Prop := Claim7.holds Tryd.pinned (.plain (OpenSpec.ofChange fnExactFormatOpSpec)) fnExactFormatOpCard

/-- THE TIED CARD OF 'laws.FnExactFormatHandle'. -/
def fnExactFormatHandleCard : Claim7 := { stood := { row := fnExactFormatHandleRow, standIns := [], harness := (true, "09f36af9861a7a105113438f9fffb6cf80a57997f887bb0ee1182d51fc51ef71"), looks := false }, kinds := [], alts := [], laidByText := true, laidKinds := [.data, .data, .data], laidTests := true, laidLooks := .later }
def FnExactFormatHandleCardSaid : Prop := Claim7.holds Tryd.pinned (.plain (OpenSpec.ofChange fnExactFormatHandleSpec)) fnExactFormatHandleCard

/-- THE TIED CARD OF 'laws.FnExactFormatEntry'. -/
def fnExactFormatEntryCard : Claim7 := { stood := { row := fnExactFormatEntryRow, standIns := [], harness := (true, "09f36af9861a7a105113438f9fffb6cf80a57997f887bb0ee1182d51fc51ef71"), looks := false }, kinds := [], alts := [], laidByText := true, laidKinds := [.data, .data, .data], laidTests := true, laidLooks := .later }
def FnExactFormatEntryCardSaid : Prop := Claim7.holds Tryd.pinned (.plain (OpenSpec.ofChange fnExactFormatEntrySpec)) fnExactFormatEntryCard

/-- THE TIED CARD OF 'laws.FnExactFormatConfig'. -/
def fnExactFormatConfigCard : Claim7 := { stood := { row := fnExactFormatConfigRow, standIns := [], harness := (true, "09f36af9861a7a105113438f9fffb6cf80a57997f887bb0ee1182d51fc51ef71"), looks := false }, kinds := [], alts := [], laidByText := true, laidKinds := [.data, .data, .data], laidTests := true, laidLooks := .later }
def FnExactFormatConfigCardSaid : Prop := Claim7.holds Tryd.pinned (.plain (OpenSpec.ofChange fnExactFormatConfigSpec)) fnExactFormatConfigCard

/-- THE TIED CARD OF 'laws.FnExactFormatProgram'. -/
def fnExactFormatProgramCard : Claim7 := { stood := { row := fnExactFormatProgramRow, standIns := [], harness := (true, "09f36af9861a7a105113438f9fffb6cf80a57997f887bb0ee1182d51fc51ef71"), looks := false }, kinds := [], alts := [], laidByText := true, laidKinds := [.data, .data, .data], laidTests := true, laidLooks := .later }
def FnExactFormatProgramCardSaid : Prop := Claim7.holds Tryd.pinned (.plain (OpenSpec.ofChange fnExactFormatProgramSpec)) fnExactFormatProgramCard

/-- THE TIED CARD OF 'laws.FnExactFormatThread'. -/
def fnExactFormatThreadCard : Claim7 := { stood := { row := fnExactFormatThreadRow, standIns := [], harness := (true, "09f36af9861a7a105113438f9fffb6cf80a57997f887bb0ee1182d51fc51ef71"), looks := false }, kinds := [], alts := [], laidByText := true, laidKinds := [.data, .data, .data], laidTests := true, laidLooks := .later }
def FnExactFormatThreadCardSaid : Prop := Claim7.holds Tryd.pinned (.plain (OpenSpec.ofChange fnExactFormatThreadSpec)) fnExactFormatThreadCard

/-- THE TIED CARD OF 'laws.FnEntries'. -/
def fnEntriesCard : Claim7 := { stood := { row := fnEntriesRow, standIns := [], harness := (true, "09f36af9861a7a105113438f9fffb6cf80a57997f887bb0ee1182d51fc51ef71"), looks := false }, kinds := [], alts := [], laidByText := true, laidKinds := [.data, .data, .data], laidTests := true, laidLooks := .later }
def FnEntriesCardSaid : Prop := Claim7.holds Tryd.pinned (.plain (OpenSpec.ofChange fnEntriesSpec)) fnEntriesCard

/-- THE SECOND FORM's CARD OF 'laws.FnExactFormatInt'. -/
def fnExactFormatIntUptoCard : Claim7 := { stood := { row := fnExactFormatIntUptoRow, standIns := [], harness := (true, "09f36af9861a7a105113438f9fffb6cf80a57997f887bb0ee1182d51fc51ef71"), looks := false }, kinds := [], alts := [], laidByText := true, laidKinds := [.data, .data, .data], laidTests := true, laidLooks := .later }
def FnExactFormatIntUptoCardSaid : Prop := Claim7.holds Tryd.pinned (.plain (OpenSpec.upto fnExactFormatIntSpec)) fnExactFormatIntUptoCard

/-- THE SECOND FORM's CARD OF 'laws.FnExactFormatResult'. -/
def fnExactFormatResultUptoCard : Claim7 := { stood := { row := fnExactFormatResultUptoRow, standIns := [], harness := (true, "09f36af9861a7a105113438f9fffb6cf80a57997f887bb0ee1182d51fc51ef71"), looks := false }, kinds := [], alts := [], laidByText := true, laidKinds := [.data, .data, .data], laidTests := true, laidLooks := .later }
def FnExactFormatResultUptoCardSaid : Prop := Claim7.holds Tryd.pinned (.plain (OpenSpec.upto fnExactFormatResultSpec)) fnExactFormatResultUptoCard

/-- THE SECOND FORM's CARD OF 'laws.FnExactFormatOp'. -/
def fnExactFormatOpUptoCard : Claim7 := { stood := { row := fnExactFormatOpUptoRow, standIns := [], harness := (true, "09f36af9861a7a105113438f9fffb6cf80a57997f887bb0ee1182d51fc51ef71"), looks := false }, kinds := [], alts := [], laidByText := true, laidKinds := [.data, .data, .data], laidTests := true, laidLooks := .later }
def FnExactFormatOpUptoCardSaid : Prop := Claim7.holds Tryd.pinned (.plain (OpenSpec.upto fnExactFormatOpSpec)) fnExactFormatOpUptoCard

/-- THE SECOND FORM's CARD OF 'laws.FnExactFormatHandle'. -/
def fnExactFormatHandleUptoCard : Claim7 := { stood := { row := fnExactFormatHandleUptoRow, standIns := [], harness := (true, "09f36af9861a7a105113438f9fffb6cf80a57997f887bb0ee1182d51fc51ef71"), looks := false }, kinds := [], alts := [], laidByText := true, laidKinds := [.data, .data, .data], laidTests := true, laidLooks := .later }
def FnExactFormatHandleUptoCardSaid : Prop := Claim7.holds Tryd.pinned (.plain (OpenSpec.upto fnExactFormatHandleSpec)) fnExactFormatHandleUptoCard

/-- THE SECOND FORM's CARD OF 'laws.FnExactFormatEntry'. -/
def fnExactFormatEntryUptoCard : Claim7 := { stood := { row := fnExactFormatEntryUptoRow, standIns := [], harness := (true, "09f36af9861a7a105113438f9fffb6cf80a57997f887bb0ee1182d51fc51ef71"), looks := false }, kinds := [], alts := [], laidByText := true, laidKinds := [.data, .data, .data], laidTests := true, laidLooks := .later }
def FnExactFormatEntryUptoCardSaid : Prop := Claim7.holds Tryd.pinned (.plain (OpenSpec.upto fnExactFormatEntrySpec)) fnExactFormatEntryUptoCard

/-- THE SECOND FORM's CARD OF 'laws.FnExactFormatConfig'. -/
def fnExactFormatConfigUptoCard : Claim7 := { stood := { row := fnExactFormatConfigUptoRow, standIns := [], harness := (true, "09f36af9861a7a105113438f9fffb6cf80a57997f887bb0ee1182d51fc51ef71"), looks := false }, kinds := [], alts := [], laidByText := true, laidKinds := [.data, .data, .data], laidTests := true, laidLooks := .later }
def FnExactFormatConfigUptoCardSaid : Prop := Claim7.holds Tryd.pinned (.plain (OpenSpec.upto fnExactFormatConfigSpec)) fnExactFormatConfigUptoCard

/-- THE SECOND FORM's CARD OF 'laws.FnExactFormatProgram'. -/
def fnExactFormatProgramUptoCard : Claim7 := { stood := { row := fnExactFormatProgramUptoRow, standIns := [], harness := (true, "09f36af9861a7a105113438f9fffb6cf80a57997f887bb0ee1182d51fc51ef71"), looks := false }, kinds := [], alts := [], laidByText := true, laidKinds := [.data, .data, .data], laidTests := true, laidLooks := .later }
def FnExactFormatProgramUptoCardSaid : Prop := Claim7.holds Tryd.pinned (.plain (OpenSpec.upto fnExactFormatProgramSpec)) fnExactFormatProgramUptoCard

/-- THE SECOND FORM's CARD OF 'laws.FnExactFormatThread'. -/
def fnExactFormatThreadUptoCard : Claim7 := { stood := { row := fnExactFormatThreadUptoRow, standIns := [], harness := (true, "09f36af9861a7a105113438f9fffb6cf80a57997f887bb0ee1182d51fc51ef71"), looks := false }, kinds := [], alts := [], laidByText := true, laidKinds := [.data, .data, .data], laidTests := true, laidLooks := .later }
def FnExactFormatThreadUptoCardSaid : Prop := Claim7.holds Tryd.pinned (.plain (OpenSpec.upto fnExactFormatThreadSpec)) fnExactFormatThreadUptoCard

/-- THE SECOND FORM's CARD OF 'laws.FnEntries'. -/
def fnEntriesUptoCard : Claim7 := { stood := { row := fnEntriesUptoRow, standIns := [], harness := (true, "09f36af9861a7a105113438f9fffb6cf80a57997f887bb0ee1182d51fc51ef71"), looks := false }, kinds := [], alts := [], laidByText := true, laidKinds := [.data, .data, .data], laidTests := true, laidLooks := .later }
def FnEntriesUptoCardSaid : Prop := Claim7.holds Tryd.pinned (.plain (OpenSpec.upto fnEntriesSpec)) fnEntriesUptoCard
end Rows
end Go.Proofs.YtbenihcaleiacaaDoor
