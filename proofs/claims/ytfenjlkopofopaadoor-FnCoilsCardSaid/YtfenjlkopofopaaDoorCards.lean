/-
  DERIVED. GIVEN WITH THE SEED: THE CARDS: each row of YtfenjlkopofopaaDoorRows.lean that lists a variable, with what it lists TIED to the program's text (the seventh form; the later family's looks); each row that meets fmt, with fmt's text TOLD by the authors' own Lean function (tested against real Go, not proved from fmt's source: count such statements apart). THE CARD IS WHAT COUNTS. Prove the row's statement (the work); the ties are given (YtfenjlkopofopaaDoorTie.lean); close each card by the builder's one call (the guide's Derived/Test/ToyasCard.lean, 'card_holds'). Laid BY PROGRAM, IN A SANDBOX (cutbox-door.mjs). By AI agents, Wed Nov 11 2026. No macro, syntax, notation, axiom, sorry.
-/
import Derived.Test.YtfenjlkopofopaaDoorRows
import GoSem.ClaimSeven
namespace Go.Proofs.YtfenjlkopofopaaDoor
namespace Rows

/-- THE TIED CARD OF 'laws.FnExactReadCoil'. -/
def fnExactReadCoilCard : Claim7 := { stood := { row := fnExactReadCoilRow, standIns := [], harness := (true, "180f7a73e25a143fd26ec5e06cc4fd2189f81fc55fcc310281885ee044136ac5"), looks := false }, kinds := [], alts := [], laidByText := true, laidKinds := [.data, .data, .data], laidTests := true, laidLooks := .later }
def FnExactReadCoilCardSaid : Prop := Claim7.holds Tryd.pinned (.plain (OpenSpec.ofChange fnExactReadCoilSpec)) fnExactReadCoilCard

/-- THE TIED CARD OF 'laws.FnCoils'. -/
def fnCoilsCard : Claim7 := { stood := { row := fnCoilsRow, standIns := [], harness := (true, "180f7a73e25a143fd26ec5e06cc4fd2189f81fc55fcc310281885ee044136ac5"), looks := false }, kinds := [], alts := [], laidByText := true, laidKinds := [.data, .data, .data], laidTests := true, laidLooks := .later }
def FnCoilsCardSaid : Prop := Claim7.holds Tryd.pinned (.plain (OpenSpec.ofChange fnCoilsSpec)) fnCoilsCard

/-- THE TIED CARD OF 'laws.FnExactGearText'. -/
def fnExactGearTextCard : Claim7 := { stood := { row := fnExactGearTextRow, standIns := [], harness := (true, "180f7a73e25a143fd26ec5e06cc4fd2189f81fc55fcc310281885ee044136ac5"), looks := false }, kinds := [], alts := [], laidByText := true, laidKinds := [.data, .data, .data], laidTests := true, laidLooks := .later }
def FnExactGearTextCardSaid : Prop := Claim7.holds Tryd.pinned (.plain (OpenSpec.ofChange fnExactGearTextSpec)) fnExactGearTextCard

/-- THE TIED CARD OF 'laws.FnChecksAdded'. -/
def fnChecksAddedCard : Claim7 := { stood := { row := fnChecksAddedRow, standIns := [], harness := (true, "180f7a73e25a143fd26ec5e06cc4fd2189f81fc55fcc310281885ee044136ac5"), looks := false }, kinds := [], alts := [], laidByText := true, laidKinds := [.data, .data, .data], laidTests := true, laidLooks := .later }
def FnChecksAddedCardSaid : Prop := Claim7.holds Tryd.pinned (.plain (OpenSpec.ofChange fnChecksAddedSpec)) fnChecksAddedCard

/-- THE TIED CARD OF 'laws.FnExactCoilText'. -/
def fnExactCoilTextCard : Claim7 := { stood := { row := fnExactCoilTextRow, standIns := [], harness := (true, "180f7a73e25a143fd26ec5e06cc4fd2189f81fc55fcc310281885ee044136ac5"), looks := false }, kinds := [], alts := [], laidByText := true, laidKinds := [.data, .data, .data], laidTests := true, laidLooks := .later }
def FnExactCoilTextCardSaid : Prop := Claim7.holds Tryd.pinned (.plain (OpenSpec.ofChange fnExactCoilTextSpec)) fnExactCoilTextCard

/-- THE SECOND FORM's CARD OF 'laws.FnExactReadCoil'. -/
def fnExactReadCoilUptoCard : Claim7 := { stood := { row := fnExactReadCoilUptoRow, standIns := [], harness := (true, "180f7a73e25a143fd26ec5e06cc4fd2189f81fc55fcc310281885ee044136ac5"), looks := false }, kinds := [], alts := [], laidByText := true, laidKinds := [.data, .data, .data], laidTests := true, laidLooks := .later }
def FnExactReadCoilUptoCardSaid : Prop := Claim7.holds Tryd.pinned (.plain (OpenSpec.upto fnExactReadCoilSpec)) fnExactReadCoilUptoCard

/-- THE SECOND FORM's CARD OF 'laws.FnCoils'. -/
def fnCoilsUptoCard : Claim7 := { stood := { row := fnCoilsUptoRow, standIns := [], harness := (true, "180f7a73e25a143fd26ec5e06cc4fd2189f81fc55fcc310281885ee044136ac5"), looks := false }, kinds := [], alts := [], laidByText := true, laidKinds := [.data, .data, .data], laidTests := true, laidLooks := .later }
def FnCoilsUptoCardSaid : Prop := Claim7.holds Tryd.pinned (.plain (OpenSpec.upto fnCoilsSpec)) fnCoilsUptoCard

/-- THE SECOND FORM's CARD OF 'laws.FnExactGearText'. -/
def fnExactGearTextUptoCard : Claim7 := { stood := { row := fnExactGearTextUptoRow, standIns := [], harness := (true, "180f7a73e25a143fd26ec5e06cc4fd2189f81fc55fcc310281885ee044136ac5"), looks := false }, kinds := [], alts := [], laidByText := true, laidKinds := [.data, .data, .data], laidTests := true, laidLooks := .later }
def FnExactGearTextUptoCardSaid : Prop := Claim7.holds Tryd.pinned (.plain (OpenSpec.upto fnExactGearTextSpec)) fnExactGearTextUptoCard

/-- THE SECOND FORM's CARD OF 'laws.FnChecksAdded'. -/
def fnChecksAddedUptoCard : Claim7 := { stood := { row := fnChecksAddedUptoRow, standIns := [], harness := (true, "180f7a73e25a143fd26ec5e06cc4fd2189f81fc55fcc310281885ee044136ac5"), looks := false }, kinds := [], alts := [], laidByText := true, laidKinds := [.data, .data, .data], laidTests := true, laidLooks := .later }
def FnChecksAddedUptoCardSaid : Prop := Claim7.holds Tryd.pinned (.plain (OpenSpec.upto fnChecksAddedSpec)) fnChecksAddedUptoCard

/-- THE SECOND FORM's CARD OF 'laws.FnExactCoilText'. -/
def fnExactCoilTextUptoCard : Claim7 := { stood := { row := fnExactCoilTextUptoRow, standIns := [], harness := (true, "180f7a73e25a143fd26ec5e06cc4fd2189f81fc55fcc310281885ee044136ac5"), looks := false }, kinds := [], alts := [], laidByText := true, laidKinds := [.data, .data, .data], laidTests := true, laidLooks := .later }
def FnExactCoilTextUptoCardSaid : Prop := Claim7.holds Tryd.pinned (.plain (OpenSpec.upto fnExactCoilTextSpec)) fnExactCoilTextUptoCard
end Rows
end Go.Proofs.YtfenjlkopofopaaDoor
