/-
  DERIVED. GIVEN WITH THE SEED: THE CARDS: each row of YtcenjcgfdghfnaaDoorRows.lean that lists a variable, with what it lists TIED to the program's text (the seventh form; the later family's looks); each row that meets fmt, with fmt's text TOLD by the authors' own Lean function (tested against real Go, not proved from fmt's source: count such statements apart). THE CARD IS WHAT COUNTS. Prove the row's statement (the work); the ties are given (YtcenjcgfdghfnaaDoorTie.lean); close each card by the builder's one call (the guide's Derived/Test/ToyasCard.lean, 'card_holds'). Laid BY PROGRAM, IN A SANDBOX (cutbox-door.mjs). By AI agents, Wed Nov 11 2026. No macro, syntax, notation, axiom, sorry.
-/
import Derived.Test.YtcenjcgfdghfnaaDoorRows
import GoSem.ClaimSeven
namespace Go.Proofs.YtcenjcgfdghfnaaDoor
namespace Rows

/-- THE TIED CARD OF 'laws.FnExactRigText'. -/
def fnExactRigTextCard : Claim7 := { stood := { row := fnExactRigTextRow, standIns := [], harness := (true, "5a6c8dd82b1c1d25b11ec8eab670266b9c356aa3f4341bea2f58381a00a2e466"), looks := false }, kinds := [], alts := [], laidByText := true, laidKinds := [.data, .data, .data], laidTests := true, laidLooks := .later }
def FnExactRigTextCardSaid : Prop := Claim7.holds Tryd.pinned (.plain (OpenSpec.ofChange fnExactRigTextSpec)) fnExactRigTextCard

/-- THE TIED CARD OF 'laws.FnExactParseRig'. -/
def fnExactParseRigCard : Claim7 := { stood := { row := fnExactParseRigRow, standIns := [], harness := (true, "5a6c8dd82b1c1d25b11ec8eab670266b9c356aa3f4341bea2f58381a00a2e466"), looks := false }, kinds := [], alts := [], laidByText := true, laidKinds := [.data, .data, .data, .data, .pinned], laidTests := true, laidLooks := .later }
def FnExactParseRigCardSaid : Prop := Claim7.holds Tryd.pinned (.plain (OpenSpec.ofChange fnExactParseRigSpec)) fnExactParseRigCard

/-- THE TIED CARD OF 'laws.FnRigs'. -/
def fnRigsCard : Claim7 := { stood := { row := fnRigsRow, standIns := [], harness := (true, "5a6c8dd82b1c1d25b11ec8eab670266b9c356aa3f4341bea2f58381a00a2e466"), looks := false }, kinds := [], alts := [], laidByText := true, laidKinds := [.data, .data, .data, .data, .pinned], laidTests := true, laidLooks := .later }
def FnRigsCardSaid : Prop := Claim7.holds Tryd.pinned (.plain (OpenSpec.ofChange fnRigsSpec)) fnRigsCard

/-- THE SECOND FORM's CARD OF 'laws.FnExactRigText'. -/
def fnExactRigTextUptoCard : Claim7 := { stood := { row := fnExactRigTextUptoRow, standIns := [], harness := (true, "5a6c8dd82b1c1d25b11ec8eab670266b9c356aa3f4341bea2f58381a00a2e466"), looks := false }, kinds := [], alts := [], laidByText := true, laidKinds := [.data, .data, .data], laidTests := true, laidLooks := .later }
def FnExactRigTextUptoCardSaid : Prop := Claim7.holds Tryd.pinned (.plain (OpenSpec.upto fnExactRigTextSpec)) fnExactRigTextUptoCard

/-- THE SECOND FORM's CARD OF 'laws.FnExactParseRig'. -/
def fnExactParseRigUptoCard : Claim7 := { stood := { row := fnExactParseRigUptoRow, standIns := [], harness := (true, "5a6c8dd82b1c1d25b11ec8eab670266b9c356aa3f4341bea2f58381a00a2e466"), looks := false }, kinds := [], alts := [], laidByText := true, laidKinds := [.data, .data, .data, .data, .pinned], laidTests := true, laidLooks := .later }
def FnExactParseRigUptoCardSaid : Prop := Claim7.holds Tryd.pinned (.plain (OpenSpec.upto fnExactParseRigSpec)) fnExactParseRigUptoCard

/-- THE SECOND FORM's CARD OF 'laws.FnRigs'. -/
def fnRigsUptoCard : Claim7 := { stood := { row := fnRigsUptoRow, standIns := [], harness := (true, "5a6c8dd82b1c1d25b11ec8eab670266b9c356aa3f4341bea2f58381a00a2e466"), looks := false }, kinds := [], alts := [], laidByText := true, laidKinds := [.data, .data, .data, .data, .pinned], laidTests := true, laidLooks := .later }
def FnRigsUptoCardSaid : Prop := Claim7.holds Tryd.pinned (.plain (OpenSpec.upto fnRigsSpec)) fnRigsUptoCard
end Rows
end Go.Proofs.YtcenjcgfdghfnaaDoor
