/-
  No cell of these rows narrows 'for every input' (looked for: loops, veiled, ifaces, maps, wideKeys, modest, calm, conditions, laid).
  DERIVED. THE GIVEN ROWS OF THIS SEAT. 11 by the template 'for every input the law returns true; each argument reads behind the call as it read before'; 0 by the template 'total and deterministic' (their statements: YtbglfbmnibhgeaaTotals.lean).
  GIVEN WITH THE SEED: the statements are not yours to turn. If you find one false, say at which input.
  Laid BY PROGRAM, IN A SANDBOX (cutbox-rows.mjs): the forced cells as the released guide's own fill.sh prints them over the translation 1b8060ed74f5a333… (all of the seat's roots in one cut). By AI agents, Wed Nov 11 2026. No macro, syntax, notation, axiom, sorry.
-/
import Derived.Test.YtbglfbmnibhgeaaChecked
import GoSem.Claim
import GoSem.ClaimJoined
import GoSem.ClaimMapViews
import Derived.JoinedTies
import Derived.KernelRfl
namespace Go.Proofs.Ytbglfbmnibhgeaa
/- THE CELL 'sum', in the pinned program and in every row, IS THE sha256 OF THE DUMP (.gsa) THAT YtbglfbmnibhgeaaProg.lean LOADS. Nothing in Lean hashes anything: it is a label: what it is worth is what the hold of that sum in a sandbox is worth. -/
noncomputable def Try.pinned : Pinned := { name := "ytbglfbmnibhgeaa", sum := "1b8060ed74f5a333b764a948f49049e7ddf39a83b61acafcfe1aef4dfdc04ff0", checked := Try.checked }
namespace Rows
def none {H : Type} : Left H := { results := [], args := [] }

/-- 'laws.FnExactSameCoils': WHATEVER THE INPUT: true; the input reads as it did. -/
def fnExactSameCoilsSpec : ChangeSpec := { name := "fnExactSameCoils", fn := fun _ => fun
  | [d1, d2] => { results := [.lit (.bool true)], args := [d1, d2] }
  | _ => none }
def fnExactSameCoilsRow : OpenClaim := { program := "ytbglfbmnibhgeaa", sum := "1b8060ed74f5a333b764a948f49049e7ddf39a83b61acafcfe1aef4dfdc04ff0", func := "loop.example/g01044/laws.FnExactSameCoils", spec := "fnExactSameCoils", apart := false }
def FnExactSameCoilsSaid : Prop := fnExactSameCoilsRow.holds Try.pinned (OpenSpec.ofChange fnExactSameCoilsSpec)

/-- ITS FALSE NEIGHBOUR: 'it returns false'. Refute it at one input. -/
def fnExactSameCoilsWrong : ChangeSpec := { name := "fnExactSameCoils", fn := fun _ => fun
  | [d1, d2] => { results := [.lit (.bool false)], args := [d1, d2] }
  | _ => none }
def FnExactSameCoilsWrongFalsely : Prop := fnExactSameCoilsRow.holds Try.pinned (OpenSpec.ofChange fnExactSameCoilsWrong)

/-- 'laws.FnExactValidStockCoils': WHATEVER THE INPUT: true; the input reads as it did. -/
def fnExactValidStockCoilsSpec : ChangeSpec := { name := "fnExactValidStockCoils", fn := fun _ => fun
  | [d] => { results := [.lit (.bool true)], args := [d] }
  | _ => none }
def fnExactValidStockCoilsRow : OpenClaim := { program := "ytbglfbmnibhgeaa", sum := "1b8060ed74f5a333b764a948f49049e7ddf39a83b61acafcfe1aef4dfdc04ff0", func := "loop.example/g01044/laws.FnExactValidStockCoils", spec := "fnExactValidStockCoils", apart := false }
def FnExactValidStockCoilsSaid : Prop := fnExactValidStockCoilsRow.holds Try.pinned (OpenSpec.ofChange fnExactValidStockCoilsSpec)

/-- ITS FALSE NEIGHBOUR: 'it returns false'. Refute it at one input. -/
def fnExactValidStockCoilsWrong : ChangeSpec := { name := "fnExactValidStockCoils", fn := fun _ => fun
  | [d] => { results := [.lit (.bool false)], args := [d] }
  | _ => none }
def FnExactValidStockCoilsWrongFalsely : Prop := fnExactValidStockCoilsRow.holds Try.pinned (OpenSpec.ofChange fnExactValidStockCoilsWrong)

/-- 'laws.FnExactValidWants': WHATEVER THE INPUT: true; the input reads as it did. -/
def fnExactValidWantsSpec : ChangeSpec := { name := "fnExactValidWants", fn := fun _ => fun
  | [d] => { results := [.lit (.bool true)], args := [d] }
  | _ => none }
def fnExactValidWantsRow : OpenClaim := { program := "ytbglfbmnibhgeaa", sum := "1b8060ed74f5a333b764a948f49049e7ddf39a83b61acafcfe1aef4dfdc04ff0", func := "loop.example/g01044/laws.FnExactValidWants", spec := "fnExactValidWants", apart := false }
def FnExactValidWantsSaid : Prop := fnExactValidWantsRow.holds Try.pinned (OpenSpec.ofChange fnExactValidWantsSpec)

/-- ITS FALSE NEIGHBOUR: 'it returns false'. Refute it at one input. -/
def fnExactValidWantsWrong : ChangeSpec := { name := "fnExactValidWants", fn := fun _ => fun
  | [d] => { results := [.lit (.bool false)], args := [d] }
  | _ => none }
def FnExactValidWantsWrongFalsely : Prop := fnExactValidWantsRow.holds Try.pinned (OpenSpec.ofChange fnExactValidWantsWrong)

/-- 'laws.FnExactLeftOf': WHATEVER THE INPUT: true; the input reads as it did. -/
def fnExactLeftOfSpec : ChangeSpec := { name := "fnExactLeftOf", fn := fun _ => fun
  | [d1, d2] => { results := [.lit (.bool true)], args := [d1, d2] }
  | _ => none }
def fnExactLeftOfRow : OpenClaim := { program := "ytbglfbmnibhgeaa", sum := "1b8060ed74f5a333b764a948f49049e7ddf39a83b61acafcfe1aef4dfdc04ff0", func := "loop.example/g01044/laws.FnExactLeftOf", spec := "fnExactLeftOf", apart := false }
def FnExactLeftOfSaid : Prop := fnExactLeftOfRow.holds Try.pinned (OpenSpec.ofChange fnExactLeftOfSpec)

/-- ITS FALSE NEIGHBOUR: 'it returns false'. Refute it at one input. -/
def fnExactLeftOfWrong : ChangeSpec := { name := "fnExactLeftOf", fn := fun _ => fun
  | [d1, d2] => { results := [.lit (.bool false)], args := [d1, d2] }
  | _ => none }
def FnExactLeftOfWrongFalsely : Prop := fnExactLeftOfRow.holds Try.pinned (OpenSpec.ofChange fnExactLeftOfWrong)

/-- 'laws.FnExactAddCoil': WHATEVER THE INPUT: true; the input reads as it did. -/
def fnExactAddCoilSpec : ChangeSpec := { name := "fnExactAddCoil", fn := fun _ => fun
  | [d1, d2] => { results := [.lit (.bool true)], args := [d1, d2] }
  | _ => none }
def fnExactAddCoilRow : OpenClaim := { program := "ytbglfbmnibhgeaa", sum := "1b8060ed74f5a333b764a948f49049e7ddf39a83b61acafcfe1aef4dfdc04ff0", func := "loop.example/g01044/laws.FnExactAddCoil", spec := "fnExactAddCoil", apart := false }
def FnExactAddCoilSaid : Prop := fnExactAddCoilRow.holds Try.pinned (OpenSpec.ofChange fnExactAddCoilSpec)

/-- ITS FALSE NEIGHBOUR: 'it returns false'. Refute it at one input. -/
def fnExactAddCoilWrong : ChangeSpec := { name := "fnExactAddCoil", fn := fun _ => fun
  | [d1, d2] => { results := [.lit (.bool false)], args := [d1, d2] }
  | _ => none }
def FnExactAddCoilWrongFalsely : Prop := fnExactAddCoilRow.holds Try.pinned (OpenSpec.ofChange fnExactAddCoilWrong)

/-- 'laws.FnExactThrowShort': WHATEVER THE INPUT: true; the input reads as it did. -/
def fnExactThrowShortSpec : ChangeSpec := { name := "fnExactThrowShort", fn := fun _ => fun
  | [d1, d2] => { results := [.lit (.bool true)], args := [d1, d2] }
  | _ => none }
def fnExactThrowShortRow : OpenClaim := { program := "ytbglfbmnibhgeaa", sum := "1b8060ed74f5a333b764a948f49049e7ddf39a83b61acafcfe1aef4dfdc04ff0", func := "loop.example/g01044/laws.FnExactThrowShort", spec := "fnExactThrowShort", apart := false }
def FnExactThrowShortSaid : Prop := fnExactThrowShortRow.holds Try.pinned (OpenSpec.ofChange fnExactThrowShortSpec)

/-- ITS FALSE NEIGHBOUR: 'it returns false'. Refute it at one input. -/
def fnExactThrowShortWrong : ChangeSpec := { name := "fnExactThrowShort", fn := fun _ => fun
  | [d1, d2] => { results := [.lit (.bool false)], args := [d1, d2] }
  | _ => none }
def FnExactThrowShortWrongFalsely : Prop := fnExactThrowShortRow.holds Try.pinned (OpenSpec.ofChange fnExactThrowShortWrong)

/-- 'laws.FnExactBestCoil': WHATEVER THE INPUT: true; the input reads as it did. -/
def fnExactBestCoilSpec : ChangeSpec := { name := "fnExactBestCoil", fn := fun _ => fun
  | [d1, d2] => { results := [.lit (.bool true)], args := [d1, d2] }
  | _ => none }
def fnExactBestCoilRow : OpenClaim := { program := "ytbglfbmnibhgeaa", sum := "1b8060ed74f5a333b764a948f49049e7ddf39a83b61acafcfe1aef4dfdc04ff0", func := "loop.example/g01044/laws.FnExactBestCoil", spec := "fnExactBestCoil", apart := false }
def FnExactBestCoilSaid : Prop := fnExactBestCoilRow.holds Try.pinned (OpenSpec.ofChange fnExactBestCoilSpec)

/-- ITS FALSE NEIGHBOUR: 'it returns false'. Refute it at one input. -/
def fnExactBestCoilWrong : ChangeSpec := { name := "fnExactBestCoil", fn := fun _ => fun
  | [d1, d2] => { results := [.lit (.bool false)], args := [d1, d2] }
  | _ => none }
def FnExactBestCoilWrongFalsely : Prop := fnExactBestCoilRow.holds Try.pinned (OpenSpec.ofChange fnExactBestCoilWrong)

/-- 'laws.FnExactCutPiece': WHATEVER THE INPUT: true; the input reads as it did. -/
def fnExactCutPieceSpec : ChangeSpec := { name := "fnExactCutPiece", fn := fun _ => fun
  | [d1, d2] => { results := [.lit (.bool true)], args := [d1, d2] }
  | _ => none }
def fnExactCutPieceRow : OpenClaim := { program := "ytbglfbmnibhgeaa", sum := "1b8060ed74f5a333b764a948f49049e7ddf39a83b61acafcfe1aef4dfdc04ff0", func := "loop.example/g01044/laws.FnExactCutPiece", spec := "fnExactCutPiece", apart := false }
def FnExactCutPieceSaid : Prop := fnExactCutPieceRow.holds Try.pinned (OpenSpec.ofChange fnExactCutPieceSpec)

/-- ITS FALSE NEIGHBOUR: 'it returns false'. Refute it at one input. -/
def fnExactCutPieceWrong : ChangeSpec := { name := "fnExactCutPiece", fn := fun _ => fun
  | [d1, d2] => { results := [.lit (.bool false)], args := [d1, d2] }
  | _ => none }
def FnExactCutPieceWrongFalsely : Prop := fnExactCutPieceRow.holds Try.pinned (OpenSpec.ofChange fnExactCutPieceWrong)

/-- 'laws.FnExactMissingRope': WHATEVER THE INPUT: true; the input reads as it did. -/
def fnExactMissingRopeSpec : ChangeSpec := { name := "fnExactMissingRope", fn := fun _ => fun
  | [d1, d2] => { results := [.lit (.bool true)], args := [d1, d2] }
  | _ => none }
def fnExactMissingRopeRow : OpenClaim := { program := "ytbglfbmnibhgeaa", sum := "1b8060ed74f5a333b764a948f49049e7ddf39a83b61acafcfe1aef4dfdc04ff0", func := "loop.example/g01044/laws.FnExactMissingRope", spec := "fnExactMissingRope", unfollowed := true, recurses := true, apart := false }
def FnExactMissingRopeSaid : Prop := fnExactMissingRopeRow.holds Try.pinned (OpenSpec.ofChange fnExactMissingRopeSpec)

/-- ITS FALSE NEIGHBOUR: 'it returns false'. Refute it at one input. -/
def fnExactMissingRopeWrong : ChangeSpec := { name := "fnExactMissingRope", fn := fun _ => fun
  | [d1, d2] => { results := [.lit (.bool false)], args := [d1, d2] }
  | _ => none }
def FnExactMissingRopeWrongFalsely : Prop := fnExactMissingRopeRow.holds Try.pinned (OpenSpec.ofChange fnExactMissingRopeWrong)

/-- 'laws.FnExactCanCutAll': WHATEVER THE INPUT: true; the input reads as it did. -/
def fnExactCanCutAllSpec : ChangeSpec := { name := "fnExactCanCutAll", fn := fun _ => fun
  | [d1, d2] => { results := [.lit (.bool true)], args := [d1, d2] }
  | _ => none }
def fnExactCanCutAllRow : OpenClaim := { program := "ytbglfbmnibhgeaa", sum := "1b8060ed74f5a333b764a948f49049e7ddf39a83b61acafcfe1aef4dfdc04ff0", func := "loop.example/g01044/laws.FnExactCanCutAll", spec := "fnExactCanCutAll", unfollowed := true, recurses := true, apart := false }
def FnExactCanCutAllSaid : Prop := fnExactCanCutAllRow.holds Try.pinned (OpenSpec.ofChange fnExactCanCutAllSpec)

/-- ITS FALSE NEIGHBOUR: 'it returns false'. Refute it at one input. -/
def fnExactCanCutAllWrong : ChangeSpec := { name := "fnExactCanCutAll", fn := fun _ => fun
  | [d1, d2] => { results := [.lit (.bool false)], args := [d1, d2] }
  | _ => none }
def FnExactCanCutAllWrongFalsely : Prop := fnExactCanCutAllRow.holds Try.pinned (OpenSpec.ofChange fnExactCanCutAllWrong)

/-- 'laws.FnExactCutExactly': WHATEVER THE INPUT: true; the input reads as it did. -/
def fnExactCutExactlySpec : ChangeSpec := { name := "fnExactCutExactly", fn := fun _ => fun
  | [d1, d2] => { results := [.lit (.bool true)], args := [d1, d2] }
  | _ => none }
def fnExactCutExactlyRow : OpenClaim := { program := "ytbglfbmnibhgeaa", sum := "1b8060ed74f5a333b764a948f49049e7ddf39a83b61acafcfe1aef4dfdc04ff0", func := "loop.example/g01044/laws.FnExactCutExactly", spec := "fnExactCutExactly", unfollowed := true, recurses := true, apart := false }
def FnExactCutExactlySaid : Prop := fnExactCutExactlyRow.holds Try.pinned (OpenSpec.ofChange fnExactCutExactlySpec)

/-- ITS FALSE NEIGHBOUR: 'it returns false'. Refute it at one input. -/
def fnExactCutExactlyWrong : ChangeSpec := { name := "fnExactCutExactly", fn := fun _ => fun
  | [d1, d2] => { results := [.lit (.bool false)], args := [d1, d2] }
  | _ => none }
def FnExactCutExactlyWrongFalsely : Prop := fnExactCutExactlyRow.holds Try.pinned (OpenSpec.ofChange fnExactCutExactlyWrong)

/- THE SECOND FORM. 'bulk': how many values and letters a reading holds, each counted each time it is reached (what is shared counts as often as it is met; a slice's spare places count too). A statement '..UptoSaid' is the law's where the arguments, and the package variables that the reading takes, are together of bulk at most 1048576: NARROWER than '..Said'. Prove '..Said' where nothing that the law and all that it calls make is longer than what came in: it says more and counts as full. Else prove '..UptoSaid'. A law counts once. -/
mutual
def uptoBulk {H : Type} : DataW H → Nat
  | .lit (.string bytes) => bytes.length + 1
  | .lit _ => 1
  | .nil => 1
  | .ptr d => uptoBulk d + 1
  | .slice elems spare => uptoBulkAll elems + uptoBulkAll spare + 1
  | .agg parts => uptoBulkAll parts + 1
  | .iface _ d => uptoBulk d + 1
  | .map entries => uptoBulkEntries entries + 1
  | .held _ => 1
def uptoBulkAll {H : Type} : List (DataW H) → Nat
  | [] => 0
  | d :: r => uptoBulk d + uptoBulkAll r
def uptoBulkEntries {H : Type} : List (Lit × DataW H) → Nat
  | [] => 0
  | x :: r => uptoBulkEntry x + uptoBulkEntries r
def uptoBulkEntry {H : Type} : Lit × DataW H → Nat
  | (.string bytes, d) => bytes.length + uptoBulk d + 1
  | (_, d) => uptoBulk d + 1
 end
def uptoSmall : (H : Type) → List (DataW H) → Bool := fun _ ds => decide (uptoBulkAll ds ≤ 1048576)
def OpenSpec.upto (s : _root_.Go.ChangeSpec) : _root_.Go.OpenSpec := { _root_.Go.OpenSpec.ofChange s with cond := some uptoSmall }

/-- 'laws.FnExactSameCoils', WHERE WHAT IT READS IS OF BULK AT MOST 1048576: true; the input reads as it did. -/
def fnExactSameCoilsUptoRow : OpenClaim := { program := "ytbglfbmnibhgeaa", sum := "1b8060ed74f5a333b764a948f49049e7ddf39a83b61acafcfe1aef4dfdc04ff0", func := "loop.example/g01044/laws.FnExactSameCoils", spec := "fnExactSameCoils", apart := false, narrowed := true }
def FnExactSameCoilsUptoSaid : Prop := fnExactSameCoilsUptoRow.holds Try.pinned (OpenSpec.upto fnExactSameCoilsSpec)

/-- 'laws.FnExactValidStockCoils', WHERE WHAT IT READS IS OF BULK AT MOST 1048576: true; the input reads as it did. -/
def fnExactValidStockCoilsUptoRow : OpenClaim := { program := "ytbglfbmnibhgeaa", sum := "1b8060ed74f5a333b764a948f49049e7ddf39a83b61acafcfe1aef4dfdc04ff0", func := "loop.example/g01044/laws.FnExactValidStockCoils", spec := "fnExactValidStockCoils", apart := false, narrowed := true }
def FnExactValidStockCoilsUptoSaid : Prop := fnExactValidStockCoilsUptoRow.holds Try.pinned (OpenSpec.upto fnExactValidStockCoilsSpec)

/-- 'laws.FnExactValidWants', WHERE WHAT IT READS IS OF BULK AT MOST 1048576: true; the input reads as it did. -/
def fnExactValidWantsUptoRow : OpenClaim := { program := "ytbglfbmnibhgeaa", sum := "1b8060ed74f5a333b764a948f49049e7ddf39a83b61acafcfe1aef4dfdc04ff0", func := "loop.example/g01044/laws.FnExactValidWants", spec := "fnExactValidWants", apart := false, narrowed := true }
def FnExactValidWantsUptoSaid : Prop := fnExactValidWantsUptoRow.holds Try.pinned (OpenSpec.upto fnExactValidWantsSpec)

/-- 'laws.FnExactLeftOf', WHERE WHAT IT READS IS OF BULK AT MOST 1048576: true; the input reads as it did. -/
def fnExactLeftOfUptoRow : OpenClaim := { program := "ytbglfbmnibhgeaa", sum := "1b8060ed74f5a333b764a948f49049e7ddf39a83b61acafcfe1aef4dfdc04ff0", func := "loop.example/g01044/laws.FnExactLeftOf", spec := "fnExactLeftOf", apart := false, narrowed := true }
def FnExactLeftOfUptoSaid : Prop := fnExactLeftOfUptoRow.holds Try.pinned (OpenSpec.upto fnExactLeftOfSpec)

/-- 'laws.FnExactAddCoil', WHERE WHAT IT READS IS OF BULK AT MOST 1048576: true; the input reads as it did. -/
def fnExactAddCoilUptoRow : OpenClaim := { program := "ytbglfbmnibhgeaa", sum := "1b8060ed74f5a333b764a948f49049e7ddf39a83b61acafcfe1aef4dfdc04ff0", func := "loop.example/g01044/laws.FnExactAddCoil", spec := "fnExactAddCoil", apart := false, narrowed := true }
def FnExactAddCoilUptoSaid : Prop := fnExactAddCoilUptoRow.holds Try.pinned (OpenSpec.upto fnExactAddCoilSpec)

/-- 'laws.FnExactThrowShort', WHERE WHAT IT READS IS OF BULK AT MOST 1048576: true; the input reads as it did. -/
def fnExactThrowShortUptoRow : OpenClaim := { program := "ytbglfbmnibhgeaa", sum := "1b8060ed74f5a333b764a948f49049e7ddf39a83b61acafcfe1aef4dfdc04ff0", func := "loop.example/g01044/laws.FnExactThrowShort", spec := "fnExactThrowShort", apart := false, narrowed := true }
def FnExactThrowShortUptoSaid : Prop := fnExactThrowShortUptoRow.holds Try.pinned (OpenSpec.upto fnExactThrowShortSpec)

/-- 'laws.FnExactBestCoil', WHERE WHAT IT READS IS OF BULK AT MOST 1048576: true; the input reads as it did. -/
def fnExactBestCoilUptoRow : OpenClaim := { program := "ytbglfbmnibhgeaa", sum := "1b8060ed74f5a333b764a948f49049e7ddf39a83b61acafcfe1aef4dfdc04ff0", func := "loop.example/g01044/laws.FnExactBestCoil", spec := "fnExactBestCoil", apart := false, narrowed := true }
def FnExactBestCoilUptoSaid : Prop := fnExactBestCoilUptoRow.holds Try.pinned (OpenSpec.upto fnExactBestCoilSpec)

/-- 'laws.FnExactCutPiece', WHERE WHAT IT READS IS OF BULK AT MOST 1048576: true; the input reads as it did. -/
def fnExactCutPieceUptoRow : OpenClaim := { program := "ytbglfbmnibhgeaa", sum := "1b8060ed74f5a333b764a948f49049e7ddf39a83b61acafcfe1aef4dfdc04ff0", func := "loop.example/g01044/laws.FnExactCutPiece", spec := "fnExactCutPiece", apart := false, narrowed := true }
def FnExactCutPieceUptoSaid : Prop := fnExactCutPieceUptoRow.holds Try.pinned (OpenSpec.upto fnExactCutPieceSpec)

/-- 'laws.FnExactMissingRope', WHERE WHAT IT READS IS OF BULK AT MOST 1048576: true; the input reads as it did. -/
def fnExactMissingRopeUptoRow : OpenClaim := { program := "ytbglfbmnibhgeaa", sum := "1b8060ed74f5a333b764a948f49049e7ddf39a83b61acafcfe1aef4dfdc04ff0", func := "loop.example/g01044/laws.FnExactMissingRope", spec := "fnExactMissingRope", unfollowed := true, recurses := true, apart := false, narrowed := true }
def FnExactMissingRopeUptoSaid : Prop := fnExactMissingRopeUptoRow.holds Try.pinned (OpenSpec.upto fnExactMissingRopeSpec)

/-- 'laws.FnExactCanCutAll', WHERE WHAT IT READS IS OF BULK AT MOST 1048576: true; the input reads as it did. -/
def fnExactCanCutAllUptoRow : OpenClaim := { program := "ytbglfbmnibhgeaa", sum := "1b8060ed74f5a333b764a948f49049e7ddf39a83b61acafcfe1aef4dfdc04ff0", func := "loop.example/g01044/laws.FnExactCanCutAll", spec := "fnExactCanCutAll", unfollowed := true, recurses := true, apart := false, narrowed := true }
def FnExactCanCutAllUptoSaid : Prop := fnExactCanCutAllUptoRow.holds Try.pinned (OpenSpec.upto fnExactCanCutAllSpec)

/-- 'laws.FnExactCutExactly', WHERE WHAT IT READS IS OF BULK AT MOST 1048576: true; the input reads as it did. -/
def fnExactCutExactlyUptoRow : OpenClaim := { program := "ytbglfbmnibhgeaa", sum := "1b8060ed74f5a333b764a948f49049e7ddf39a83b61acafcfe1aef4dfdc04ff0", func := "loop.example/g01044/laws.FnExactCutExactly", spec := "fnExactCutExactly", unfollowed := true, recurses := true, apart := false, narrowed := true }
def FnExactCutExactlyUptoSaid : Prop := fnExactCutExactlyUptoRow.holds Try.pinned (OpenSpec.upto fnExactCutExactlySpec)

end Rows
end Go.Proofs.Ytbglfbmnibhgeaa
