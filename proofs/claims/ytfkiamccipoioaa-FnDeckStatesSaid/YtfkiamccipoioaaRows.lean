/-
  No cell of these rows narrows 'for every input' (looked for: loops, veiled, ifaces, maps, wideKeys, modest, calm, conditions, laid).
  DERIVED. THE GIVEN ROWS OF THIS SEAT. 12 by the template 'for every input the law returns true; each argument reads behind the call as it read before'; 0 by the template 'total and deterministic' (their statements: YtfkiamccipoioaaTotals.lean).
  GIVEN WITH THE SEED: the statements are not yours to turn. If you find one false, say at which input.
  Laid BY PROGRAM, IN A SANDBOX (cutbox-rows.mjs): the forced cells as the released guide's own fill.sh prints them over the translation 3f2f011ed853042b… (all of the seat's roots in one cut). By AI agents, Wed Nov 11 2026. No macro, syntax, notation, axiom, sorry.
-/
import Derived.Test.YtfkiamccipoioaaChecked
import GoSem.Claim
import GoSem.ClaimJoined
import GoSem.ClaimMapViews
import Derived.JoinedTies
import Derived.KernelRfl
namespace Go.Proofs.Ytfkiamccipoioaa
/- THE CELL 'sum', in the pinned program and in every row, IS THE sha256 OF THE DUMP (.gsa) THAT YtfkiamccipoioaaProg.lean LOADS. Nothing in Lean hashes anything: it is a label: what it is worth is what the hold of that sum in a sandbox is worth. -/
noncomputable def Try.pinned : Pinned := { name := "ytfkiamccipoioaa", sum := "3f2f011ed853042b65d13227152fa1c693bda8eae27c993d757f8f9be55d0010", checked := Try.checked }
namespace Rows
def none {H : Type} : Left H := { results := [], args := [] }

/-- 'laws.FnExactValidDeck': WHATEVER THE INPUT: true; the input reads as it did. -/
def fnExactValidDeckSpec : ChangeSpec := { name := "fnExactValidDeck", fn := fun _ => fun
  | [d] => { results := [.lit (.bool true)], args := [d] }
  | _ => none }
def fnExactValidDeckRow : OpenClaim := { program := "ytfkiamccipoioaa", sum := "3f2f011ed853042b65d13227152fa1c693bda8eae27c993d757f8f9be55d0010", func := "loop.example/g01044/laws.FnExactValidDeck", spec := "fnExactValidDeck", apart := false }
def FnExactValidDeckSaid : Prop := fnExactValidDeckRow.holds Try.pinned (OpenSpec.ofChange fnExactValidDeckSpec)

/-- ITS FALSE NEIGHBOUR: 'it returns false'. Refute it at one input. -/
def fnExactValidDeckWrong : ChangeSpec := { name := "fnExactValidDeck", fn := fun _ => fun
  | [d] => { results := [.lit (.bool false)], args := [d] }
  | _ => none }
def FnExactValidDeckWrongFalsely : Prop := fnExactValidDeckRow.holds Try.pinned (OpenSpec.ofChange fnExactValidDeckWrong)

/-- 'laws.FnExactValidState': WHATEVER THE INPUT: true; the input reads as it did. -/
def fnExactValidStateSpec : ChangeSpec := { name := "fnExactValidState", fn := fun _ => fun
  | [d1, d2] => { results := [.lit (.bool true)], args := [d1, d2] }
  | _ => none }
def fnExactValidStateRow : OpenClaim := { program := "ytfkiamccipoioaa", sum := "3f2f011ed853042b65d13227152fa1c693bda8eae27c993d757f8f9be55d0010", func := "loop.example/g01044/laws.FnExactValidState", spec := "fnExactValidState", apart := false }
def FnExactValidStateSaid : Prop := fnExactValidStateRow.holds Try.pinned (OpenSpec.ofChange fnExactValidStateSpec)

/-- ITS FALSE NEIGHBOUR: 'it returns false'. Refute it at one input. -/
def fnExactValidStateWrong : ChangeSpec := { name := "fnExactValidState", fn := fun _ => fun
  | [d1, d2] => { results := [.lit (.bool false)], args := [d1, d2] }
  | _ => none }
def FnExactValidStateWrongFalsely : Prop := fnExactValidStateRow.holds Try.pinned (OpenSpec.ofChange fnExactValidStateWrong)

/-- 'laws.FnExactHeldBy': WHATEVER THE INPUT: true; the input reads as it did. -/
def fnExactHeldBySpec : ChangeSpec := { name := "fnExactHeldBy", fn := fun _ => fun
  | [d1, d2] => { results := [.lit (.bool true)], args := [d1, d2] }
  | _ => none }
def fnExactHeldByRow : OpenClaim := { program := "ytfkiamccipoioaa", sum := "3f2f011ed853042b65d13227152fa1c693bda8eae27c993d757f8f9be55d0010", func := "loop.example/g01044/laws.FnExactHeldBy", spec := "fnExactHeldBy", apart := false }
def FnExactHeldBySaid : Prop := fnExactHeldByRow.holds Try.pinned (OpenSpec.ofChange fnExactHeldBySpec)

/-- ITS FALSE NEIGHBOUR: 'it returns false'. Refute it at one input. -/
def fnExactHeldByWrong : ChangeSpec := { name := "fnExactHeldBy", fn := fun _ => fun
  | [d1, d2] => { results := [.lit (.bool false)], args := [d1, d2] }
  | _ => none }
def FnExactHeldByWrongFalsely : Prop := fnExactHeldByRow.holds Try.pinned (OpenSpec.ofChange fnExactHeldByWrong)

/-- 'laws.FnExactLooseYards': WHATEVER THE INPUT: true; the input reads as it did. -/
def fnExactLooseYardsSpec : ChangeSpec := { name := "fnExactLooseYards", fn := fun _ => fun
  | [d1, d2] => { results := [.lit (.bool true)], args := [d1, d2] }
  | _ => none }
def fnExactLooseYardsRow : OpenClaim := { program := "ytfkiamccipoioaa", sum := "3f2f011ed853042b65d13227152fa1c693bda8eae27c993d757f8f9be55d0010", func := "loop.example/g01044/laws.FnExactLooseYards", spec := "fnExactLooseYards", apart := false }
def FnExactLooseYardsSaid : Prop := fnExactLooseYardsRow.holds Try.pinned (OpenSpec.ofChange fnExactLooseYardsSpec)

/-- ITS FALSE NEIGHBOUR: 'it returns false'. Refute it at one input. -/
def fnExactLooseYardsWrong : ChangeSpec := { name := "fnExactLooseYards", fn := fun _ => fun
  | [d1, d2] => { results := [.lit (.bool false)], args := [d1, d2] }
  | _ => none }
def FnExactLooseYardsWrongFalsely : Prop := fnExactLooseYardsRow.holds Try.pinned (OpenSpec.ofChange fnExactLooseYardsWrong)

/-- 'laws.FnExactChangeLine': WHATEVER THE INPUT: true; the input reads as it did. -/
def fnExactChangeLineSpec : ChangeSpec := { name := "fnExactChangeLine", fn := fun _ => fun
  | [d1, d2, d3] => { results := [.lit (.bool true)], args := [d1, d2, d3] }
  | _ => none }
def fnExactChangeLineRow : OpenClaim := { program := "ytfkiamccipoioaa", sum := "3f2f011ed853042b65d13227152fa1c693bda8eae27c993d757f8f9be55d0010", func := "loop.example/g01044/laws.FnExactChangeLine", spec := "fnExactChangeLine", apart := false }
def FnExactChangeLineSaid : Prop := fnExactChangeLineRow.holds Try.pinned (OpenSpec.ofChange fnExactChangeLineSpec)

/-- ITS FALSE NEIGHBOUR: 'it returns false'. Refute it at one input. -/
def fnExactChangeLineWrong : ChangeSpec := { name := "fnExactChangeLine", fn := fun _ => fun
  | [d1, d2, d3] => { results := [.lit (.bool false)], args := [d1, d2, d3] }
  | _ => none }
def FnExactChangeLineWrongFalsely : Prop := fnExactChangeLineRow.holds Try.pinned (OpenSpec.ofChange fnExactChangeLineWrong)

/-- 'laws.FnExactRunSteps': WHATEVER THE INPUT: true; the input reads as it did. -/
def fnExactRunStepsSpec : ChangeSpec := { name := "fnExactRunSteps", fn := fun _ => fun
  | [d1, d2, d3] => { results := [.lit (.bool true)], args := [d1, d2, d3] }
  | _ => none }
def fnExactRunStepsRow : OpenClaim := { program := "ytfkiamccipoioaa", sum := "3f2f011ed853042b65d13227152fa1c693bda8eae27c993d757f8f9be55d0010", func := "loop.example/g01044/laws.FnExactRunSteps", spec := "fnExactRunSteps", apart := false }
def FnExactRunStepsSaid : Prop := fnExactRunStepsRow.holds Try.pinned (OpenSpec.ofChange fnExactRunStepsSpec)

/-- ITS FALSE NEIGHBOUR: 'it returns false'. Refute it at one input. -/
def fnExactRunStepsWrong : ChangeSpec := { name := "fnExactRunSteps", fn := fun _ => fun
  | [d1, d2, d3] => { results := [.lit (.bool false)], args := [d1, d2, d3] }
  | _ => none }
def FnExactRunStepsWrongFalsely : Prop := fnExactRunStepsRow.holds Try.pinned (OpenSpec.ofChange fnExactRunStepsWrong)

/-- 'laws.FnExactChangesOf': WHATEVER THE INPUT: true; the input reads as it did. -/
def fnExactChangesOfSpec : ChangeSpec := { name := "fnExactChangesOf", fn := fun _ => fun
  | [d1, d2] => { results := [.lit (.bool true)], args := [d1, d2] }
  | _ => none }
def fnExactChangesOfRow : OpenClaim := { program := "ytfkiamccipoioaa", sum := "3f2f011ed853042b65d13227152fa1c693bda8eae27c993d757f8f9be55d0010", func := "loop.example/g01044/laws.FnExactChangesOf", spec := "fnExactChangesOf", apart := false }
def FnExactChangesOfSaid : Prop := fnExactChangesOfRow.holds Try.pinned (OpenSpec.ofChange fnExactChangesOfSpec)

/-- ITS FALSE NEIGHBOUR: 'it returns false'. Refute it at one input. -/
def fnExactChangesOfWrong : ChangeSpec := { name := "fnExactChangesOf", fn := fun _ => fun
  | [d1, d2] => { results := [.lit (.bool false)], args := [d1, d2] }
  | _ => none }
def FnExactChangesOfWrongFalsely : Prop := fnExactChangesOfRow.holds Try.pinned (OpenSpec.ofChange fnExactChangesOfWrong)

/-- 'laws.FnExactReachedStates': WHATEVER THE INPUT: true; the input reads as it did. -/
def fnExactReachedStatesSpec : ChangeSpec := { name := "fnExactReachedStates", fn := fun _ => fun
  | [d1, d2] => { results := [.lit (.bool true)], args := [d1, d2] }
  | _ => none }
def fnExactReachedStatesRow : OpenClaim := { program := "ytfkiamccipoioaa", sum := "3f2f011ed853042b65d13227152fa1c693bda8eae27c993d757f8f9be55d0010", func := "loop.example/g01044/laws.FnExactReachedStates", spec := "fnExactReachedStates", apart := false }
def FnExactReachedStatesSaid : Prop := fnExactReachedStatesRow.holds Try.pinned (OpenSpec.ofChange fnExactReachedStatesSpec)

/-- ITS FALSE NEIGHBOUR: 'it returns false'. Refute it at one input. -/
def fnExactReachedStatesWrong : ChangeSpec := { name := "fnExactReachedStates", fn := fun _ => fun
  | [d1, d2] => { results := [.lit (.bool false)], args := [d1, d2] }
  | _ => none }
def FnExactReachedStatesWrongFalsely : Prop := fnExactReachedStatesRow.holds Try.pinned (OpenSpec.ofChange fnExactReachedStatesWrong)

/-- 'laws.FnExactShortestSteps': WHATEVER THE INPUT: true; the input reads as it did. -/
def fnExactShortestStepsSpec : ChangeSpec := { name := "fnExactShortestSteps", fn := fun _ => fun
  | [d1, d2, d3] => { results := [.lit (.bool true)], args := [d1, d2, d3] }
  | _ => none }
def fnExactShortestStepsRow : OpenClaim := { program := "ytfkiamccipoioaa", sum := "3f2f011ed853042b65d13227152fa1c693bda8eae27c993d757f8f9be55d0010", func := "loop.example/g01044/laws.FnExactShortestSteps", spec := "fnExactShortestSteps", apart := false }
def FnExactShortestStepsSaid : Prop := fnExactShortestStepsRow.holds Try.pinned (OpenSpec.ofChange fnExactShortestStepsSpec)

/-- ITS FALSE NEIGHBOUR: 'it returns false'. Refute it at one input. -/
def fnExactShortestStepsWrong : ChangeSpec := { name := "fnExactShortestSteps", fn := fun _ => fun
  | [d1, d2, d3] => { results := [.lit (.bool false)], args := [d1, d2, d3] }
  | _ => none }
def FnExactShortestStepsWrongFalsely : Prop := fnExactShortestStepsRow.holds Try.pinned (OpenSpec.ofChange fnExactShortestStepsWrong)

/-- 'laws.FnExactStuckLines': WHATEVER THE INPUT: true; the input reads as it did. -/
def fnExactStuckLinesSpec : ChangeSpec := { name := "fnExactStuckLines", fn := fun _ => fun
  | [d1, d2] => { results := [.lit (.bool true)], args := [d1, d2] }
  | _ => none }
def fnExactStuckLinesRow : OpenClaim := { program := "ytfkiamccipoioaa", sum := "3f2f011ed853042b65d13227152fa1c693bda8eae27c993d757f8f9be55d0010", func := "loop.example/g01044/laws.FnExactStuckLines", spec := "fnExactStuckLines", unfollowed := true, recurses := true, apart := false }
def FnExactStuckLinesSaid : Prop := fnExactStuckLinesRow.holds Try.pinned (OpenSpec.ofChange fnExactStuckLinesSpec)

/-- ITS FALSE NEIGHBOUR: 'it returns false'. Refute it at one input. -/
def fnExactStuckLinesWrong : ChangeSpec := { name := "fnExactStuckLines", fn := fun _ => fun
  | [d1, d2] => { results := [.lit (.bool false)], args := [d1, d2] }
  | _ => none }
def FnExactStuckLinesWrongFalsely : Prop := fnExactStuckLinesRow.holds Try.pinned (OpenSpec.ofChange fnExactStuckLinesWrong)

/-- 'laws.FnManoeuvres': WHATEVER THE INPUT: true; the input reads as it did. -/
def fnManoeuvresSpec : ChangeSpec := { name := "fnManoeuvres", fn := fun _ => fun
  | [d1, d2] => { results := [.lit (.bool true)], args := [d1, d2] }
  | _ => none }
def fnManoeuvresRow : OpenClaim := { program := "ytfkiamccipoioaa", sum := "3f2f011ed853042b65d13227152fa1c693bda8eae27c993d757f8f9be55d0010", func := "loop.example/g01044/laws.FnManoeuvres", spec := "fnManoeuvres", apart := false }
def FnManoeuvresSaid : Prop := fnManoeuvresRow.holds Try.pinned (OpenSpec.ofChange fnManoeuvresSpec)

/-- ITS FALSE NEIGHBOUR: 'it returns false'. Refute it at one input. -/
def fnManoeuvresWrong : ChangeSpec := { name := "fnManoeuvres", fn := fun _ => fun
  | [d1, d2] => { results := [.lit (.bool false)], args := [d1, d2] }
  | _ => none }
def FnManoeuvresWrongFalsely : Prop := fnManoeuvresRow.holds Try.pinned (OpenSpec.ofChange fnManoeuvresWrong)

/-- 'laws.FnDeckStates': WHATEVER THE INPUT: true; the input reads as it did. -/
def fnDeckStatesSpec : ChangeSpec := { name := "fnDeckStates", fn := fun _ => fun
  | [d] => { results := [.lit (.bool true)], args := [d] }
  | _ => none }
def fnDeckStatesRow : OpenClaim := { program := "ytfkiamccipoioaa", sum := "3f2f011ed853042b65d13227152fa1c693bda8eae27c993d757f8f9be55d0010", func := "loop.example/g01044/laws.FnDeckStates", spec := "fnDeckStates", unfollowed := true, recurses := true, apart := false }
def FnDeckStatesSaid : Prop := fnDeckStatesRow.holds Try.pinned (OpenSpec.ofChange fnDeckStatesSpec)

/-- ITS FALSE NEIGHBOUR: 'it returns false'. Refute it at one input. -/
def fnDeckStatesWrong : ChangeSpec := { name := "fnDeckStates", fn := fun _ => fun
  | [d] => { results := [.lit (.bool false)], args := [d] }
  | _ => none }
def FnDeckStatesWrongFalsely : Prop := fnDeckStatesRow.holds Try.pinned (OpenSpec.ofChange fnDeckStatesWrong)

/- THE SECOND FORM. 'bulk': how many values and letters a reading holds, each counted each time it is reached (what is shared counts as often as it is met; a slice's spare places count too). A statement '..UptoSaid' is the law's where the arguments, and the package variables that the reading takes, are together of bulk at most 1048576: NARROWER than '..Said'. Prove '..Said' where nothing that the law and all that it calls make is longer than what came in: it says more and counts as full. Else prove '..UptoSaid'. A law counts once. -/
mutual
def uptoBulk {H : Type} : DataW H → Nat
  | .lit (.string bytes) => bytes.length + 1
  | .lit _ => 1
  | .nil => 1
  | .ptr d => uptoBulk d + 1
  | .slice elems spare => uptoBulkAll elems + uptoBulkAll spare + 1
  | .agg parts => uptoBulkAll parts + 1
  | .iface _ d => uptoBulk d + 1
  | .map entries => uptoBulkEntries entries + 1
  | .held _ => 1
def uptoBulkAll {H : Type} : List (DataW H) → Nat
  | [] => 0
  | d :: r => uptoBulk d + uptoBulkAll r
def uptoBulkEntries {H : Type} : List (Lit × DataW H) → Nat
  | [] => 0
  | x :: r => uptoBulkEntry x + uptoBulkEntries r
def uptoBulkEntry {H : Type} : Lit × DataW H → Nat
  | (.string bytes, d) => bytes.length + uptoBulk d + 1
  | (_, d) => uptoBulk d + 1
 end
def uptoSmall : (H : Type) → List (DataW H) → Bool := fun _ ds => decide (uptoBulkAll ds ≤ 1048576)
def OpenSpec.upto (s : _root_.Go.ChangeSpec) : _root_.Go.OpenSpec := { _root_.Go.OpenSpec.ofChange s with cond := some uptoSmall }

/-- 'laws.FnExactValidDeck', WHERE WHAT IT READS IS OF BULK AT MOST 1048576: true; the input reads as it did. -/
def fnExactValidDeckUptoRow : OpenClaim := { program := "ytfkiamccipoioaa", sum := "3f2f011ed853042b65d13227152fa1c693bda8eae27c993d757f8f9be55d0010", func := "loop.example/g01044/laws.FnExactValidDeck", spec := "fnExactValidDeck", apart := false, narrowed := true }
def FnExactValidDeckUptoSaid : Prop := fnExactValidDeckUptoRow.holds Try.pinned (OpenSpec.upto fnExactValidDeckSpec)

/-- 'laws.FnExactValidState', WHERE WHAT IT READS IS OF BULK AT MOST 1048576: true; the input reads as it did. -/
def fnExactValidStateUptoRow : OpenClaim := { program := "ytfkiamccipoioaa", sum := "3f2f011ed853042b65d13227152fa1c693bda8eae27c993d757f8f9be55d0010", func := "loop.example/g01044/laws.FnExactValidState", spec := "fnExactValidState", apart := false, narrowed := true }
def FnExactValidStateUptoSaid : Prop := fnExactValidStateUptoRow.holds Try.pinned (OpenSpec.upto fnExactValidStateSpec)

/-- 'laws.FnExactHeldBy', WHERE WHAT IT READS IS OF BULK AT MOST 1048576: true; the input reads as it did. -/
def fnExactHeldByUptoRow : OpenClaim := { program := "ytfkiamccipoioaa", sum := "3f2f011ed853042b65d13227152fa1c693bda8eae27c993d757f8f9be55d0010", func := "loop.example/g01044/laws.FnExactHeldBy", spec := "fnExactHeldBy", apart := false, narrowed := true }
def FnExactHeldByUptoSaid : Prop := fnExactHeldByUptoRow.holds Try.pinned (OpenSpec.upto fnExactHeldBySpec)

/-- 'laws.FnExactLooseYards', WHERE WHAT IT READS IS OF BULK AT MOST 1048576: true; the input reads as it did. -/
def fnExactLooseYardsUptoRow : OpenClaim := { program := "ytfkiamccipoioaa", sum := "3f2f011ed853042b65d13227152fa1c693bda8eae27c993d757f8f9be55d0010", func := "loop.example/g01044/laws.FnExactLooseYards", spec := "fnExactLooseYards", apart := false, narrowed := true }
def FnExactLooseYardsUptoSaid : Prop := fnExactLooseYardsUptoRow.holds Try.pinned (OpenSpec.upto fnExactLooseYardsSpec)

/-- 'laws.FnExactChangeLine', WHERE WHAT IT READS IS OF BULK AT MOST 1048576: true; the input reads as it did. -/
def fnExactChangeLineUptoRow : OpenClaim := { program := "ytfkiamccipoioaa", sum := "3f2f011ed853042b65d13227152fa1c693bda8eae27c993d757f8f9be55d0010", func := "loop.example/g01044/laws.FnExactChangeLine", spec := "fnExactChangeLine", apart := false, narrowed := true }
def FnExactChangeLineUptoSaid : Prop := fnExactChangeLineUptoRow.holds Try.pinned (OpenSpec.upto fnExactChangeLineSpec)

/-- 'laws.FnExactRunSteps', WHERE WHAT IT READS IS OF BULK AT MOST 1048576: true; the input reads as it did. -/
def fnExactRunStepsUptoRow : OpenClaim := { program := "ytfkiamccipoioaa", sum := "3f2f011ed853042b65d13227152fa1c693bda8eae27c993d757f8f9be55d0010", func := "loop.example/g01044/laws.FnExactRunSteps", spec := "fnExactRunSteps", apart := false, narrowed := true }
def FnExactRunStepsUptoSaid : Prop := fnExactRunStepsUptoRow.holds Try.pinned (OpenSpec.upto fnExactRunStepsSpec)

/-- 'laws.FnExactChangesOf', WHERE WHAT IT READS IS OF BULK AT MOST 1048576: true; the input reads as it did. -/
def fnExactChangesOfUptoRow : OpenClaim := { program := "ytfkiamccipoioaa", sum := "3f2f011ed853042b65d13227152fa1c693bda8eae27c993d757f8f9be55d0010", func := "loop.example/g01044/laws.FnExactChangesOf", spec := "fnExactChangesOf", apart := false, narrowed := true }
def FnExactChangesOfUptoSaid : Prop := fnExactChangesOfUptoRow.holds Try.pinned (OpenSpec.upto fnExactChangesOfSpec)

/-- 'laws.FnExactReachedStates', WHERE WHAT IT READS IS OF BULK AT MOST 1048576: true; the input reads as it did. -/
def fnExactReachedStatesUptoRow : OpenClaim := { program := "ytfkiamccipoioaa", sum := "3f2f011ed853042b65d13227152fa1c693bda8eae27c993d757f8f9be55d0010", func := "loop.example/g01044/laws.FnExactReachedStates", spec := "fnExactReachedStates", apart := false, narrowed := true }
def FnExactReachedStatesUptoSaid : Prop := fnExactReachedStatesUptoRow.holds Try.pinned (OpenSpec.upto fnExactReachedStatesSpec)

/-- 'laws.FnExactShortestSteps', WHERE WHAT IT READS IS OF BULK AT MOST 1048576: true; the input reads as it did. -/
def fnExactShortestStepsUptoRow : OpenClaim := { program := "ytfkiamccipoioaa", sum := "3f2f011ed853042b65d13227152fa1c693bda8eae27c993d757f8f9be55d0010", func := "loop.example/g01044/laws.FnExactShortestSteps", spec := "fnExactShortestSteps", apart := false, narrowed := true }
def FnExactShortestStepsUptoSaid : Prop := fnExactShortestStepsUptoRow.holds Try.pinned (OpenSpec.upto fnExactShortestStepsSpec)

/-- 'laws.FnExactStuckLines', WHERE WHAT IT READS IS OF BULK AT MOST 1048576: true; the input reads as it did. -/
def fnExactStuckLinesUptoRow : OpenClaim := { program := "ytfkiamccipoioaa", sum := "3f2f011ed853042b65d13227152fa1c693bda8eae27c993d757f8f9be55d0010", func := "loop.example/g01044/laws.FnExactStuckLines", spec := "fnExactStuckLines", unfollowed := true, recurses := true, apart := false, narrowed := true }
def FnExactStuckLinesUptoSaid : Prop := fnExactStuckLinesUptoRow.holds Try.pinned (OpenSpec.upto fnExactStuckLinesSpec)

/-- 'laws.FnManoeuvres', WHERE WHAT IT READS IS OF BULK AT MOST 1048576: true; the input reads as it did. -/
def fnManoeuvresUptoRow : OpenClaim := { program := "ytfkiamccipoioaa", sum := "3f2f011ed853042b65d13227152fa1c693bda8eae27c993d757f8f9be55d0010", func := "loop.example/g01044/laws.FnManoeuvres", spec := "fnManoeuvres", apart := false, narrowed := true }
def FnManoeuvresUptoSaid : Prop := fnManoeuvresUptoRow.holds Try.pinned (OpenSpec.upto fnManoeuvresSpec)

/-- 'laws.FnDeckStates', WHERE WHAT IT READS IS OF BULK AT MOST 1048576: true; the input reads as it did. -/
def fnDeckStatesUptoRow : OpenClaim := { program := "ytfkiamccipoioaa", sum := "3f2f011ed853042b65d13227152fa1c693bda8eae27c993d757f8f9be55d0010", func := "loop.example/g01044/laws.FnDeckStates", spec := "fnDeckStates", unfollowed := true, recurses := true, apart := false, narrowed := true }
def FnDeckStatesUptoSaid : Prop := fnDeckStatesUptoRow.holds Try.pinned (OpenSpec.upto fnDeckStatesSpec)

end Rows
end Go.Proofs.Ytfkiamccipoioaa
