/-
  No cell of these rows narrows 'for every input' (looked for: loops, veiled, ifaces, maps, wideKeys, modest, calm, conditions, laid).
  DERIVED. THE GIVEN ROWS OF THIS SEAT. 12 by the template 'for every input the law returns true; each argument reads behind the call as it read before'; 0 by the template 'total and deterministic' (their statements: YtdbigcfpinpnpaaTotals.lean).
  GIVEN WITH THE SEED: the statements are not yours to turn. If you find one false, say at which input.
  Laid BY PROGRAM, IN A SANDBOX (cutbox-rows.mjs): the forced cells as the released guide's own fill.sh prints them over the translation b511e60ee25e7e1e… (all of the seat's roots in one cut). By AI agents, Wed Nov 11 2026. No macro, syntax, notation, axiom, sorry.
-/
import Derived.Test.YtdbigcfpinpnpaaChecked
import GoSem.Claim
import GoSem.ClaimJoined
import GoSem.ClaimMapViews
import Derived.JoinedTies
import Derived.KernelRfl
namespace Go.Proofs.Ytdbigcfpinpnpaa
/- THE CELL 'sum', in the pinned program and in every row, IS THE sha256 OF THE DUMP (.gsa) THAT YtdbigcfpinpnpaaProg.lean LOADS. Nothing in Lean hashes anything: it is a label: what it is worth is what the hold of that sum in a sandbox is worth. -/
noncomputable def Try.pinned : Pinned := { name := "ytdbigcfpinpnpaa", sum := "b511e60ee25e7e1eab322cd38af8a13b8bf2964c3925c741ca34bd167fcb809c", checked := Try.checked }
namespace Rows
def none {H : Type} : Left H := { results := [], args := [] }

/-- 'laws.FnExactSameChecks': WHATEVER THE INPUT: true; the input reads as it did. -/
def fnExactSameChecksSpec : ChangeSpec := { name := "fnExactSameChecks", fn := fun _ => fun
  | [d1, d2] => { results := [.lit (.bool true)], args := [d1, d2] }
  | _ => none }
def fnExactSameChecksRow : OpenClaim := { program := "ytdbigcfpinpnpaa", sum := "b511e60ee25e7e1eab322cd38af8a13b8bf2964c3925c741ca34bd167fcb809c", func := "loop.example/g01044/laws.FnExactSameChecks", spec := "fnExactSameChecks", apart := false }
def FnExactSameChecksSaid : Prop := fnExactSameChecksRow.holds Try.pinned (OpenSpec.ofChange fnExactSameChecksSpec)

/-- ITS FALSE NEIGHBOUR: 'it returns false'. Refute it at one input. -/
def fnExactSameChecksWrong : ChangeSpec := { name := "fnExactSameChecks", fn := fun _ => fun
  | [d1, d2] => { results := [.lit (.bool false)], args := [d1, d2] }
  | _ => none }
def FnExactSameChecksWrongFalsely : Prop := fnExactSameChecksRow.holds Try.pinned (OpenSpec.ofChange fnExactSameChecksWrong)

/-- 'laws.FnExactValidGear': WHATEVER THE INPUT: true; the input reads as it did. -/
def fnExactValidGearSpec : ChangeSpec := { name := "fnExactValidGear", fn := fun _ => fun
  | [d] => { results := [.lit (.bool true)], args := [d] }
  | _ => none }
def fnExactValidGearRow : OpenClaim := { program := "ytdbigcfpinpnpaa", sum := "b511e60ee25e7e1eab322cd38af8a13b8bf2964c3925c741ca34bd167fcb809c", func := "loop.example/g01044/laws.FnExactValidGear", spec := "fnExactValidGear", unfollowed := true, recurses := true, apart := false }
def FnExactValidGearSaid : Prop := fnExactValidGearRow.holds Try.pinned (OpenSpec.ofChange fnExactValidGearSpec)

/-- ITS FALSE NEIGHBOUR: 'it returns false'. Refute it at one input. -/
def fnExactValidGearWrong : ChangeSpec := { name := "fnExactValidGear", fn := fun _ => fun
  | [d] => { results := [.lit (.bool false)], args := [d] }
  | _ => none }
def FnExactValidGearWrongFalsely : Prop := fnExactValidGearRow.holds Try.pinned (OpenSpec.ofChange fnExactValidGearWrong)

/-- 'laws.FnExactValidChecks': WHATEVER THE INPUT: true; the input reads as it did. -/
def fnExactValidChecksSpec : ChangeSpec := { name := "fnExactValidChecks", fn := fun _ => fun
  | [d1, d2] => { results := [.lit (.bool true)], args := [d1, d2] }
  | _ => none }
def fnExactValidChecksRow : OpenClaim := { program := "ytdbigcfpinpnpaa", sum := "b511e60ee25e7e1eab322cd38af8a13b8bf2964c3925c741ca34bd167fcb809c", func := "loop.example/g01044/laws.FnExactValidChecks", spec := "fnExactValidChecks", unfollowed := true, recurses := true, apart := false }
def FnExactValidChecksSaid : Prop := fnExactValidChecksRow.holds Try.pinned (OpenSpec.ofChange fnExactValidChecksSpec)

/-- ITS FALSE NEIGHBOUR: 'it returns false'. Refute it at one input. -/
def fnExactValidChecksWrong : ChangeSpec := { name := "fnExactValidChecks", fn := fun _ => fun
  | [d1, d2] => { results := [.lit (.bool false)], args := [d1, d2] }
  | _ => none }
def FnExactValidChecksWrongFalsely : Prop := fnExactValidChecksRow.holds Try.pinned (OpenSpec.ofChange fnExactValidChecksWrong)

/-- 'laws.FnExactRenewGear': WHATEVER THE INPUT: true; the input reads as it did. -/
def fnExactRenewGearSpec : ChangeSpec := { name := "fnExactRenewGear", fn := fun _ => fun
  | [d1, d2, d3] => { results := [.lit (.bool true)], args := [d1, d2, d3] }
  | _ => none }
def fnExactRenewGearRow : OpenClaim := { program := "ytdbigcfpinpnpaa", sum := "b511e60ee25e7e1eab322cd38af8a13b8bf2964c3925c741ca34bd167fcb809c", func := "loop.example/g01044/laws.FnExactRenewGear", spec := "fnExactRenewGear", unfollowed := true, recurses := true, apart := false }
def FnExactRenewGearSaid : Prop := fnExactRenewGearRow.holds Try.pinned (OpenSpec.ofChange fnExactRenewGearSpec)

/-- ITS FALSE NEIGHBOUR: 'it returns false'. Refute it at one input. -/
def fnExactRenewGearWrong : ChangeSpec := { name := "fnExactRenewGear", fn := fun _ => fun
  | [d1, d2, d3] => { results := [.lit (.bool false)], args := [d1, d2, d3] }
  | _ => none }
def FnExactRenewGearWrongFalsely : Prop := fnExactRenewGearRow.holds Try.pinned (OpenSpec.ofChange fnExactRenewGearWrong)

/-- 'laws.FnExactWearOn': WHATEVER THE INPUT: true; the input reads as it did. -/
def fnExactWearOnSpec : ChangeSpec := { name := "fnExactWearOn", fn := fun _ => fun
  | [d1, d2, d3, d4] => { results := [.lit (.bool true)], args := [d1, d2, d3, d4] }
  | _ => none }
def fnExactWearOnRow : OpenClaim := { program := "ytdbigcfpinpnpaa", sum := "b511e60ee25e7e1eab322cd38af8a13b8bf2964c3925c741ca34bd167fcb809c", func := "loop.example/g01044/laws.FnExactWearOn", spec := "fnExactWearOn", unfollowed := true, recurses := true, apart := false }
def FnExactWearOnSaid : Prop := fnExactWearOnRow.holds Try.pinned (OpenSpec.ofChange fnExactWearOnSpec)

/-- ITS FALSE NEIGHBOUR: 'it returns false'. Refute it at one input. -/
def fnExactWearOnWrong : ChangeSpec := { name := "fnExactWearOn", fn := fun _ => fun
  | [d1, d2, d3, d4] => { results := [.lit (.bool false)], args := [d1, d2, d3, d4] }
  | _ => none }
def FnExactWearOnWrongFalsely : Prop := fnExactWearOnRow.holds Try.pinned (OpenSpec.ofChange fnExactWearOnWrong)

/-- 'laws.FnExactNextToFail': WHATEVER THE INPUT: true; the input reads as it did. -/
def fnExactNextToFailSpec : ChangeSpec := { name := "fnExactNextToFail", fn := fun _ => fun
  | [d1, d2] => { results := [.lit (.bool true)], args := [d1, d2] }
  | _ => none }
def fnExactNextToFailRow : OpenClaim := { program := "ytdbigcfpinpnpaa", sum := "b511e60ee25e7e1eab322cd38af8a13b8bf2964c3925c741ca34bd167fcb809c", func := "loop.example/g01044/laws.FnExactNextToFail", spec := "fnExactNextToFail", unfollowed := true, recurses := true, apart := false }
def FnExactNextToFailSaid : Prop := fnExactNextToFailRow.holds Try.pinned (OpenSpec.ofChange fnExactNextToFailSpec)

/-- ITS FALSE NEIGHBOUR: 'it returns false'. Refute it at one input. -/
def fnExactNextToFailWrong : ChangeSpec := { name := "fnExactNextToFail", fn := fun _ => fun
  | [d1, d2] => { results := [.lit (.bool false)], args := [d1, d2] }
  | _ => none }
def FnExactNextToFailWrongFalsely : Prop := fnExactNextToFailRow.holds Try.pinned (OpenSpec.ofChange fnExactNextToFailWrong)

/-- 'laws.FnExactDayOfEnd': WHATEVER THE INPUT: true; the input reads as it did. -/
def fnExactDayOfEndSpec : ChangeSpec := { name := "fnExactDayOfEnd", fn := fun _ => fun
  | [d1, d2, d3] => { results := [.lit (.bool true)], args := [d1, d2, d3] }
  | _ => none }
def fnExactDayOfEndRow : OpenClaim := { program := "ytdbigcfpinpnpaa", sum := "b511e60ee25e7e1eab322cd38af8a13b8bf2964c3925c741ca34bd167fcb809c", func := "loop.example/g01044/laws.FnExactDayOfEnd", spec := "fnExactDayOfEnd", unfollowed := true, recurses := true, apart := false }
def FnExactDayOfEndSaid : Prop := fnExactDayOfEndRow.holds Try.pinned (OpenSpec.ofChange fnExactDayOfEndSpec)

/-- ITS FALSE NEIGHBOUR: 'it returns false'. Refute it at one input. -/
def fnExactDayOfEndWrong : ChangeSpec := { name := "fnExactDayOfEnd", fn := fun _ => fun
  | [d1, d2, d3] => { results := [.lit (.bool false)], args := [d1, d2, d3] }
  | _ => none }
def FnExactDayOfEndWrongFalsely : Prop := fnExactDayOfEndRow.holds Try.pinned (OpenSpec.ofChange fnExactDayOfEndWrong)

/-- 'laws.FnExactAddCheck': WHATEVER THE INPUT: true; the input reads as it did. -/
def fnExactAddCheckSpec : ChangeSpec := { name := "fnExactAddCheck", fn := fun _ => fun
  | [d1, d2, d3] => { results := [.lit (.bool true)], args := [d1, d2, d3] }
  | _ => none }
def fnExactAddCheckRow : OpenClaim := { program := "ytdbigcfpinpnpaa", sum := "b511e60ee25e7e1eab322cd38af8a13b8bf2964c3925c741ca34bd167fcb809c", func := "loop.example/g01044/laws.FnExactAddCheck", spec := "fnExactAddCheck", unfollowed := true, recurses := true, apart := false }
def FnExactAddCheckSaid : Prop := fnExactAddCheckRow.holds Try.pinned (OpenSpec.ofChange fnExactAddCheckSpec)

/-- ITS FALSE NEIGHBOUR: 'it returns false'. Refute it at one input. -/
def fnExactAddCheckWrong : ChangeSpec := { name := "fnExactAddCheck", fn := fun _ => fun
  | [d1, d2, d3] => { results := [.lit (.bool false)], args := [d1, d2, d3] }
  | _ => none }
def FnExactAddCheckWrongFalsely : Prop := fnExactAddCheckRow.holds Try.pinned (OpenSpec.ofChange fnExactAddCheckWrong)

/-- 'laws.FnExactNotChecked': WHATEVER THE INPUT: true; the input reads as it did. -/
def fnExactNotCheckedSpec : ChangeSpec := { name := "fnExactNotChecked", fn := fun _ => fun
  | [d1, d2, d3] => { results := [.lit (.bool true)], args := [d1, d2, d3] }
  | _ => none }
def fnExactNotCheckedRow : OpenClaim := { program := "ytdbigcfpinpnpaa", sum := "b511e60ee25e7e1eab322cd38af8a13b8bf2964c3925c741ca34bd167fcb809c", func := "loop.example/g01044/laws.FnExactNotChecked", spec := "fnExactNotChecked", unfollowed := true, recurses := true, apart := false }
def FnExactNotCheckedSaid : Prop := fnExactNotCheckedRow.holds Try.pinned (OpenSpec.ofChange fnExactNotCheckedSpec)

/-- ITS FALSE NEIGHBOUR: 'it returns false'. Refute it at one input. -/
def fnExactNotCheckedWrong : ChangeSpec := { name := "fnExactNotChecked", fn := fun _ => fun
  | [d1, d2, d3] => { results := [.lit (.bool false)], args := [d1, d2, d3] }
  | _ => none }
def FnExactNotCheckedWrongFalsely : Prop := fnExactNotCheckedRow.holds Try.pinned (OpenSpec.ofChange fnExactNotCheckedWrong)

/-- 'laws.FnExactRateFound': WHATEVER THE INPUT: true; the input reads as it did. -/
def fnExactRateFoundSpec : ChangeSpec := { name := "fnExactRateFound", fn := fun _ => fun
  | [d1, d2, d3] => { results := [.lit (.bool true)], args := [d1, d2, d3] }
  | _ => none }
def fnExactRateFoundRow : OpenClaim := { program := "ytdbigcfpinpnpaa", sum := "b511e60ee25e7e1eab322cd38af8a13b8bf2964c3925c741ca34bd167fcb809c", func := "loop.example/g01044/laws.FnExactRateFound", spec := "fnExactRateFound", unfollowed := true, recurses := true, apart := false }
def FnExactRateFoundSaid : Prop := fnExactRateFoundRow.holds Try.pinned (OpenSpec.ofChange fnExactRateFoundSpec)

/-- ITS FALSE NEIGHBOUR: 'it returns false'. Refute it at one input. -/
def fnExactRateFoundWrong : ChangeSpec := { name := "fnExactRateFound", fn := fun _ => fun
  | [d1, d2, d3] => { results := [.lit (.bool false)], args := [d1, d2, d3] }
  | _ => none }
def FnExactRateFoundWrongFalsely : Prop := fnExactRateFoundRow.holds Try.pinned (OpenSpec.ofChange fnExactRateFoundWrong)

/-- 'laws.FnExactFasterThanTold': WHATEVER THE INPUT: true; the input reads as it did. -/
def fnExactFasterThanToldSpec : ChangeSpec := { name := "fnExactFasterThanTold", fn := fun _ => fun
  | [d1, d2] => { results := [.lit (.bool true)], args := [d1, d2] }
  | _ => none }
def fnExactFasterThanToldRow : OpenClaim := { program := "ytdbigcfpinpnpaa", sum := "b511e60ee25e7e1eab322cd38af8a13b8bf2964c3925c741ca34bd167fcb809c", func := "loop.example/g01044/laws.FnExactFasterThanTold", spec := "fnExactFasterThanTold", unfollowed := true, recurses := true, apart := false }
def FnExactFasterThanToldSaid : Prop := fnExactFasterThanToldRow.holds Try.pinned (OpenSpec.ofChange fnExactFasterThanToldSpec)

/-- ITS FALSE NEIGHBOUR: 'it returns false'. Refute it at one input. -/
def fnExactFasterThanToldWrong : ChangeSpec := { name := "fnExactFasterThanTold", fn := fun _ => fun
  | [d1, d2] => { results := [.lit (.bool false)], args := [d1, d2] }
  | _ => none }
def FnExactFasterThanToldWrongFalsely : Prop := fnExactFasterThanToldRow.holds Try.pinned (OpenSpec.ofChange fnExactFasterThanToldWrong)

/-- 'laws.FnExactWornOn': WHATEVER THE INPUT: true; the input reads as it did. -/
def fnExactWornOnSpec : ChangeSpec := { name := "fnExactWornOn", fn := fun _ => fun
  | [d1, d2, d3] => { results := [.lit (.bool true)], args := [d1, d2, d3] }
  | _ => none }
def fnExactWornOnRow : OpenClaim := { program := "ytdbigcfpinpnpaa", sum := "b511e60ee25e7e1eab322cd38af8a13b8bf2964c3925c741ca34bd167fcb809c", func := "loop.example/g01044/laws.FnExactWornOn", spec := "fnExactWornOn", unfollowed := true, recurses := true, apart := false }
def FnExactWornOnSaid : Prop := fnExactWornOnRow.holds Try.pinned (OpenSpec.ofChange fnExactWornOnSpec)

/-- ITS FALSE NEIGHBOUR: 'it returns false'. Refute it at one input. -/
def fnExactWornOnWrong : ChangeSpec := { name := "fnExactWornOn", fn := fun _ => fun
  | [d1, d2, d3] => { results := [.lit (.bool false)], args := [d1, d2, d3] }
  | _ => none }
def FnExactWornOnWrongFalsely : Prop := fnExactWornOnRow.holds Try.pinned (OpenSpec.ofChange fnExactWornOnWrong)

/- THE SECOND FORM. 'bulk': how many values and letters a reading holds, each counted each time it is reached (what is shared counts as often as it is met; a slice's spare places count too). A statement '..UptoSaid' is the law's where the arguments, and the package variables that the reading takes, are together of bulk at most 1048576: NARROWER than '..Said'. Prove '..Said' where nothing that the law and all that it calls make is longer than what came in: it says more and counts as full. Else prove '..UptoSaid'. A law counts once. -/
mutual
def uptoBulk {H : Type} : DataW H → Nat
  | .lit (.string bytes) => bytes.length + 1
  | .lit _ => 1
  | .nil => 1
  | .ptr d => uptoBulk d + 1
  | .slice elems spare => uptoBulkAll elems + uptoBulkAll spare + 1
  | .agg parts => uptoBulkAll parts + 1
  | .iface _ d => uptoBulk d + 1
  | .map entries => uptoBulkEntries entries + 1
  | .held _ => 1
def uptoBulkAll {H : Type} : List (DataW H) → Nat
  | [] => 0
  | d :: r => uptoBulk d + uptoBulkAll r
def uptoBulkEntries {H : Type} : List (Lit × DataW H) → Nat
  | [] => 0
  | x :: r => uptoBulkEntry x + uptoBulkEntries r
def uptoBulkEntry {H : Type} : Lit × DataW H → Nat
  | (.string bytes, d) => bytes.length + uptoBulk d + 1
  | (_, d) => uptoBulk d + 1
 end
def uptoSmall : (H : Type) → List (DataW H) → Bool := fun _ ds => decide (uptoBulkAll ds ≤ 1048576)
def OpenSpec.upto (s : _root_.Go.ChangeSpec) : _root_.Go.OpenSpec := { _root_.Go.OpenSpec.ofChange s with cond := some uptoSmall }

/-- 'laws.FnExactSameChecks', WHERE WHAT IT READS IS OF BULK AT MOST 1048576: true; the input reads as it did. -/
def fnExactSameChecksUptoRow : OpenClaim := { program := "ytdbigcfpinpnpaa", sum := "b511e60ee25e7e1eab322cd38af8a13b8bf2964c3925c741ca34bd167fcb809c", func := "loop.example/g01044/laws.FnExactSameChecks", spec := "fnExactSameChecks", apart := false, narrowed := true }
def FnExactSameChecksUptoSaid : Prop := fnExactSameChecksUptoRow.holds Try.pinned (OpenSpec.upto fnExactSameChecksSpec)

/-- 'laws.FnExactValidGear', WHERE WHAT IT READS IS OF BULK AT MOST 1048576: true; the input reads as it did. -/
def fnExactValidGearUptoRow : OpenClaim := { program := "ytdbigcfpinpnpaa", sum := "b511e60ee25e7e1eab322cd38af8a13b8bf2964c3925c741ca34bd167fcb809c", func := "loop.example/g01044/laws.FnExactValidGear", spec := "fnExactValidGear", unfollowed := true, recurses := true, apart := false, narrowed := true }
def FnExactValidGearUptoSaid : Prop := fnExactValidGearUptoRow.holds Try.pinned (OpenSpec.upto fnExactValidGearSpec)

/-- 'laws.FnExactValidChecks', WHERE WHAT IT READS IS OF BULK AT MOST 1048576: true; the input reads as it did. -/
def fnExactValidChecksUptoRow : OpenClaim := { program := "ytdbigcfpinpnpaa", sum := "b511e60ee25e7e1eab322cd38af8a13b8bf2964c3925c741ca34bd167fcb809c", func := "loop.example/g01044/laws.FnExactValidChecks", spec := "fnExactValidChecks", unfollowed := true, recurses := true, apart := false, narrowed := true }
def FnExactValidChecksUptoSaid : Prop := fnExactValidChecksUptoRow.holds Try.pinned (OpenSpec.upto fnExactValidChecksSpec)

/-- 'laws.FnExactRenewGear', WHERE WHAT IT READS IS OF BULK AT MOST 1048576: true; the input reads as it did. -/
def fnExactRenewGearUptoRow : OpenClaim := { program := "ytdbigcfpinpnpaa", sum := "b511e60ee25e7e1eab322cd38af8a13b8bf2964c3925c741ca34bd167fcb809c", func := "loop.example/g01044/laws.FnExactRenewGear", spec := "fnExactRenewGear", unfollowed := true, recurses := true, apart := false, narrowed := true }
def FnExactRenewGearUptoSaid : Prop := fnExactRenewGearUptoRow.holds Try.pinned (OpenSpec.upto fnExactRenewGearSpec)

/-- 'laws.FnExactWearOn', WHERE WHAT IT READS IS OF BULK AT MOST 1048576: true; the input reads as it did. -/
def fnExactWearOnUptoRow : OpenClaim := { program := "ytdbigcfpinpnpaa", sum := "b511e60ee25e7e1eab322cd38af8a13b8bf2964c3925c741ca34bd167fcb809c", func := "loop.example/g01044/laws.FnExactWearOn", spec := "fnExactWearOn", unfollowed := true, recurses := true, apart := false, narrowed := true }
def FnExactWearOnUptoSaid : Prop := fnExactWearOnUptoRow.holds Try.pinned (OpenSpec.upto fnExactWearOnSpec)

/-- 'laws.FnExactNextToFail', WHERE WHAT IT READS IS OF BULK AT MOST 1048576: true; the input reads as it did. -/
def fnExactNextToFailUptoRow : OpenClaim := { program := "ytdbigcfpinpnpaa", sum := "b511e60ee25e7e1eab322cd38af8a13b8bf2964c3925c741ca34bd167fcb809c", func := "loop.example/g01044/laws.FnExactNextToFail", spec := "fnExactNextToFail", unfollowed := true, recurses := true, apart := false, narrowed := true }
def FnExactNextToFailUptoSaid : Prop := fnExactNextToFailUptoRow.holds Try.pinned (OpenSpec.upto fnExactNextToFailSpec)

/-- 'laws.FnExactDayOfEnd', WHERE WHAT IT READS IS OF BULK AT MOST 1048576: true; the input reads as it did. -/
def fnExactDayOfEndUptoRow : OpenClaim := { program := "ytdbigcfpinpnpaa", sum := "b511e60ee25e7e1eab322cd38af8a13b8bf2964c3925c741ca34bd167fcb809c", func := "loop.example/g01044/laws.FnExactDayOfEnd", spec := "fnExactDayOfEnd", unfollowed := true, recurses := true, apart := false, narrowed := true }
def FnExactDayOfEndUptoSaid : Prop := fnExactDayOfEndUptoRow.holds Try.pinned (OpenSpec.upto fnExactDayOfEndSpec)

/-- 'laws.FnExactAddCheck', WHERE WHAT IT READS IS OF BULK AT MOST 1048576: true; the input reads as it did. -/
def fnExactAddCheckUptoRow : OpenClaim := { program := "ytdbigcfpinpnpaa", sum := "b511e60ee25e7e1eab322cd38af8a13b8bf2964c3925c741ca34bd167fcb809c", func := "loop.example/g01044/laws.FnExactAddCheck", spec := "fnExactAddCheck", unfollowed := true, recurses := true, apart := false, narrowed := true }
def FnExactAddCheckUptoSaid : Prop := fnExactAddCheckUptoRow.holds Try.pinned (OpenSpec.upto fnExactAddCheckSpec)

/-- 'laws.FnExactNotChecked', WHERE WHAT IT READS IS OF BULK AT MOST 1048576: true; the input reads as it did. -/
def fnExactNotCheckedUptoRow : OpenClaim := { program := "ytdbigcfpinpnpaa", sum := "b511e60ee25e7e1eab322cd38af8a13b8bf2964c3925c741ca34bd167fcb809c", func := "loop.example/g01044/laws.FnExactNotChecked", spec := "fnExactNotChecked", unfollowed := true, recurses := true, apart := false, narrowed := true }
def FnExactNotCheckedUptoSaid : Prop := fnExactNotCheckedUptoRow.holds Try.pinned (OpenSpec.upto fnExactNotCheckedSpec)

/-- 'laws.FnExactRateFound', WHERE WHAT IT READS IS OF BULK AT MOST 1048576: true; the input reads as it did. -/
def fnExactRateFoundUptoRow : OpenClaim := { program := "ytdbigcfpinpnpaa", sum := "b511e60ee25e7e1eab322cd38af8a13b8bf2964c3925c741ca34bd167fcb809c", func := "loop.example/g01044/laws.FnExactRateFound", spec := "fnExactRateFound", unfollowed := true, recurses := true, apart := false, narrowed := true }
def FnExactRateFoundUptoSaid : Prop := fnExactRateFoundUptoRow.holds Try.pinned (OpenSpec.upto fnExactRateFoundSpec)

/-- 'laws.FnExactFasterThanTold', WHERE WHAT IT READS IS OF BULK AT MOST 1048576: true; the input reads as it did. -/
def fnExactFasterThanToldUptoRow : OpenClaim := { program := "ytdbigcfpinpnpaa", sum := "b511e60ee25e7e1eab322cd38af8a13b8bf2964c3925c741ca34bd167fcb809c", func := "loop.example/g01044/laws.FnExactFasterThanTold", spec := "fnExactFasterThanTold", unfollowed := true, recurses := true, apart := false, narrowed := true }
def FnExactFasterThanToldUptoSaid : Prop := fnExactFasterThanToldUptoRow.holds Try.pinned (OpenSpec.upto fnExactFasterThanToldSpec)

/-- 'laws.FnExactWornOn', WHERE WHAT IT READS IS OF BULK AT MOST 1048576: true; the input reads as it did. -/
def fnExactWornOnUptoRow : OpenClaim := { program := "ytdbigcfpinpnpaa", sum := "b511e60ee25e7e1eab322cd38af8a13b8bf2964c3925c741ca34bd167fcb809c", func := "loop.example/g01044/laws.FnExactWornOn", spec := "fnExactWornOn", unfollowed := true, recurses := true, apart := false, narrowed := true }
def FnExactWornOnUptoSaid : Prop := fnExactWornOnUptoRow.holds Try.pinned (OpenSpec.upto fnExactWornOnSpec)

end Rows
end Go.Proofs.Ytdbigcfpinpnpaa
