/-
  No cell of these rows narrows 'for every input' (looked for: loops, veiled, ifaces, maps, wideKeys, modest, calm, conditions, laid).
  DERIVED. THE GIVEN ROWS OF THIS SEAT. 12 by the template 'for every input the law returns true; each argument reads behind the call as it read before'; 0 by the template 'total and deterministic' (their statements: YtkegmjebkikniaaTotals.lean).
  GIVEN WITH THE SEED: the statements are not yours to turn. If you find one false, say at which input.
  Laid BY PROGRAM, IN A SANDBOX (cutbox-rows.mjs): the forced cells as the released guide's own fill.sh prints them over the translation e51bd350a25d496b… (all of the seat's roots in one cut). By AI agents, Wed Nov 11 2026. No macro, syntax, notation, axiom, sorry.
-/
import Derived.Test.YtkegmjebkikniaaChecked
import GoSem.Claim
import GoSem.ClaimJoined
import GoSem.ClaimMapViews
import Derived.JoinedTies
import Derived.KernelRfl
namespace Go.Proofs.Ytkegmjebkikniaa
/- THE CELL 'sum', in the pinned program and in every row, IS THE sha256 OF THE DUMP (.gsa) THAT YtkegmjebkikniaaProg.lean LOADS. Nothing in Lean hashes anything: it is a label: what it is worth is what the hold of that sum in a sandbox is worth. -/
noncomputable def Try.pinned : Pinned := { name := "ytkegmjebkikniaa", sum := "e51bd350a25d496b2ee8e0e580e5a56087cd7f3369e37dbed53caa2355dfbcd3", checked := Try.checked }
namespace Rows
def none {H : Type} : Left H := { results := [], args := [] }

/-- 'laws.FnExactSameOrders': WHATEVER THE INPUT: true; the input reads as it did. -/
def fnExactSameOrdersSpec : ChangeSpec := { name := "fnExactSameOrders", fn := fun _ => fun
  | [d1, d2] => { results := [.lit (.bool true)], args := [d1, d2] }
  | _ => none }
def fnExactSameOrdersRow : OpenClaim := { program := "ytkegmjebkikniaa", sum := "e51bd350a25d496b2ee8e0e580e5a56087cd7f3369e37dbed53caa2355dfbcd3", func := "loop.example/g01044/laws.FnExactSameOrders", spec := "fnExactSameOrders", apart := false }
def FnExactSameOrdersSaid : Prop := fnExactSameOrdersRow.holds Try.pinned (OpenSpec.ofChange fnExactSameOrdersSpec)

/-- ITS FALSE NEIGHBOUR: 'it returns false'. Refute it at one input. -/
def fnExactSameOrdersWrong : ChangeSpec := { name := "fnExactSameOrders", fn := fun _ => fun
  | [d1, d2] => { results := [.lit (.bool false)], args := [d1, d2] }
  | _ => none }
def FnExactSameOrdersWrongFalsely : Prop := fnExactSameOrdersRow.holds Try.pinned (OpenSpec.ofChange fnExactSameOrdersWrong)

/-- 'laws.FnExactValidRenewals': WHATEVER THE INPUT: true; the input reads as it did. -/
def fnExactValidRenewalsSpec : ChangeSpec := { name := "fnExactValidRenewals", fn := fun _ => fun
  | [d] => { results := [.lit (.bool true)], args := [d] }
  | _ => none }
def fnExactValidRenewalsRow : OpenClaim := { program := "ytkegmjebkikniaa", sum := "e51bd350a25d496b2ee8e0e580e5a56087cd7f3369e37dbed53caa2355dfbcd3", func := "loop.example/g01044/laws.FnExactValidRenewals", spec := "fnExactValidRenewals", unfollowed := true, recurses := true, apart := false }
def FnExactValidRenewalsSaid : Prop := fnExactValidRenewalsRow.holds Try.pinned (OpenSpec.ofChange fnExactValidRenewalsSpec)

/-- ITS FALSE NEIGHBOUR: 'it returns false'. Refute it at one input. -/
def fnExactValidRenewalsWrong : ChangeSpec := { name := "fnExactValidRenewals", fn := fun _ => fun
  | [d] => { results := [.lit (.bool false)], args := [d] }
  | _ => none }
def FnExactValidRenewalsWrongFalsely : Prop := fnExactValidRenewalsRow.holds Try.pinned (OpenSpec.ofChange fnExactValidRenewalsWrong)

/-- 'laws.FnExactMostInTime': WHATEVER THE INPUT: true; the input reads as it did. -/
def fnExactMostInTimeSpec : ChangeSpec := { name := "fnExactMostInTime", fn := fun _ => fun
  | [d] => { results := [.lit (.bool true)], args := [d] }
  | _ => none }
def fnExactMostInTimeRow : OpenClaim := { program := "ytkegmjebkikniaa", sum := "e51bd350a25d496b2ee8e0e580e5a56087cd7f3369e37dbed53caa2355dfbcd3", func := "loop.example/g01044/laws.FnExactMostInTime", spec := "fnExactMostInTime", unfollowed := true, recurses := true, apart := false }
def FnExactMostInTimeSaid : Prop := fnExactMostInTimeRow.holds Try.pinned (OpenSpec.ofChange fnExactMostInTimeSpec)

/-- ITS FALSE NEIGHBOUR: 'it returns false'. Refute it at one input. -/
def fnExactMostInTimeWrong : ChangeSpec := { name := "fnExactMostInTime", fn := fun _ => fun
  | [d] => { results := [.lit (.bool false)], args := [d] }
  | _ => none }
def FnExactMostInTimeWrongFalsely : Prop := fnExactMostInTimeRow.holds Try.pinned (OpenSpec.ofChange fnExactMostInTimeWrong)

/-- 'laws.FnExactLatestDay': WHATEVER THE INPUT: true; the input reads as it did. -/
def fnExactLatestDaySpec : ChangeSpec := { name := "fnExactLatestDay", fn := fun _ => fun
  | [d1, d2] => { results := [.lit (.bool true)], args := [d1, d2] }
  | _ => none }
def fnExactLatestDayRow : OpenClaim := { program := "ytkegmjebkikniaa", sum := "e51bd350a25d496b2ee8e0e580e5a56087cd7f3369e37dbed53caa2355dfbcd3", func := "loop.example/g01044/laws.FnExactLatestDay", spec := "fnExactLatestDay", unfollowed := true, recurses := true, apart := false }
def FnExactLatestDaySaid : Prop := fnExactLatestDayRow.holds Try.pinned (OpenSpec.ofChange fnExactLatestDaySpec)

/-- ITS FALSE NEIGHBOUR: 'it returns false'. Refute it at one input. -/
def fnExactLatestDayWrong : ChangeSpec := { name := "fnExactLatestDay", fn := fun _ => fun
  | [d1, d2] => { results := [.lit (.bool false)], args := [d1, d2] }
  | _ => none }
def FnExactLatestDayWrongFalsely : Prop := fnExactLatestDayRow.holds Try.pinned (OpenSpec.ofChange fnExactLatestDayWrong)

/-- 'laws.FnExactShareRenewals': WHATEVER THE INPUT: true; the input reads as it did. -/
def fnExactShareRenewalsSpec : ChangeSpec := { name := "fnExactShareRenewals", fn := fun _ => fun
  | [d1, d2] => { results := [.lit (.bool true)], args := [d1, d2] }
  | _ => none }
def fnExactShareRenewalsRow : OpenClaim := { program := "ytkegmjebkikniaa", sum := "e51bd350a25d496b2ee8e0e580e5a56087cd7f3369e37dbed53caa2355dfbcd3", func := "loop.example/g01044/laws.FnExactShareRenewals", spec := "fnExactShareRenewals", unfollowed := true, recurses := true, apart := false }
def FnExactShareRenewalsSaid : Prop := fnExactShareRenewalsRow.holds Try.pinned (OpenSpec.ofChange fnExactShareRenewalsSpec)

/-- ITS FALSE NEIGHBOUR: 'it returns false'. Refute it at one input. -/
def fnExactShareRenewalsWrong : ChangeSpec := { name := "fnExactShareRenewals", fn := fun _ => fun
  | [d1, d2] => { results := [.lit (.bool false)], args := [d1, d2] }
  | _ => none }
def FnExactShareRenewalsWrongFalsely : Prop := fnExactShareRenewalsRow.holds Try.pinned (OpenSpec.ofChange fnExactShareRenewalsWrong)

/-- 'laws.FnExactHarmOf': WHATEVER THE INPUT: true; the input reads as it did. -/
def fnExactHarmOfSpec : ChangeSpec := { name := "fnExactHarmOf", fn := fun _ => fun
  | [d1, d2] => { results := [.lit (.bool true)], args := [d1, d2] }
  | _ => none }
def fnExactHarmOfRow : OpenClaim := { program := "ytkegmjebkikniaa", sum := "e51bd350a25d496b2ee8e0e580e5a56087cd7f3369e37dbed53caa2355dfbcd3", func := "loop.example/g01044/laws.FnExactHarmOf", spec := "fnExactHarmOf", unfollowed := true, recurses := true, apart := false }
def FnExactHarmOfSaid : Prop := fnExactHarmOfRow.holds Try.pinned (OpenSpec.ofChange fnExactHarmOfSpec)

/-- ITS FALSE NEIGHBOUR: 'it returns false'. Refute it at one input. -/
def fnExactHarmOfWrong : ChangeSpec := { name := "fnExactHarmOf", fn := fun _ => fun
  | [d1, d2] => { results := [.lit (.bool false)], args := [d1, d2] }
  | _ => none }
def FnExactHarmOfWrongFalsely : Prop := fnExactHarmOfRow.holds Try.pinned (OpenSpec.ofChange fnExactHarmOfWrong)

/-- 'laws.FnExactEndsOfPlan': WHATEVER THE INPUT: true; the input reads as it did. -/
def fnExactEndsOfPlanSpec : ChangeSpec := { name := "fnExactEndsOfPlan", fn := fun _ => fun
  | [d1, d2] => { results := [.lit (.bool true)], args := [d1, d2] }
  | _ => none }
def fnExactEndsOfPlanRow : OpenClaim := { program := "ytkegmjebkikniaa", sum := "e51bd350a25d496b2ee8e0e580e5a56087cd7f3369e37dbed53caa2355dfbcd3", func := "loop.example/g01044/laws.FnExactEndsOfPlan", spec := "fnExactEndsOfPlan", unfollowed := true, recurses := true, apart := false }
def FnExactEndsOfPlanSaid : Prop := fnExactEndsOfPlanRow.holds Try.pinned (OpenSpec.ofChange fnExactEndsOfPlanSpec)

/-- ITS FALSE NEIGHBOUR: 'it returns false'. Refute it at one input. -/
def fnExactEndsOfPlanWrong : ChangeSpec := { name := "fnExactEndsOfPlan", fn := fun _ => fun
  | [d1, d2] => { results := [.lit (.bool false)], args := [d1, d2] }
  | _ => none }
def FnExactEndsOfPlanWrongFalsely : Prop := fnExactEndsOfPlanRow.holds Try.pinned (OpenSpec.ofChange fnExactEndsOfPlanWrong)

/-- 'laws.FnExactLateRenewals': WHATEVER THE INPUT: true; the input reads as it did. -/
def fnExactLateRenewalsSpec : ChangeSpec := { name := "fnExactLateRenewals", fn := fun _ => fun
  | [d1, d2] => { results := [.lit (.bool true)], args := [d1, d2] }
  | _ => none }
def fnExactLateRenewalsRow : OpenClaim := { program := "ytkegmjebkikniaa", sum := "e51bd350a25d496b2ee8e0e580e5a56087cd7f3369e37dbed53caa2355dfbcd3", func := "loop.example/g01044/laws.FnExactLateRenewals", spec := "fnExactLateRenewals", unfollowed := true, recurses := true, apart := false }
def FnExactLateRenewalsSaid : Prop := fnExactLateRenewalsRow.holds Try.pinned (OpenSpec.ofChange fnExactLateRenewalsSpec)

/-- ITS FALSE NEIGHBOUR: 'it returns false'. Refute it at one input. -/
def fnExactLateRenewalsWrong : ChangeSpec := { name := "fnExactLateRenewals", fn := fun _ => fun
  | [d1, d2] => { results := [.lit (.bool false)], args := [d1, d2] }
  | _ => none }
def FnExactLateRenewalsWrongFalsely : Prop := fnExactLateRenewalsRow.holds Try.pinned (OpenSpec.ofChange fnExactLateRenewalsWrong)

/-- 'laws.FnExactLeastHarm': WHATEVER THE INPUT: true; the input reads as it did. -/
def fnExactLeastHarmSpec : ChangeSpec := { name := "fnExactLeastHarm", fn := fun _ => fun
  | [d] => { results := [.lit (.bool true)], args := [d] }
  | _ => none }
def fnExactLeastHarmRow : OpenClaim := { program := "ytkegmjebkikniaa", sum := "e51bd350a25d496b2ee8e0e580e5a56087cd7f3369e37dbed53caa2355dfbcd3", func := "loop.example/g01044/laws.FnExactLeastHarm", spec := "fnExactLeastHarm", unfollowed := true, recurses := true, apart := false }
def FnExactLeastHarmSaid : Prop := fnExactLeastHarmRow.holds Try.pinned (OpenSpec.ofChange fnExactLeastHarmSpec)

/-- ITS FALSE NEIGHBOUR: 'it returns false'. Refute it at one input. -/
def fnExactLeastHarmWrong : ChangeSpec := { name := "fnExactLeastHarm", fn := fun _ => fun
  | [d] => { results := [.lit (.bool false)], args := [d] }
  | _ => none }
def FnExactLeastHarmWrongFalsely : Prop := fnExactLeastHarmRow.holds Try.pinned (OpenSpec.ofChange fnExactLeastHarmWrong)

/-- 'laws.FnExactOrderByDue': WHATEVER THE INPUT: true; the input reads as it did. -/
def fnExactOrderByDueSpec : ChangeSpec := { name := "fnExactOrderByDue", fn := fun _ => fun
  | [d] => { results := [.lit (.bool true)], args := [d] }
  | _ => none }
def fnExactOrderByDueRow : OpenClaim := { program := "ytkegmjebkikniaa", sum := "e51bd350a25d496b2ee8e0e580e5a56087cd7f3369e37dbed53caa2355dfbcd3", func := "loop.example/g01044/laws.FnExactOrderByDue", spec := "fnExactOrderByDue", unfollowed := true, recurses := true, apart := false }
def FnExactOrderByDueSaid : Prop := fnExactOrderByDueRow.holds Try.pinned (OpenSpec.ofChange fnExactOrderByDueSpec)

/-- ITS FALSE NEIGHBOUR: 'it returns false'. Refute it at one input. -/
def fnExactOrderByDueWrong : ChangeSpec := { name := "fnExactOrderByDue", fn := fun _ => fun
  | [d] => { results := [.lit (.bool false)], args := [d] }
  | _ => none }
def FnExactOrderByDueWrongFalsely : Prop := fnExactOrderByDueRow.holds Try.pinned (OpenSpec.ofChange fnExactOrderByDueWrong)

/-- 'laws.FnCrewShares': WHATEVER THE INPUT: true; the input reads as it did. -/
def fnCrewSharesSpec : ChangeSpec := { name := "fnCrewShares", fn := fun _ => fun
  | [d] => { results := [.lit (.bool true)], args := [d] }
  | _ => none }
def fnCrewSharesRow : OpenClaim := { program := "ytkegmjebkikniaa", sum := "e51bd350a25d496b2ee8e0e580e5a56087cd7f3369e37dbed53caa2355dfbcd3", func := "loop.example/g01044/laws.FnCrewShares", spec := "fnCrewShares", unfollowed := true, recurses := true, apart := false }
def FnCrewSharesSaid : Prop := fnCrewSharesRow.holds Try.pinned (OpenSpec.ofChange fnCrewSharesSpec)

/-- ITS FALSE NEIGHBOUR: 'it returns false'. Refute it at one input. -/
def fnCrewSharesWrong : ChangeSpec := { name := "fnCrewShares", fn := fun _ => fun
  | [d] => { results := [.lit (.bool false)], args := [d] }
  | _ => none }
def FnCrewSharesWrongFalsely : Prop := fnCrewSharesRow.holds Try.pinned (OpenSpec.ofChange fnCrewSharesWrong)

/-- 'laws.FnRenewals': WHATEVER THE INPUT: true; the input reads as it did. -/
def fnRenewalsSpec : ChangeSpec := { name := "fnRenewals", fn := fun _ => fun
  | [d1, d2] => { results := [.lit (.bool true)], args := [d1, d2] }
  | _ => none }
def fnRenewalsRow : OpenClaim := { program := "ytkegmjebkikniaa", sum := "e51bd350a25d496b2ee8e0e580e5a56087cd7f3369e37dbed53caa2355dfbcd3", func := "loop.example/g01044/laws.FnRenewals", spec := "fnRenewals", unfollowed := true, recurses := true, apart := false }
def FnRenewalsSaid : Prop := fnRenewalsRow.holds Try.pinned (OpenSpec.ofChange fnRenewalsSpec)

/-- ITS FALSE NEIGHBOUR: 'it returns false'. Refute it at one input. -/
def fnRenewalsWrong : ChangeSpec := { name := "fnRenewals", fn := fun _ => fun
  | [d1, d2] => { results := [.lit (.bool false)], args := [d1, d2] }
  | _ => none }
def FnRenewalsWrongFalsely : Prop := fnRenewalsRow.holds Try.pinned (OpenSpec.ofChange fnRenewalsWrong)

/- THE SECOND FORM. 'bulk': how many values and letters a reading holds, each counted each time it is reached (what is shared counts as often as it is met; a slice's spare places count too). A statement '..UptoSaid' is the law's where the arguments, and the package variables that the reading takes, are together of bulk at most 1048576: NARROWER than '..Said'. Prove '..Said' where nothing that the law and all that it calls make is longer than what came in: it says more and counts as full. Else prove '..UptoSaid'. A law counts once. -/
mutual
def uptoBulk {H : Type} : DataW H → Nat
  | .lit (.string bytes) => bytes.length + 1
  | .lit _ => 1
  | .nil => 1
  | .ptr d => uptoBulk d + 1
  | .slice elems spare => uptoBulkAll elems + uptoBulkAll spare + 1
  | .agg parts => uptoBulkAll parts + 1
  | .iface _ d => uptoBulk d + 1
  | .map entries => uptoBulkEntries entries + 1
  | .held _ => 1
def uptoBulkAll {H : Type} : List (DataW H) → Nat
  | [] => 0
  | d :: r => uptoBulk d + uptoBulkAll r
def uptoBulkEntries {H : Type} : List (Lit × DataW H) → Nat
  | [] => 0
  | x :: r => uptoBulkEntry x + uptoBulkEntries r
def uptoBulkEntry {H : Type} : Lit × DataW H → Nat
  | (.string bytes, d) => bytes.length + uptoBulk d + 1
  | (_, d) => uptoBulk d + 1
 end
def uptoSmall : (H : Type) → List (DataW H) → Bool := fun _ ds => decide (uptoBulkAll ds ≤ 1048576)
def OpenSpec.upto (s : _root_.Go.ChangeSpec) : _root_.Go.OpenSpec := { _root_.Go.OpenSpec.ofChange s with cond := some uptoSmall }

/-- 'laws.FnExactSameOrders', WHERE WHAT IT READS IS OF BULK AT MOST 1048576: true; the input reads as it did. -/
def fnExactSameOrdersUptoRow : OpenClaim := { program := "ytkegmjebkikniaa", sum := "e51bd350a25d496b2ee8e0e580e5a56087cd7f3369e37dbed53caa2355dfbcd3", func := "loop.example/g01044/laws.FnExactSameOrders", spec := "fnExactSameOrders", apart := false, narrowed := true }
def FnExactSameOrdersUptoSaid : Prop := fnExactSameOrdersUptoRow.holds Try.pinned (OpenSpec.upto fnExactSameOrdersSpec)

/-- 'laws.FnExactValidRenewals', WHERE WHAT IT READS IS OF BULK AT MOST 1048576: true; the input reads as it did. -/
def fnExactValidRenewalsUptoRow : OpenClaim := { program := "ytkegmjebkikniaa", sum := "e51bd350a25d496b2ee8e0e580e5a56087cd7f3369e37dbed53caa2355dfbcd3", func := "loop.example/g01044/laws.FnExactValidRenewals", spec := "fnExactValidRenewals", unfollowed := true, recurses := true, apart := false, narrowed := true }
def FnExactValidRenewalsUptoSaid : Prop := fnExactValidRenewalsUptoRow.holds Try.pinned (OpenSpec.upto fnExactValidRenewalsSpec)

/-- 'laws.FnExactMostInTime', WHERE WHAT IT READS IS OF BULK AT MOST 1048576: true; the input reads as it did. -/
def fnExactMostInTimeUptoRow : OpenClaim := { program := "ytkegmjebkikniaa", sum := "e51bd350a25d496b2ee8e0e580e5a56087cd7f3369e37dbed53caa2355dfbcd3", func := "loop.example/g01044/laws.FnExactMostInTime", spec := "fnExactMostInTime", unfollowed := true, recurses := true, apart := false, narrowed := true }
def FnExactMostInTimeUptoSaid : Prop := fnExactMostInTimeUptoRow.holds Try.pinned (OpenSpec.upto fnExactMostInTimeSpec)

/-- 'laws.FnExactLatestDay', WHERE WHAT IT READS IS OF BULK AT MOST 1048576: true; the input reads as it did. -/
def fnExactLatestDayUptoRow : OpenClaim := { program := "ytkegmjebkikniaa", sum := "e51bd350a25d496b2ee8e0e580e5a56087cd7f3369e37dbed53caa2355dfbcd3", func := "loop.example/g01044/laws.FnExactLatestDay", spec := "fnExactLatestDay", unfollowed := true, recurses := true, apart := false, narrowed := true }
def FnExactLatestDayUptoSaid : Prop := fnExactLatestDayUptoRow.holds Try.pinned (OpenSpec.upto fnExactLatestDaySpec)

/-- 'laws.FnExactShareRenewals', WHERE WHAT IT READS IS OF BULK AT MOST 1048576: true; the input reads as it did. -/
def fnExactShareRenewalsUptoRow : OpenClaim := { program := "ytkegmjebkikniaa", sum := "e51bd350a25d496b2ee8e0e580e5a56087cd7f3369e37dbed53caa2355dfbcd3", func := "loop.example/g01044/laws.FnExactShareRenewals", spec := "fnExactShareRenewals", unfollowed := true, recurses := true, apart := false, narrowed := true }
def FnExactShareRenewalsUptoSaid : Prop := fnExactShareRenewalsUptoRow.holds Try.pinned (OpenSpec.upto fnExactShareRenewalsSpec)

/-- 'laws.FnExactHarmOf', WHERE WHAT IT READS IS OF BULK AT MOST 1048576: true; the input reads as it did. -/
def fnExactHarmOfUptoRow : OpenClaim := { program := "ytkegmjebkikniaa", sum := "e51bd350a25d496b2ee8e0e580e5a56087cd7f3369e37dbed53caa2355dfbcd3", func := "loop.example/g01044/laws.FnExactHarmOf", spec := "fnExactHarmOf", unfollowed := true, recurses := true, apart := false, narrowed := true }
def FnExactHarmOfUptoSaid : Prop := fnExactHarmOfUptoRow.holds Try.pinned (OpenSpec.upto fnExactHarmOfSpec)

/-- 'laws.FnExactEndsOfPlan', WHERE WHAT IT READS IS OF BULK AT MOST 1048576: true; the input reads as it did. -/
def fnExactEndsOfPlanUptoRow : OpenClaim := { program := "ytkegmjebkikniaa", sum := "e51bd350a25d496b2ee8e0e580e5a56087cd7f3369e37dbed53caa2355dfbcd3", func := "loop.example/g01044/laws.FnExactEndsOfPlan", spec := "fnExactEndsOfPlan", unfollowed := true, recurses := true, apart := false, narrowed := true }
def FnExactEndsOfPlanUptoSaid : Prop := fnExactEndsOfPlanUptoRow.holds Try.pinned (OpenSpec.upto fnExactEndsOfPlanSpec)

/-- 'laws.FnExactLateRenewals', WHERE WHAT IT READS IS OF BULK AT MOST 1048576: true; the input reads as it did. -/
def fnExactLateRenewalsUptoRow : OpenClaim := { program := "ytkegmjebkikniaa", sum := "e51bd350a25d496b2ee8e0e580e5a56087cd7f3369e37dbed53caa2355dfbcd3", func := "loop.example/g01044/laws.FnExactLateRenewals", spec := "fnExactLateRenewals", unfollowed := true, recurses := true, apart := false, narrowed := true }
def FnExactLateRenewalsUptoSaid : Prop := fnExactLateRenewalsUptoRow.holds Try.pinned (OpenSpec.upto fnExactLateRenewalsSpec)

/-- 'laws.FnExactLeastHarm', WHERE WHAT IT READS IS OF BULK AT MOST 1048576: true; the input reads as it did. -/
def fnExactLeastHarmUptoRow : OpenClaim := { program := "ytkegmjebkikniaa", sum := "e51bd350a25d496b2ee8e0e580e5a56087cd7f3369e37dbed53caa2355dfbcd3", func := "loop.example/g01044/laws.FnExactLeastHarm", spec := "fnExactLeastHarm", unfollowed := true, recurses := true, apart := false, narrowed := true }
def FnExactLeastHarmUptoSaid : Prop := fnExactLeastHarmUptoRow.holds Try.pinned (OpenSpec.upto fnExactLeastHarmSpec)

/-- 'laws.FnExactOrderByDue', WHERE WHAT IT READS IS OF BULK AT MOST 1048576: true; the input reads as it did. -/
def fnExactOrderByDueUptoRow : OpenClaim := { program := "ytkegmjebkikniaa", sum := "e51bd350a25d496b2ee8e0e580e5a56087cd7f3369e37dbed53caa2355dfbcd3", func := "loop.example/g01044/laws.FnExactOrderByDue", spec := "fnExactOrderByDue", unfollowed := true, recurses := true, apart := false, narrowed := true }
def FnExactOrderByDueUptoSaid : Prop := fnExactOrderByDueUptoRow.holds Try.pinned (OpenSpec.upto fnExactOrderByDueSpec)

/-- 'laws.FnCrewShares', WHERE WHAT IT READS IS OF BULK AT MOST 1048576: true; the input reads as it did. -/
def fnCrewSharesUptoRow : OpenClaim := { program := "ytkegmjebkikniaa", sum := "e51bd350a25d496b2ee8e0e580e5a56087cd7f3369e37dbed53caa2355dfbcd3", func := "loop.example/g01044/laws.FnCrewShares", spec := "fnCrewShares", unfollowed := true, recurses := true, apart := false, narrowed := true }
def FnCrewSharesUptoSaid : Prop := fnCrewSharesUptoRow.holds Try.pinned (OpenSpec.upto fnCrewSharesSpec)

/-- 'laws.FnRenewals', WHERE WHAT IT READS IS OF BULK AT MOST 1048576: true; the input reads as it did. -/
def fnRenewalsUptoRow : OpenClaim := { program := "ytkegmjebkikniaa", sum := "e51bd350a25d496b2ee8e0e580e5a56087cd7f3369e37dbed53caa2355dfbcd3", func := "loop.example/g01044/laws.FnRenewals", spec := "fnRenewals", unfollowed := true, recurses := true, apart := false, narrowed := true }
def FnRenewalsUptoSaid : Prop := fnRenewalsUptoRow.holds Try.pinned (OpenSpec.upto fnRenewalsSpec)

end Rows
end Go.Proofs.Ytkegmjebkikniaa
