/-
  NARROWER THAN 'FOR EVERY INPUT', by the rows' own cells (each row's printed sentence says how): BalanceKernels: loops.
  DERIVED. THE GIVEN ROWS OF THIS SEAT. 9 by the template 'for every input the law returns true; each argument reads behind the call as it read before'; 0 by the template 'total and deterministic' (their statements: YtkgmicakfmllmaaGreatTotals.lean).
  GIVEN WITH THE SEED: the statements are not yours to turn. If you find one false, say at which input.
  Laid BY PROGRAM, IN A SANDBOX (cutbox-rows.mjs): the forced cells as the released guide's own fill.sh prints them over the translation 20afcb3e9eb2633b… (all of the seat's roots in one cut). By AI agents, Wed Nov 11 2026. No macro, syntax, notation, axiom, sorry.
-/
import Derived.Test.YtkgmicakfmllmaaGreatChecked
import GoSem.Claim
import GoSem.ClaimJoined
import GoSem.ClaimMapViews
import Derived.JoinedTies
import Derived.KernelRfl
namespace Go.Proofs.YtkgmicakfmllmaaGreat
/- THE CELL 'sum', in the pinned program and in every row, IS THE sha256 OF THE DUMP (.gsa) THAT YtkgmicakfmllmaaGreatProg.lean LOADS. Nothing in Lean hashes anything: it is a label: what it is worth is what the hold of that sum in a sandbox is worth. -/
noncomputable def Tryz.pinned : Pinned := { name := "ytkgmicakfmllmaagreat", sum := "20afcb3e9eb2633b2d5f3838937c04fc47bdd006ef2399a635ae4b7f646c9c90", checked := Tryz.checked }
namespace Rows
def none {H : Type} : Left H := { results := [], args := [] }

/-- 'sortilegelaw34.BalanceClasses': WHATEVER THE INPUT: true; the input reads as it did. -/
def balanceClassesSpec : ChangeSpec := { name := "balanceClasses", fn := fun _ => fun
  | [d] => { results := [.lit (.bool true)], args := [d] }
  | _ => none }
def balanceClassesRow : OpenClaim := { program := "ytkgmicakfmllmaagreat", sum := "20afcb3e9eb2633b2d5f3838937c04fc47bdd006ef2399a635ae4b7f646c9c90", func := "sortilege/sortilegelaw34.BalanceClasses", spec := "balanceClasses", unfollowed := true, recurses := true, apart := false }
def BalanceClassesSaid : Prop := balanceClassesRow.holds Tryz.pinned (OpenSpec.ofChange balanceClassesSpec)

/-- ITS FALSE NEIGHBOUR: 'it returns false'. Refute it at one input. -/
def balanceClassesWrong : ChangeSpec := { name := "balanceClasses", fn := fun _ => fun
  | [d] => { results := [.lit (.bool false)], args := [d] }
  | _ => none }
def BalanceClassesWrongFalsely : Prop := balanceClassesRow.holds Tryz.pinned (OpenSpec.ofChange balanceClassesWrong)

/-- 'sortilegelaw34.BalanceMixes': WHATEVER THE INPUT: true; the input reads as it did. -/
def balanceMixesSpec : ChangeSpec := { name := "balanceMixes", fn := fun _ => fun
  | [d1, d2, d3] => { results := [.lit (.bool true)], args := [d1, d2, d3] }
  | _ => none }
def balanceMixesRow : OpenClaim := { program := "ytkgmicakfmllmaagreat", sum := "20afcb3e9eb2633b2d5f3838937c04fc47bdd006ef2399a635ae4b7f646c9c90", func := "sortilege/sortilegelaw34.BalanceMixes", spec := "balanceMixes", unfollowed := true, recurses := true, apart := false }
def BalanceMixesSaid : Prop := balanceMixesRow.holds Tryz.pinned (OpenSpec.ofChange balanceMixesSpec)

/-- ITS FALSE NEIGHBOUR: 'it returns false'. Refute it at one input. -/
def balanceMixesWrong : ChangeSpec := { name := "balanceMixes", fn := fun _ => fun
  | [d1, d2, d3] => { results := [.lit (.bool false)], args := [d1, d2, d3] }
  | _ => none }
def BalanceMixesWrongFalsely : Prop := balanceMixesRow.holds Tryz.pinned (OpenSpec.ofChange balanceMixesWrong)

/-- 'sortilegelaw34.BalanceFalls': WHATEVER THE INPUT: true; the input reads as it did. -/
def balanceFallsSpec : ChangeSpec := { name := "balanceFalls", fn := fun _ => fun
  | [d1, d2] => { results := [.lit (.bool true)], args := [d1, d2] }
  | _ => none }
def balanceFallsRow : OpenClaim := { program := "ytkgmicakfmllmaagreat", sum := "20afcb3e9eb2633b2d5f3838937c04fc47bdd006ef2399a635ae4b7f646c9c90", func := "sortilege/sortilegelaw34.BalanceFalls", spec := "balanceFalls", unfollowed := true, recurses := true, apart := false }
def BalanceFallsSaid : Prop := balanceFallsRow.holds Tryz.pinned (OpenSpec.ofChange balanceFallsSpec)

/-- ITS FALSE NEIGHBOUR: 'it returns false'. Refute it at one input. -/
def balanceFallsWrong : ChangeSpec := { name := "balanceFalls", fn := fun _ => fun
  | [d1, d2] => { results := [.lit (.bool false)], args := [d1, d2] }
  | _ => none }
def BalanceFallsWrongFalsely : Prop := balanceFallsRow.holds Tryz.pinned (OpenSpec.ofChange balanceFallsWrong)

/-- 'sortilegelaw34.BalancePeriods': WHATEVER THE INPUT: true; the input reads as it did. -/
def balancePeriodsSpec : ChangeSpec := { name := "balancePeriods", fn := fun _ => fun
  | [d1, d2] => { results := [.lit (.bool true)], args := [d1, d2] }
  | _ => none }
def balancePeriodsRow : OpenClaim := { program := "ytkgmicakfmllmaagreat", sum := "20afcb3e9eb2633b2d5f3838937c04fc47bdd006ef2399a635ae4b7f646c9c90", func := "sortilege/sortilegelaw34.BalancePeriods", spec := "balancePeriods", unfollowed := true, recurses := true, apart := false }
def BalancePeriodsSaid : Prop := balancePeriodsRow.holds Tryz.pinned (OpenSpec.ofChange balancePeriodsSpec)

/-- ITS FALSE NEIGHBOUR: 'it returns false'. Refute it at one input. -/
def balancePeriodsWrong : ChangeSpec := { name := "balancePeriods", fn := fun _ => fun
  | [d1, d2] => { results := [.lit (.bool false)], args := [d1, d2] }
  | _ => none }
def BalancePeriodsWrongFalsely : Prop := balancePeriodsRow.holds Tryz.pinned (OpenSpec.ofChange balancePeriodsWrong)

/-- 'sortilegelaw34.BalanceSteps': WHATEVER THE INPUT: true; the input reads as it did. -/
def balanceStepsSpec : ChangeSpec := { name := "balanceSteps", fn := fun _ => fun
  | [d1, d2] => { results := [.lit (.bool true)], args := [d1, d2] }
  | _ => none }
def balanceStepsRow : OpenClaim := { program := "ytkgmicakfmllmaagreat", sum := "20afcb3e9eb2633b2d5f3838937c04fc47bdd006ef2399a635ae4b7f646c9c90", func := "sortilege/sortilegelaw34.BalanceSteps", spec := "balanceSteps", unfollowed := true, recurses := true, apart := false }
def BalanceStepsSaid : Prop := balanceStepsRow.holds Tryz.pinned (OpenSpec.ofChange balanceStepsSpec)

/-- ITS FALSE NEIGHBOUR: 'it returns false'. Refute it at one input. -/
def balanceStepsWrong : ChangeSpec := { name := "balanceSteps", fn := fun _ => fun
  | [d1, d2] => { results := [.lit (.bool false)], args := [d1, d2] }
  | _ => none }
def BalanceStepsWrongFalsely : Prop := balanceStepsRow.holds Tryz.pinned (OpenSpec.ofChange balanceStepsWrong)

/-- 'sortilegelaw34.BalanceReverses': WHATEVER THE INPUT: true; the input reads as it did. -/
def balanceReversesSpec : ChangeSpec := { name := "balanceReverses", fn := fun _ => fun
  | [d1, d2] => { results := [.lit (.bool true)], args := [d1, d2] }
  | _ => none }
def balanceReversesRow : OpenClaim := { program := "ytkgmicakfmllmaagreat", sum := "20afcb3e9eb2633b2d5f3838937c04fc47bdd006ef2399a635ae4b7f646c9c90", func := "sortilege/sortilegelaw34.BalanceReverses", spec := "balanceReverses", unfollowed := true, recurses := true, apart := false }
def BalanceReversesSaid : Prop := balanceReversesRow.holds Tryz.pinned (OpenSpec.ofChange balanceReversesSpec)

/-- ITS FALSE NEIGHBOUR: 'it returns false'. Refute it at one input. -/
def balanceReversesWrong : ChangeSpec := { name := "balanceReverses", fn := fun _ => fun
  | [d1, d2] => { results := [.lit (.bool false)], args := [d1, d2] }
  | _ => none }
def BalanceReversesWrongFalsely : Prop := balanceReversesRow.holds Tryz.pinned (OpenSpec.ofChange balanceReversesWrong)

/-- 'sortilegelaw34.BalanceTwice': WHATEVER THE INPUT: true; the input reads as it did. -/
def balanceTwiceSpec : ChangeSpec := { name := "balanceTwice", fn := fun _ => fun
  | [d] => { results := [.lit (.bool true)], args := [d] }
  | _ => none }
def balanceTwiceRow : OpenClaim := { program := "ytkgmicakfmllmaagreat", sum := "20afcb3e9eb2633b2d5f3838937c04fc47bdd006ef2399a635ae4b7f646c9c90", func := "sortilege/sortilegelaw34.BalanceTwice", spec := "balanceTwice", unfollowed := true, recurses := true, apart := false }
def BalanceTwiceSaid : Prop := balanceTwiceRow.holds Tryz.pinned (OpenSpec.ofChange balanceTwiceSpec)

/-- ITS FALSE NEIGHBOUR: 'it returns false'. Refute it at one input. -/
def balanceTwiceWrong : ChangeSpec := { name := "balanceTwice", fn := fun _ => fun
  | [d] => { results := [.lit (.bool false)], args := [d] }
  | _ => none }
def BalanceTwiceWrongFalsely : Prop := balanceTwiceRow.holds Tryz.pinned (OpenSpec.ofChange balanceTwiceWrong)

/-- 'sortilegelaw34.BalanceStays': WHATEVER THE INPUT: true; the input reads as it did. -/
def balanceStaysSpec : ChangeSpec := { name := "balanceStays", fn := fun _ => fun
  | [d1, d2] => { results := [.lit (.bool true)], args := [d1, d2] }
  | _ => none }
def balanceStaysRow : OpenClaim := { program := "ytkgmicakfmllmaagreat", sum := "20afcb3e9eb2633b2d5f3838937c04fc47bdd006ef2399a635ae4b7f646c9c90", func := "sortilege/sortilegelaw34.BalanceStays", spec := "balanceStays", unfollowed := true, recurses := true, apart := false }
def BalanceStaysSaid : Prop := balanceStaysRow.holds Tryz.pinned (OpenSpec.ofChange balanceStaysSpec)

/-- ITS FALSE NEIGHBOUR: 'it returns false'. Refute it at one input. -/
def balanceStaysWrong : ChangeSpec := { name := "balanceStays", fn := fun _ => fun
  | [d1, d2] => { results := [.lit (.bool false)], args := [d1, d2] }
  | _ => none }
def BalanceStaysWrongFalsely : Prop := balanceStaysRow.holds Tryz.pinned (OpenSpec.ofChange balanceStaysWrong)

/-- 'sortilegelaw34.BalanceKernels': WHATEVER THE INPUT: true; the input reads as it did. -/
def balanceKernelsSpec : ChangeSpec := { name := "balanceKernels", fn := fun _ => fun
  | [d1, d2] => { results := [.lit (.bool true)], args := [d1, d2] }
  | _ => none }
def balanceKernelsRow : OpenClaim := { program := "ytkgmicakfmllmaagreat", sum := "20afcb3e9eb2633b2d5f3838937c04fc47bdd006ef2399a635ae4b7f646c9c90", func := "sortilege/sortilegelaw34.BalanceKernels", spec := "balanceKernels", unfollowed := true, recurses := true, loops := true, apart := false }
def BalanceKernelsSaid : Prop := balanceKernelsRow.holds Tryz.pinned (OpenSpec.ofChange balanceKernelsSpec)

/-- ITS FALSE NEIGHBOUR: 'it returns false'. Refute it at one input. -/
def balanceKernelsWrong : ChangeSpec := { name := "balanceKernels", fn := fun _ => fun
  | [d1, d2] => { results := [.lit (.bool false)], args := [d1, d2] }
  | _ => none }
def BalanceKernelsWrongFalsely : Prop := balanceKernelsRow.holds Tryz.pinned (OpenSpec.ofChange balanceKernelsWrong)

/- THE SECOND FORM. 'bulk': how many values and letters a reading holds, each counted each time it is reached (what is shared counts as often as it is met; a slice's spare places count too). A statement '..UptoSaid' is the law's where the arguments, and the package variables that the reading takes, are together of bulk at most 1048576: NARROWER than '..Said'. Prove '..Said' where nothing that the law and all that it calls make is longer than what came in: it says more and counts as full. Else prove '..UptoSaid'. A law counts once. -/
mutual
def uptoBulk {H : Type} : DataW H → Nat
  | .lit (.string bytes) => bytes.length + 1
  | .lit _ => 1
  | .nil => 1
  | .ptr d => uptoBulk d + 1
  | .slice elems spare => uptoBulkAll elems + uptoBulkAll spare + 1
  | .agg parts => uptoBulkAll parts + 1
  | .iface _ d => uptoBulk d + 1
  | .map entries => uptoBulkEntries entries + 1
  | .held _ => 1
def uptoBulkAll {H : Type} : List (DataW H) → Nat
  | [] => 0
  | d :: r => uptoBulk d + uptoBulkAll r
def uptoBulkEntries {H : Type} : List (Lit × DataW H) → Nat
  | [] => 0
  | x :: r => uptoBulkEntry x + uptoBulkEntries r
def uptoBulkEntry {H : Type} : Lit × DataW H → Nat
  | (.string bytes, d) => bytes.length + uptoBulk d + 1
  | (_, d) => uptoBulk d + 1
 end
def uptoSmall : (H : Type) → List (DataW H) → Bool := fun _ ds => decide (uptoBulkAll ds ≤ 1048576)
def OpenSpec.upto (s : _root_.Go.ChangeSpec) : _root_.Go.OpenSpec := { _root_.Go.OpenSpec.ofChange s with cond := some uptoSmall }

/-- 'sortilegelaw34.BalanceClasses', WHERE WHAT IT READS IS OF BULK AT MOST 1048576: true; the input reads as it did. -/
def balanceClassesUptoRow : OpenClaim := { program := "ytkgmicakfmllmaagreat", sum := "20afcb3e9eb2633b2d5f3838937c04fc47bdd006ef2399a635ae4b7f646c9c90", func := "sortilege/sortilegelaw34.BalanceClasses", spec := "balanceClasses", unfollowed := true, recurses := true, apart := false, narrowed := true }
def BalanceClassesUptoSaid : Prop := balanceClassesUptoRow.holds Tryz.pinned (OpenSpec.upto balanceClassesSpec)

/-- 'sortilegelaw34.BalanceMixes', WHERE WHAT IT READS IS OF BULK AT MOST 1048576: true; the input reads as it did. -/
def balanceMixesUptoRow : OpenClaim := { program := "ytkgmicakfmllmaagreat", sum := "20afcb3e9eb2633b2d5f3838937c04fc47bdd006ef2399a635ae4b7f646c9c90", func := "sortilege/sortilegelaw34.BalanceMixes", spec := "balanceMixes", unfollowed := true, recurses := true, apart := false, narrowed := true }
def BalanceMixesUptoSaid : Prop := balanceMixesUptoRow.holds Tryz.pinned (OpenSpec.upto balanceMixesSpec)

/-- 'sortilegelaw34.BalanceFalls', WHERE WHAT IT READS IS OF BULK AT MOST 1048576: true; the input reads as it did. -/
def balanceFallsUptoRow : OpenClaim := { program := "ytkgmicakfmllmaagreat", sum := "20afcb3e9eb2633b2d5f3838937c04fc47bdd006ef2399a635ae4b7f646c9c90", func := "sortilege/sortilegelaw34.BalanceFalls", spec := "balanceFalls", unfollowed := true, recurses := true, apart := false, narrowed := true }
def BalanceFallsUptoSaid : Prop := balanceFallsUptoRow.holds Tryz.pinned (OpenSpec.upto balanceFallsSpec)

/-- 'sortilegelaw34.BalancePeriods', WHERE WHAT IT READS IS OF BULK AT MOST 1048576: true; the input reads as it did. -/
def balancePeriodsUptoRow : OpenClaim := { program := "ytkgmicakfmllmaagreat", sum := "20afcb3e9eb2633b2d5f3838937c04fc47bdd006ef2399a635ae4b7f646c9c90", func := "sortilege/sortilegelaw34.BalancePeriods", spec := "balancePeriods", unfollowed := true, recurses := true, apart := false, narrowed := true }
def BalancePeriodsUptoSaid : Prop := balancePeriodsUptoRow.holds Tryz.pinned (OpenSpec.upto balancePeriodsSpec)

/-- 'sortilegelaw34.BalanceSteps', WHERE WHAT IT READS IS OF BULK AT MOST 1048576: true; the input reads as it did. -/
def balanceStepsUptoRow : OpenClaim := { program := "ytkgmicakfmllmaagreat", sum := "20afcb3e9eb2633b2d5f3838937c04fc47bdd006ef2399a635ae4b7f646c9c90", func := "sortilege/sortilegelaw34.BalanceSteps", spec := "balanceSteps", unfollowed := true, recurses := true, apart := false, narrowed := true }
def BalanceStepsUptoSaid : Prop := balanceStepsUptoRow.holds Tryz.pinned (OpenSpec.upto balanceStepsSpec)

/-- 'sortilegelaw34.BalanceReverses', WHERE WHAT IT READS IS OF BULK AT MOST 1048576: true; the input reads as it did. -/
def balanceReversesUptoRow : OpenClaim := { program := "ytkgmicakfmllmaagreat", sum := "20afcb3e9eb2633b2d5f3838937c04fc47bdd006ef2399a635ae4b7f646c9c90", func := "sortilege/sortilegelaw34.BalanceReverses", spec := "balanceReverses", unfollowed := true, recurses := true, apart := false, narrowed := true }
def BalanceReversesUptoSaid : Prop := balanceReversesUptoRow.holds Tryz.pinned (OpenSpec.upto balanceReversesSpec)

/-- 'sortilegelaw34.BalanceTwice', WHERE WHAT IT READS IS OF BULK AT MOST 1048576: true; the input reads as it did. -/
def balanceTwiceUptoRow : OpenClaim := { program := "ytkgmicakfmllmaagreat", sum := "20afcb3e9eb2633b2d5f3838937c04fc47bdd006ef2399a635ae4b7f646c9c90", func := "sortilege/sortilegelaw34.BalanceTwice", spec := "balanceTwice", unfollowed := true, recurses := true, apart := false, narrowed := true }
def BalanceTwiceUptoSaid : Prop := balanceTwiceUptoRow.holds Tryz.pinned (OpenSpec.upto balanceTwiceSpec)

/-- 'sortilegelaw34.BalanceStays', WHERE WHAT IT READS IS OF BULK AT MOST 1048576: true; the input reads as it did. -/
def balanceStaysUptoRow : OpenClaim := { program := "ytkgmicakfmllmaagreat", sum := "20afcb3e9eb2633b2d5f3838937c04fc47bdd006ef2399a635ae4b7f646c9c90", func := "sortilege/sortilegelaw34.BalanceStays", spec := "balanceStays", unfollowed := true, recurses := true, apart := false, narrowed := true }
def BalanceStaysUptoSaid : Prop := balanceStaysUptoRow.holds Tryz.pinned (OpenSpec.upto balanceStaysSpec)

/-- 'sortilegelaw34.BalanceKernels', WHERE WHAT IT READS IS OF BULK AT MOST 1048576: true; the input reads as it did. -/
def balanceKernelsUptoRow : OpenClaim := { program := "ytkgmicakfmllmaagreat", sum := "20afcb3e9eb2633b2d5f3838937c04fc47bdd006ef2399a635ae4b7f646c9c90", func := "sortilege/sortilegelaw34.BalanceKernels", spec := "balanceKernels", unfollowed := true, recurses := true, loops := true, apart := false, narrowed := true }
def BalanceKernelsUptoSaid : Prop := balanceKernelsUptoRow.holds Tryz.pinned (OpenSpec.upto balanceKernelsSpec)

end Rows
end Go.Proofs.YtkgmicakfmllmaaGreat
