/-
  NARROWER THAN 'FOR EVERY INPUT', by the rows' own cells (each row's printed sentence says how): KernelMakes: loops · KernelStays: loops · KernelReaches: loops · KernelBoth: loops.
  DERIVED. THE GIVEN ROWS OF THIS SEAT. 4 by the template 'for every input the law returns true; each argument reads behind the call as it read before'; 0 by the template 'total and deterministic' (their statements: YtobjjdnfgamgcaaGreatTotals.lean).
  GIVEN WITH THE SEED: the statements are not yours to turn. If you find one false, say at which input.
  Laid BY PROGRAM, IN A SANDBOX (cutbox-rows.mjs): the forced cells as the released guide's own fill.sh prints them over the translation 2ed39e4e85d47137… (all of the seat's roots in one cut). By AI agents, Wed Nov 11 2026. No macro, syntax, notation, axiom, sorry.
-/
import Derived.Test.YtobjjdnfgamgcaaGreatChecked
import GoSem.Claim
import GoSem.ClaimJoined
import GoSem.ClaimMapViews
import Derived.JoinedTies
import Derived.KernelRfl
namespace Go.Proofs.YtobjjdnfgamgcaaGreat
/- THE CELL 'sum', in the pinned program and in every row, IS THE sha256 OF THE DUMP (.gsa) THAT YtobjjdnfgamgcaaGreatProg.lean LOADS. Nothing in Lean hashes anything: it is a label: what it is worth is what the hold of that sum in a sandbox is worth. -/
noncomputable def Tryz.pinned : Pinned := { name := "ytobjjdnfgamgcaagreat", sum := "2ed39e4e85d47137f237b5b9956fb983bfaa188ac5b521ed79d0d220a466608d", checked := Tryz.checked }
namespace Rows
def none {H : Type} : Left H := { results := [], args := [] }

/-- 'sortilegelaw33.KernelMakes': WHATEVER THE INPUT: true; the input reads as it did. -/
def kernelMakesSpec : ChangeSpec := { name := "kernelMakes", fn := fun _ => fun
  | [d1, d2] => { results := [.lit (.bool true)], args := [d1, d2] }
  | _ => none }
def kernelMakesRow : OpenClaim := { program := "ytobjjdnfgamgcaagreat", sum := "2ed39e4e85d47137f237b5b9956fb983bfaa188ac5b521ed79d0d220a466608d", func := "sortilege/sortilegelaw33.KernelMakes", spec := "kernelMakes", unfollowed := true, recurses := true, loops := true, apart := false }
def KernelMakesSaid : Prop := kernelMakesRow.holds Tryz.pinned (OpenSpec.ofChange kernelMakesSpec)

/-- ITS FALSE NEIGHBOUR: 'it returns false'. Refute it at one input. -/
def kernelMakesWrong : ChangeSpec := { name := "kernelMakes", fn := fun _ => fun
  | [d1, d2] => { results := [.lit (.bool false)], args := [d1, d2] }
  | _ => none }
def KernelMakesWrongFalsely : Prop := kernelMakesRow.holds Tryz.pinned (OpenSpec.ofChange kernelMakesWrong)

/-- 'sortilegelaw33.KernelStays': WHATEVER THE INPUT: true; the input reads as it did. -/
def kernelStaysSpec : ChangeSpec := { name := "kernelStays", fn := fun _ => fun
  | [d1, d2] => { results := [.lit (.bool true)], args := [d1, d2] }
  | _ => none }
def kernelStaysRow : OpenClaim := { program := "ytobjjdnfgamgcaagreat", sum := "2ed39e4e85d47137f237b5b9956fb983bfaa188ac5b521ed79d0d220a466608d", func := "sortilege/sortilegelaw33.KernelStays", spec := "kernelStays", unfollowed := true, recurses := true, loops := true, apart := false }
def KernelStaysSaid : Prop := kernelStaysRow.holds Tryz.pinned (OpenSpec.ofChange kernelStaysSpec)

/-- ITS FALSE NEIGHBOUR: 'it returns false'. Refute it at one input. -/
def kernelStaysWrong : ChangeSpec := { name := "kernelStays", fn := fun _ => fun
  | [d1, d2] => { results := [.lit (.bool false)], args := [d1, d2] }
  | _ => none }
def KernelStaysWrongFalsely : Prop := kernelStaysRow.holds Tryz.pinned (OpenSpec.ofChange kernelStaysWrong)

/-- 'sortilegelaw33.KernelReaches': WHATEVER THE INPUT: true; the input reads as it did. -/
def kernelReachesSpec : ChangeSpec := { name := "kernelReaches", fn := fun _ => fun
  | [d1, d2] => { results := [.lit (.bool true)], args := [d1, d2] }
  | _ => none }
def kernelReachesRow : OpenClaim := { program := "ytobjjdnfgamgcaagreat", sum := "2ed39e4e85d47137f237b5b9956fb983bfaa188ac5b521ed79d0d220a466608d", func := "sortilege/sortilegelaw33.KernelReaches", spec := "kernelReaches", unfollowed := true, recurses := true, loops := true, apart := false }
def KernelReachesSaid : Prop := kernelReachesRow.holds Tryz.pinned (OpenSpec.ofChange kernelReachesSpec)

/-- ITS FALSE NEIGHBOUR: 'it returns false'. Refute it at one input. -/
def kernelReachesWrong : ChangeSpec := { name := "kernelReaches", fn := fun _ => fun
  | [d1, d2] => { results := [.lit (.bool false)], args := [d1, d2] }
  | _ => none }
def KernelReachesWrongFalsely : Prop := kernelReachesRow.holds Tryz.pinned (OpenSpec.ofChange kernelReachesWrong)

/-- 'sortilegelaw33.KernelBoth': WHATEVER THE INPUT: true; the input reads as it did. -/
def kernelBothSpec : ChangeSpec := { name := "kernelBoth", fn := fun _ => fun
  | [d1, d2] => { results := [.lit (.bool true)], args := [d1, d2] }
  | _ => none }
def kernelBothRow : OpenClaim := { program := "ytobjjdnfgamgcaagreat", sum := "2ed39e4e85d47137f237b5b9956fb983bfaa188ac5b521ed79d0d220a466608d", func := "sortilege/sortilegelaw33.KernelBoth", spec := "kernelBoth", unfollowed := true, recurses := true, loops := true, apart := false }
def KernelBothSaid : Prop := kernelBothRow.holds Tryz.pinned (OpenSpec.ofChange kernelBothSpec)

/-- ITS FALSE NEIGHBOUR: 'it returns false'. Refute it at one input. -/
def kernelBothWrong : ChangeSpec := { name := "kernelBoth", fn := fun _ => fun
  | [d1, d2] => { results := [.lit (.bool false)], args := [d1, d2] }
  | _ => none }
def KernelBothWrongFalsely : Prop := kernelBothRow.holds Tryz.pinned (OpenSpec.ofChange kernelBothWrong)

/- THE SECOND FORM. 'bulk': how many values and letters a reading holds, each counted each time it is reached (what is shared counts as often as it is met; a slice's spare places count too). A statement '..UptoSaid' is the law's where the arguments, and the package variables that the reading takes, are together of bulk at most 1048576: NARROWER than '..Said'. Prove '..Said' where nothing that the law and all that it calls make is longer than what came in: it says more and counts as full. Else prove '..UptoSaid'. A law counts once. -/
mutual
def uptoBulk {H : Type} : DataW H → Nat
  | .lit (.string bytes) => bytes.length + 1
  | .lit _ => 1
  | .nil => 1
  | .ptr d => uptoBulk d + 1
  | .slice elems spare => uptoBulkAll elems + uptoBulkAll spare + 1
  | .agg parts => uptoBulkAll parts + 1
  | .iface _ d => uptoBulk d + 1
  | .map entries => uptoBulkEntries entries + 1
  | .held _ => 1
def uptoBulkAll {H : Type} : List (DataW H) → Nat
  | [] => 0
  | d :: r => uptoBulk d + uptoBulkAll r
def uptoBulkEntries {H : Type} : List (Lit × DataW H) → Nat
  | [] => 0
  | x :: r => uptoBulkEntry x + uptoBulkEntries r
def uptoBulkEntry {H : Type} : Lit × DataW H → Nat
  | (.string bytes, d) => bytes.length + uptoBulk d + 1
  | (_, d) => uptoBulk d + 1
 end
def uptoSmall : (H : Type) → List (DataW H) → Bool := fun _ ds => decide (uptoBulkAll ds ≤ 1048576)
def OpenSpec.upto (s : _root_.Go.ChangeSpec) : _root_.Go.OpenSpec := { _root_.Go.OpenSpec.ofChange s with cond := some uptoSmall }

/-- 'sortilegelaw33.KernelMakes', WHERE WHAT IT READS IS OF BULK AT MOST 1048576: true; the input reads as it did. -/
def kernelMakesUptoRow : OpenClaim := { program := "ytobjjdnfgamgcaagreat", sum := "2ed39e4e85d47137f237b5b9956fb983bfaa188ac5b521ed79d0d220a466608d", func := "sortilege/sortilegelaw33.KernelMakes", spec := "kernelMakes", unfollowed := true, recurses := true, loops := true, apart := false, narrowed := true }
def KernelMakesUptoSaid : Prop := kernelMakesUptoRow.holds Tryz.pinned (OpenSpec.upto kernelMakesSpec)

/-- 'sortilegelaw33.KernelStays', WHERE WHAT IT READS IS OF BULK AT MOST 1048576: true; the input reads as it did. -/
def kernelStaysUptoRow : OpenClaim := { program := "ytobjjdnfgamgcaagreat", sum := "2ed39e4e85d47137f237b5b9956fb983bfaa188ac5b521ed79d0d220a466608d", func := "sortilege/sortilegelaw33.KernelStays", spec := "kernelStays", unfollowed := true, recurses := true, loops := true, apart := false, narrowed := true }
def KernelStaysUptoSaid : Prop := kernelStaysUptoRow.holds Tryz.pinned (OpenSpec.upto kernelStaysSpec)

/-- 'sortilegelaw33.KernelReaches', WHERE WHAT IT READS IS OF BULK AT MOST 1048576: true; the input reads as it did. -/
def kernelReachesUptoRow : OpenClaim := { program := "ytobjjdnfgamgcaagreat", sum := "2ed39e4e85d47137f237b5b9956fb983bfaa188ac5b521ed79d0d220a466608d", func := "sortilege/sortilegelaw33.KernelReaches", spec := "kernelReaches", unfollowed := true, recurses := true, loops := true, apart := false, narrowed := true }
def KernelReachesUptoSaid : Prop := kernelReachesUptoRow.holds Tryz.pinned (OpenSpec.upto kernelReachesSpec)

/-- 'sortilegelaw33.KernelBoth', WHERE WHAT IT READS IS OF BULK AT MOST 1048576: true; the input reads as it did. -/
def kernelBothUptoRow : OpenClaim := { program := "ytobjjdnfgamgcaagreat", sum := "2ed39e4e85d47137f237b5b9956fb983bfaa188ac5b521ed79d0d220a466608d", func := "sortilege/sortilegelaw33.KernelBoth", spec := "kernelBoth", unfollowed := true, recurses := true, loops := true, apart := false, narrowed := true }
def KernelBothUptoSaid : Prop := kernelBothUptoRow.holds Tryz.pinned (OpenSpec.upto kernelBothSpec)

end Rows
end Go.Proofs.YtobjjdnfgamgcaaGreat
