/-
  No cell of these rows narrows 'for every input' (looked for: loops, veiled, ifaces, maps, wideKeys, modest, calm, conditions, laid).
  DERIVED. THE GIVEN ROWS OF THIS SEAT. 3 by the template 'for every input the law returns true; each argument reads behind the call as it read before'; 0 by the template 'total and deterministic' (their statements: YthoboehbadmlmaaGreatTotals.lean).
  GIVEN WITH THE SEED: the statements are not yours to turn. If you find one false, say at which input.
  Laid BY PROGRAM, IN A SANDBOX (cutbox-rows.mjs): the forced cells as the released guide's own fill.sh prints them over the translation 4dcb26f9a898dde5… (all of the seat's roots in one cut). By AI agents, Wed Nov 11 2026. No macro, syntax, notation, axiom, sorry.
-/
import Derived.Test.YthoboehbadmlmaaGreatChecked
import GoSem.Claim
import GoSem.ClaimJoined
import GoSem.ClaimMapViews
import Derived.JoinedTies
import Derived.KernelRfl
namespace Go.Proofs.YthoboehbadmlmaaGreat
/- THE CELL 'sum', in the pinned program and in every row, IS THE sha256 OF THE DUMP (.gsa) THAT YthoboehbadmlmaaGreatProg.lean LOADS. Nothing in Lean hashes anything: it is a label: what it is worth is what the hold of that sum in a sandbox is worth. -/
noncomputable def Tryz.pinned : Pinned := { name := "ythoboehbadmlmaagreat", sum := "4dcb26f9a898dde5f98fb88ef9154e13397b29dcdc1d57b4ea42c10e1f2061cc", checked := Tryz.checked }
namespace Rows
def none {H : Type} : Left H := { results := [], args := [] }

/-- 'sortilegelaw22.RecurMatrix': WHATEVER THE INPUT: true; the input reads as it did. -/
def recurMatrixSpec : ChangeSpec := { name := "recurMatrix", fn := fun _ => fun
  | [d1, d2] => { results := [.lit (.bool true)], args := [d1, d2] }
  | _ => none }
def recurMatrixRow : OpenClaim := { program := "ythoboehbadmlmaagreat", sum := "4dcb26f9a898dde5f98fb88ef9154e13397b29dcdc1d57b4ea42c10e1f2061cc", func := "sortilege/sortilegelaw22.RecurMatrix", spec := "recurMatrix", unfollowed := true, recurses := true, apart := false }
def RecurMatrixSaid : Prop := recurMatrixRow.holds Tryz.pinned (OpenSpec.ofChange recurMatrixSpec)

/-- ITS FALSE NEIGHBOUR: 'it returns false'. Refute it at one input. -/
def recurMatrixWrong : ChangeSpec := { name := "recurMatrix", fn := fun _ => fun
  | [d1, d2] => { results := [.lit (.bool false)], args := [d1, d2] }
  | _ => none }
def RecurMatrixWrongFalsely : Prop := recurMatrixRow.holds Tryz.pinned (OpenSpec.ofChange recurMatrixWrong)

/-- 'sortilegelaw22.RecurOwn': WHATEVER THE INPUT: true; the input reads as it did. -/
def recurOwnSpec : ChangeSpec := { name := "recurOwn", fn := fun _ => fun
  | [d] => { results := [.lit (.bool true)], args := [d] }
  | _ => none }
def recurOwnRow : OpenClaim := { program := "ythoboehbadmlmaagreat", sum := "4dcb26f9a898dde5f98fb88ef9154e13397b29dcdc1d57b4ea42c10e1f2061cc", func := "sortilege/sortilegelaw22.RecurOwn", spec := "recurOwn", unfollowed := true, recurses := true, apart := false }
def RecurOwnSaid : Prop := recurOwnRow.holds Tryz.pinned (OpenSpec.ofChange recurOwnSpec)

/-- ITS FALSE NEIGHBOUR: 'it returns false'. Refute it at one input. -/
def recurOwnWrong : ChangeSpec := { name := "recurOwn", fn := fun _ => fun
  | [d] => { results := [.lit (.bool false)], args := [d] }
  | _ => none }
def RecurOwnWrongFalsely : Prop := recurOwnRow.holds Tryz.pinned (OpenSpec.ofChange recurOwnWrong)

/-- 'sortilegelaw22.RecurChains': WHATEVER THE INPUT: true; the input reads as it did. -/
def recurChainsSpec : ChangeSpec := { name := "recurChains", fn := fun _ => fun
  | [d1, d2, d3] => { results := [.lit (.bool true)], args := [d1, d2, d3] }
  | _ => none }
def recurChainsRow : OpenClaim := { program := "ythoboehbadmlmaagreat", sum := "4dcb26f9a898dde5f98fb88ef9154e13397b29dcdc1d57b4ea42c10e1f2061cc", func := "sortilege/sortilegelaw22.RecurChains", spec := "recurChains", unfollowed := true, recurses := true, apart := false }
def RecurChainsSaid : Prop := recurChainsRow.holds Tryz.pinned (OpenSpec.ofChange recurChainsSpec)

/-- ITS FALSE NEIGHBOUR: 'it returns false'. Refute it at one input. -/
def recurChainsWrong : ChangeSpec := { name := "recurChains", fn := fun _ => fun
  | [d1, d2, d3] => { results := [.lit (.bool false)], args := [d1, d2, d3] }
  | _ => none }
def RecurChainsWrongFalsely : Prop := recurChainsRow.holds Tryz.pinned (OpenSpec.ofChange recurChainsWrong)

/- THE SECOND FORM. 'bulk': how many values and letters a reading holds, each counted each time it is reached (what is shared counts as often as it is met; a slice's spare places count too). A statement '..UptoSaid' is the law's where the arguments, and the package variables that the reading takes, are together of bulk at most 1048576: NARROWER than '..Said'. Prove '..Said' where nothing that the law and all that it calls make is longer than what came in: it says more and counts as full. Else prove '..UptoSaid'. A law counts once. -/
mutual
def uptoBulk {H : Type} : DataW H → Nat
  | .lit (.string bytes) => bytes.length + 1
  | .lit _ => 1
  | .nil => 1
  | .ptr d => uptoBulk d + 1
  | .slice elems spare => uptoBulkAll elems + uptoBulkAll spare + 1
  | .agg parts => uptoBulkAll parts + 1
  | .iface _ d => uptoBulk d + 1
  | .map entries => uptoBulkEntries entries + 1
  | .held _ => 1
def uptoBulkAll {H : Type} : List (DataW H) → Nat
  | [] => 0
  | d :: r => uptoBulk d + uptoBulkAll r
def uptoBulkEntries {H : Type} : List (Lit × DataW H) → Nat
  | [] => 0
  | x :: r => uptoBulkEntry x + uptoBulkEntries r
def uptoBulkEntry {H : Type} : Lit × DataW H → Nat
  | (.string bytes, d) => bytes.length + uptoBulk d + 1
  | (_, d) => uptoBulk d + 1
 end
def uptoSmall : (H : Type) → List (DataW H) → Bool := fun _ ds => decide (uptoBulkAll ds ≤ 1048576)
def OpenSpec.upto (s : _root_.Go.ChangeSpec) : _root_.Go.OpenSpec := { _root_.Go.OpenSpec.ofChange s with cond := some uptoSmall }

/-- 'sortilegelaw22.RecurMatrix', WHERE WHAT IT READS IS OF BULK AT MOST 1048576: true; the input reads as it did. -/
def recurMatrixUptoRow : OpenClaim := { program := "ythoboehbadmlmaagreat", sum := "4dcb26f9a898dde5f98fb88ef9154e13397b29dcdc1d57b4ea42c10e1f2061cc", func := "sortilege/sortilegelaw22.RecurMatrix", spec := "recurMatrix", unfollowed := true, recurses := true, apart := false, narrowed := true }
def RecurMatrixUptoSaid : Prop := recurMatrixUptoRow.holds Tryz.pinned (OpenSpec.upto recurMatrixSpec)

/-- 'sortilegelaw22.RecurOwn', WHERE WHAT IT READS IS OF BULK AT MOST 1048576: true; the input reads as it did. -/
def recurOwnUptoRow : OpenClaim := { program := "ythoboehbadmlmaagreat", sum := "4dcb26f9a898dde5f98fb88ef9154e13397b29dcdc1d57b4ea42c10e1f2061cc", func := "sortilege/sortilegelaw22.RecurOwn", spec := "recurOwn", unfollowed := true, recurses := true, apart := false, narrowed := true }
def RecurOwnUptoSaid : Prop := recurOwnUptoRow.holds Tryz.pinned (OpenSpec.upto recurOwnSpec)

/-- 'sortilegelaw22.RecurChains', WHERE WHAT IT READS IS OF BULK AT MOST 1048576: true; the input reads as it did. -/
def recurChainsUptoRow : OpenClaim := { program := "ythoboehbadmlmaagreat", sum := "4dcb26f9a898dde5f98fb88ef9154e13397b29dcdc1d57b4ea42c10e1f2061cc", func := "sortilege/sortilegelaw22.RecurChains", spec := "recurChains", unfollowed := true, recurses := true, apart := false, narrowed := true }
def RecurChainsUptoSaid : Prop := recurChainsUptoRow.holds Tryz.pinned (OpenSpec.upto recurChainsSpec)

end Rows
end Go.Proofs.YthoboehbadmlmaaGreat
