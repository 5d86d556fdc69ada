/-
  No cell of these rows narrows 'for every input' (looked for: loops, veiled, ifaces, maps, wideKeys, modest, calm, conditions, laid).
  DERIVED. THE GIVEN ROWS OF THIS SEAT. 9 by the template 'for every input the law returns true; each argument reads behind the call as it read before'; 0 by the template 'total and deterministic' (their statements: YthoboehbadmlmaaTotals.lean).
  GIVEN WITH THE SEED: the statements are not yours to turn. If you find one false, say at which input.
  Laid BY PROGRAM, IN A SANDBOX (cutbox-rows.mjs): the forced cells as the released guide's own fill.sh prints them over the translation d77a2ffa99f52b80… (all of the seat's roots in one cut). By AI agents, Wed Nov 11 2026. No macro, syntax, notation, axiom, sorry.
-/
import Derived.Test.YthoboehbadmlmaaChecked
import GoSem.Claim
import GoSem.ClaimJoined
import GoSem.ClaimMapViews
import Derived.JoinedTies
import Derived.KernelRfl
namespace Go.Proofs.Ythoboehbadmlmaa
/- THE CELL 'sum', in the pinned program and in every row, IS THE sha256 OF THE DUMP (.gsa) THAT YthoboehbadmlmaaProg.lean LOADS. Nothing in Lean hashes anything: it is a label: what it is worth is what the hold of that sum in a sandbox is worth. -/
noncomputable def Try.pinned : Pinned := { name := "ythoboehbadmlmaa", sum := "d77a2ffa99f52b80f0a74995025d9f8b19649f6f371bf62d4c0f330a92b799ea", checked := Try.checked }
namespace Rows
def none {H : Type} : Left H := { results := [], args := [] }

/-- 'sortilegelaw22.RecurFinds': WHATEVER THE INPUT: true; the input reads as it did. -/
def recurFindsSpec : ChangeSpec := { name := "recurFinds", fn := fun _ => fun
  | [d1, d2, d3] => { results := [.lit (.bool true)], args := [d1, d2, d3] }
  | _ => none }
def recurFindsRow : OpenClaim := { program := "ythoboehbadmlmaa", sum := "d77a2ffa99f52b80f0a74995025d9f8b19649f6f371bf62d4c0f330a92b799ea", func := "sortilege/sortilegelaw22.RecurFinds", spec := "recurFinds", unfollowed := true, recurses := true, apart := false }
def RecurFindsSaid : Prop := recurFindsRow.holds Try.pinned (OpenSpec.ofChange recurFindsSpec)

/-- ITS FALSE NEIGHBOUR: 'it returns false'. Refute it at one input. -/
def recurFindsWrong : ChangeSpec := { name := "recurFinds", fn := fun _ => fun
  | [d1, d2, d3] => { results := [.lit (.bool false)], args := [d1, d2, d3] }
  | _ => none }
def RecurFindsWrongFalsely : Prop := recurFindsRow.holds Try.pinned (OpenSpec.ofChange recurFindsWrong)

/-- 'sortilegelaw22.RecurShortest': WHATEVER THE INPUT: true; the input reads as it did. -/
def recurShortestSpec : ChangeSpec := { name := "recurShortest", fn := fun _ => fun
  | [d1, d2, d3] => { results := [.lit (.bool true)], args := [d1, d2, d3] }
  | _ => none }
def recurShortestRow : OpenClaim := { program := "ythoboehbadmlmaa", sum := "d77a2ffa99f52b80f0a74995025d9f8b19649f6f371bf62d4c0f330a92b799ea", func := "sortilege/sortilegelaw22.RecurShortest", spec := "recurShortest", unfollowed := true, recurses := true, apart := false }
def RecurShortestSaid : Prop := recurShortestRow.holds Try.pinned (OpenSpec.ofChange recurShortestSpec)

/-- ITS FALSE NEIGHBOUR: 'it returns false'. Refute it at one input. -/
def recurShortestWrong : ChangeSpec := { name := "recurShortest", fn := fun _ => fun
  | [d1, d2, d3] => { results := [.lit (.bool false)], args := [d1, d2, d3] }
  | _ => none }
def RecurShortestWrongFalsely : Prop := recurShortestRow.holds Try.pinned (OpenSpec.ofChange recurShortestWrong)

/-- 'sortilegelaw22.RecurDivides': WHATEVER THE INPUT: true; the input reads as it did. -/
def recurDividesSpec : ChangeSpec := { name := "recurDivides", fn := fun _ => fun
  | [d1, d2] => { results := [.lit (.bool true)], args := [d1, d2] }
  | _ => none }
def recurDividesRow : OpenClaim := { program := "ythoboehbadmlmaa", sum := "d77a2ffa99f52b80f0a74995025d9f8b19649f6f371bf62d4c0f330a92b799ea", func := "sortilege/sortilegelaw22.RecurDivides", spec := "recurDivides", unfollowed := true, recurses := true, apart := false }
def RecurDividesSaid : Prop := recurDividesRow.holds Try.pinned (OpenSpec.ofChange recurDividesSpec)

/-- ITS FALSE NEIGHBOUR: 'it returns false'. Refute it at one input. -/
def recurDividesWrong : ChangeSpec := { name := "recurDivides", fn := fun _ => fun
  | [d1, d2] => { results := [.lit (.bool false)], args := [d1, d2] }
  | _ => none }
def RecurDividesWrongFalsely : Prop := recurDividesRow.holds Try.pinned (OpenSpec.ofChange recurDividesWrong)

/-- 'sortilegelaw22.RecurPolys': WHATEVER THE INPUT: true; the input reads as it did. -/
def recurPolysSpec : ChangeSpec := { name := "recurPolys", fn := fun _ => fun
  | [d1, d2, d3] => { results := [.lit (.bool true)], args := [d1, d2, d3] }
  | _ => none }
def recurPolysRow : OpenClaim := { program := "ythoboehbadmlmaa", sum := "d77a2ffa99f52b80f0a74995025d9f8b19649f6f371bf62d4c0f330a92b799ea", func := "sortilege/sortilegelaw22.RecurPolys", spec := "recurPolys", unfollowed := true, recurses := true, apart := false }
def RecurPolysSaid : Prop := recurPolysRow.holds Try.pinned (OpenSpec.ofChange recurPolysSpec)

/-- ITS FALSE NEIGHBOUR: 'it returns false'. Refute it at one input. -/
def recurPolysWrong : ChangeSpec := { name := "recurPolys", fn := fun _ => fun
  | [d1, d2, d3] => { results := [.lit (.bool false)], args := [d1, d2, d3] }
  | _ => none }
def RecurPolysWrongFalsely : Prop := recurPolysRow.holds Try.pinned (OpenSpec.ofChange recurPolysWrong)

/-- 'sortilegelaw22.RecurSeries': WHATEVER THE INPUT: true; the input reads as it did. -/
def recurSeriesSpec : ChangeSpec := { name := "recurSeries", fn := fun _ => fun
  | [d1, d2] => { results := [.lit (.bool true)], args := [d1, d2] }
  | _ => none }
def recurSeriesRow : OpenClaim := { program := "ythoboehbadmlmaa", sum := "d77a2ffa99f52b80f0a74995025d9f8b19649f6f371bf62d4c0f330a92b799ea", func := "sortilege/sortilegelaw22.RecurSeries", spec := "recurSeries", unfollowed := true, recurses := true, apart := false }
def RecurSeriesSaid : Prop := recurSeriesRow.holds Try.pinned (OpenSpec.ofChange recurSeriesSpec)

/-- ITS FALSE NEIGHBOUR: 'it returns false'. Refute it at one input. -/
def recurSeriesWrong : ChangeSpec := { name := "recurSeries", fn := fun _ => fun
  | [d1, d2] => { results := [.lit (.bool false)], args := [d1, d2] }
  | _ => none }
def RecurSeriesWrongFalsely : Prop := recurSeriesRow.holds Try.pinned (OpenSpec.ofChange recurSeriesWrong)

/-- 'sortilegelaw22.RecurBack': WHATEVER THE INPUT: true; the input reads as it did. -/
def recurBackSpec : ChangeSpec := { name := "recurBack", fn := fun _ => fun
  | [d1, d2] => { results := [.lit (.bool true)], args := [d1, d2] }
  | _ => none }
def recurBackRow : OpenClaim := { program := "ythoboehbadmlmaa", sum := "d77a2ffa99f52b80f0a74995025d9f8b19649f6f371bf62d4c0f330a92b799ea", func := "sortilege/sortilegelaw22.RecurBack", spec := "recurBack", unfollowed := true, recurses := true, apart := false }
def RecurBackSaid : Prop := recurBackRow.holds Try.pinned (OpenSpec.ofChange recurBackSpec)

/-- ITS FALSE NEIGHBOUR: 'it returns false'. Refute it at one input. -/
def recurBackWrong : ChangeSpec := { name := "recurBack", fn := fun _ => fun
  | [d1, d2] => { results := [.lit (.bool false)], args := [d1, d2] }
  | _ => none }
def RecurBackWrongFalsely : Prop := recurBackRow.holds Try.pinned (OpenSpec.ofChange recurBackWrong)

/-- 'sortilegelaw22.RecurEnds': WHATEVER THE INPUT: true; the input reads as it did. -/
def recurEndsSpec : ChangeSpec := { name := "recurEnds", fn := fun _ => fun
  | [d1, d2, d3, d4] => { results := [.lit (.bool true)], args := [d1, d2, d3, d4] }
  | _ => none }
def recurEndsRow : OpenClaim := { program := "ythoboehbadmlmaa", sum := "d77a2ffa99f52b80f0a74995025d9f8b19649f6f371bf62d4c0f330a92b799ea", func := "sortilege/sortilegelaw22.RecurEnds", spec := "recurEnds", unfollowed := true, recurses := true, apart := false }
def RecurEndsSaid : Prop := recurEndsRow.holds Try.pinned (OpenSpec.ofChange recurEndsSpec)

/-- ITS FALSE NEIGHBOUR: 'it returns false'. Refute it at one input. -/
def recurEndsWrong : ChangeSpec := { name := "recurEnds", fn := fun _ => fun
  | [d1, d2, d3, d4] => { results := [.lit (.bool false)], args := [d1, d2, d3, d4] }
  | _ => none }
def RecurEndsWrongFalsely : Prop := recurEndsRow.holds Try.pinned (OpenSpec.ofChange recurEndsWrong)

/-- 'sortilegelaw22.RecurFractions': WHATEVER THE INPUT: true; the input reads as it did. -/
def recurFractionsSpec : ChangeSpec := { name := "recurFractions", fn := fun _ => fun
  | [d1, d2, d3, d4, d5] => { results := [.lit (.bool true)], args := [d1, d2, d3, d4, d5] }
  | _ => none }
def recurFractionsRow : OpenClaim := { program := "ythoboehbadmlmaa", sum := "d77a2ffa99f52b80f0a74995025d9f8b19649f6f371bf62d4c0f330a92b799ea", func := "sortilege/sortilegelaw22.RecurFractions", spec := "recurFractions", unfollowed := true, recurses := true, apart := false }
def RecurFractionsSaid : Prop := recurFractionsRow.holds Try.pinned (OpenSpec.ofChange recurFractionsSpec)

/-- ITS FALSE NEIGHBOUR: 'it returns false'. Refute it at one input. -/
def recurFractionsWrong : ChangeSpec := { name := "recurFractions", fn := fun _ => fun
  | [d1, d2, d3, d4, d5] => { results := [.lit (.bool false)], args := [d1, d2, d3, d4, d5] }
  | _ => none }
def RecurFractionsWrongFalsely : Prop := recurFractionsRow.holds Try.pinned (OpenSpec.ofChange recurFractionsWrong)

/-- 'sortilegelaw22.RecurLong': WHATEVER THE INPUT: true; the input reads as it did. -/
def recurLongSpec : ChangeSpec := { name := "recurLong", fn := fun _ => fun
  | [d] => { results := [.lit (.bool true)], args := [d] }
  | _ => none }
def recurLongRow : OpenClaim := { program := "ythoboehbadmlmaa", sum := "d77a2ffa99f52b80f0a74995025d9f8b19649f6f371bf62d4c0f330a92b799ea", func := "sortilege/sortilegelaw22.RecurLong", spec := "recurLong", unfollowed := true, recurses := true, apart := false }
def RecurLongSaid : Prop := recurLongRow.holds Try.pinned (OpenSpec.ofChange recurLongSpec)

/-- ITS FALSE NEIGHBOUR: 'it returns false'. Refute it at one input. -/
def recurLongWrong : ChangeSpec := { name := "recurLong", fn := fun _ => fun
  | [d] => { results := [.lit (.bool false)], args := [d] }
  | _ => none }
def RecurLongWrongFalsely : Prop := recurLongRow.holds Try.pinned (OpenSpec.ofChange recurLongWrong)

/- THE SECOND FORM. 'bulk': how many values and letters a reading holds, each counted each time it is reached (what is shared counts as often as it is met; a slice's spare places count too). A statement '..UptoSaid' is the law's where the arguments, and the package variables that the reading takes, are together of bulk at most 1048576: NARROWER than '..Said'. Prove '..Said' where nothing that the law and all that it calls make is longer than what came in: it says more and counts as full. Else prove '..UptoSaid'. A law counts once. -/
mutual
def uptoBulk {H : Type} : DataW H → Nat
  | .lit (.string bytes) => bytes.length + 1
  | .lit _ => 1
  | .nil => 1
  | .ptr d => uptoBulk d + 1
  | .slice elems spare => uptoBulkAll elems + uptoBulkAll spare + 1
  | .agg parts => uptoBulkAll parts + 1
  | .iface _ d => uptoBulk d + 1
  | .map entries => uptoBulkEntries entries + 1
  | .held _ => 1
def uptoBulkAll {H : Type} : List (DataW H) → Nat
  | [] => 0
  | d :: r => uptoBulk d + uptoBulkAll r
def uptoBulkEntries {H : Type} : List (Lit × DataW H) → Nat
  | [] => 0
  | x :: r => uptoBulkEntry x + uptoBulkEntries r
def uptoBulkEntry {H : Type} : Lit × DataW H → Nat
  | (.string bytes, d) => bytes.length + uptoBulk d + 1
  | (_, d) => uptoBulk d + 1
 end
def uptoSmall : (H : Type) → List (DataW H) → Bool := fun _ ds => decide (uptoBulkAll ds ≤ 1048576)
def OpenSpec.upto (s : _root_.Go.ChangeSpec) : _root_.Go.OpenSpec := { _root_.Go.OpenSpec.ofChange s with cond := some uptoSmall }

/-- 'sortilegelaw22.RecurFinds', WHERE WHAT IT READS IS OF BULK AT MOST 1048576: true; the input reads as it did. -/
def recurFindsUptoRow : OpenClaim := { program := "ythoboehbadmlmaa", sum := "d77a2ffa99f52b80f0a74995025d9f8b19649f6f371bf62d4c0f330a92b799ea", func := "sortilege/sortilegelaw22.RecurFinds", spec := "recurFinds", unfollowed := true, recurses := true, apart := false, narrowed := true }
def RecurFindsUptoSaid : Prop := recurFindsUptoRow.holds Try.pinned (OpenSpec.upto recurFindsSpec)

/-- 'sortilegelaw22.RecurShortest', WHERE WHAT IT READS IS OF BULK AT MOST 1048576: true; the input reads as it did. -/
def recurShortestUptoRow : OpenClaim := { program := "ythoboehbadmlmaa", sum := "d77a2ffa99f52b80f0a74995025d9f8b19649f6f371bf62d4c0f330a92b799ea", func := "sortilege/sortilegelaw22.RecurShortest", spec := "recurShortest", unfollowed := true, recurses := true, apart := false, narrowed := true }
def RecurShortestUptoSaid : Prop := recurShortestUptoRow.holds Try.pinned (OpenSpec.upto recurShortestSpec)

/-- 'sortilegelaw22.RecurDivides', WHERE WHAT IT READS IS OF BULK AT MOST 1048576: true; the input reads as it did. -/
def recurDividesUptoRow : OpenClaim := { program := "ythoboehbadmlmaa", sum := "d77a2ffa99f52b80f0a74995025d9f8b19649f6f371bf62d4c0f330a92b799ea", func := "sortilege/sortilegelaw22.RecurDivides", spec := "recurDivides", unfollowed := true, recurses := true, apart := false, narrowed := true }
def RecurDividesUptoSaid : Prop := recurDividesUptoRow.holds Try.pinned (OpenSpec.upto recurDividesSpec)

/-- 'sortilegelaw22.RecurPolys', WHERE WHAT IT READS IS OF BULK AT MOST 1048576: true; the input reads as it did. -/
def recurPolysUptoRow : OpenClaim := { program := "ythoboehbadmlmaa", sum := "d77a2ffa99f52b80f0a74995025d9f8b19649f6f371bf62d4c0f330a92b799ea", func := "sortilege/sortilegelaw22.RecurPolys", spec := "recurPolys", unfollowed := true, recurses := true, apart := false, narrowed := true }
def RecurPolysUptoSaid : Prop := recurPolysUptoRow.holds Try.pinned (OpenSpec.upto recurPolysSpec)

/-- 'sortilegelaw22.RecurSeries', WHERE WHAT IT READS IS OF BULK AT MOST 1048576: true; the input reads as it did. -/
def recurSeriesUptoRow : OpenClaim := { program := "ythoboehbadmlmaa", sum := "d77a2ffa99f52b80f0a74995025d9f8b19649f6f371bf62d4c0f330a92b799ea", func := "sortilege/sortilegelaw22.RecurSeries", spec := "recurSeries", unfollowed := true, recurses := true, apart := false, narrowed := true }
def RecurSeriesUptoSaid : Prop := recurSeriesUptoRow.holds Try.pinned (OpenSpec.upto recurSeriesSpec)

/-- 'sortilegelaw22.RecurBack', WHERE WHAT IT READS IS OF BULK AT MOST 1048576: true; the input reads as it did. -/
def recurBackUptoRow : OpenClaim := { program := "ythoboehbadmlmaa", sum := "d77a2ffa99f52b80f0a74995025d9f8b19649f6f371bf62d4c0f330a92b799ea", func := "sortilege/sortilegelaw22.RecurBack", spec := "recurBack", unfollowed := true, recurses := true, apart := false, narrowed := true }
def RecurBackUptoSaid : Prop := recurBackUptoRow.holds Try.pinned (OpenSpec.upto recurBackSpec)

/-- 'sortilegelaw22.RecurEnds', WHERE WHAT IT READS IS OF BULK AT MOST 1048576: true; the input reads as it did. -/
def recurEndsUptoRow : OpenClaim := { program := "ythoboehbadmlmaa", sum := "d77a2ffa99f52b80f0a74995025d9f8b19649f6f371bf62d4c0f330a92b799ea", func := "sortilege/sortilegelaw22.RecurEnds", spec := "recurEnds", unfollowed := true, recurses := true, apart := false, narrowed := true }
def RecurEndsUptoSaid : Prop := recurEndsUptoRow.holds Try.pinned (OpenSpec.upto recurEndsSpec)

/-- 'sortilegelaw22.RecurFractions', WHERE WHAT IT READS IS OF BULK AT MOST 1048576: true; the input reads as it did. -/
def recurFractionsUptoRow : OpenClaim := { program := "ythoboehbadmlmaa", sum := "d77a2ffa99f52b80f0a74995025d9f8b19649f6f371bf62d4c0f330a92b799ea", func := "sortilege/sortilegelaw22.RecurFractions", spec := "recurFractions", unfollowed := true, recurses := true, apart := false, narrowed := true }
def RecurFractionsUptoSaid : Prop := recurFractionsUptoRow.holds Try.pinned (OpenSpec.upto recurFractionsSpec)

/-- 'sortilegelaw22.RecurLong', WHERE WHAT IT READS IS OF BULK AT MOST 1048576: true; the input reads as it did. -/
def recurLongUptoRow : OpenClaim := { program := "ythoboehbadmlmaa", sum := "d77a2ffa99f52b80f0a74995025d9f8b19649f6f371bf62d4c0f330a92b799ea", func := "sortilege/sortilegelaw22.RecurLong", spec := "recurLong", unfollowed := true, recurses := true, apart := false, narrowed := true }
def RecurLongUptoSaid : Prop := recurLongUptoRow.holds Try.pinned (OpenSpec.upto recurLongSpec)

end Rows
end Go.Proofs.Ythoboehbadmlmaa
