/- KernelRights answers true at every input: the program and the reference tell the same lists of executions to be valid state spaces. (part 10 of 11) -/
import Derived.OrdersHeld
import Derived.Below
import Derived.Tactics
import Derived.KernelRfl
import Derived.RangeFuncCalls
import Derived.RangeFuncFrom
import Derived.RangeFuncLeaves
import Derived.OrdersIn
import Derived.Laws.AppendOwn
import Derived.Laws.MakeOwn
import Derived.Laws.CopyRow
import Derived.Laws.Cells
import Derived.Laws.World
import Derived.Laws.Alloc2
import Derived.Laws.NewBlocks
import Derived.Maps.AppendAt
import Derived.Test.YtobjjdnfgamgcaaProg
import Init.Data.List.Lemmas
import Init.Omega
import Derived.WalkKit
import Derived.ProofKit
import Derived.OpenShut
import Derived.ChangeOld
import Derived.SizedLaws
import Derived.ChangeSlices
import Derived.ChangeArms
import Derived.Deep.Slices
import Derived.MapKept
import Derived.Maps.RangeRun
import Derived.Test.YtobjjdnfgamgcaaRI9
section
namespace Go.Proofs.Ytobjjdnfgamgcaa
open Go Go.RowKit
set_option linter.unusedSimpArgs false
set_option linter.unusedVariables false
attribute [local irreducible] XWP Spec SpecO XPub XCall seqX clX apX stX ldX iaX slX
/-- an execution whose value is a tree -/
def rvE : View → List Value → Rn → Prop := fun V cs r => rnE V cs r ∧ ∃ d t, trE d V ((cs.drop 2).take 3) t
theorem rvE_ok : ElKOk rvE := fun V V' cs r hV ⟨h1, d, t, h2⟩ => ⟨rnE_ok V V' cs r hV h1, d, t, trE_ok d V V' _ t hV h2⟩
theorem SlK.rn {V : View} {v : Value} {l : List Rn} (h : SlK 9 rvE V v l) : SlK 9 rnE V v l := h.imp fun _ _ _ h => h.1
def shortP (l : List Rn) : Prop := l.length ≤ 24 ∧ ∀ r ∈ l, r.ds.length ≤ 8 ∧ (l.length ≤ 14 ∨ r.ds.length ≤ 3) ∧ r.w.nd.length ≤ 4 ∧ r.w.dd.length ≤ 4
set_option maxHeartbeats 2000000 in
theorem short33_c (V : View) (v : Value) (l : List Rn) (h : SlK 9 rvE V v l) : Spec Try.prog 5 [v] V fun v' V' => ∃ b, v' = .bool b ∧ (b = true → shortP l) := by
  obtain ⟨A, cL, rfl, hc, hm⟩ := h.form
  refine (Spec.enter Try.func5 rfl fun Γ => ?_)
  simp only [Try.ntmps5, List.map_cons, List.map_nil, List.length_cons, List.length_nil, Nat.reduceAdd, Nat.reduceSub, List.replicate_succ, List.replicate_zero, List.cons_append, List.nil_append]
  first | refine Gx.a (by kernel_rfl) fun K hK => ?_ | refine Gx.b (by kernel_rfl) fun K hK => ?_ | refine Gx.c (by kernel_rfl) fun K hK => ?_
  simp only [XU, XV, XA, XB, gateX, Nat.reduceAdd, Nat.reduceLeDiff, Nat.reduceSub, Nat.reduceMul, ↓reduceIte, Int.reduceToNat, Int.reduceLE, beq_self_eq_true]
  refine hK _ ?_
  refine XWP.seq ?_
  by_cases h24 : 24 < l.length
  · have b1 : decide ((24 : Int) < (l.length : Int)) = true := decide_eq_true (by omega)
    first | refine Gx.a (by kernel_rfl) fun K hK => ?_ | refine Gx.b (by kernel_rfl) fun K hK => ?_ | refine Gx.c (by kernel_rfl) fun K hK => ?_
    simp only [XU, XV, XA, XB, gateX, Nat.reduceAdd, Nat.reduceLeDiff, Nat.reduceSub, Nat.reduceMul, ↓reduceIte, Int.reduceToNat, Int.reduceLE, beq_self_eq_true, b1]
    refine hK _ ?_
    first | refine Gx.t rfl ?_ | refine XWP.seq (Gx.t rfl ?_)
    first | refine Gx.a (by kernel_rfl) fun K hK => ?_ | refine Gx.b (by kernel_rfl) fun K hK => ?_ | refine Gx.c (by kernel_rfl) fun K hK => ?_
    simp only [XU, XV, XA, XB, gateX, Nat.reduceAdd, Nat.reduceLeDiff, Nat.reduceSub, Nat.reduceMul, ↓reduceIte, Int.reduceToNat, Int.reduceLE, beq_self_eq_true]
    refine hK _ (XWP.ret ?_)
    try simp only [thenX_ret, inBlockX_ret]
    refine ret_go _ rfl ?_
    exact ⟨false, rfl, fun h => by cases h⟩
  have b1 : decide ((24 : Int) < (l.length : Int)) = false := decide_eq_false (by omega)
  first | refine Gx.a (by kernel_rfl) fun K hK => ?_ | refine Gx.b (by kernel_rfl) fun K hK => ?_ | refine Gx.c (by kernel_rfl) fun K hK => ?_
  simp only [XU, XV, XA, XB, gateX, Nat.reduceAdd, Nat.reduceLeDiff, Nat.reduceSub, Nat.reduceMul, ↓reduceIte, Int.reduceToNat, Int.reduceLE, beq_self_eq_true, b1]
  refine hK _ ?_
  first | refine Gx.f rfl ?_ | refine XWP.seq (Gx.f rfl ?_)
  refine XWP.skip ?_
  refine XWP.cut (fun s => ∃ (V2 : View), StIs (fun Z => [Z 0,Z 1,Z 2,Z 3,Z 4,Z 5,Z 6,Z 7,Z 8,Z 9,Z 10,Z 11,Z 12,Z 13,Z 14,Z 15,Z 16,Z 17,Z 18,Z 19,Z 20,Z 21,Z 22,Z 23,Z 24,Z 25,Z 26,Z 27,Z 28,Z 29,Z 30,Z 31,Z 32,Z 33,Z 34,Z 35,Z 36,Z 37,Z 38,Z 39,Z 40,Z 41,Z 42,Z 43,Z 44,Z 45,Z 46,Z 47,Z 48,Z 49,Z 50,Z 51,Z 52,Z 53,Z 54,Z 55,Z 56,Z 57,Z 58,Z 59,Z 60,Z 61,Z 62,Z 63]) [] (fun _ => none) V2 s ∧ shortP l) ?_ ?_
  rotate_left
  · rintro s ⟨V2, hs, hp⟩
    obtain ⟨z, rfl⟩ := hs.out
    try dsimp only
    first | refine Gx.a (by kernel_rfl) fun K hK => ?_ | refine Gx.b (by kernel_rfl) fun K hK => ?_ | refine Gx.c (by kernel_rfl) fun K hK => ?_
    simp only [XU, XV, XA, XB, gateX, Nat.reduceAdd, Nat.reduceLeDiff, Nat.reduceSub, Nat.reduceMul, ↓reduceIte, Int.reduceToNat, Int.reduceLE, beq_self_eq_true]
    refine hK _ (XWP.ret ?_)
    try simp only [thenX_ret, inBlockX_ret]
    refine ret_go _ rfl ?_
    exact ⟨true, rfl, fun _ => hp⟩
  first | refine Gx.a (by kernel_rfl) fun K hK => ?_ | refine Gx.b (by kernel_rfl) fun K hK => ?_ | refine Gx.c (by kernel_rfl) fun K hK => ?_
  simp only [XU, XV, XA, XB, gateX, Nat.reduceAdd, Nat.reduceLeDiff, Nat.reduceSub, Nat.reduceMul, ↓reduceIte, Int.reduceToNat, Int.reduceLE, beq_self_eq_true]
  refine hK _ ?_
  clear hK
  first | refine XWP.block ?_ | refine XWP.seq (XWP.block ?_)
  refine XWP.loop (fun q s => ∃ (k : Nat) (V2 : View), StIs (fun Z => [.v (.slice A l.length cL), Z 1,Z 2,Z 3,Z 4,Z 5,Z 6, .v (.slice A l.length cL), .v (.int .i64 (l.length : Int)), .v (.int .i64 (k : Int)), Z 10,Z 11,Z 12,Z 13,Z 14,Z 15,Z 16,Z 17,Z 18,Z 19,Z 20,Z 21,Z 22,Z 23,Z 24,Z 25,Z 26,Z 27,Z 28,Z 29,Z 30,Z 31,Z 32,Z 33,Z 34,Z 35,Z 36,Z 37,Z 38,Z 39,Z 40,Z 41,Z 42,Z 43,Z 44,Z 45,Z 46,Z 47,Z 48,Z 49,Z 50,Z 51,Z 52,Z 53,Z 54,Z 55,Z 56,Z 57,Z 58,Z 59,Z 60,Z 61,Z 62,Z 63]) [] (fun _ => none) V2 s ∧ q + k = l.length ∧ V.le V2 ∧ ∀ r ∈ l.take k, r.ds.length ≤ 8 ∧ (l.length ≤ 14 ∨ r.ds.length ≤ 3) ∧ r.w.nd.length ≤ 4 ∧ r.w.dd.length ≤ 4) l.length ⟨0, V, StIs.of (by exact rfl), by omega, View.le_refl _, fun r hr => by simp at hr⟩ ?_
  rintro q s ⟨k, V2, hs, hq, hV2, hall⟩
  obtain ⟨z, rfl⟩ := hs.out
  try dsimp only
  clear hs
  by_cases hk : k < l.length
  rotate_left
  · obtain rfl : k = l.length := by omega
    have bt1 : decide (((l.length : Nat) : Int) < ((l.length : Nat) : Int)) = false := decide_eq_false (by omega)
    first | refine Gx.a (by kernel_rfl) fun K hK => ?_ | refine Gx.b (by kernel_rfl) fun K hK => ?_ | refine Gx.c (by kernel_rfl) fun K hK => ?_
    simp only [XU, XV, XA, XB, gateX, Nat.reduceAdd, Nat.reduceLeDiff, Nat.reduceSub, Nat.reduceMul, ↓reduceIte, Int.reduceToNat, Int.reduceLE, beq_self_eq_true, bt1]
    refine hK _ ?_
    first | refine Gx.f rfl ?_ | refine XWP.seq (Gx.f rfl ?_)
    refine XWP.exit ?_
    rw [List.take_length] at hall
    exact ⟨V2, StIs.of (by exact rfl), by omega, hall⟩
  have bt1 : decide ((k : Int) < (l.length : Int)) = true := decide_eq_true (by omega)
  first | refine Gx.a (by kernel_rfl) fun K hK => ?_ | refine Gx.b (by kernel_rfl) fun K hK => ?_ | refine Gx.c (by kernel_rfl) fun K hK => ?_
  simp only [XU, XV, XA, XB, gateX, Nat.reduceAdd, Nat.reduceLeDiff, Nat.reduceSub, Nat.reduceMul, ↓reduceIte, Int.reduceToNat, Int.reduceLE, beq_self_eq_true, bt1]
  refine hK _ ?_
  first | refine Gx.t rfl ?_ | refine XWP.seq (Gx.t rfl ?_)
  refine XWP.skip ?_
  obtain ⟨r, hrk⟩ : ∃ r, l[k]? = some r := ⟨_, List.getElem?_eq_getElem hk⟩
  have er : l[k] = r := (List.getElem?_eq_some_iff.1 hrk).2
  have etk : l.take (k + 1) = l.take k ++ [r] := by rw [List.take_add_one, hrk]; rfl
  have h2 := h.mono rvE_ok hV2
  obtain ⟨bL, oL, rfl⟩ := SlK.addr h2 (by omega)
  obtain ⟨cs, hcs, hcell⟩ := SlK.get h2 k hk
  rw [er] at hcs
  obtain ⟨_, hone, ⟨c1, c2, c3, c4, dv, m, c7, c8, rfl, hds, n7, d8, eq, k7, k8⟩, dd, tt, htr⟩ := hcs
  cases eq
  obtain ⟨A1, q1, rfl, _, _⟩ := hds.form
  obtain ⟨A7, q7, rfl, _, _⟩ := k7.form
  obtain ⟨A8, q8, rfl, _, _⟩ := k8.form
  have x5 := fun H => loads1 (H := H) shapeT_46 (hcell H 5 _ rfl)
  have x7 := fun H => loads1 (H := H) shapeT_29 (hcell H 7 _ rfl)
  have x8 := fun H => loads1 (H := H) shapeT_29 (hcell H 8 _ rfl)
  have x2 := fun H => loadsK (H := H) (b := bL) (off := oL + k * 9 + 2) (cs := [c2, c3, c4]) shapeT_43 rfl (fun j u hj => by
    match j, hj with
    | 0, hj => exact hcell H 2 u hj
    | 1, hj => exact hcell H 3 u hj
    | 2, hj => exact hcell H 4 u hj)
  have htr : trE dd V2 [c2, c3, c4] tt := htr
  refine XWP.cut (fun s => ∃ (V3 : View), StIs (fun Z => [.v (.slice (some ⟨bL, oL, none⟩) l.length cL), Z 1,Z 2,Z 3,Z 4,Z 5,Z 6, .v (.slice (some ⟨bL, oL, none⟩) l.length cL), .v (.int .i64 (l.length : Int)), .v (.int .i64 (k : Int)), Z 10,Z 11,Z 12,Z 13,Z 14,Z 15,Z 16,Z 17,Z 18,Z 19,Z 20,Z 21,Z 22,Z 23,Z 24,Z 25,Z 26,Z 27,Z 28,Z 29,Z 30,Z 31,Z 32,Z 33,Z 34,Z 35,Z 36,Z 37,Z 38,Z 39,Z 40,Z 41,Z 42,Z 43,Z 44,Z 45,Z 46,Z 47,Z 48,Z 49,Z 50,Z 51,Z 52,Z 53,Z 54,Z 55,Z 56,Z 57,Z 58,Z 59,Z 60,Z 61,Z 62,Z 63]) [] (fun _ => none) V3 s ∧ V2.le V3 ∧ r.ds.length ≤ 8 ∧ (l.length ≤ 14 ∨ r.ds.length ≤ 3) ∧ r.w.nd.length ≤ 4 ∧ r.w.dd.length ≤ 4) ?_ ?_
  rotate_left
  · rintro s ⟨V3, hs, hV3, hr⟩
    obtain ⟨z, rfl⟩ := hs.out
    try dsimp only
    clear hs
    first | refine Gx.a (by kernel_rfl) fun K hK => ?_ | refine Gx.b (by kernel_rfl) fun K hK => ?_ | refine Gx.c (by kernel_rfl) fun K hK => ?_
    simp only [XU, XV, XA, XB, gateX, Nat.reduceAdd, Nat.reduceLeDiff, Nat.reduceSub, Nat.reduceMul, ↓reduceIte, Int.reduceToNat, Int.reduceLE, beq_self_eq_true, i64_succ k (by omega)]
    refine hK _ ⟨q - 1, by omega, k + 1, V3, StIs.of (by exact rfl), by omega, View.le_trans hV2 hV3, fun x hx => ?_⟩
    rw [etk] at hx
    rcases List.mem_append.1 hx with hx | hx
    · exact hall x hx
    · rw [List.mem_singleton.1 hx]; exact hr
  clear hK
  first | refine XWP.block ?_ | refine XWP.seq (XWP.block ?_)
  first | refine Gx.a (by kernel_rfl) fun K hK => ?_ | refine Gx.b (by kernel_rfl) fun K hK => ?_ | refine Gx.c (by kernel_rfl) fun K hK => ?_
  simp only [XU, XV, XA, XB, gateX, Nat.reduceAdd, Nat.reduceLeDiff, Nat.reduceSub, Nat.reduceMul, ↓reduceIte, Int.reduceToNat, Int.reduceLE, beq_self_eq_true]
  refine hK _ ?_
  have hno : ∃ b, Value.bool false = .bool b ∧ (b = true → shortP l) := ⟨false, rfl, fun h => by cases h⟩
  by_cases p1 : 8 < r.ds.length
  · have t1 : decide ((8 : Int) < (r.ds.length : Int)) = true := decide_eq_true (by omega)
    first | refine Gx.a (by kernel_rfl) fun K hK => ?_ | refine Gx.b (by kernel_rfl) fun K hK => ?_ | refine Gx.c (by kernel_rfl) fun K hK => ?_
    simp only [XU, XV, XA, XB, gateX, Nat.reduceAdd, Nat.reduceLeDiff, Nat.reduceSub, Nat.reduceMul, ↓reduceIte, Int.reduceToNat, Int.reduceLE, beq_self_eq_true, t1]
    refine ⟨by omega, by omega, ld_mem (x5 _) ?_⟩
    simp only [XU, XV, XA, XB, gateX, Nat.reduceAdd, Nat.reduceLeDiff, Nat.reduceSub, Nat.reduceMul, ↓reduceIte, Int.reduceToNat, Int.reduceLE, beq_self_eq_true, t1]
    refine hK _ ?_
    first | refine Gx.t rfl ?_ | refine XWP.seq (Gx.t rfl ?_)
    first | refine Gx.a (by kernel_rfl) fun K hK => ?_ | refine Gx.b (by kernel_rfl) fun K hK => ?_ | refine Gx.c (by kernel_rfl) fun K hK => ?_
    simp only [XU, XV, XA, XB, gateX, Nat.reduceAdd, Nat.reduceLeDiff, Nat.reduceSub, Nat.reduceMul, ↓reduceIte, Int.reduceToNat, Int.reduceLE, beq_self_eq_true]
    refine hK _ (XWP.ret ?_)
    try simp only [thenX_ret, inBlockX_ret]
    refine ret_go _ rfl ?_
    exact hno
  have t1 : decide ((8 : Int) < (r.ds.length : Int)) = false := decide_eq_false (by omega)
  have key : l.length ≤ 14 ∨ (14 < l.length ∧ r.ds.length ≤ 3) ∨ (14 < l.length ∧ 3 < r.ds.length) := by omega
  rcases key with p2 | ⟨p2, p3⟩ | ⟨p2, p3⟩
  rotate_left 2
  · have t2 : decide ((14 : Int) < (l.length : Int)) = true := decide_eq_true (by omega)
    have t3 : decide ((3 : Int) < (r.ds.length : Int)) = true := decide_eq_true (by omega)
    first | refine Gx.a (by kernel_rfl) fun K hK => ?_ | refine Gx.b (by kernel_rfl) fun K hK => ?_ | refine Gx.c (by kernel_rfl) fun K hK => ?_
    simp only [XU, XV, XA, XB, gateX, Nat.reduceAdd, Nat.reduceLeDiff, Nat.reduceSub, Nat.reduceMul, ↓reduceIte, Int.reduceToNat, Int.reduceLE, beq_self_eq_true, t1, t2, t3]
    refine ⟨by omega, by omega, ld_mem (x5 _) ?_⟩
    simp only [XU, XV, XA, XB, gateX, Nat.reduceAdd, Nat.reduceLeDiff, Nat.reduceSub, Nat.reduceMul, ↓reduceIte, Int.reduceToNat, Int.reduceLE, beq_self_eq_true, t1, t2, t3]
    refine ⟨by omega, by omega, ld_mem (x5 _) ?_⟩
    simp only [XU, XV, XA, XB, gateX, Nat.reduceAdd, Nat.reduceLeDiff, Nat.reduceSub, Nat.reduceMul, ↓reduceIte, Int.reduceToNat, Int.reduceLE, beq_self_eq_true, t1, t2, t3]
    refine hK _ ?_
    first | refine Gx.t rfl ?_ | refine XWP.seq (Gx.t rfl ?_)
    first | refine Gx.a (by kernel_rfl) fun K hK => ?_ | refine Gx.b (by kernel_rfl) fun K hK => ?_ | refine Gx.c (by kernel_rfl) fun K hK => ?_
    simp only [XU, XV, XA, XB, gateX, Nat.reduceAdd, Nat.reduceLeDiff, Nat.reduceSub, Nat.reduceMul, ↓reduceIte, Int.reduceToNat, Int.reduceLE, beq_self_eq_true]
    refine hK _ (XWP.ret ?_)
    try simp only [thenX_ret, inBlockX_ret]
    refine ret_go _ rfl ?_
    exact hno
  · have t2 : decide ((14 : Int) < (l.length : Int)) = false := decide_eq_false (by omega)
    by_cases p4 : 4 < r.w.nd.length
    · have t4 : decide ((4 : Int) < (r.w.nd.length : Int)) = true := decide_eq_true (by omega)
      first | refine Gx.a (by kernel_rfl) fun K hK => ?_ | refine Gx.b (by kernel_rfl) fun K hK => ?_ | refine Gx.c (by kernel_rfl) fun K hK => ?_
      simp only [XU, XV, XA, XB, gateX, Nat.reduceAdd, Nat.reduceLeDiff, Nat.reduceSub, Nat.reduceMul, ↓reduceIte, Int.reduceToNat, Int.reduceLE, beq_self_eq_true, t1, t2]
      refine ⟨by omega, by omega, ld_mem (x5 _) ?_⟩
      simp only [XU, XV, XA, XB, gateX, Nat.reduceAdd, Nat.reduceLeDiff, Nat.reduceSub, Nat.reduceMul, ↓reduceIte, Int.reduceToNat, Int.reduceLE, beq_self_eq_true, t1, t2]
      refine ⟨by omega, by omega, ld_mem (x7 _) ?_⟩
      simp only [XU, XV, XA, XB, gateX, Nat.reduceAdd, Nat.reduceLeDiff, Nat.reduceSub, Nat.reduceMul, ↓reduceIte, Int.reduceToNat, Int.reduceLE, beq_self_eq_true, t4]
      refine hK _ ?_
      first | refine Gx.t rfl ?_ | refine XWP.seq (Gx.t rfl ?_)
      first | refine Gx.a (by kernel_rfl) fun K hK => ?_ | refine Gx.b (by kernel_rfl) fun K hK => ?_ | refine Gx.c (by kernel_rfl) fun K hK => ?_
      simp only [XU, XV, XA, XB, gateX, Nat.reduceAdd, Nat.reduceLeDiff, Nat.reduceSub, Nat.reduceMul, ↓reduceIte, Int.reduceToNat, Int.reduceLE, beq_self_eq_true]
      refine hK _ (XWP.ret ?_)
      try simp only [thenX_ret, inBlockX_ret]
      refine ret_go _ rfl ?_
      exact hno
    have t4 : decide ((4 : Int) < (r.w.nd.length : Int)) = false := decide_eq_false (by omega)
    by_cases p5 : 4 < r.w.dd.length
    · have t5 : decide ((4 : Int) < (r.w.dd.length : Int)) = true := decide_eq_true (by omega)
      first | refine Gx.a (by kernel_rfl) fun K hK => ?_ | refine Gx.b (by kernel_rfl) fun K hK => ?_ | refine Gx.c (by kernel_rfl) fun K hK => ?_
      simp only [XU, XV, XA, XB, gateX, Nat.reduceAdd, Nat.reduceLeDiff, Nat.reduceSub, Nat.reduceMul, ↓reduceIte, Int.reduceToNat, Int.reduceLE, beq_self_eq_true, t1, t2]
      refine ⟨by omega, by omega, ld_mem (x5 _) ?_⟩
      simp only [XU, XV, XA, XB, gateX, Nat.reduceAdd, Nat.reduceLeDiff, Nat.reduceSub, Nat.reduceMul, ↓reduceIte, Int.reduceToNat, Int.reduceLE, beq_self_eq_true, t1, t2]
      refine ⟨by omega, by omega, ld_mem (x7 _) ?_⟩
      simp only [XU, XV, XA, XB, gateX, Nat.reduceAdd, Nat.reduceLeDiff, Nat.reduceSub, Nat.reduceMul, ↓reduceIte, Int.reduceToNat, Int.reduceLE, beq_self_eq_true, t4]
      refine ⟨by omega, by omega, ld_mem (x8 _) ?_⟩
      simp only [XU, XV, XA, XB, gateX, Nat.reduceAdd, Nat.reduceLeDiff, Nat.reduceSub, Nat.reduceMul, ↓reduceIte, Int.reduceToNat, Int.reduceLE, beq_self_eq_true, t5]
      refine hK _ ?_
      first | refine Gx.t rfl ?_ | refine XWP.seq (Gx.t rfl ?_)
      first | refine Gx.a (by kernel_rfl) fun K hK => ?_ | refine Gx.b (by kernel_rfl) fun K hK => ?_ | refine Gx.c (by kernel_rfl) fun K hK => ?_
      simp only [XU, XV, XA, XB, gateX, Nat.reduceAdd, Nat.reduceLeDiff, Nat.reduceSub, Nat.reduceMul, ↓reduceIte, Int.reduceToNat, Int.reduceLE, beq_self_eq_true]
      refine hK _ (XWP.ret ?_)
      try simp only [thenX_ret, inBlockX_ret]
      refine ret_go _ rfl ?_
      exact hno
    have t5 : decide ((4 : Int) < (r.w.dd.length : Int)) = false := decide_eq_false (by omega)
    first | refine Gx.a (by kernel_rfl) fun K hK => ?_ | refine Gx.b (by kernel_rfl) fun K hK => ?_ | refine Gx.c (by kernel_rfl) fun K hK => ?_
    simp only [XU, XV, XA, XB, gateX, Nat.reduceAdd, Nat.reduceLeDiff, Nat.reduceSub, Nat.reduceMul, ↓reduceIte, Int.reduceToNat, Int.reduceLE, beq_self_eq_true, t1, t2]
    refine ⟨by omega, by omega, ld_mem (x5 _) ?_⟩
    simp only [XU, XV, XA, XB, gateX, Nat.reduceAdd, Nat.reduceLeDiff, Nat.reduceSub, Nat.reduceMul, ↓reduceIte, Int.reduceToNat, Int.reduceLE, beq_self_eq_true, t1, t2]
    refine ⟨by omega, by omega, ld_mem (x7 _) ?_⟩
    simp only [XU, XV, XA, XB, gateX, Nat.reduceAdd, Nat.reduceLeDiff, Nat.reduceSub, Nat.reduceMul, ↓reduceIte, Int.reduceToNat, Int.reduceLE, beq_self_eq_true, t4]
    refine ⟨by omega, by omega, ld_mem (x8 _) ?_⟩
    simp only [XU, XV, XA, XB, gateX, Nat.reduceAdd, Nat.reduceLeDiff, Nat.reduceSub, Nat.reduceMul, ↓reduceIte, Int.reduceToNat, Int.reduceLE, beq_self_eq_true, t5]
    refine ⟨by omega, by omega, ld_mem (x2 _) ?_⟩
    simp only [XU, XV, XA, XB, gateX, Nat.reduceAdd, Nat.reduceLeDiff, Nat.reduceSub, Nat.reduceMul, ↓reduceIte, Int.reduceToNat, Int.reduceLE, beq_self_eq_true]
    refine call_go (by kernel_rfl) rfl (many_c dd _ _ tt htr) fun v3 V3 hV3 h3 => ?_
    subst h3
    cases t6 : decide (50 < manyT dd tt)
    · simp only [XU, XV, XA, XB, gateX, Nat.reduceAdd, Nat.reduceLeDiff, Nat.reduceSub, Nat.reduceMul, ↓reduceIte, Int.reduceToNat, Int.reduceLE, beq_self_eq_true, t6]
      refine hK _ ?_
      first | refine Gx.f rfl ?_ | refine XWP.seq (Gx.f rfl ?_)
      refine XWP.skip ?_
      exact ⟨V3, StIs.of (by exact rfl), hV3, by omega, .inl p2, by omega, by omega⟩
    · simp only [XU, XV, XA, XB, gateX, Nat.reduceAdd, Nat.reduceLeDiff, Nat.reduceSub, Nat.reduceMul, ↓reduceIte, Int.reduceToNat, Int.reduceLE, beq_self_eq_true, t6]
      refine hK _ ?_
      first | refine Gx.t rfl ?_ | refine XWP.seq (Gx.t rfl ?_)
      first | refine Gx.a (by kernel_rfl) fun K hK => ?_ | refine Gx.b (by kernel_rfl) fun K hK => ?_ | refine Gx.c (by kernel_rfl) fun K hK => ?_
      simp only [XU, XV, XA, XB, gateX, Nat.reduceAdd, Nat.reduceLeDiff, Nat.reduceSub, Nat.reduceMul, ↓reduceIte, Int.reduceToNat, Int.reduceLE, beq_self_eq_true]
      refine hK _ (XWP.ret ?_)
      try simp only [thenX_ret, inBlockX_ret]
      refine ret_go _ rfl ?_
      exact hno
  · have t2 : decide ((14 : Int) < (l.length : Int)) = true := decide_eq_true (by omega)
    have t3 : decide ((3 : Int) < (r.ds.length : Int)) = false := decide_eq_false (by omega)
    by_cases p4 : 4 < r.w.nd.length
    · have t4 : decide ((4 : Int) < (r.w.nd.length : Int)) = true := decide_eq_true (by omega)
      first | refine Gx.a (by kernel_rfl) fun K hK => ?_ | refine Gx.b (by kernel_rfl) fun K hK => ?_ | refine Gx.c (by kernel_rfl) fun K hK => ?_
      simp only [XU, XV, XA, XB, gateX, Nat.reduceAdd, Nat.reduceLeDiff, Nat.reduceSub, Nat.reduceMul, ↓reduceIte, Int.reduceToNat, Int.reduceLE, beq_self_eq_true, t1, t2]
      refine ⟨by omega, by omega, ld_mem (x5 _) ?_⟩
      simp only [XU, XV, XA, XB, gateX, Nat.reduceAdd, Nat.reduceLeDiff, Nat.reduceSub, Nat.reduceMul, ↓reduceIte, Int.reduceToNat, Int.reduceLE, beq_self_eq_true, t1, t2]
      refine ⟨by omega, by omega, ld_mem (x5 _) ?_⟩
      simp only [XU, XV, XA, XB, gateX, Nat.reduceAdd, Nat.reduceLeDiff, Nat.reduceSub, Nat.reduceMul, ↓reduceIte, Int.reduceToNat, Int.reduceLE, beq_self_eq_true, t3]
      refine ⟨by omega, by omega, ld_mem (x7 _) ?_⟩
      simp only [XU, XV, XA, XB, gateX, Nat.reduceAdd, Nat.reduceLeDiff, Nat.reduceSub, Nat.reduceMul, ↓reduceIte, Int.reduceToNat, Int.reduceLE, beq_self_eq_true, t4]
      refine hK _ ?_
      first | refine Gx.t rfl ?_ | refine XWP.seq (Gx.t rfl ?_)
      first | refine Gx.a (by kernel_rfl) fun K hK => ?_ | refine Gx.b (by kernel_rfl) fun K hK => ?_ | refine Gx.c (by kernel_rfl) fun K hK => ?_
      simp only [XU, XV, XA, XB, gateX, Nat.reduceAdd, Nat.reduceLeDiff, Nat.reduceSub, Nat.reduceMul, ↓reduceIte, Int.reduceToNat, Int.reduceLE, beq_self_eq_true]
      refine hK _ (XWP.ret ?_)
      try simp only [thenX_ret, inBlockX_ret]
      refine ret_go _ rfl ?_
      exact hno
    have t4 : decide ((4 : Int) < (r.w.nd.length : Int)) = false := decide_eq_false (by omega)
    by_cases p5 : 4 < r.w.dd.length
    · have t5 : decide ((4 : Int) < (r.w.dd.length : Int)) = true := decide_eq_true (by omega)
      first | refine Gx.a (by kernel_rfl) fun K hK => ?_ | refine Gx.b (by kernel_rfl) fun K hK => ?_ | refine Gx.c (by kernel_rfl) fun K hK => ?_
      simp only [XU, XV, XA, XB, gateX, Nat.reduceAdd, Nat.reduceLeDiff, Nat.reduceSub, Nat.reduceMul, ↓reduceIte, Int.reduceToNat, Int.reduceLE, beq_self_eq_true, t1, t2]
      refine ⟨by omega, by omega, ld_mem (x5 _) ?_⟩
      simp only [XU, XV, XA, XB, gateX, Nat.reduceAdd, Nat.reduceLeDiff, Nat.reduceSub, Nat.reduceMul, ↓reduceIte, Int.reduceToNat, Int.reduceLE, beq_self_eq_true, t1, t2]
      refine ⟨by omega, by omega, ld_mem (x5 _) ?_⟩
      simp only [XU, XV, XA, XB, gateX, Nat.reduceAdd, Nat.reduceLeDiff, Nat.reduceSub, Nat.reduceMul, ↓reduceIte, Int.reduceToNat, Int.reduceLE, beq_self_eq_true, t3]
      refine ⟨by omega, by omega, ld_mem (x7 _) ?_⟩
      simp only [XU, XV, XA, XB, gateX, Nat.reduceAdd, Nat.reduceLeDiff, Nat.reduceSub, Nat.reduceMul, ↓reduceIte, Int.reduceToNat, Int.reduceLE, beq_self_eq_true, t4]
      refine ⟨by omega, by omega, ld_mem (x8 _) ?_⟩
      simp only [XU, XV, XA, XB, gateX, Nat.reduceAdd, Nat.reduceLeDiff, Nat.reduceSub, Nat.reduceMul, ↓reduceIte, Int.reduceToNat, Int.reduceLE, beq_self_eq_true, t5]
      refine hK _ ?_
      first | refine Gx.t rfl ?_ | refine XWP.seq (Gx.t rfl ?_)
      first | refine Gx.a (by kernel_rfl) fun K hK => ?_ | refine Gx.b (by kernel_rfl) fun K hK => ?_ | refine Gx.c (by kernel_rfl) fun K hK => ?_
      simp only [XU, XV, XA, XB, gateX, Nat.reduceAdd, Nat.reduceLeDiff, Nat.reduceSub, Nat.reduceMul, ↓reduceIte, Int.reduceToNat, Int.reduceLE, beq_self_eq_true]
      refine hK _ (XWP.ret ?_)
      try simp only [thenX_ret, inBlockX_ret]
      refine ret_go _ rfl ?_
      exact hno
    have t5 : decide ((4 : Int) < (r.w.dd.length : Int)) = false := decide_eq_false (by omega)
    first | refine Gx.a (by kernel_rfl) fun K hK => ?_ | refine Gx.b (by kernel_rfl) fun K hK => ?_ | refine Gx.c (by kernel_rfl) fun K hK => ?_
    simp only [XU, XV, XA, XB, gateX, Nat.reduceAdd, Nat.reduceLeDiff, Nat.reduceSub, Nat.reduceMul, ↓reduceIte, Int.reduceToNat, Int.reduceLE, beq_self_eq_true, t1, t2]
    refine ⟨by omega, by omega, ld_mem (x5 _) ?_⟩
    simp only [XU, XV, XA, XB, gateX, Nat.reduceAdd, Nat.reduceLeDiff, Nat.reduceSub, Nat.reduceMul, ↓reduceIte, Int.reduceToNat, Int.reduceLE, beq_self_eq_true, t1, t2]
    refine ⟨by omega, by omega, ld_mem (x5 _) ?_⟩
    simp only [XU, XV, XA, XB, gateX, Nat.reduceAdd, Nat.reduceLeDiff, Nat.reduceSub, Nat.reduceMul, ↓reduceIte, Int.reduceToNat, Int.reduceLE, beq_self_eq_true, t3]
    refine ⟨by omega, by omega, ld_mem (x7 _) ?_⟩
    simp only [XU, XV, XA, XB, gateX, Nat.reduceAdd, Nat.reduceLeDiff, Nat.reduceSub, Nat.reduceMul, ↓reduceIte, Int.reduceToNat, Int.reduceLE, beq_self_eq_true, t4]
    refine ⟨by omega, by omega, ld_mem (x8 _) ?_⟩
    simp only [XU, XV, XA, XB, gateX, Nat.reduceAdd, Nat.reduceLeDiff, Nat.reduceSub, Nat.reduceMul, ↓reduceIte, Int.reduceToNat, Int.reduceLE, beq_self_eq_true, t5]
    refine ⟨by omega, by omega, ld_mem (x2 _) ?_⟩
    simp only [XU, XV, XA, XB, gateX, Nat.reduceAdd, Nat.reduceLeDiff, Nat.reduceSub, Nat.reduceMul, ↓reduceIte, Int.reduceToNat, Int.reduceLE, beq_self_eq_true]
    refine call_go (by kernel_rfl) rfl (many_c dd _ _ tt htr) fun v3 V3 hV3 h3 => ?_
    subst h3
    cases t6 : decide (50 < manyT dd tt)
    · simp only [XU, XV, XA, XB, gateX, Nat.reduceAdd, Nat.reduceLeDiff, Nat.reduceSub, Nat.reduceMul, ↓reduceIte, Int.reduceToNat, Int.reduceLE, beq_self_eq_true, t6]
      refine hK _ ?_
      first | refine Gx.f rfl ?_ | refine XWP.seq (Gx.f rfl ?_)
      refine XWP.skip ?_
      exact ⟨V3, StIs.of (by exact rfl), hV3, by omega, .inr p3, by omega, by omega⟩
    · simp only [XU, XV, XA, XB, gateX, Nat.reduceAdd, Nat.reduceLeDiff, Nat.reduceSub, Nat.reduceMul, ↓reduceIte, Int.reduceToNat, Int.reduceLE, beq_self_eq_true, t6]
      refine hK _ ?_
      first | refine Gx.t rfl ?_ | refine XWP.seq (Gx.t rfl ?_)
      first | refine Gx.a (by kernel_rfl) fun K hK => ?_ | refine Gx.b (by kernel_rfl) fun K hK => ?_ | refine Gx.c (by kernel_rfl) fun K hK => ?_
      simp only [XU, XV, XA, XB, gateX, Nat.reduceAdd, Nat.reduceLeDiff, Nat.reduceSub, Nat.reduceMul, ↓reduceIte, Int.reduceToNat, Int.reduceLE, beq_self_eq_true]
      refine hK _ (XWP.ret ?_)
      try simp only [thenX_ret, inBlockX_ret]
      refine ret_go _ rfl ?_
      exact hno
end Go.Proofs.Ytobjjdnfgamgcaa
end
section
namespace Go.Proofs.Ytobjjdnfgamgcaa
open Go Go.RowKit Go.ChangeShapes
set_option linter.unusedVariables false
section
variable {H : Type} {enc : TypeId × Value → H} {w : World} {base : Nat} {spare : Nat → Bool} {held : Bool}
/-- a slice of elements of any number of cells -/
theorem open_slk {α : Type} {sz : Nat} {E : View → List Value → α → Prop} {t e fuel : Nat} {v : Value} {x : DataW H × List MemPlace} (ht : elemT Try.prog t = some e) (hc : (Try.prog).cellsOf e = sz) (h0 : 0 < sz) (h : DataW.trod enc Try.prog w base spare held fuel t [v] = some x)
    (hel : ∀ n cs y, n < fuel → DataW.trod enc Try.prog w base spare held n e cs = some y → ∃ a, ElK sz E (viewW w) cs a) : ∃ l, SlK sz E (viewW w) v l := by
  rcases DataW.trod_slice (und_elem ht) h with ⟨hcs, _⟩ | ⟨a, len, cap, elems, rest, n, hfu, hcs, _, _, hl, hm, hlen, hx, _, _⟩
  · cases hcs; exact ⟨[], SlK.nil _⟩
  · cases hcs
    have key : ∀ i, i < len → ∃ r : α, ∃ cs : List Value, ElK sz E (viewW w) cs r ∧ ∀ j u, cs[j]? = some u → w.cell? (a.add (i * sz + j)) = some u := fun i hi => by
      have h1 := hx i hi
      rw [List.getElem?_eq_getElem (by omega), hc] at h1
      cases hcs : w.cells? base (a.add (i * sz)) sz with
      | none => rw [hcs] at h1; cases h1
      | some cs =>
        rw [hcs] at h1
        obtain ⟨r, hr⟩ := hel n cs _ (by omega) h1
        obtain ⟨_, _, h3⟩ := World.cells?_some hcs
        refine ⟨r, cs, hr, fun j u hj => ?_⟩
        have hjl := (List.getElem?_eq_some_iff.1 hj).1
        have := h3 j (by rw [← hr.1]; exact hjl)
        rw [Go.Deep.add_add] at this
        rw [this, hj]
    obtain ⟨l, hll, hq⟩ := choose_list len key
    refine ⟨l, some a, cap, by rw [hll], by omega, by unfold maxLen at hm; omega, ?_⟩
    rcases Nat.eq_zero_or_pos len with hz | hz
    · exact .inl (List.length_eq_zero_iff.1 (by omega))
    · obtain ⟨cs0, ⟨c0, _, _⟩, g0⟩ := hq 0 l[0] (List.getElem?_eq_getElem (by omega))
      have g0 := g0 0 cs0[0] (List.getElem?_eq_getElem (by omega))
      have e0 : a.add (0 * sz + 0) = a := by simp [Addr.add]
      rw [e0] at g0
      obtain ⟨hs, arr, ty, fr, hb, _⟩ := cell_view g0
      refine .inr ⟨a.block, a.off, arr, ty, fr, by rw [← addr_eta a hs], hb, fun i x hi => ?_⟩
      obtain ⟨cs, hx, hg⟩ := hq i x hi
      refine ⟨cs, hx, fun j u hj => ?_⟩
      have hk := hg j u hj
      obtain ⟨_, arr', ty', fr', hb', hv⟩ := cell_view hk
      obtain ⟨e1, e2⟩ := add_off a (i * sz + j)
      rw [e1, hb] at hb'
      cases hb'
      rw [e2, ← Nat.add_assoc] at hv; exact hv
noncomputable def fieldsOf (t : Nat) : Array Field := match (Try.prog).underlying t with
  | some (.struct fs) => fs
  | _ => #[]
theorem open_fields {t fuel : Nat} {cs : List Value} {x : DataW H × List MemPlace} {L : List (Nat × Nat)} (hu : (Try.prog).underlying t = some (.struct (fieldsOf t))) (hm : (fieldsOf t).toList.map (fun f => (f.type, f.offset)) = L) (h : DataW.trod enc Try.prog w base spare held fuel t cs = some x) :
    cs.length = (Try.prog).cellsOf t ∧ ∃ n, fuel = n + 1 ∧ ∀ (i ty off : Nat), L[i]? = some (ty, off) → ∃ y, DataW.trod enc Try.prog w base spare held n ty ((cs.drop off).take ((Try.prog).cellsOf ty)) = some y := by
  obtain ⟨xs, n, hfu, _, hl, hxl, hf⟩ := DataW.trod_struct hu h
  refine ⟨hl, n, hfu, fun i ty off hi => ?_⟩
  rw [← hm, List.getElem?_map] at hi
  cases hfi : (fieldsOf t).toList[i]? with
  | none => rw [hfi] at hi; cases hi
  | some f =>
    rw [hfi] at hi
    have hi : (f.type, f.offset) = (ty, off) := Option.some.inj hi
    cases hi
    have hfa : (fieldsOf t)[i]? = some f := by rw [← Array.getElem?_toList]; exact hfi
    have := hf i f hfa
    have hlt := (List.getElem?_eq_some_iff.1 hfi).1
    rw [List.getElem?_eq_getElem (by rw [hxl]; simpa using hlt)] at this
    exact ⟨_, this⟩
theorem und_int : (Try.prog).underlying 3 = some (.int .i64) := by kernel_rfl
theorem cells_int : (Try.prog).cellsOf 3 = 1 := by kernel_rfl
theorem und_val : (Try.prog).underlying 43 = some (.struct (fieldsOf 43)) := by kernel_rfl
theorem fs_val : (fieldsOf 43).toList.map (fun f => (f.type, f.offset)) = [(3, 0), (3, 1), (41, 2)] := by kernel_rfl
theorem cells_val : (Try.prog).cellsOf 43 = 3 := by kernel_rfl
theorem cells_vals : (Try.prog).cellsOf 41 = 1 := by kernel_rfl
theorem open_tree : ∀ (fuel : Nat) (cs : List Value) (x : DataW H × List MemPlace), DataW.trod enc Try.prog w base spare held fuel 43 cs = some x → ∃ t, ElK 3 (trE fuel) (viewW w) cs t := by
  intro fuel
  induction fuel using Nat.strongRecOn with
  | _ fuel ih =>
    intro cs x h
    obtain ⟨hl, n, rfl, hf⟩ := open_fields und_val fs_val h
    rw [cells_val] at hl
    obtain ⟨c0, c1, c2, rfl⟩ := three_of hl
    obtain ⟨y0, h0⟩ := hf 0 _ _ rfl
    obtain ⟨y1, h1⟩ := hf 1 _ _ rfl
    obtain ⟨y2, h2⟩ := hf 2 _ _ rfl
    rw [cells_int] at h0 h1
    rw [cells_vals] at h2
    obtain ⟨a, E0, _⟩ := DataW.trod_int und_int h0
    obtain ⟨b, E1, _⟩ := DataW.trod_int und_int h1
    have e0 : c0 = .int .i64 a := by simpa using E0
    have e1 : c1 = .int .i64 b := by simpa using E1
    have h2 : DataW.trod enc Try.prog w base spare held n 41 [c2] = some y2 := h2
    subst e0
    subst e1
    obtain ⟨l, hl⟩ := open_slk (E := trE n) elemT_41 cells_val (by omega) h2 fun m cs y hm hy => by
      obtain ⟨t, ht⟩ := ih m (by omega) cs y hy
      exact ⟨t, ht.1, ht.2.1, trE_mono (by omega) ht.2.2⟩
    have o2 := hl.one
    refine ⟨.mk a b l, rfl, by simp only [List.all_cons, List.all_nil, o2]; rfl, c2, rfl, hl⟩
theorem und_drawn : (Try.prog).underlying 56 = some (.struct (fieldsOf 56)) := by kernel_rfl
theorem fs_drawn : (fieldsOf 56).toList.map (fun f => (f.type, f.offset)) = [(3, 0), (3, 1), (3, 2), (3, 3)] := by kernel_rfl
theorem cells_drawn : (Try.prog).cellsOf 56 = 4 := by kernel_rfl
theorem open_draw {fuel : Nat} {cs : List Value} {x : DataW H × List MemPlace} (h : DataW.trod enc Try.prog w base spare held fuel 56 cs = some x) : ∃ d, ElK 4 drE (viewW w) cs d := by
  obtain ⟨hl, n, rfl, hf⟩ := open_fields und_drawn fs_drawn h
  rw [cells_drawn] at hl
  rcases cs with _ | ⟨c0, _ | ⟨c1, _ | ⟨c2, _ | ⟨c3, _ | ⟨c4, cs⟩⟩⟩⟩⟩ <;> simp at hl
  obtain ⟨y0, h0⟩ := hf 0 _ _ rfl
  obtain ⟨y1, h1⟩ := hf 1 _ _ rfl
  obtain ⟨y2, h2⟩ := hf 2 _ _ rfl
  obtain ⟨y3, h3⟩ := hf 3 _ _ rfl
  rw [cells_int] at h0 h1 h2 h3
  obtain ⟨a, E0, _⟩ := DataW.trod_int und_int h0
  obtain ⟨b, E1, _⟩ := DataW.trod_int und_int h1
  obtain ⟨c, E2, _⟩ := DataW.trod_int und_int h2
  obtain ⟨d, E3, _⟩ := DataW.trod_int und_int h3
  have e0 : c0 = .int .i64 a := by simpa using E0
  have e1 : c1 = .int .i64 b := by simpa using E1
  have e2 : c2 = .int .i64 c := by simpa using E2
  have e3 : c3 = .int .i64 d := by simpa using E3
  subst e0 e1 e2 e3
  exact ⟨⟨a, b, c, d⟩, rfl, rfl, rfl⟩
theorem und_out : (Try.prog).underlying 45 = some (.struct (fieldsOf 45)) := by kernel_rfl
theorem fs_out : (fieldsOf 45).toList.map (fun f => (f.type, f.offset)) = [(3, 0), (3, 1), (43, 2)] := by kernel_rfl
theorem cells_out : (Try.prog).cellsOf 45 = 5 := by kernel_rfl
theorem und_rn : (Try.prog).underlying 48 = some (.struct (fieldsOf 48)) := by kernel_rfl
theorem fs_rn : (fieldsOf 48).toList.map (fun f => (f.type, f.offset)) = [(45, 0), (46, 5), (31, 6)] := by kernel_rfl
theorem cells_rn : (Try.prog).cellsOf 48 = 9 := by kernel_rfl
theorem cells_drs : (Try.prog).cellsOf 46 = 1 := by kernel_rfl
theorem open_run {fuel : Nat} {cs : List Value} {x : DataW H × List MemPlace} (h : DataW.trod enc Try.prog w base spare held fuel 48 cs = some x) : ∃ r, ElK 9 rvE (viewW w) cs r := by
  obtain ⟨hl, n, rfl, hf⟩ := open_fields und_rn fs_rn h
  rw [cells_rn] at hl
  rcases cs with _ | ⟨c0, _ | ⟨c1, _ | ⟨c2, _ | ⟨c3, _ | ⟨c4, _ | ⟨c5, _ | ⟨c6, _ | ⟨c7, _ | ⟨c8, _ | ⟨c9, cs⟩⟩⟩⟩⟩⟩⟩⟩⟩⟩ <;> simp at hl
  obtain ⟨y0, h0⟩ := hf 0 _ _ rfl
  obtain ⟨y1, h1⟩ := hf 1 _ _ rfl
  obtain ⟨y2, h2⟩ := hf 2 _ _ rfl
  rw [cells_out] at h0
  rw [cells_drs] at h1
  rw [cells_rat] at h2
  have h0 : DataW.trod enc Try.prog w base spare held n 45 [c0, c1, c2, c3, c4] = some y0 := h0
  have h1 : DataW.trod enc Try.prog w base spare held n 46 [c5] = some y1 := h1
  have h2 : DataW.trod enc Try.prog w base spare held n 31 [c6, c7, c8] = some y2 := h2
  obtain ⟨_, m, rfl, hg⟩ := open_fields und_out fs_out h0
  obtain ⟨z0, g0⟩ := hg 0 _ _ rfl
  obtain ⟨z1, g1⟩ := hg 1 _ _ rfl
  obtain ⟨z2, g2⟩ := hg 2 _ _ rfl
  rw [cells_int] at g0 g1
  rw [cells_val] at g2
  have g2 : DataW.trod enc Try.prog w base spare held m 43 [c2, c3, c4] = some z2 := g2
  obtain ⟨a, E0, _⟩ := DataW.trod_int und_int g0
  obtain ⟨b, E1, _⟩ := DataW.trod_int und_int g1
  have e0 : c0 = .int .i64 a := by simpa using E0
  have e1 : c1 = .int .i64 b := by simpa using E1
  subst e0 e1
  obtain ⟨t, ⟨_, ho, ht⟩⟩ := open_tree m _ _ g2
  obtain ⟨ds, hds⟩ := open_slk (E := drE) elemT_46 cells_drawn (by omega) h1 fun k cs y _ hy => open_draw hy
  obtain ⟨r, n', d', e2, k1, k2⟩ := open_rat h2
  cases e2
  have o5 := hds.one
  have o7 := k1.one
  have o8 := k2.one
  have ho : ([c2, c3, c4] : List Value).all isOne = true := ho
  have ht : trE m (viewW w) [c2, c3, c4] t := ht
  simp only [List.all_cons, List.all_nil, Bool.and_true, Bool.and_eq_true] at ho
  obtain ⟨o2, o3, o4⟩ := ho
  refine ⟨⟨a, ds, r⟩, rfl, ?_, ⟨.int .i64 b, c2, c3, c4, c5, .bool r.m, c7, c8, rfl, hds, c7, c8, rfl, k1, k2⟩, m, t, ht⟩
  simp only [List.all_cons, List.all_nil, o2, o3, o4, o5, o7, o8]; rfl
theorem open_runs {t fuel : Nat} {v : Value} {x : DataW H × List MemPlace} (ht : elemT Try.prog t = some 48) (h : DataW.trod enc Try.prog w base spare held fuel t [v] = some x) : ∃ l, SlK 9 rvE (viewW w) v l :=
  open_slk ht cells_rn (by omega) h fun n cs y _ hy => open_run hy
end
end Go.Proofs.Ytobjjdnfgamgcaa
end
section
namespace Go.Proofs.Ytobjjdnfgamgcaa
open Go Go.RowKit
set_option linter.unusedSimpArgs false
set_option linter.unusedVariables false
attribute [local irreducible] XWP Spec SpecO XPub XCall seqX clX apX stX ldX iaX slX
theorem begB_short {p : List Dr} {r : Rn} (h : r.ds.length < p.length) : begB p r = false := by
  unfold begB
  exact decide_eq_false fun e => by omega
theorem begB_all {p : List Dr} {r : Rn} (hl : p.length ≤ r.ds.length) (h : ∀ i, i < p.length → r.ds[i]? = p[i]?) : begB p r = true := by
  refine begB_iff.2 ⟨hl, List.ext_getElem? fun i => ?_⟩
  rw [List.getElem?_take]
  split
  · rename_i hi; exact h i hi
  · rename_i hi; rw [List.getElem?_eq_none (by omega)]
theorem begB_not {p : List Dr} {r : Rn} {i : Nat} (hi : i < p.length) (h : r.ds[i]? ≠ p[i]?) : begB p r = false := by
  cases e : begB p r
  · rfl
  · exact absurd (begB_get e hi) h
theorem rbegins_c (V : View) (cs : List Value) (r : Rn) (u : Value) (p : List Dr) (hcs : ElK 9 rnE V cs r) (hp : SlK 4 drE V u p) (hl : r.ds.length ≤ 1000) : Spec Try.prog 49 [.agg cs.toArray, u] V fun v' V' => v' = .bool (begB p r) := by
  obtain ⟨_, hone, c1, c2, c3, c4, dv, m, c7, c8, rfl, hds, hw⟩ := hcs
  obtain ⟨A, c, rfl, hc, hm⟩ := hds.form
  obtain ⟨A2, c2', rfl, hc2, hm2⟩ := hp.form
  refine (Spec.enter Try.func49 rfl fun Γ => ?_)
  simp only [Try.ntmps49, List.map_cons, List.map_nil, List.length_cons, List.length_nil, Nat.reduceAdd, Nat.reduceSub, List.replicate_succ, List.replicate_zero, List.cons_append, List.nil_append]
  first | refine Gx.a (by kernel_rfl) fun K hK => ?_ | refine Gx.b (by kernel_rfl) fun K hK => ?_ | refine Gx.c (by kernel_rfl) fun K hK => ?_
  simp only [XU, XA, XB, gateX, Nat.reduceAdd, Nat.reduceLeDiff, Nat.reduceSub, Nat.reduceMul, ↓reduceIte, Int.reduceToNat, Int.reduceLE, beq_self_eq_true]
  refine hK _ ?_
  refine XWP.seq ?_
  by_cases hlen : r.ds.length < p.length
  · have b1 : decide ((r.ds.length : Int) < (p.length : Int)) = true := decide_eq_true (by omega)
    first | refine Gx.a (by kernel_rfl) fun K hK => ?_ | refine Gx.b (by kernel_rfl) fun K hK => ?_ | refine Gx.c (by kernel_rfl) fun K hK => ?_
    simp only [XU, XA, XB, gateX, Nat.reduceAdd, Nat.reduceLeDiff, Nat.reduceSub, Nat.reduceMul, ↓reduceIte, Int.reduceToNat, Int.reduceLE, beq_self_eq_true, b1]
    refine hK _ ?_
    first | refine Gx.t rfl ?_ | refine XWP.seq (Gx.t rfl ?_)
    first | refine Gx.a (by kernel_rfl) fun K hK => ?_ | refine Gx.b (by kernel_rfl) fun K hK => ?_ | refine Gx.c (by kernel_rfl) fun K hK => ?_
    simp only [XU, XA, XB, gateX, Nat.reduceAdd, Nat.reduceLeDiff, Nat.reduceSub, Nat.reduceMul, ↓reduceIte, Int.reduceToNat, Int.reduceLE, beq_self_eq_true]
    refine hK _ (XWP.ret ?_)
    try simp only [thenX_ret, inBlockX_ret]
    refine ret_go _ rfl ?_
    rw [begB_short hlen]; rfl
  have b1 : decide ((r.ds.length : Int) < (p.length : Int)) = false := decide_eq_false (by omega)
  first | refine Gx.a (by kernel_rfl) fun K hK => ?_ | refine Gx.b (by kernel_rfl) fun K hK => ?_ | refine Gx.c (by kernel_rfl) fun K hK => ?_
  simp only [XU, XA, XB, gateX, Nat.reduceAdd, Nat.reduceLeDiff, Nat.reduceSub, Nat.reduceMul, ↓reduceIte, Int.reduceToNat, Int.reduceLE, beq_self_eq_true, b1]
  refine hK _ ?_
  first | refine Gx.f rfl ?_ | refine XWP.seq (Gx.f rfl ?_)
  refine XWP.skip ?_
  refine XWP.cutD 1 (fun s => StIs (fun Z => [Z 0, Z 1, .p 0 0, Z 3,Z 4,Z 5,Z 6,Z 7,Z 8,Z 9,Z 10,Z 11,Z 12,Z 13,Z 14,Z 15,Z 16,Z 17,Z 18,Z 19,Z 20,Z 21,Z 22,Z 23,Z 24,Z 25,Z 26,Z 27]) [[.int .i64 r.kind, c1, c2, c3, c4, .slice A r.ds.length c, m, c7, c8]] (fun _ => none) V s ∧ begB p r = true) ?_ ?_
  · first | refine Gx.a (by kernel_rfl) fun K hK => ?_ | refine Gx.b (by kernel_rfl) fun K hK => ?_ | refine Gx.c (by kernel_rfl) fun K hK => ?_
    simp only [XU, XA, XB, gateX, Nat.reduceAdd, Nat.reduceLeDiff, Nat.reduceSub, Nat.reduceMul, ↓reduceIte, Int.reduceToNat, Int.reduceLE, beq_self_eq_true]
    refine hK _ ?_
    clear hK
    first | refine XWP.block ?_ | refine XWP.seq (XWP.block ?_)
    refine XWP.loopD 1 (fun q s => ∃ (k : Nat), StIs (fun Z => [Z 0, Z 1, .p 0 0, Z 3,Z 4,Z 5,Z 6,Z 7,Z 8,Z 9,Z 10,Z 11,Z 12, .v (.slice A2 p.length c2'), .v (.int .i64 (p.length : Int)), .v (.int .i64 (k : Int)), Z 16,Z 17,Z 18,Z 19,Z 20,Z 21,Z 22,Z 23,Z 24,Z 25,Z 26,Z 27]) [[.int .i64 r.kind, c1, c2, c3, c4, .slice A r.ds.length c, m, c7, c8]] (fun _ => none) V s ∧ q + k = p.length ∧ ∀ i, i < k → r.ds[i]? = p[i]?) p.length ⟨0, StIs.of (by exact rfl), by omega, fun i hi => by omega⟩ ?_
    rintro q s ⟨k, hs, hq, heq⟩
    obtain ⟨z, rfl⟩ := hs.out
    try dsimp only
    clear hs
    by_cases hk : k < p.length
    rotate_left
    · obtain rfl : k = p.length := by omega
      have b2 : decide (((p.length : Nat) : Int) < ((p.length : Nat) : Int)) = false := decide_eq_false (by omega)
      first | refine Gx.a (by kernel_rfl) fun K hK => ?_ | refine Gx.b (by kernel_rfl) fun K hK => ?_ | refine Gx.c (by kernel_rfl) fun K hK => ?_
      simp only [XU, XA, XB, gateX, Nat.reduceAdd, Nat.reduceLeDiff, Nat.reduceSub, Nat.reduceMul, ↓reduceIte, Int.reduceToNat, Int.reduceLE, beq_self_eq_true, b2]
      refine hK _ ?_
      first | refine Gx.f rfl ?_ | refine XWP.seq (Gx.f rfl ?_)
      refine XWP.exit ?_
      exact fun f => ⟨StIs.of (by exact rfl), begB_all (by omega) heq⟩
    have b2 : decide ((k : Int) < (p.length : Int)) = true := decide_eq_true (by omega)
    first | refine Gx.a (by kernel_rfl) fun K hK => ?_ | refine Gx.b (by kernel_rfl) fun K hK => ?_ | refine Gx.c (by kernel_rfl) fun K hK => ?_
    simp only [XU, XA, XB, gateX, Nat.reduceAdd, Nat.reduceLeDiff, Nat.reduceSub, Nat.reduceMul, ↓reduceIte, Int.reduceToNat, Int.reduceLE, beq_self_eq_true, b2]
    refine hK _ ?_
    first | refine Gx.t rfl ?_ | refine XWP.seq (Gx.t rfl ?_)
    refine XWP.skip ?_
    obtain ⟨b, o, rfl⟩ := SlK.addr hds (by omega)
    obtain ⟨bp, op, rfl⟩ := SlK.addr hp (by omega)
    obtain ⟨dc, ⟨d1, d2, d3⟩, hcell⟩ := SlK.get hds k (by omega)
    obtain ⟨ec, ⟨e1, e2, e3⟩, hcell2⟩ := SlK.get hp k hk
    have hkd : r.ds[k]? = some r.ds[k] := List.getElem?_eq_getElem (by omega)
    have hkp : p[k]? = some p[k] := List.getElem?_eq_getElem hk
    have d3 : dc = r.ds[k].cells := d3
    have e3 : ec = p[k].cells := e3
    generalize r.ds[k] = d at *
    generalize p[k] = e at *
    subst d3
    subst e3
    refine XWP.cutD 1 (fun s => StIs (fun Z => [Z 0, Z 1, .p 0 0, Z 3,Z 4,Z 5,Z 6,Z 7,Z 8,Z 9,Z 10,Z 11,Z 12, .v (.slice (some ⟨bp, op, none⟩) p.length c2'), .v (.int .i64 (p.length : Int)), .v (.int .i64 (k : Int)), Z 16,Z 17,Z 18,Z 19,Z 20,Z 21,Z 22,Z 23,Z 24,Z 25,Z 26,Z 27]) [[.int .i64 r.kind, c1, c2, c3, c4, .slice (some ⟨b, o, none⟩) r.ds.length c, m, c7, c8]] (fun _ => none) V s ∧ d = e) ?_ ?_
    rotate_left
    · rintro s ⟨hs, hde⟩
      obtain ⟨z, rfl⟩ := hs.out
      try dsimp only
      clear hs
      first | refine Gx.a (by kernel_rfl) fun K hK => ?_ | refine Gx.b (by kernel_rfl) fun K hK => ?_ | refine Gx.c (by kernel_rfl) fun K hK => ?_
      simp only [XU, XA, XB, gateX, Nat.reduceAdd, Nat.reduceLeDiff, Nat.reduceSub, Nat.reduceMul, ↓reduceIte, Int.reduceToNat, Int.reduceLE, beq_self_eq_true, i64_succ k (by omega)]
      exact hK _ ⟨q - 1, by omega, fun f => ⟨k + 1, StIs.of (by exact rfl), by omega, fun i hi => by
        by_cases ei : i = k
        · subst ei; rw [hkd, hkp, hde]
        · exact heq i (by omega)⟩⟩
    clear hK
    first | refine XWP.block ?_ | refine XWP.seq (XWP.block ?_)
    first | refine Gx.a (by kernel_rfl) fun K hK => ?_ | refine Gx.b (by kernel_rfl) fun K hK => ?_ | refine Gx.c (by kernel_rfl) fun K hK => ?_
    simp only [XU, XA, XB, gateX, Nat.reduceAdd, Nat.reduceLeDiff, Nat.reduceSub, Nat.reduceMul, ↓reduceIte, Int.reduceToNat, Int.reduceLE, beq_self_eq_true]
    refine ⟨by omega, by omega, ld_mem (loadsK shapeT_56 e1 (hcell2 _)) ?_⟩
    simp only [XU, XA, XB, gateX, Nat.reduceAdd, Nat.reduceLeDiff, Nat.reduceSub, Nat.reduceMul, ↓reduceIte, Int.reduceToNat, Int.reduceLE, beq_self_eq_true]
    refine st_whole (cs := [.int .i64 e.site, .int .i64 e.index, .int .i64 e.odds, .int .i64 e.whole]) shapeT_56 rfl rfl rfl rfl ?_
    simp only [XU, XA, XB, gateX, Nat.reduceAdd, Nat.reduceLeDiff, Nat.reduceSub, Nat.reduceMul, ↓reduceIte, Int.reduceToNat, Int.reduceLE, beq_self_eq_true]
    refine hK _ ?_
    (first | refine XWP.drw [0, 1, 2, 3, 4, 5, 6] (by kernel_rfl) (by kernel_rfl) (by kernel_rfl) fun K hK => ?_ | refine XWP.seq (XWP.drw [0, 1, 2, 3, 4, 5, 6] (by kernel_rfl) (by kernel_rfl) (by kernel_rfl) fun K hK => ?_) | refine XWP.drw1 [0, 1, 2, 3, 4, 5, 6] (by kernel_rfl) (by kernel_rfl) (by kernel_rfl) fun K hK => ?_) <;> dsimp only [pickOps, List.getElem?_cons_zero, List.getElem?_cons_succ]
    simp only [XU, XA, XB, gateX, Nat.reduceAdd, Nat.reduceLeDiff, Nat.reduceSub, Nat.reduceMul, ↓reduceIte, Int.reduceToNat, Int.reduceLE, beq_self_eq_true]
    refine ⟨by omega, by omega, ld_mem (loadsK shapeT_56 d1 (hcell _)) ?_⟩
    simp only [XU, XA, XB, gateX, Nat.reduceAdd, Nat.reduceLeDiff, Nat.reduceSub, Nat.reduceMul, ↓reduceIte, Int.reduceToNat, Int.reduceLE, beq_self_eq_true]
    refine bin_own rfl (drawn_ne d e) ?_
    by_cases hde : d = e
    · have b3 : decide (d ≠ e) = false := decide_eq_false (fun h => h hde)
      simp only [XU, XA, XB, gateX, Nat.reduceAdd, Nat.reduceLeDiff, Nat.reduceSub, Nat.reduceMul, ↓reduceIte, Int.reduceToNat, Int.reduceLE, beq_self_eq_true, b3]
      refine hK _ ?_
      first | refine Gx.f rfl ?_ | refine XWP.seq (Gx.f rfl ?_)
      refine XWP.skip ?_
      exact fun f => ⟨StIs.of (by exact rfl), hde⟩
    · have b3 : decide (d ≠ e) = true := decide_eq_true hde
      simp only [XU, XA, XB, gateX, Nat.reduceAdd, Nat.reduceLeDiff, Nat.reduceSub, Nat.reduceMul, ↓reduceIte, Int.reduceToNat, Int.reduceLE, beq_self_eq_true, b3]
      refine hK _ ?_
      first | refine Gx.t rfl ?_ | refine XWP.seq (Gx.t rfl ?_)
      first | refine Gx.a (by kernel_rfl) fun K hK => ?_ | refine Gx.b (by kernel_rfl) fun K hK => ?_ | refine Gx.c (by kernel_rfl) fun K hK => ?_
      simp only [XU, XA, XB, gateX, Nat.reduceAdd, Nat.reduceLeDiff, Nat.reduceSub, Nat.reduceMul, ↓reduceIte, Int.reduceToNat, Int.reduceLE, beq_self_eq_true]
      refine hK _ (XWP.ret ?_)
      try simp only [thenX_ret, inBlockX_ret]
      refine ret_go _ rfl ?_
      rw [begB_not hk (by rw [hkd, hkp]; exact fun h => hde (Option.some.inj h))]; rfl
  rintro s ⟨hs, hb⟩
  obtain ⟨z, rfl⟩ := hs.out
  try dsimp only
  first | refine Gx.a (by kernel_rfl) fun K hK => ?_ | refine Gx.b (by kernel_rfl) fun K hK => ?_ | refine Gx.c (by kernel_rfl) fun K hK => ?_
  simp only [XU, XA, XB, gateX, Nat.reduceAdd, Nat.reduceLeDiff, Nat.reduceSub, Nat.reduceMul, ↓reduceIte, Int.reduceToNat, Int.reduceLE, beq_self_eq_true]
  refine hK _ (XWP.ret ?_)
  try simp only [thenX_ret, inBlockX_ret]
  refine ret_go _ rfl ?_
  rw [hb]; rfl
end Go.Proofs.Ytobjjdnfgamgcaa
end
section
namespace Go.Proofs.Ytobjjdnfgamgcaa
open Go Go.RowKit
set_option linter.unusedSimpArgs false
set_option linter.unusedVariables false
attribute [local irreducible] XWP Spec SpecO XPub XCall seqX clX apX stX ldX iaX slX
theorem metI_none {W : List Rn} {n k : Nat} (h : metI W n k = none) : ∀ m, k ≤ m → metI W n m = none := by
  intro m hm
  induction m with
  | zero => have : k = 0 := by omega
            subst this; exact h
  | succ m ih =>
    by_cases e : k = m + 1
    · subst e; exact h
    · unfold metI; rw [ih (by omega)]; rfl
theorem metI_succ {W : List Rn} {n k : Nat} {st : List Dr × Int} {r : Rn} (h : metI W n k = some st) (hr : W[k]? = some r) : metI W n (k + 1) = metStep n st r := by unfold metI; rw [h, hr]; rfl
theorem partsW_none {W : List Rn} {n k : Nat} (hk : k < W.length) (h1 : ¬ (W.length = 1 ∧ (W[0]?).map (·.ds.length) = some n)) (h : metI W n (k + 1) = none) : partsW W n = false := by
  unfold partsW
  rw [if_neg h1, metI_none h W.length (by omega)]
def metMem (H : Heap) (V : View) (mv : Value) (met : List Dr) : Prop := ∃ cells, Own H 56 4 mv met.length cells ∧ RowK 4 drE V cells met
theorem metMem.nil (H : Heap) (V : View) : metMem H V (.slice none 0 0) [] := ⟨[], own_nil, RowK.nil V⟩
theorem metMem.form {H : Heap} {V : View} {mv : Value} {met : List Dr} (h : metMem H V mv met) : ∃ A c, mv = .slice A met.length c := by
  obtain ⟨cells, ho, _⟩ := h
  rcases own_parts ho with ⟨rfl, h0, _⟩ | ⟨g, cap, rfl, _⟩
  · exact ⟨none, 0, by rw [h0]⟩
  · exact ⟨_, cap, rfl⟩
theorem metMem.get {H : Heap} {V : View} {b o n c : Nat} {met : List Dr} (h : metMem H V (.slice (some ⟨b, o, none⟩) n c) met) {j : Nat} {x : Dr} (hx : met[j]? = some x) : ∀ V' i u, x.cells[i]? = some u → CellAt H V' b (o + j * 4 + i) u := by
  obtain ⟨cells, ho, hr⟩ := h
  rcases own_parts ho with ⟨e, _⟩ | ⟨g, cap, e, hg, _⟩
  · cases e
  · cases e
    intro V' i u hu
    obtain ⟨cs, ⟨_, _, e3⟩, hc⟩ := hr.2 j x hx
    have e3 : cs = x.cells := e3
    subst e3
    exact .inl ⟨_, hg, by rw [Nat.zero_add]; exact hc i u hu⟩
theorem metMem.addr {H : Heap} {V : View} {A : Option Addr} {n c : Nat} {met : List Dr} (h : metMem H V (.slice A n c) met) (h0 : 0 < met.length) : ∃ b o, A = some ⟨b, o, none⟩ := by
  obtain ⟨cells, ho, _⟩ := h
  rcases own_parts ho with ⟨e, h1, _⟩ | ⟨g, cap, e, _⟩
  · omega
  · cases e; exact ⟨g, 0, rfl⟩
set_option maxHeartbeats 8000000 in
set_option maxRecDepth 100000 in
theorem rparts_c (V : View) (v u : Value) (L : List Rn) (p : List Dr) (h : SlK 9 rnE V v L) (hp : SlK 4 drE V u p) (hl : L.length ≤ 100) (hds : ∀ r ∈ L, r.ds.length ≤ 1000) (hg : ∀ r ∈ L, ∀ d ∈ r.ds, d.good) (h0 : 0 < (withL L p).length) : Spec Try.prog 22 [v, u] V fun v' V' => v' = .bool (partsB L p) := by
  have hL0 : 0 < L.length := Nat.lt_of_lt_of_le h0 (List.length_filter_le _ _)
  obtain ⟨A, cL, rfl, _, _⟩ := h.form
  obtain ⟨bL, oL, rfl⟩ := SlK.addr h hL0
  obtain ⟨A2, c2, rfl, _, _⟩ := hp.form
  refine (Spec.enter Try.func22 rfl fun Γ => ?_)
  simp only [Try.ntmps22, List.map_cons, List.map_nil, List.length_cons, List.length_nil, Nat.reduceAdd, Nat.reduceSub, List.replicate_succ, List.replicate_zero, List.cons_append, List.nil_append]
  first | refine Gx.a (by kernel_rfl) fun K hK => ?_ | refine Gx.b (by kernel_rfl) fun K hK => ?_ | refine Gx.c (by kernel_rfl) fun K hK => ?_
  simp only [XU, XA, XB, gateX, Nat.reduceAdd, Nat.reduceLeDiff, Nat.reduceSub, Nat.reduceMul, ↓reduceIte, Int.reduceToNat, Int.reduceLE, beq_self_eq_true]
  refine hK _ ?_
  first | refine Gx.a (by kernel_rfl) fun K hK => ?_ | refine Gx.b (by kernel_rfl) fun K hK => ?_ | refine Gx.c (by kernel_rfl) fun K hK => ?_
  simp only [XU, XA, XB, gateX, Nat.reduceAdd, Nat.reduceLeDiff, Nat.reduceSub, Nat.reduceMul, ↓reduceIte, Int.reduceToNat, Int.reduceLE, beq_self_eq_true]
  refine hK _ ?_
  refine XWP.cutD 0 (fun s => ∃ (V2 : View) (H2 : Heap) (sv : Value) (cells : List Value), StIs (fun Z => [.v (.slice (some ⟨bL, oL, none⟩) L.length cL), .v (.slice A2 p.length c2), Z 2,Z 3,Z 4, .v sv, Z 6,Z 7,Z 8,Z 9,Z 10,Z 11,Z 12,Z 13,Z 14,Z 15,Z 16,Z 17,Z 18,Z 19,Z 20,Z 21,Z 22,Z 23,Z 24,Z 25,Z 26,Z 27,Z 28,Z 29,Z 30,Z 31,Z 32,Z 33,Z 34,Z 35,Z 36,Z 37,Z 38,Z 39,Z 40,Z 41,Z 42,Z 43,Z 44,Z 45,Z 46,Z 47,Z 48,Z 49,Z 50,Z 51,Z 52,Z 53,Z 54,Z 55,Z 56,Z 57,Z 58,Z 59,Z 60,Z 61,Z 62,Z 63,Z 64,Z 65,Z 66,Z 67,Z 68,Z 69,Z 70,Z 71,Z 72,Z 73,Z 74,Z 75,Z 76,Z 77,Z 78,Z 79,Z 80,Z 81,Z 82,Z 83,Z 84,Z 85,Z 86,Z 87,Z 88,Z 89,Z 90,Z 91,Z 92,Z 93,Z 94,Z 95,Z 96,Z 97,Z 98,Z 99,Z 100,Z 101,Z 102,Z 103,Z 104,Z 105,Z 106,Z 107,Z 108,Z 109,Z 110,Z 111,Z 112,Z 113,Z 114,Z 115,Z 116,Z 117,Z 118,Z 119,Z 120,Z 121,Z 122]) [] H2 V2 s ∧ V.le V2 ∧ Own H2 48 9 sv (withL L p).length cells ∧ RowK 9 rnE V2 cells (withL L p)) ?_ ?_
  · first | refine Gx.a (by kernel_rfl) fun K hK => ?_ | refine Gx.b (by kernel_rfl) fun K hK => ?_ | refine Gx.c (by kernel_rfl) fun K hK => ?_
    simp only [XU, XA, XB, gateX, Nat.reduceAdd, Nat.reduceLeDiff, Nat.reduceSub, Nat.reduceMul, ↓reduceIte, Int.reduceToNat, Int.reduceLE, beq_self_eq_true]
    refine hK _ ?_
    clear hK
    first | refine XWP.block ?_ | refine XWP.seq (XWP.block ?_)
    refine XWP.loopD 0 (fun q s => ∃ (k : Nat) (V2 : View) (H2 : Heap) (sv : Value) (cells : List Value), StIs (fun Z => [.v (.slice (some ⟨bL, oL, none⟩) L.length cL), .v (.slice A2 p.length c2), Z 2,Z 3,Z 4, .v sv, Z 6,Z 7,Z 8,Z 9,Z 10,Z 11,Z 12,Z 13,Z 14,Z 15,Z 16, .v (.slice (some ⟨bL, oL, none⟩) L.length cL), .v (.int .i64 (L.length : Int)), .v (.int .i64 (k : Int)), Z 20,Z 21,Z 22,Z 23,Z 24,Z 25,Z 26,Z 27,Z 28,Z 29,Z 30,Z 31,Z 32,Z 33,Z 34,Z 35,Z 36,Z 37,Z 38,Z 39,Z 40,Z 41,Z 42,Z 43,Z 44,Z 45,Z 46,Z 47,Z 48,Z 49,Z 50,Z 51,Z 52,Z 53,Z 54,Z 55,Z 56,Z 57,Z 58,Z 59,Z 60,Z 61,Z 62,Z 63,Z 64,Z 65,Z 66,Z 67,Z 68,Z 69,Z 70,Z 71,Z 72,Z 73,Z 74,Z 75,Z 76,Z 77,Z 78,Z 79,Z 80,Z 81,Z 82,Z 83,Z 84,Z 85,Z 86,Z 87,Z 88,Z 89,Z 90,Z 91,Z 92,Z 93,Z 94,Z 95,Z 96,Z 97,Z 98,Z 99,Z 100,Z 101,Z 102,Z 103,Z 104,Z 105,Z 106,Z 107,Z 108,Z 109,Z 110,Z 111,Z 112,Z 113,Z 114,Z 115,Z 116,Z 117,Z 118,Z 119,Z 120,Z 121,Z 122]) [] H2 V2 s ∧ q + k = L.length ∧ V.le V2 ∧ Own H2 48 9 sv (withL (L.take k) p).length cells ∧ RowK 9 rnE V2 cells (withL (L.take k) p)) L.length ⟨0, V, _, _, [], StIs.of (by exact rfl), by omega, View.le_refl _, own_nil, RowK.nil V⟩ ?_
    rintro q s ⟨k, V2, H2, sv, cells, hs, hq, hV2, ho, hr⟩
    obtain ⟨z, rfl⟩ := hs.out
    try dsimp only
    clear hs
    by_cases hk : k < L.length
    rotate_left
    · obtain rfl : k = L.length := by omega
      have bt1 : decide (((L.length : Nat) : Int) < ((L.length : Nat) : Int)) = false := decide_eq_false (by omega)
      first | refine Gx.a (by kernel_rfl) fun K hK => ?_ | refine Gx.b (by kernel_rfl) fun K hK => ?_ | refine Gx.c (by kernel_rfl) fun K hK => ?_
      simp only [XU, XA, XB, gateX, Nat.reduceAdd, Nat.reduceLeDiff, Nat.reduceSub, Nat.reduceMul, ↓reduceIte, Int.reduceToNat, Int.reduceLE, beq_self_eq_true, bt1]
      refine hK _ ?_
      first | refine Gx.f rfl ?_ | refine XWP.seq (Gx.f rfl ?_)
      refine XWP.exit ?_
      rw [List.take_length] at ho hr
      exact fun f => ⟨V2, H2, sv, cells, StIs.of (by exact rfl), hV2, ho, hr⟩
    have bt1 : decide ((k : Int) < (L.length : Int)) = true := decide_eq_true (by omega)
    first | refine Gx.a (by kernel_rfl) fun K hK => ?_ | refine Gx.b (by kernel_rfl) fun K hK => ?_ | refine Gx.c (by kernel_rfl) fun K hK => ?_
    simp only [XU, XA, XB, gateX, Nat.reduceAdd, Nat.reduceLeDiff, Nat.reduceSub, Nat.reduceMul, ↓reduceIte, Int.reduceToNat, Int.reduceLE, beq_self_eq_true, bt1]
    refine hK _ ?_
    first | refine Gx.t rfl ?_ | refine XWP.seq (Gx.t rfl ?_)
    refine XWP.skip ?_
    obtain ⟨r, hrk⟩ : ∃ r, L[k]? = some r := ⟨_, List.getElem?_eq_getElem hk⟩
    have er : L[k] = r := (List.getElem?_eq_some_iff.1 hrk).2
    have hrL : r ∈ L := List.mem_of_getElem? hrk
    have h2 := h.mono rnE_ok hV2
    obtain ⟨cs, hcs, hcell⟩ := SlK.get h2 k hk
    rw [er] at hcs
    have hcsE := hcs
    obtain ⟨v0, v1, v2, v3, v4, dv, v6, v7, v8, rfl, hdsr⟩ := rn_draws hcs
    obtain ⟨A1, q1, rfl, _, _⟩ := hdsr.form
    have hWk : (withL (L.take k) p).length ≤ 100 := by
      have := List.length_filter_le (begB p) (L.take k)
      rw [List.length_take] at this
      unfold withL
      omega
    have etk : withL (L.take (k + 1)) p = withL (L.take k) p ++ if begB p r = true then [r] else [] := by
      unfold withL
      rw [List.take_add_one, hrk, Option.toList_some, List.filter_append]
      cases hb : begB p r <;> simp [hb]
    refine XWP.cutD 0 (fun s => ∃ (V3 : View) (H3 : Heap) (sv : Value) (cells : List Value), StIs (fun Z => [.v (.slice (some ⟨bL, oL, none⟩) L.length cL), .v (.slice A2 p.length c2), Z 2,Z 3,Z 4, .v sv, Z 6,Z 7,Z 8,Z 9,Z 10,Z 11,Z 12,Z 13,Z 14,Z 15,Z 16, .v (.slice (some ⟨bL, oL, none⟩) L.length cL), .v (.int .i64 (L.length : Int)), .v (.int .i64 (k : Int)), Z 20,Z 21,Z 22,Z 23,Z 24,Z 25,Z 26,Z 27,Z 28,Z 29,Z 30,Z 31,Z 32,Z 33,Z 34,Z 35,Z 36,Z 37,Z 38,Z 39,Z 40,Z 41,Z 42,Z 43,Z 44,Z 45,Z 46,Z 47,Z 48,Z 49,Z 50,Z 51,Z 52,Z 53,Z 54,Z 55,Z 56,Z 57,Z 58,Z 59,Z 60,Z 61,Z 62,Z 63,Z 64,Z 65,Z 66,Z 67,Z 68,Z 69,Z 70,Z 71,Z 72,Z 73,Z 74,Z 75,Z 76,Z 77,Z 78,Z 79,Z 80,Z 81,Z 82,Z 83,Z 84,Z 85,Z 86,Z 87,Z 88,Z 89,Z 90,Z 91,Z 92,Z 93,Z 94,Z 95,Z 96,Z 97,Z 98,Z 99,Z 100,Z 101,Z 102,Z 103,Z 104,Z 105,Z 106,Z 107,Z 108,Z 109,Z 110,Z 111,Z 112,Z 113,Z 114,Z 115,Z 116,Z 117,Z 118,Z 119,Z 120,Z 121,Z 122]) [] H3 V3 s ∧ V.le V3 ∧ Own H3 48 9 sv (withL (L.take (k + 1)) p).length cells ∧ RowK 9 rnE V3 cells (withL (L.take (k + 1)) p)) ?_ ?_
    rotate_left
    · rintro s ⟨V3, H3, sv, cells, hs, hV3, ho, hr⟩
      obtain ⟨z, rfl⟩ := hs.out
      try dsimp only
      clear hs
      first | refine Gx.a (by kernel_rfl) fun K hK => ?_ | refine Gx.b (by kernel_rfl) fun K hK => ?_ | refine Gx.c (by kernel_rfl) fun K hK => ?_
      simp only [XU, XA, XB, gateX, Nat.reduceAdd, Nat.reduceLeDiff, Nat.reduceSub, Nat.reduceMul, ↓reduceIte, Int.reduceToNat, Int.reduceLE, beq_self_eq_true, i64_succ k (by omega)]
      exact hK _ ⟨q - 1, by omega, fun f => ⟨k + 1, V3, H3, sv, cells, StIs.of (by exact rfl), by omega, hV3, ho, hr⟩⟩
    clear hK
    first | refine XWP.block ?_ | refine XWP.seq (XWP.block ?_)
    first | refine Gx.a (by kernel_rfl) fun K hK => ?_ | refine Gx.b (by kernel_rfl) fun K hK => ?_ | refine Gx.c (by kernel_rfl) fun K hK => ?_
    simp only [XU, XA, XB, gateX, Nat.reduceAdd, Nat.reduceLeDiff, Nat.reduceSub, Nat.reduceMul, ↓reduceIte, Int.reduceToNat, Int.reduceLE, beq_self_eq_true]
    refine ⟨by omega, by omega, ld_mem (loadsK shapeT_48 rfl fun j u hj => hcell _ j u hj) ?_⟩
    simp only [XU, XA, XB, gateX, Nat.reduceAdd, Nat.reduceLeDiff, Nat.reduceSub, Nat.reduceMul, ↓reduceIte, Int.reduceToNat, Int.reduceLE, beq_self_eq_true]
    refine st_whole (cs := [v0, v1, v2, v3, v4, .slice A1 r.ds.length q1, v6, v7, v8]) shapeT_48 rfl rfl rfl hcsE.2.1 ?_
    simp only [XU, XA, XB, gateX, Nat.reduceAdd, Nat.reduceLeDiff, Nat.reduceSub, Nat.reduceMul, ↓reduceIte, Int.reduceToNat, Int.reduceLE, beq_self_eq_true]
    refine hK _ ?_
    first | refine Gx.a (by kernel_rfl) fun K hK => ?_ | refine Gx.b (by kernel_rfl) fun K hK => ?_ | refine Gx.c (by kernel_rfl) fun K hK => ?_
    simp only [XU, XA, XB, gateX, Nat.reduceAdd, Nat.reduceLeDiff, Nat.reduceSub, Nat.reduceMul, ↓reduceIte, Int.reduceToNat, Int.reduceLE, beq_self_eq_true]
    refine call_go (by kernel_rfl) rfl (rbegins_c _ _ r _ p hcsE (hp.mono drE_ok hV2) (hds r hrL)) fun v3 V3 hV3 h3 => ?_
    subst h3
    cases hb : begB p r
    · simp only [XU, XA, XB, gateX, Nat.reduceAdd, Nat.reduceLeDiff, Nat.reduceSub, Nat.reduceMul, ↓reduceIte, Int.reduceToNat, Int.reduceLE, beq_self_eq_true]
      refine hK _ ?_
      first | refine Gx.f rfl ?_ | refine XWP.seq (Gx.f rfl ?_)
      refine XWP.skip ?_
      rw [etk, hb]
      simp only [Bool.false_eq_true, if_false, List.append_nil]
      exact fun f => ⟨V3, H2, sv, cells, StIs.of (by exact rfl), View.le_trans hV2 hV3, ho, hr.mono rnE_ok hV3⟩
    · simp only [XU, XA, XB, gateX, Nat.reduceAdd, Nat.reduceLeDiff, Nat.reduceSub, Nat.reduceMul, ↓reduceIte, Int.reduceToNat, Int.reduceLE, beq_self_eq_true]
      refine hK _ ?_
      first | refine Gx.t rfl ?_ | refine XWP.seq (Gx.t rfl ?_)
      first | refine Gx.a (by kernel_rfl) fun K hK => ?_ | refine Gx.b (by kernel_rfl) fun K hK => ?_ | refine Gx.c (by kernel_rfl) fun K hK => ?_
      simp only [XU, XA, XB, gateX, Nat.reduceAdd, Nat.reduceLeDiff, Nat.reduceSub, Nat.reduceMul, ↓reduceIte, Int.reduceToNat, Int.reduceLE, beq_self_eq_true]
      refine bs_go (by kernel_rfl) #[(0, .agg ([v0, v1, v2, v3, v4, .slice A1 r.ds.length q1, v6, v7, v8] : List Value).toArray)] (by simp [ev_tmp, SV.val]) (bs_agg elemT_22 zeroT_48 rfl (by omega) (by omega) rfl) fun bq hbq1 hbq2 => ?_
      simp only [XU, XA, XB, gateX, Nat.reduceAdd, Nat.reduceLeDiff, Nat.reduceSub, Nat.reduceMul, ↓reduceIte, Int.reduceToNat, Int.reduceLE, beq_self_eq_true]
      refine ap_go elemT_22 (by kernel_rfl) zeroT_48 rfl (by omega) (own_upd ho hbq1) (srcK (upd_at _ _ _) hcsE.2.1) (by omega) (by omega) fun v' H' hres => ?_
      simp only [XU, XA, XB, gateX, Nat.reduceAdd, Nat.reduceLeDiff, Nat.reduceSub, Nat.reduceMul, ↓reduceIte, Int.reduceToNat, Int.reduceLE, beq_self_eq_true]
      rw [hb, if_pos rfl] at etk
      refine hK _ fun f => ⟨V3, H', v', _, StIs.of (by exact rfl), View.le_trans hV2 hV3, ?_, by rw [etk]; exact (hr.mono rnE_ok hV3).snoc (hcsE.mono rnE_ok hV3)⟩
      rw [etk, List.length_append, List.length_singleton]
      exact hres.1
  rintro s ⟨V2, H2, sv, cells, hs, hV2, ho, hr⟩
  obtain ⟨z, rfl⟩ := hs.out
  try dsimp only
  clear hs
  have hWL : ∀ r ∈ withL L p, r ∈ L ∧ p.length ≤ r.ds.length := fun r hr => by
    unfold withL at hr
    rw [List.mem_filter] at hr
    exact ⟨hr.1, (begB_iff.1 hr.2).1⟩
  have hWl : (withL L p).length ≤ 100 := by
    have := List.length_filter_le (begB p) L
    unfold withL
    omega
  have ePB : partsB L p = partsW (withL L p) p.length := rfl
  rw [ePB]
  generalize withL L p = W at *
  refine XWP.pubK rnE_ok (by omega) ho hr fun H3 V3 hV3 hW _ => ?_
  have hV03 := View.le_trans hV2 hV3
  clear ho hr
  obtain ⟨AW, cW, rfl, _, _⟩ := hW.form
  obtain ⟨bW, oW, rfl⟩ := SlK.addr hW h0
  obtain ⟨r0, hr0⟩ : ∃ r, W[0]? = some r := ⟨_, List.getElem?_eq_getElem h0⟩
  have e0 : W[0] = r0 := (List.getElem?_eq_some_iff.1 hr0).2
  obtain ⟨cs0, hcs0, hcell0⟩ := SlK.get hW 0 h0
  rw [e0] at hcs0
  obtain ⟨u0, u1, u2, u3, u4, dv0, u6, u7, u8, rfl, hds0⟩ := rn_draws hcs0
  obtain ⟨A0, q0, rfl, _, _⟩ := hds0.form
  have hd0cell : ∀ H, CellAt H V3 bW (oW + 5) (.slice A0 r0.ds.length q0) := fun H => by
    have := hcell0 H 5 _ rfl
    rw [Nat.zero_mul, Nat.add_zero] at this
    exact this
  have y0 := fun H => loads1 (H := H) shapeT_46 (hd0cell H)
  first | refine Gx.a (by kernel_rfl) fun K hK => ?_ | refine Gx.b (by kernel_rfl) fun K hK => ?_ | refine Gx.c (by kernel_rfl) fun K hK => ?_
  simp only [XU, XA, XB, gateX, Nat.reduceAdd, Nat.reduceLeDiff, Nat.reduceSub, Nat.reduceMul, ↓reduceIte, Int.reduceToNat, Int.reduceLE, beq_self_eq_true]
  refine hK _ ?_
  refine XWP.cut (fun s => StIs (fun Z => [.v (.slice (some ⟨bL, oL, none⟩) L.length cL), .v (.slice A2 p.length c2), Z 2,Z 3,Z 4, .v (.slice (some ⟨bW, oW, none⟩) W.length cW), Z 6,Z 7, .v (.int .i64 (p.length : Int)), Z 9,Z 10,Z 11,Z 12,Z 13,Z 14,Z 15,Z 16,Z 17,Z 18,Z 19,Z 20,Z 21,Z 22,Z 23,Z 24,Z 25,Z 26,Z 27,Z 28,Z 29,Z 30,Z 31,Z 32,Z 33,Z 34,Z 35,Z 36,Z 37,Z 38,Z 39,Z 40,Z 41,Z 42,Z 43,Z 44,Z 45,Z 46,Z 47,Z 48,Z 49,Z 50,Z 51,Z 52,Z 53,Z 54,Z 55,Z 56,Z 57,Z 58,Z 59,Z 60,Z 61,Z 62,Z 63,Z 64,Z 65,Z 66,Z 67,Z 68,Z 69,Z 70,Z 71,Z 72,Z 73,Z 74,Z 75,Z 76,Z 77,Z 78,Z 79,Z 80,Z 81,Z 82,Z 83,Z 84,Z 85,Z 86,Z 87,Z 88,Z 89,Z 90,Z 91,Z 92,Z 93,Z 94,Z 95,Z 96,Z 97,Z 98,Z 99,Z 100,Z 101,Z 102,Z 103,Z 104,Z 105,Z 106,Z 107,Z 108,Z 109,Z 110,Z 111,Z 112,Z 113,Z 114,Z 115,Z 116,Z 117,Z 118,Z 119,Z 120,Z 121,Z 122]) [] H3 V3 s ∧ ¬ (W.length = 1 ∧ (W[0]?).map (·.ds.length) = some p.length)) ?_ ?_
  · by_cases h1 : W.length = 1
    · have b1 : decide ((W.length : Int) = 1) = true := decide_eq_true (by omega)
      by_cases h2 : r0.ds.length = p.length
      · have b2 : decide ((r0.ds.length : Int) = (p.length : Int)) = true := decide_eq_true (by omega)
        first | refine Gx.a (by kernel_rfl) fun K hK => ?_ | refine Gx.b (by kernel_rfl) fun K hK => ?_ | refine Gx.c (by kernel_rfl) fun K hK => ?_
        simp only [XU, XA, XB, gateX, Nat.reduceAdd, Nat.reduceLeDiff, Nat.reduceSub, Nat.reduceMul, ↓reduceIte, Int.reduceToNat, Int.reduceLE, beq_self_eq_true, b1]
        refine ⟨by omega, ld_mem (y0 _) ?_⟩
        simp only [XU, XA, XB, gateX, Nat.reduceAdd, Nat.reduceLeDiff, Nat.reduceSub, Nat.reduceMul, ↓reduceIte, Int.reduceToNat, Int.reduceLE, beq_self_eq_true, b2]
        refine hK _ ?_
        first | refine Gx.t rfl ?_ | refine XWP.seq (Gx.t rfl ?_)
        first | refine Gx.a (by kernel_rfl) fun K hK => ?_ | refine Gx.b (by kernel_rfl) fun K hK => ?_ | refine Gx.c (by kernel_rfl) fun K hK => ?_
        simp only [XU, XA, XB, gateX, Nat.reduceAdd, Nat.reduceLeDiff, Nat.reduceSub, Nat.reduceMul, ↓reduceIte, Int.reduceToNat, Int.reduceLE, beq_self_eq_true]
        refine hK _ (XWP.ret ?_)
        try simp only [thenX_ret, inBlockX_ret]
        refine ret_go _ rfl ?_
        unfold partsW
        rw [if_pos ⟨h1, by rw [hr0, ← h2]; rfl⟩]; rfl
      · have b2 : decide ((r0.ds.length : Int) = (p.length : Int)) = false := decide_eq_false (by omega)
        first | refine Gx.a (by kernel_rfl) fun K hK => ?_ | refine Gx.b (by kernel_rfl) fun K hK => ?_ | refine Gx.c (by kernel_rfl) fun K hK => ?_
        simp only [XU, XA, XB, gateX, Nat.reduceAdd, Nat.reduceLeDiff, Nat.reduceSub, Nat.reduceMul, ↓reduceIte, Int.reduceToNat, Int.reduceLE, beq_self_eq_true, b1]
        refine ⟨by omega, ld_mem (y0 _) ?_⟩
        simp only [XU, XA, XB, gateX, Nat.reduceAdd, Nat.reduceLeDiff, Nat.reduceSub, Nat.reduceMul, ↓reduceIte, Int.reduceToNat, Int.reduceLE, beq_self_eq_true, b2]
        refine hK _ ?_
        first | refine Gx.f rfl ?_ | refine XWP.seq (Gx.f rfl ?_)
        refine XWP.skip ?_
        exact ⟨StIs.of (by exact rfl), fun e => h2 (by have := e.2; rw [hr0] at this; simpa using this)⟩
    · have b1 : decide ((W.length : Int) = 1) = false := decide_eq_false (by omega)
      first | refine Gx.a (by kernel_rfl) fun K hK => ?_ | refine Gx.b (by kernel_rfl) fun K hK => ?_ | refine Gx.c (by kernel_rfl) fun K hK => ?_
      simp only [XU, XA, XB, gateX, Nat.reduceAdd, Nat.reduceLeDiff, Nat.reduceSub, Nat.reduceMul, ↓reduceIte, Int.reduceToNat, Int.reduceLE, beq_self_eq_true, b1]
      refine hK _ ?_
      first | refine Gx.f rfl ?_ | refine XWP.seq (Gx.f rfl ?_)
      refine XWP.skip ?_
      exact ⟨StIs.of (by exact rfl), fun e => h1 e.1⟩
  rintro s ⟨hs, hn1⟩
  obtain ⟨z, rfl⟩ := hs.out
  try dsimp only
  clear hs
  first | refine Gx.a (by kernel_rfl) fun K hK => ?_ | refine Gx.b (by kernel_rfl) fun K hK => ?_ | refine Gx.c (by kernel_rfl) fun K hK => ?_
  simp only [XU, XA, XB, gateX, Nat.reduceAdd, Nat.reduceLeDiff, Nat.reduceSub, Nat.reduceMul, ↓reduceIte, Int.reduceToNat, Int.reduceLE, beq_self_eq_true]
  refine hK _ ?_
  first | refine Gx.a (by kernel_rfl) fun K hK => ?_ | refine Gx.b (by kernel_rfl) fun K hK => ?_ | refine Gx.c (by kernel_rfl) fun K hK => ?_
  simp only [XU, XA, XB, gateX, Nat.reduceAdd, Nat.reduceLeDiff, Nat.reduceSub, Nat.reduceMul, ↓reduceIte, Int.reduceToNat, Int.reduceLE, beq_self_eq_true]
  refine hK _ ?_
  refine XWP.cutD 0 (fun s => ∃ (met : List Dr) (odds : Int) (H4 : Heap), StIs (fun Z => [.v (.slice (some ⟨bL, oL, none⟩) L.length cL), .v (.slice A2 p.length c2), Z 2,Z 3,Z 4, .v (.slice (some ⟨bW, oW, none⟩) W.length cW), Z 6,Z 7, .v (.int .i64 (p.length : Int)), Z 9, .v (.int .i64 odds), Z 11,Z 12,Z 13,Z 14,Z 15,Z 16,Z 17,Z 18,Z 19,Z 20,Z 21,Z 22,Z 23,Z 24,Z 25,Z 26,Z 27,Z 28,Z 29,Z 30,Z 31,Z 32,Z 33,Z 34,Z 35,Z 36,Z 37,Z 38,Z 39,Z 40,Z 41,Z 42,Z 43,Z 44,Z 45,Z 46,Z 47,Z 48,Z 49,Z 50,Z 51,Z 52,Z 53,Z 54,Z 55,Z 56,Z 57,Z 58,Z 59,Z 60,Z 61,Z 62,Z 63,Z 64,Z 65,Z 66,Z 67,Z 68,Z 69,Z 70,Z 71,Z 72,Z 73,Z 74,Z 75,Z 76,Z 77,Z 78,Z 79,Z 80,Z 81,Z 82,Z 83,Z 84,Z 85,Z 86,Z 87,Z 88,Z 89,Z 90,Z 91,Z 92,Z 93,Z 94,Z 95,Z 96,Z 97,Z 98,Z 99,Z 100,Z 101,Z 102,Z 103,Z 104,Z 105,Z 106,Z 107,Z 108,Z 109,Z 110,Z 111,Z 112,Z 113,Z 114,Z 115,Z 116,Z 117,Z 118,Z 119,Z 120,Z 121,Z 122]) [] H4 V3 s ∧ metI W p.length W.length = some (met, odds)) ?_ ?_
  · first | refine Gx.a (by kernel_rfl) fun K hK => ?_ | refine Gx.b (by kernel_rfl) fun K hK => ?_ | refine Gx.c (by kernel_rfl) fun K hK => ?_
    simp only [XU, XA, XB, gateX, Nat.reduceAdd, Nat.reduceLeDiff, Nat.reduceSub, Nat.reduceMul, ↓reduceIte, Int.reduceToNat, Int.reduceLE, beq_self_eq_true]
    refine hK _ ?_
    clear hK
    first | refine XWP.block ?_ | refine XWP.seq (XWP.block ?_)
    refine XWP.loopD 0 (fun q s => ∃ (k : Nat) (met : List Dr) (odds : Int) (mv : Value) (H4 : Heap), StIs (fun Z => [.v (.slice (some ⟨bL, oL, none⟩) L.length cL), .v (.slice A2 p.length c2), Z 2,Z 3,Z 4, .v (.slice (some ⟨bW, oW, none⟩) W.length cW), Z 6,Z 7, .v (.int .i64 (p.length : Int)), .v mv, .v (.int .i64 odds), Z 11,Z 12,Z 13,Z 14,Z 15,Z 16,Z 17,Z 18,Z 19,Z 20,Z 21,Z 22,Z 23,Z 24,Z 25,Z 26,Z 27,Z 28,Z 29,Z 30,Z 31,Z 32,Z 33,Z 34,Z 35,Z 36,Z 37,Z 38,Z 39,Z 40,Z 41,Z 42,Z 43,Z 44, .v (.slice (some ⟨bW, oW, none⟩) W.length cW), .v (.int .i64 (W.length : Int)), .v (.int .i64 (k : Int)), Z 48,Z 49,Z 50,Z 51,Z 52,Z 53,Z 54,Z 55,Z 56,Z 57,Z 58,Z 59,Z 60,Z 61,Z 62,Z 63,Z 64,Z 65,Z 66,Z 67,Z 68,Z 69,Z 70,Z 71,Z 72,Z 73,Z 74,Z 75,Z 76,Z 77,Z 78,Z 79,Z 80,Z 81,Z 82,Z 83,Z 84,Z 85,Z 86,Z 87,Z 88,Z 89,Z 90,Z 91,Z 92,Z 93,Z 94,Z 95,Z 96,Z 97,Z 98,Z 99,Z 100,Z 101,Z 102,Z 103,Z 104,Z 105,Z 106,Z 107,Z 108,Z 109,Z 110,Z 111,Z 112,Z 113,Z 114,Z 115,Z 116,Z 117,Z 118,Z 119,Z 120,Z 121,Z 122]) [] H4 V3 s ∧ q + k = W.length ∧ metI W p.length k = some (met, odds) ∧ metMem H4 V3 mv met ∧ met.length ≤ k ∧ 0 ≤ odds ∧ odds ≤ 64000 * k) W.length ⟨0, [], 0, _, _, StIs.of (by exact rfl), by omega, rfl, metMem.nil _ _, by simp, by omega, by omega⟩ ?_
    rintro q s ⟨k, met, odds, mv, H4, hs, hq, hmet, hmm, hml, ho1, ho2⟩
    obtain ⟨z, rfl⟩ := hs.out
    try dsimp only
    clear hs
    by_cases hk : k < W.length
    rotate_left
    · obtain rfl : k = W.length := by omega
      have bt1 : decide (((W.length : Nat) : Int) < ((W.length : Nat) : Int)) = false := decide_eq_false (by omega)
      first | refine Gx.a (by kernel_rfl) fun K hK => ?_ | refine Gx.b (by kernel_rfl) fun K hK => ?_ | refine Gx.c (by kernel_rfl) fun K hK => ?_
      simp only [XU, XA, XB, gateX, Nat.reduceAdd, Nat.reduceLeDiff, Nat.reduceSub, Nat.reduceMul, ↓reduceIte, Int.reduceToNat, Int.reduceLE, beq_self_eq_true, bt1]
      refine hK _ ?_
      first | refine Gx.f rfl ?_ | refine XWP.seq (Gx.f rfl ?_)
      refine XWP.exit ?_
      exact fun f => ⟨met, odds, H4, StIs.of (by exact rfl), hmet⟩
    have bt1 : decide ((k : Int) < (W.length : Int)) = true := decide_eq_true (by omega)
    first | refine Gx.a (by kernel_rfl) fun K hK => ?_ | refine Gx.b (by kernel_rfl) fun K hK => ?_ | refine Gx.c (by kernel_rfl) fun K hK => ?_
    simp only [XU, XA, XB, gateX, Nat.reduceAdd, Nat.reduceLeDiff, Nat.reduceSub, Nat.reduceMul, ↓reduceIte, Int.reduceToNat, Int.reduceLE, beq_self_eq_true, bt1]
    refine hK _ ?_
    first | refine Gx.t rfl ?_ | refine XWP.seq (Gx.t rfl ?_)
    refine XWP.skip ?_
    obtain ⟨r, hrk⟩ : ∃ r, W[k]? = some r := ⟨_, List.getElem?_eq_getElem hk⟩
    have er : W[k] = r := (List.getElem?_eq_some_iff.1 hrk).2
    have hrW := hWL r (List.mem_of_getElem? hrk)
    have hgr := hg r hrW.1
    have hlr := hds r hrW.1
    obtain ⟨cs, hcs, hcell⟩ := SlK.get hW k hk
    rw [er] at hcs
    have hcsE := hcs
    obtain ⟨v0, v1, v2, v3, v4, dv, v6, v7, v8, rfl, hdsr⟩ := rn_draws hcs
    obtain ⟨A1, q1, rfl, _, _⟩ := hdsr.form
    have hstep := metI_succ hmet hrk
    refine XWP.cutD 0 (fun s => ∃ (met : List Dr) (odds : Int) (mv : Value) (H4 : Heap), StIs (fun Z => [.v (.slice (some ⟨bL, oL, none⟩) L.length cL), .v (.slice A2 p.length c2), Z 2,Z 3,Z 4, .v (.slice (some ⟨bW, oW, none⟩) W.length cW), Z 6,Z 7, .v (.int .i64 (p.length : Int)), .v mv, .v (.int .i64 odds), Z 11,Z 12,Z 13,Z 14,Z 15,Z 16,Z 17,Z 18,Z 19,Z 20,Z 21,Z 22,Z 23,Z 24,Z 25,Z 26,Z 27,Z 28,Z 29,Z 30,Z 31,Z 32,Z 33,Z 34,Z 35,Z 36,Z 37,Z 38,Z 39,Z 40,Z 41,Z 42,Z 43,Z 44, .v (.slice (some ⟨bW, oW, none⟩) W.length cW), .v (.int .i64 (W.length : Int)), .v (.int .i64 (k : Int)), Z 48,Z 49,Z 50,Z 51,Z 52,Z 53,Z 54,Z 55,Z 56,Z 57,Z 58,Z 59,Z 60,Z 61,Z 62,Z 63,Z 64,Z 65,Z 66,Z 67,Z 68,Z 69,Z 70,Z 71,Z 72,Z 73,Z 74,Z 75,Z 76,Z 77,Z 78,Z 79,Z 80,Z 81,Z 82,Z 83,Z 84,Z 85,Z 86,Z 87,Z 88,Z 89,Z 90,Z 91,Z 92,Z 93,Z 94,Z 95,Z 96,Z 97,Z 98,Z 99,Z 100,Z 101,Z 102,Z 103,Z 104,Z 105,Z 106,Z 107,Z 108,Z 109,Z 110,Z 111,Z 112,Z 113,Z 114,Z 115,Z 116,Z 117,Z 118,Z 119,Z 120,Z 121,Z 122]) [] H4 V3 s ∧ metI W p.length (k + 1) = some (met, odds) ∧ metMem H4 V3 mv met ∧ met.length ≤ k + 1 ∧ 0 ≤ odds ∧ odds ≤ 64000 * (k + 1 : Nat)) ?_ ?_
    rotate_left
    · rintro s ⟨met, odds, mv, H4, hs, hmet, hmm, hml, ho1, ho2⟩
      obtain ⟨z, rfl⟩ := hs.out
      try dsimp only
      clear hs
      first | refine Gx.a (by kernel_rfl) fun K hK => ?_ | refine Gx.b (by kernel_rfl) fun K hK => ?_ | refine Gx.c (by kernel_rfl) fun K hK => ?_
      simp only [XU, XA, XB, gateX, Nat.reduceAdd, Nat.reduceLeDiff, Nat.reduceSub, Nat.reduceMul, ↓reduceIte, Int.reduceToNat, Int.reduceLE, beq_self_eq_true, i64_succ k (by omega)]
      exact hK _ ⟨q - 1, by omega, fun f => ⟨k + 1, met, odds, mv, H4, StIs.of (by exact rfl), by omega, hmet, hmm, hml, ho1, ho2⟩⟩
    clear hK
    first | refine XWP.block ?_ | refine XWP.seq (XWP.block ?_)
    first | refine Gx.a (by kernel_rfl) fun K hK => ?_ | refine Gx.b (by kernel_rfl) fun K hK => ?_ | refine Gx.c (by kernel_rfl) fun K hK => ?_
    simp only [XU, XA, XB, gateX, Nat.reduceAdd, Nat.reduceLeDiff, Nat.reduceSub, Nat.reduceMul, ↓reduceIte, Int.reduceToNat, Int.reduceLE, beq_self_eq_true]
    refine ⟨by omega, by omega, ld_mem (loadsK shapeT_48 rfl fun j u hj => hcell _ j u hj) ?_⟩
    simp only [XU, XA, XB, gateX, Nat.reduceAdd, Nat.reduceLeDiff, Nat.reduceSub, Nat.reduceMul, ↓reduceIte, Int.reduceToNat, Int.reduceLE, beq_self_eq_true]
    refine st_whole (cs := [v0, v1, v2, v3, v4, .slice A1 r.ds.length q1, v6, v7, v8]) shapeT_48 rfl rfl rfl hcsE.2.1 ?_
    simp only [XU, XA, XB, gateX, Nat.reduceAdd, Nat.reduceLeDiff, Nat.reduceSub, Nat.reduceMul, ↓reduceIte, Int.reduceToNat, Int.reduceLE, beq_self_eq_true]
    refine hK _ ?_
    refine XWP.seq ?_
    by_cases hlen : r.ds.length = p.length
    · have b3 : decide ((r.ds.length : Int) = (p.length : Int)) = true := decide_eq_true (by omega)
      first | refine Gx.a (by kernel_rfl) fun K hK => ?_ | refine Gx.b (by kernel_rfl) fun K hK => ?_ | refine Gx.c (by kernel_rfl) fun K hK => ?_
      simp only [XU, XA, XB, gateX, Nat.reduceAdd, Nat.reduceLeDiff, Nat.reduceSub, Nat.reduceMul, ↓reduceIte, Int.reduceToNat, Int.reduceLE, beq_self_eq_true, b3]
      refine hK _ ?_
      first | refine Gx.t rfl ?_ | refine XWP.seq (Gx.t rfl ?_)
      first | refine Gx.a (by kernel_rfl) fun K hK => ?_ | refine Gx.b (by kernel_rfl) fun K hK => ?_ | refine Gx.c (by kernel_rfl) fun K hK => ?_
      simp only [XU, XA, XB, gateX, Nat.reduceAdd, Nat.reduceLeDiff, Nat.reduceSub, Nat.reduceMul, ↓reduceIte, Int.reduceToNat, Int.reduceLE, beq_self_eq_true]
      refine hK _ (XWP.ret ?_)
      try simp only [thenX_ret, inBlockX_ret]
      refine ret_go _ rfl ?_
      have : metI W p.length (k + 1) = none := by
        rw [hstep]
        unfold metStep
        rw [List.getElem?_eq_none (by omega)]
      rw [partsW_none hk hn1 this]; rfl
    have b3 : decide ((r.ds.length : Int) = (p.length : Int)) = false := decide_eq_false (by omega)
    first | refine Gx.a (by kernel_rfl) fun K hK => ?_ | refine Gx.b (by kernel_rfl) fun K hK => ?_ | refine Gx.c (by kernel_rfl) fun K hK => ?_
    simp only [XU, XA, XB, gateX, Nat.reduceAdd, Nat.reduceLeDiff, Nat.reduceSub, Nat.reduceMul, ↓reduceIte, Int.reduceToNat, Int.reduceLE, beq_self_eq_true, b3]
    refine hK _ ?_
    first | refine Gx.f rfl ?_ | refine XWP.seq (Gx.f rfl ?_)
    refine XWP.skip ?_
    obtain ⟨d, hd⟩ : ∃ d, r.ds[p.length]? = some d := ⟨_, List.getElem?_eq_getElem (by omega)⟩
    obtain ⟨b1, o1, c1, eq1, hdc⟩ := dr_get hdsr hd
    cases eq1
    have hstep2 : metI W p.length (k + 1) = if met.any (metBad d) then none else if met.any (fun x => decide (x.index = d.index)) then some (met, odds) else some (met ++ [d], odds + d.odds) := by
      rw [hstep]
      unfold metStep
      rw [hd]
    have hgd := hgr d (List.mem_of_getElem? hd)
    first | refine Gx.a (by kernel_rfl) fun K hK => ?_ | refine Gx.b (by kernel_rfl) fun K hK => ?_ | refine Gx.c (by kernel_rfl) fun K hK => ?_
    simp only [XU, XA, XB, gateX, Nat.reduceAdd, Nat.reduceLeDiff, Nat.reduceSub, Nat.reduceMul, ↓reduceIte, Int.reduceToNat, Int.reduceLE, beq_self_eq_true]
    refine ⟨by omega, by omega, ld_mem (loadsK (cs := d.cells) shapeT_56 rfl fun j u hj => ?_) ?_⟩
    · match j, hj with
      | 0, hj => cases hj; exact (hdc _).1
      | 1, hj => cases hj; exact (hdc _).2.1
      | 2, hj => cases hj; exact (hdc _).2.2.1
      | 3, hj => cases hj; exact (hdc _).2.2.2
    simp only [XU, XA, XB, gateX, Nat.reduceAdd, Nat.reduceLeDiff, Nat.reduceSub, Nat.reduceMul, ↓reduceIte, Int.reduceToNat, Int.reduceLE, beq_self_eq_true]
    refine st_whole (cs := [.int .i64 d.site, .int .i64 d.index, .int .i64 d.odds, .int .i64 d.whole]) shapeT_56 rfl rfl rfl rfl ?_
    simp only [XU, XA, XB, gateX, Nat.reduceAdd, Nat.reduceLeDiff, Nat.reduceSub, Nat.reduceMul, ↓reduceIte, Int.reduceToNat, Int.reduceLE, beq_self_eq_true]
    refine hK _ ?_
    first | refine Gx.a (by kernel_rfl) fun K hK => ?_ | refine Gx.b (by kernel_rfl) fun K hK => ?_ | refine Gx.c (by kernel_rfl) fun K hK => ?_
    simp only [XU, XA, XB, gateX, Nat.reduceAdd, Nat.reduceLeDiff, Nat.reduceSub, Nat.reduceMul, ↓reduceIte, Int.reduceToNat, Int.reduceLE, beq_self_eq_true]
    refine hK _ ?_
    obtain ⟨AM, cM, rfl⟩ := hmm.form
    refine XWP.cutD 2 (fun s => StIs (fun Z => [.v (.slice (some ⟨bL, oL, none⟩) L.length cL), .v (.slice A2 p.length c2), Z 2,Z 3,Z 4, .v (.slice (some ⟨bW, oW, none⟩) W.length cW), Z 6,Z 7, .v (.int .i64 (p.length : Int)), .v (.slice AM met.length cM), .v (.int .i64 odds), Z 11, .p 0 0, .p 1 0, .v (.bool (met.any fun x => decide (x.index = d.index))), Z 15,Z 16,Z 17,Z 18,Z 19,Z 20,Z 21,Z 22,Z 23,Z 24,Z 25,Z 26,Z 27,Z 28,Z 29,Z 30,Z 31,Z 32,Z 33,Z 34,Z 35,Z 36,Z 37,Z 38,Z 39,Z 40,Z 41,Z 42,Z 43,Z 44, .v (.slice (some ⟨bW, oW, none⟩) W.length cW), .v (.int .i64 (W.length : Int)), .v (.int .i64 (k : Int)), Z 48,Z 49,Z 50,Z 51,Z 52,Z 53,Z 54,Z 55,Z 56,Z 57,Z 58,Z 59,Z 60,Z 61,Z 62,Z 63,Z 64,Z 65,Z 66,Z 67,Z 68,Z 69,Z 70,Z 71,Z 72,Z 73,Z 74,Z 75,Z 76,Z 77,Z 78,Z 79,Z 80,Z 81,Z 82,Z 83,Z 84,Z 85,Z 86,Z 87,Z 88,Z 89,Z 90,Z 91,Z 92,Z 93,Z 94,Z 95,Z 96,Z 97,Z 98,Z 99,Z 100,Z 101,Z 102,Z 103,Z 104,Z 105,Z 106,Z 107,Z 108,Z 109,Z 110,Z 111,Z 112,Z 113,Z 114,Z 115,Z 116,Z 117,Z 118,Z 119,Z 120,Z 121,Z 122]) [[v0, v1, v2, v3, v4, .slice (some ⟨b1, o1, none⟩) r.ds.length q1, v6, v7, v8], [.int .i64 d.site, .int .i64 d.index, .int .i64 d.odds, .int .i64 d.whole]] H4 V3 s ∧ met.any (metBad d) = false) ?_ ?_
    · first | refine Gx.a (by kernel_rfl) fun K hK => ?_ | refine Gx.b (by kernel_rfl) fun K hK => ?_ | refine Gx.c (by kernel_rfl) fun K hK => ?_
      simp only [XU, XA, XB, gateX, Nat.reduceAdd, Nat.reduceLeDiff, Nat.reduceSub, Nat.reduceMul, ↓reduceIte, Int.reduceToNat, Int.reduceLE, beq_self_eq_true]
      refine hK _ ?_
      clear hK
      first | refine XWP.block ?_ | refine XWP.seq (XWP.block ?_)
      refine XWP.loopD 2 (fun n s => ∃ (j : Nat), StIs (fun Z => [.v (.slice (some ⟨bL, oL, none⟩) L.length cL), .v (.slice A2 p.length c2), Z 2,Z 3,Z 4, .v (.slice (some ⟨bW, oW, none⟩) W.length cW), Z 6,Z 7, .v (.int .i64 (p.length : Int)), .v (.slice AM met.length cM), .v (.int .i64 odds), Z 11, .p 0 0, .p 1 0, .v (.bool ((met.take j).any fun x => decide (x.index = d.index))), Z 15,Z 16,Z 17,Z 18,Z 19,Z 20,Z 21,Z 22,Z 23,Z 24,Z 25,Z 26,Z 27,Z 28,Z 29,Z 30,Z 31,Z 32,Z 33,Z 34,Z 35,Z 36,Z 37,Z 38,Z 39,Z 40,Z 41,Z 42,Z 43,Z 44, .v (.slice (some ⟨bW, oW, none⟩) W.length cW), .v (.int .i64 (W.length : Int)), .v (.int .i64 (k : Int)), Z 48,Z 49,Z 50,Z 51,Z 52,Z 53,Z 54,Z 55,Z 56,Z 57,Z 58,Z 59,Z 60, .v (.slice AM met.length cM), .v (.int .i64 (met.length : Int)), .v (.int .i64 (j : Int)), Z 64,Z 65,Z 66,Z 67,Z 68,Z 69,Z 70,Z 71,Z 72,Z 73,Z 74,Z 75,Z 76,Z 77,Z 78,Z 79,Z 80,Z 81,Z 82,Z 83,Z 84,Z 85,Z 86,Z 87,Z 88,Z 89,Z 90,Z 91,Z 92,Z 93,Z 94,Z 95,Z 96,Z 97,Z 98,Z 99,Z 100,Z 101,Z 102,Z 103,Z 104,Z 105,Z 106,Z 107,Z 108,Z 109,Z 110,Z 111,Z 112,Z 113,Z 114,Z 115,Z 116,Z 117,Z 118,Z 119,Z 120,Z 121,Z 122]) [[v0, v1, v2, v3, v4, .slice (some ⟨b1, o1, none⟩) r.ds.length q1, v6, v7, v8], [.int .i64 d.site, .int .i64 d.index, .int .i64 d.odds, .int .i64 d.whole]] H4 V3 s ∧ n + j = met.length ∧ (met.take j).any (metBad d) = false) met.length ⟨0, StIs.of (by exact rfl), by omega, by simp⟩ ?_
      rintro n s ⟨j, hs, hn, hbad⟩
      obtain ⟨y, rfl⟩ := hs.out
      try dsimp only
      clear hs
      by_cases hj : j < met.length
      rotate_left
      · obtain rfl : j = met.length := by omega
        have bt2 : decide (((met.length : Nat) : Int) < ((met.length : Nat) : Int)) = false := decide_eq_false (by omega)
        first | refine Gx.a (by kernel_rfl) fun K hK => ?_ | refine Gx.b (by kernel_rfl) fun K hK => ?_ | refine Gx.c (by kernel_rfl) fun K hK => ?_
        simp only [XU, XA, XB, gateX, Nat.reduceAdd, Nat.reduceLeDiff, Nat.reduceSub, Nat.reduceMul, ↓reduceIte, Int.reduceToNat, Int.reduceLE, beq_self_eq_true, bt2]
        refine hK _ ?_
        first | refine Gx.f rfl ?_ | refine XWP.seq (Gx.f rfl ?_)
        refine XWP.exit ?_
        rw [List.take_length] at hbad ⊢
        exact fun f => ⟨StIs.of (by exact rfl), hbad⟩
      have bt2 : decide ((j : Int) < (met.length : Int)) = true := decide_eq_true (by omega)
      first | refine Gx.a (by kernel_rfl) fun K hK => ?_ | refine Gx.b (by kernel_rfl) fun K hK => ?_ | refine Gx.c (by kernel_rfl) fun K hK => ?_
      simp only [XU, XA, XB, gateX, Nat.reduceAdd, Nat.reduceLeDiff, Nat.reduceSub, Nat.reduceMul, ↓reduceIte, Int.reduceToNat, Int.reduceLE, beq_self_eq_true, bt2]
      refine hK _ ?_
      first | refine Gx.t rfl ?_ | refine XWP.seq (Gx.t rfl ?_)
      refine XWP.skip ?_
      obtain ⟨x, hx⟩ : ∃ x, met[j]? = some x := ⟨_, List.getElem?_eq_getElem hj⟩
      have etj : met.take (j + 1) = met.take j ++ [x] := by rw [List.take_add_one, hx]; rfl
      obtain ⟨bM, oM, rfl⟩ := hmm.addr (by omega)
      have hxc := hmm.get hx V3
      refine XWP.cutD 2 (fun s => StIs (fun Z => [.v (.slice (some ⟨bL, oL, none⟩) L.length cL), .v (.slice A2 p.length c2), Z 2,Z 3,Z 4, .v (.slice (some ⟨bW, oW, none⟩) W.length cW), Z 6,Z 7, .v (.int .i64 (p.length : Int)), .v (.slice (some ⟨bM, oM, none⟩) met.length cM), .v (.int .i64 odds), Z 11, .p 0 0, .p 1 0, .v (.bool ((met.take (j + 1)).any fun x => decide (x.index = d.index))), Z 15,Z 16,Z 17,Z 18,Z 19,Z 20,Z 21,Z 22,Z 23,Z 24,Z 25,Z 26,Z 27,Z 28,Z 29,Z 30,Z 31,Z 32,Z 33,Z 34,Z 35,Z 36,Z 37,Z 38,Z 39,Z 40,Z 41,Z 42,Z 43,Z 44, .v (.slice (some ⟨bW, oW, none⟩) W.length cW), .v (.int .i64 (W.length : Int)), .v (.int .i64 (k : Int)), Z 48,Z 49,Z 50,Z 51,Z 52,Z 53,Z 54,Z 55,Z 56,Z 57,Z 58,Z 59,Z 60, .v (.slice (some ⟨bM, oM, none⟩) met.length cM), .v (.int .i64 (met.length : Int)), .v (.int .i64 (j : Int)), Z 64,Z 65,Z 66,Z 67,Z 68,Z 69,Z 70,Z 71,Z 72,Z 73,Z 74,Z 75,Z 76,Z 77,Z 78,Z 79,Z 80,Z 81,Z 82,Z 83,Z 84,Z 85,Z 86,Z 87,Z 88,Z 89,Z 90,Z 91,Z 92,Z 93,Z 94,Z 95,Z 96,Z 97,Z 98,Z 99,Z 100,Z 101,Z 102,Z 103,Z 104,Z 105,Z 106,Z 107,Z 108,Z 109,Z 110,Z 111,Z 112,Z 113,Z 114,Z 115,Z 116,Z 117,Z 118,Z 119,Z 120,Z 121,Z 122]) [[v0, v1, v2, v3, v4, .slice (some ⟨b1, o1, none⟩) r.ds.length q1, v6, v7, v8], [.int .i64 d.site, .int .i64 d.index, .int .i64 d.odds, .int .i64 d.whole]] H4 V3 s ∧ (met.take (j + 1)).any (metBad d) = false) ?_ ?_
      rotate_left
      · rintro s ⟨hs, hbad⟩
        obtain ⟨y, rfl⟩ := hs.out
        try dsimp only
        clear hs
        first | refine Gx.a (by kernel_rfl) fun K hK => ?_ | refine Gx.b (by kernel_rfl) fun K hK => ?_ | refine Gx.c (by kernel_rfl) fun K hK => ?_
        simp only [XU, XA, XB, gateX, Nat.reduceAdd, Nat.reduceLeDiff, Nat.reduceSub, Nat.reduceMul, ↓reduceIte, Int.reduceToNat, Int.reduceLE, beq_self_eq_true, i64_succ j (by omega)]
        exact hK _ ⟨n - 1, by omega, fun f => ⟨j + 1, StIs.of (by exact rfl), by omega, hbad⟩⟩
      clear hK
      first | refine XWP.block ?_ | refine XWP.seq (XWP.block ?_)
      first | refine Gx.a (by kernel_rfl) fun K hK => ?_ | refine Gx.b (by kernel_rfl) fun K hK => ?_ | refine Gx.c (by kernel_rfl) fun K hK => ?_
      simp only [XU, XA, XB, gateX, Nat.reduceAdd, Nat.reduceLeDiff, Nat.reduceSub, Nat.reduceMul, ↓reduceIte, Int.reduceToNat, Int.reduceLE, beq_self_eq_true]
      refine ⟨by omega, by omega, ld_mem (loadsK (cs := x.cells) shapeT_56 rfl hxc) ?_⟩
      simp only [XU, XA, XB, gateX, Nat.reduceAdd, Nat.reduceLeDiff, Nat.reduceSub, Nat.reduceMul, ↓reduceIte, Int.reduceToNat, Int.reduceLE, beq_self_eq_true]
      refine st_whole (cs := [.int .i64 x.site, .int .i64 x.index, .int .i64 x.odds, .int .i64 x.whole]) shapeT_56 rfl rfl rfl rfl ?_
      simp only [XU, XA, XB, gateX, Nat.reduceAdd, Nat.reduceLeDiff, Nat.reduceSub, Nat.reduceMul, ↓reduceIte, Int.reduceToNat, Int.reduceLE, beq_self_eq_true]
      refine hK _ ?_
      have hfin : metBad d x = true → partsW W p.length = false := fun hb => by
        refine partsW_none hk hn1 ?_
        rw [hstep2, if_pos]
        rw [List.any_eq_true]
        exact ⟨x, List.mem_of_getElem? hx, hb⟩
      have hbS : (met.take (j + 1)).any (metBad d) = metBad d x := by
        rw [etj, List.any_append, hbad]; simp
      have hkS : (met.take (j + 1)).any (fun x => decide (x.index = d.index)) = ((met.take j).any (fun x => decide (x.index = d.index)) || decide (x.index = d.index)) := by
        rw [etj, List.any_append]; simp
      rw [hbS, hkS]
      have eBad : metBad d x = (!decide (x.site = d.site) || !decide (x.whole = d.whole) || (decide (x.index = d.index) && !decide (x.odds = d.odds))) := by
        unfold metBad
        simp only [ne_eq, decide_not]
      refine XWP.cut (fun s => StIs (fun Z => [.v (.slice (some ⟨bL, oL, none⟩) L.length cL), .v (.slice A2 p.length c2), Z 2,Z 3,Z 4, .v (.slice (some ⟨bW, oW, none⟩) W.length cW), Z 6,Z 7, .v (.int .i64 (p.length : Int)), .v (.slice (some ⟨bM, oM, none⟩) met.length cM), .v (.int .i64 odds), Z 11, .p 0 0, .p 1 0, .v (.bool ((met.take j).any fun x => decide (x.index = d.index))), Z 15, .p 2 0, Z 17,Z 18,Z 19,Z 20,Z 21,Z 22,Z 23,Z 24,Z 25,Z 26,Z 27,Z 28,Z 29,Z 30,Z 31,Z 32,Z 33,Z 34,Z 35,Z 36,Z 37,Z 38,Z 39,Z 40,Z 41,Z 42,Z 43,Z 44, .v (.slice (some ⟨bW, oW, none⟩) W.length cW), .v (.int .i64 (W.length : Int)), .v (.int .i64 (k : Int)), Z 48,Z 49,Z 50,Z 51,Z 52,Z 53,Z 54,Z 55,Z 56,Z 57,Z 58,Z 59,Z 60, .v (.slice (some ⟨bM, oM, none⟩) met.length cM), .v (.int .i64 (met.length : Int)), .v (.int .i64 (j : Int)), Z 64,Z 65,Z 66,Z 67,Z 68,Z 69,Z 70,Z 71,Z 72,Z 73,Z 74,Z 75,Z 76,Z 77,Z 78,Z 79,Z 80,Z 81,Z 82,Z 83,Z 84,Z 85,Z 86,Z 87,Z 88,Z 89,Z 90,Z 91,Z 92,Z 93,Z 94,Z 95,Z 96,Z 97,Z 98,Z 99,Z 100,Z 101,Z 102,Z 103,Z 104,Z 105,Z 106,Z 107,Z 108,Z 109,Z 110,Z 111,Z 112,Z 113,Z 114,Z 115,Z 116,Z 117,Z 118,Z 119,Z 120,Z 121,Z 122]) [[v0, v1, v2, v3, v4, .slice (some ⟨b1, o1, none⟩) r.ds.length q1, v6, v7, v8], [.int .i64 d.site, .int .i64 d.index, .int .i64 d.odds, .int .i64 d.whole], [.int .i64 x.site, .int .i64 x.index, .int .i64 x.odds, .int .i64 x.whole]] H4 V3 s ∧ metBad d x = false) ?_ ?_
      · cases s1 : decide (x.site = d.site)
        · have e := hfin (by rw [eBad, s1]; rfl)
          first | refine Gx.a (by kernel_rfl) fun K hK => ?_ | refine Gx.b (by kernel_rfl) fun K hK => ?_ | refine Gx.c (by kernel_rfl) fun K hK => ?_
          simp only [XU, XA, XB, gateX, Nat.reduceAdd, Nat.reduceLeDiff, Nat.reduceSub, Nat.reduceMul, ↓reduceIte, Int.reduceToNat, Int.reduceLE, beq_self_eq_true, s1]
          refine hK _ ?_
          first | refine Gx.t rfl ?_ | refine XWP.seq (Gx.t rfl ?_)
          first | refine Gx.a (by kernel_rfl) fun K hK => ?_ | refine Gx.b (by kernel_rfl) fun K hK => ?_ | refine Gx.c (by kernel_rfl) fun K hK => ?_
          simp only [XU, XA, XB, gateX, Nat.reduceAdd, Nat.reduceLeDiff, Nat.reduceSub, Nat.reduceMul, ↓reduceIte, Int.reduceToNat, Int.reduceLE, beq_self_eq_true]
          refine hK _ (XWP.ret ?_)
          try simp only [thenX_ret, inBlockX_ret]
          refine ret_go _ rfl ?_
          rw [e]; rfl
        cases s2 : decide (x.whole = d.whole)
        · have e := hfin (by rw [eBad, s1, s2]; rfl)
          first | refine Gx.a (by kernel_rfl) fun K hK => ?_ | refine Gx.b (by kernel_rfl) fun K hK => ?_ | refine Gx.c (by kernel_rfl) fun K hK => ?_
          simp only [XU, XA, XB, gateX, Nat.reduceAdd, Nat.reduceLeDiff, Nat.reduceSub, Nat.reduceMul, ↓reduceIte, Int.reduceToNat, Int.reduceLE, beq_self_eq_true, s1, s2]
          refine hK _ ?_
          first | refine Gx.t rfl ?_ | refine XWP.seq (Gx.t rfl ?_)
          first | refine Gx.a (by kernel_rfl) fun K hK => ?_ | refine Gx.b (by kernel_rfl) fun K hK => ?_ | refine Gx.c (by kernel_rfl) fun K hK => ?_
          simp only [XU, XA, XB, gateX, Nat.reduceAdd, Nat.reduceLeDiff, Nat.reduceSub, Nat.reduceMul, ↓reduceIte, Int.reduceToNat, Int.reduceLE, beq_self_eq_true]
          refine hK _ (XWP.ret ?_)
          try simp only [thenX_ret, inBlockX_ret]
          refine ret_go _ rfl ?_
          rw [e]; rfl
        cases s3 : decide (x.index = d.index)
        · first | refine Gx.a (by kernel_rfl) fun K hK => ?_ | refine Gx.b (by kernel_rfl) fun K hK => ?_ | refine Gx.c (by kernel_rfl) fun K hK => ?_
          simp only [XU, XA, XB, gateX, Nat.reduceAdd, Nat.reduceLeDiff, Nat.reduceSub, Nat.reduceMul, ↓reduceIte, Int.reduceToNat, Int.reduceLE, beq_self_eq_true, s1, s2, s3]
          refine hK _ ?_
          first | refine Gx.f rfl ?_ | refine XWP.seq (Gx.f rfl ?_)
          refine XWP.skip ?_
          exact ⟨StIs.of (by exact rfl), by rw [eBad, s1, s2, s3]; rfl⟩
        cases s4 : decide (x.odds = d.odds)
        · have e := hfin (by rw [eBad, s1, s2, s3, s4]; rfl)
          first | refine Gx.a (by kernel_rfl) fun K hK => ?_ | refine Gx.b (by kernel_rfl) fun K hK => ?_ | refine Gx.c (by kernel_rfl) fun K hK => ?_
          simp only [XU, XA, XB, gateX, Nat.reduceAdd, Nat.reduceLeDiff, Nat.reduceSub, Nat.reduceMul, ↓reduceIte, Int.reduceToNat, Int.reduceLE, beq_self_eq_true, s1, s2, s3, s4]
          refine hK _ ?_
          first | refine Gx.t rfl ?_ | refine XWP.seq (Gx.t rfl ?_)
          first | refine Gx.a (by kernel_rfl) fun K hK => ?_ | refine Gx.b (by kernel_rfl) fun K hK => ?_ | refine Gx.c (by kernel_rfl) fun K hK => ?_
          simp only [XU, XA, XB, gateX, Nat.reduceAdd, Nat.reduceLeDiff, Nat.reduceSub, Nat.reduceMul, ↓reduceIte, Int.reduceToNat, Int.reduceLE, beq_self_eq_true]
          refine hK _ (XWP.ret ?_)
          try simp only [thenX_ret, inBlockX_ret]
          refine ret_go _ rfl ?_
          rw [e]; rfl
        · first | refine Gx.a (by kernel_rfl) fun K hK => ?_ | refine Gx.b (by kernel_rfl) fun K hK => ?_ | refine Gx.c (by kernel_rfl) fun K hK => ?_
          simp only [XU, XA, XB, gateX, Nat.reduceAdd, Nat.reduceLeDiff, Nat.reduceSub, Nat.reduceMul, ↓reduceIte, Int.reduceToNat, Int.reduceLE, beq_self_eq_true, s1, s2, s3, s4]
          refine hK _ ?_
          first | refine Gx.f rfl ?_ | refine XWP.seq (Gx.f rfl ?_)
          refine XWP.skip ?_
          exact ⟨StIs.of (by exact rfl), by rw [eBad, s1, s2, s3, s4]; rfl⟩
      rintro s ⟨hs, hbx⟩
      obtain ⟨y, rfl⟩ := hs.out
      try dsimp only
      clear hs
      cases hkn : (met.take j).any (fun x => decide (x.index = d.index))
      · first | refine Gx.a (by kernel_rfl) fun K hK => ?_ | refine Gx.b (by kernel_rfl) fun K hK => ?_ | refine Gx.c (by kernel_rfl) fun K hK => ?_
        simp only [XU, XA, XB, gateX, Nat.reduceAdd, Nat.reduceLeDiff, Nat.reduceSub, Nat.reduceMul, ↓reduceIte, Int.reduceToNat, Int.reduceLE, beq_self_eq_true]
        refine hK _ fun f => ⟨StIs.of (by simp only [Bool.false_or]; exact rfl), hbx⟩
      · first | refine Gx.a (by kernel_rfl) fun K hK => ?_ | refine Gx.b (by kernel_rfl) fun K hK => ?_ | refine Gx.c (by kernel_rfl) fun K hK => ?_
        simp only [XU, XA, XB, gateX, Nat.reduceAdd, Nat.reduceLeDiff, Nat.reduceSub, Nat.reduceMul, ↓reduceIte, Int.reduceToNat, Int.reduceLE, beq_self_eq_true]
        exact hK _ fun f => ⟨StIs.of (by simp only [Bool.true_or]; exact rfl), hbx⟩
    rintro s ⟨hs, hbad⟩
    obtain ⟨y, rfl⟩ := hs.out
    try dsimp only
    clear hs
    rw [hbad, if_neg (by simp)] at hstep2
    cases hkn : met.any (fun x => decide (x.index = d.index))
    · rw [hkn, if_neg (by simp)] at hstep2
      first | refine Gx.a (by kernel_rfl) fun K hK => ?_ | refine Gx.b (by kernel_rfl) fun K hK => ?_ | refine Gx.c (by kernel_rfl) fun K hK => ?_
      simp only [XU, XA, XB, gateX, Nat.reduceAdd, Nat.reduceLeDiff, Nat.reduceSub, Nat.reduceMul, ↓reduceIte, Int.reduceToNat, Int.reduceLE, beq_self_eq_true]
      refine hK _ ?_
      first | refine Gx.t rfl ?_ | refine XWP.seq (Gx.t rfl ?_)
      first | refine Gx.a (by kernel_rfl) fun K hK => ?_ | refine Gx.b (by kernel_rfl) fun K hK => ?_ | refine Gx.c (by kernel_rfl) fun K hK => ?_
      simp only [XU, XA, XB, gateX, Nat.reduceAdd, Nat.reduceLeDiff, Nat.reduceSub, Nat.reduceMul, ↓reduceIte, Int.reduceToNat, Int.reduceLE, beq_self_eq_true]
      obtain ⟨mcells, hmo, hmr⟩ := hmm
      refine bs_go (by kernel_rfl) #[(0, .agg ([.int .i64 d.site, .int .i64 d.index, .int .i64 d.odds, .int .i64 d.whole] : List Value).toArray)] (by simp [ev_tmp, SV.val]) (bs_agg elemT_46 zeroT_56 rfl (by omega) (by omega) rfl) fun bq hbq1 hbq2 => ?_
      simp only [XU, XA, XB, gateX, Nat.reduceAdd, Nat.reduceLeDiff, Nat.reduceSub, Nat.reduceMul, ↓reduceIte, Int.reduceToNat, Int.reduceLE, beq_self_eq_true]
      refine ap_go elemT_46 (by kernel_rfl) zeroT_56 rfl (by omega) (own_upd hmo hbq1) (srcK (upd_at _ _ _) rfl) (by omega) (by omega) fun v' H' hres => ?_
      simp only [XU, XA, XB, gateX, Nat.reduceAdd, Nat.reduceLeDiff, Nat.reduceSub, Nat.reduceMul, ↓reduceIte, Int.reduceToNat, Int.reduceLE, beq_self_eq_true]
      refine hK _ ?_
      obtain ⟨g1, g2, g3, g4⟩ := hgd
      have wo : IntKind.i64.wrap (odds + d.odds) = odds + d.odds := wrap_id (by omega) (by omega)
      first | refine Gx.a (by kernel_rfl) fun K hK => ?_ | refine Gx.b (by kernel_rfl) fun K hK => ?_ | refine Gx.c (by kernel_rfl) fun K hK => ?_
      simp only [XU, XA, XB, gateX, Nat.reduceAdd, Nat.reduceLeDiff, Nat.reduceSub, Nat.reduceMul, ↓reduceIte, Int.reduceToNat, Int.reduceLE, beq_self_eq_true, wo]
      refine hK _ fun f => ⟨met ++ [d], odds + d.odds, v', H', StIs.of (by exact rfl), hstep2, ⟨_, ?_, hmr.snoc ⟨rfl, rfl, rfl⟩⟩, by simp; omega, by omega, by omega⟩
      rw [List.length_append, List.length_singleton]
      exact hres.1
    · rw [hkn, if_pos rfl] at hstep2
      first | refine Gx.a (by kernel_rfl) fun K hK => ?_ | refine Gx.b (by kernel_rfl) fun K hK => ?_ | refine Gx.c (by kernel_rfl) fun K hK => ?_
      simp only [XU, XA, XB, gateX, Nat.reduceAdd, Nat.reduceLeDiff, Nat.reduceSub, Nat.reduceMul, ↓reduceIte, Int.reduceToNat, Int.reduceLE, beq_self_eq_true]
      refine hK _ ?_
      first | refine Gx.f rfl ?_ | refine XWP.seq (Gx.f rfl ?_)
      refine XWP.skip ?_
      exact fun f => ⟨met, odds, _, H4, StIs.of (by exact rfl), hstep2, hmm, by omega, by omega, by omega⟩
  rintro s ⟨met, odds, H4, hs, hmet⟩
  obtain ⟨z, rfl⟩ := hs.out
  try dsimp only
  clear hs
  have hlt : p.length < r0.ds.length := by
    refine Classical.byContradiction fun hn => ?_
    have : metI W p.length 1 = none := by
      rw [metI_succ (st := ([], 0)) rfl hr0]
      unfold metStep
      rw [List.getElem?_eq_none (by omega)]
    rw [metI_none this W.length (by omega)] at hmet
    cases hmet
  obtain ⟨d0, hd0⟩ : ∃ d, r0.ds[p.length]? = some d := ⟨_, List.getElem?_eq_getElem hlt⟩
  obtain ⟨b0, o0, c0, eq0, hdc0⟩ := dr_get hds0 hd0
  cases eq0
  have y4 := fun H => loads1 (H := H) shapeT_3 (hdc0 H).2.2.2
  first | refine Gx.a (by kernel_rfl) fun K hK => ?_ | refine Gx.b (by kernel_rfl) fun K hK => ?_ | refine Gx.c (by kernel_rfl) fun K hK => ?_
  simp only [XU, XA, XB, gateX, Nat.reduceAdd, Nat.reduceLeDiff, Nat.reduceSub, Nat.reduceMul, ↓reduceIte, Int.reduceToNat, Int.reduceLE, beq_self_eq_true]
  refine ⟨by omega, ld_mem (y0 _) ?_⟩
  simp only [XU, XA, XB, gateX, Nat.reduceAdd, Nat.reduceLeDiff, Nat.reduceSub, Nat.reduceMul, ↓reduceIte, Int.reduceToNat, Int.reduceLE, beq_self_eq_true]
  refine ⟨by omega, by omega, ld_mem (y4 _) ?_⟩
  simp only [XU, XA, XB, gateX, Nat.reduceAdd, Nat.reduceLeDiff, Nat.reduceSub, Nat.reduceMul, ↓reduceIte, Int.reduceToNat, Int.reduceLE, beq_self_eq_true]
  refine hK _ (XWP.ret ?_)
  try simp only [thenX_ret, inBlockX_ret]
  refine ret_go _ rfl ?_
  unfold partsW
  rw [if_neg hn1, hmet, draw0_at hr0 hd0]; rfl
end Go.Proofs.Ytobjjdnfgamgcaa
end
