/- The weights that exit a chain step by step are the reference's, errors included. (part 12 of 12) -/
import Derived.OrdersHeld
import Derived.Below
import Derived.Tactics
import Derived.KernelRfl
import Derived.RangeFuncCalls
import Derived.RangeFuncFrom
import Derived.RangeFuncLeaves
import Derived.OrdersIn
import Derived.Laws.AppendOwn
import Derived.Laws.MakeOwn
import Derived.Laws.CopyRow
import Derived.Laws.Cells
import Derived.Laws.World
import Derived.Laws.Alloc2
import Derived.Laws.NewBlocks
import Derived.Maps.AppendAt
import Derived.Test.YthoboehbadmlmaaProg
import Init.Data.List.Lemmas
import Init.Omega
import Derived.WalkKit
import Derived.ProofKit
import Derived.OpenShut
import Derived.ChangeOld
import Derived.SizedLaws
import Derived.ChangeSlices
import Derived.ChangeArms
import Derived.Deep.Slices
import Derived.Test.YthoboehbadmlmaaRows
import Derived.ShutString
import Derived.Test.YthoboehbadmlmaaEN11
section
namespace Go.Proofs.Ythoboehbadmlmaa
open Go Go.RowKit
set_option linter.unusedSimpArgs false
set_option linter.unusedVariables false
attribute [local irreducible] XWP Spec SpecO XPub XCall seqX clX apX stX ldX iaX slX
theorem st_six {P : Program} {t i : Nat} {s : XS} {ops : Array Oper} {rest : List Oper} {K : XS → Prop} {d : Option Tmp} {x1 x2 x3 x4 x5 x6 : Value} {vs : List Value} (hs : shapeT P t = some (true, 6)) (hb : s.bx[i]? = some vs) (hl : vs.length = 6) (h1 : [x1, x2, x3, x4, x5, x6].all isOne = true) (h : seqX P ops rest K (XS.put ⟨s.t, s.bx.set i [x1, x2, x3, x4, x5, x6], s.H, s.V⟩ d (.v undef))) : stX P ops rest K s d t (.p i 0) (.v (.agg #[x1, x2, x3, x4, x5, x6])) := by
  refine st_agg (cs := [x1, x2, x3, x4, x5, x6]) hs hb rfl ⟨rfl, h1, by omega, ?_⟩
  have : splice vs 0 [x1, x2, x3, x4, x5, x6] = [x1, x2, x3, x4, x5, x6] := by
    unfold splice; simp [hl]
  rw [this]; exact h
theorem placesT_70 : placesT Try.prog 70 = some [(0, 3), (3, 3)] := by kernel_rfl
theorem bd_chain {a b c d e f : Value} : BuildsTo Try.prog 70 #[(0, .agg #[a, b, c]), (1, .agg #[d, e, f])] (.agg #[a, b, c, d, e, f]) := by
  refine bd_run placesT_70 zeroT_70 ?_
  show Instr.fill _ _ [(0, .agg #[a, b, c]), (1, .agg #[d, e, f])] = _
  rw [fill_three (off := 0) rfl (by simp), fill_three (off := 3) rfl (by simp)]; rfl
theorem chained_c (V : View) (s1 s2 v : Value) (r1 c1 r2 c2 : Int) (L1 L2 S : List Raw) (h1 : Raws V s1 L1) (h2 : Raws V s2 L2) (hv : Raws V v S) :
    Spec Try.prog 38 [.agg #[.int .i64 r1, .int .i64 c1, s1, .int .i64 r2, .int .i64 c2, s2], v] V fun v' V' => ∃ w1 w2 u, v' = .tuple #[.agg #[.int .i64 r1, .int .i64 c1, w1, .int .i64 r2, .int .i64 c2, w2], u, .bool (decide (r1 ≤ 5) && decide (c2 ≤ 4))] ∧ Raws V' w1 (fewL L1 100) ∧ Raws V' w2 (fewL L2 100) ∧ Raws V' u (fewL S 20) := by
  obtain ⟨A1, q1, rfl, _, _⟩ := h1.form
  obtain ⟨A2, q2, rfl, _, _⟩ := h2.form
  refine (Spec.enter Try.func38 rfl fun Γ => ?_)
  simp only [Try.ntmps38, List.map_cons, List.map_nil, List.length_cons, List.length_nil, Nat.reduceAdd, Nat.reduceSub, List.replicate_succ, List.replicate_zero, List.cons_append, List.nil_append]
  first | refine Gx.a (by kernel_rfl) fun K hK => ?_ | refine Gx.b (by kernel_rfl) fun K hK => ?_ | refine Gx.c (by kernel_rfl) fun K hK => ?_
  simp only [XM, XA, XB, gateX, Nat.reduceAdd, Nat.reduceLeDiff, Nat.reduceSub, Nat.reduceMul, ↓reduceIte, Int.reduceToNat, Int.reduceLE, beq_self_eq_true]
  refine hK _ ?_
  (first | refine XWP.drw [0, 1, 2, 4, 5, 6, 8, 3, 10, 11, 7, 9, 12, 13, 14, 15, 16] (by kernel_rfl) (by kernel_rfl) (by kernel_rfl) fun K hK => ?_ | refine XWP.seq (XWP.drw [0, 1, 2, 4, 5, 6, 8, 3, 10, 11, 7, 9, 12, 13, 14, 15, 16] (by kernel_rfl) (by kernel_rfl) (by kernel_rfl) fun K hK => ?_) | refine XWP.drw1 [0, 1, 2, 4, 5, 6, 8, 3, 10, 11, 7, 9, 12, 13, 14, 15, 16] (by kernel_rfl) (by kernel_rfl) (by kernel_rfl) fun K hK => ?_) <;> dsimp only [pickOps, List.getElem?_cons_zero, List.getElem?_cons_succ]
  simp only [XM, XA, XB, gateX, Nat.reduceAdd, Nat.reduceLeDiff, Nat.reduceSub, Nat.reduceMul, ↓reduceIte, Int.reduceToNat, Int.reduceLE, beq_self_eq_true]
  refine call_go (by kernel_rfl) rfl (lfew_c _ _ L1 100 h1 (by omega)) fun w1 V1 hV1 g1 => ?_
  simp only [XM, XA, XB, gateX, Nat.reduceAdd, Nat.reduceLeDiff, Nat.reduceSub, Nat.reduceMul, ↓reduceIte, Int.reduceToNat, Int.reduceLE, beq_self_eq_true]
  refine call_go (by kernel_rfl) rfl (lfew_c _ _ L2 100 (h2.up hV1) (by omega)) fun w2 V2 hV2 g2 => ?_
  simp only [XM, XA, XB, gateX, Nat.reduceAdd, Nat.reduceLeDiff, Nat.reduceSub, Nat.reduceMul, ↓reduceIte, Int.reduceToNat, Int.reduceLE, beq_self_eq_true]
  refine call_go (by kernel_rfl) rfl (lfew_c _ _ S 20 ((hv.up hV1).up hV2) (by omega)) fun u V3 hV3 g3 => ?_
  have e1 : isOne w1 = true := by obtain ⟨_, _, rfl, _, _⟩ := g1.form; rfl
  have e2 : isOne w2 = true := by obtain ⟨_, _, rfl, _, _⟩ := g2.form; rfl
  simp only [XM, XA, XB, gateX, Nat.reduceAdd, Nat.reduceLeDiff, Nat.reduceSub, Nat.reduceMul, ↓reduceIte, Int.reduceToNat, Int.reduceLE, beq_self_eq_true]
  refine st_one shapeT_22 rfl e1 (by simp) ?_
  simp only [XM, XA, XB, gateX, Nat.reduceAdd, Nat.reduceLeDiff, Nat.reduceSub, Nat.reduceMul, ↓reduceIte, Int.reduceToNat, Int.reduceLE, beq_self_eq_true]
  refine st_one shapeT_22 rfl e2 (by simp) ?_
  simp only [XM, XA, XB, gateX, Nat.reduceAdd, Nat.reduceLeDiff, Nat.reduceSub, Nat.reduceMul, ↓reduceIte, Int.reduceToNat, Int.reduceLE, beq_self_eq_true]
  refine hK _ ?_
  refine XWP.cut (fun s => StIs (fun Z => [Z 0,Z 1,Z 2,Z 3, .p 1 0, .v u, .v (.bool (decide (r1 ≤ 5) && decide (c2 ≤ 4))), Z 7,Z 8,Z 9,Z 10,Z 11,Z 12,Z 13,Z 14,Z 15,Z 16,Z 17,Z 18,Z 19,Z 20,Z 21,Z 22,Z 23,Z 24,Z 25,Z 26,Z 27,Z 28,Z 29,Z 30,Z 31,Z 32]) [[.int .i64 r1, .int .i64 c1, w1, .int .i64 r2, .int .i64 c2, w2], [.int .i64 r1, .int .i64 c1, w1, .int .i64 r2, .int .i64 c2, w2]] (fun _ => none) V3 s ∧ True) ?_ ?_
  · (first | refine XWP.drwT (.lin [0, 1, 2, 3, 4, 5, 6, 7, 8] (.two (.lin [9, 10, 11, 12, 13, 14] .nil) (.lin [12, 13, 9, 10, 11, 14] .nil))) (by kernel_rfl) (by kernel_rfl) (by kernel_rfl) fun K hK => ?_ | refine XWP.seq (XWP.drwT (.lin [0, 1, 2, 3, 4, 5, 6, 7, 8] (.two (.lin [9, 10, 11, 12, 13, 14] .nil) (.lin [12, 13, 9, 10, 11, 14] .nil))) (by kernel_rfl) (by kernel_rfl) (by kernel_rfl) fun K hK => ?_) | refine XWP.drwT1 (.lin [0, 1, 2, 3, 4, 5, 6, 7, 8] (.two (.lin [9, 10, 11, 12, 13, 14] .nil) (.lin [12, 13, 9, 10, 11, 14] .nil))) (by kernel_rfl) (by kernel_rfl) (by kernel_rfl) fun K hK => ?_)
    cases b1 : decide (r1 ≤ 5)
    · have eb : (decide (r1 ≤ 5) && decide (c2 ≤ 4)) = false := by rw [b1]; rfl
      simp only [XM, XA, XB, gateX, Nat.reduceAdd, Nat.reduceLeDiff, Nat.reduceSub, Nat.reduceMul, ↓reduceIte, Int.reduceToNat, Int.reduceLE, beq_self_eq_true, b1]
      refine And.intro ?_ ?_
      · refine st_six shapeT_63 rfl rfl (by simp only [List.all_cons, List.all_nil, Bool.and_true, e1, e2]; rfl) ?_
        simp only [XM, XA, XB, gateX, Nat.reduceAdd, Nat.reduceLeDiff, Nat.reduceSub, Nat.reduceMul, ↓reduceIte, Int.reduceToNat, Int.reduceLE, beq_self_eq_true]
        exact hK _ ⟨StIs.of (by rw [eb]; exact rfl), trivial⟩
      · refine st_six shapeT_63 rfl rfl (by simp only [List.all_cons, List.all_nil, Bool.and_true, e1, e2]; rfl) ?_
        simp only [XM, XA, XB, gateX, Nat.reduceAdd, Nat.reduceLeDiff, Nat.reduceSub, Nat.reduceMul, ↓reduceIte, Int.reduceToNat, Int.reduceLE, beq_self_eq_true]
        exact hK _ ⟨StIs.of (by rw [eb]; exact rfl), trivial⟩
    · have eb : (decide (r1 ≤ 5) && decide (c2 ≤ 4)) = decide (c2 ≤ 4) := by rw [b1]; rfl
      simp only [XM, XA, XB, gateX, Nat.reduceAdd, Nat.reduceLeDiff, Nat.reduceSub, Nat.reduceMul, ↓reduceIte, Int.reduceToNat, Int.reduceLE, beq_self_eq_true, b1]
      refine And.intro ?_ ?_
      · refine st_six shapeT_63 rfl rfl (by simp only [List.all_cons, List.all_nil, Bool.and_true, e1, e2]; rfl) ?_
        simp only [XM, XA, XB, gateX, Nat.reduceAdd, Nat.reduceLeDiff, Nat.reduceSub, Nat.reduceMul, ↓reduceIte, Int.reduceToNat, Int.reduceLE, beq_self_eq_true]
        exact hK _ ⟨StIs.of (by rw [eb]; exact rfl), trivial⟩
      · refine st_six shapeT_63 rfl rfl (by simp only [List.all_cons, List.all_nil, Bool.and_true, e1, e2]; rfl) ?_
        simp only [XM, XA, XB, gateX, Nat.reduceAdd, Nat.reduceLeDiff, Nat.reduceSub, Nat.reduceMul, ↓reduceIte, Int.reduceToNat, Int.reduceLE, beq_self_eq_true]
        exact hK _ ⟨StIs.of (by rw [eb]; exact rfl), trivial⟩
  rintro s ⟨hs, _⟩
  obtain ⟨z, rfl⟩ := hs.out
  try dsimp only
  refine XWP.ret ?_
  try simp only [thenX_ret, inBlockX_ret]
  exact ret_go _ (by simp [resAll, resV, cellsV, shapeT_63]; rfl) ⟨w1, w2, u, rfl, (g1.up hV2).up hV3, g2.up hV3, g3⟩
theorem of_c' (V : View) (s1 s2 : Value) (r1 c1 r2 c2 : Int) (e1 : isOne s1 = true) (e2 : isOne s2 = true) :
    Spec Try.prog 41 [.agg #[.int .i64 r1, .int .i64 c1, s1, .int .i64 r2, .int .i64 c2, s2]] V fun v' V' => v' = .agg #[.int .i64 r1, .int .i64 c1, s1, .int .i64 r2, .int .i64 c2, s2] := by
  refine (Spec.enter Try.func41 rfl fun Γ => ?_)
  simp only [Try.ntmps41, List.map_cons, List.map_nil, List.length_cons, List.length_nil, Nat.reduceAdd, Nat.reduceSub, List.replicate_succ, List.replicate_zero, List.cons_append, List.nil_append]
  first | refine Gx.a (by kernel_rfl) fun K hK => ?_ | refine Gx.b (by kernel_rfl) fun K hK => ?_ | refine Gx.c (by kernel_rfl) fun K hK => ?_
  simp only [XM, XA, XB, gateX, Nat.reduceAdd, Nat.reduceLeDiff, Nat.reduceSub, Nat.reduceMul, ↓reduceIte, Int.reduceToNat, Int.reduceLE, beq_self_eq_true]
  refine hK _ ?_
  first | refine Gx.a (by kernel_rfl) fun K hK => ?_ | refine Gx.b (by kernel_rfl) fun K hK => ?_ | refine Gx.c (by kernel_rfl) fun K hK => ?_
  simp only [XM, XA, XB, gateX, Nat.reduceAdd, Nat.reduceLeDiff, Nat.reduceSub, Nat.reduceMul, ↓reduceIte, Int.reduceToNat, Int.reduceLE, beq_self_eq_true]
  refine bd_go (by kernel_rfl) #[(0, .agg #[.int .i64 r1, .int .i64 c1, s1]), (1, .agg #[.int .i64 r2, .int .i64 c2, s2])] (by simp [ev_tmp, SV.val]) bd_chain ?_
  simp only [XM, XA, XB, gateX, Nat.reduceAdd, Nat.reduceLeDiff, Nat.reduceSub, Nat.reduceMul, ↓reduceIte, Int.reduceToNat, Int.reduceLE, beq_self_eq_true]
  refine st_six shapeT_70 rfl rfl (by simp only [List.all_cons, List.all_nil, Bool.and_true, e1, e2]; rfl) ?_
  simp only [XM, XA, XB, gateX, Nat.reduceAdd, Nat.reduceLeDiff, Nat.reduceSub, Nat.reduceMul, ↓reduceIte, Int.reduceToNat, Int.reduceLE, beq_self_eq_true]
  refine hK _ (XWP.ret ?_)
  try simp only [thenX_ret, inBlockX_ret]
  exact ret_go _ (by simp [resAll, resV, cellsV, shapeT_70]; rfl) rfl
end Go.Proofs.Ythoboehbadmlmaa
end
section
namespace Go.Proofs.Ythoboehbadmlmaa
open Go Go.RowKit
set_option linter.unusedSimpArgs false
set_option linter.unusedVariables false
attribute [local irreducible] XWP Spec SpecO XPub XCall seqX clX apX stX ldX iaX slX
def endsR (r1 c1 : Int) (L1 : List Raw) (r2 c2 : Int) (L2 S : List Raw) (x N : Int) : List Rat := if endsE r1 c1 L1 r2 c2 L2 S x N = 0 then endsL (qs S) (qs L1) (qs L2) r1.toNat c2.toNat x.toNat N.toNat else []
theorem step_fit {r1 c1 r2 c2 : Int} {L1 L2 S : List Raw} {x N : Int} (he : endsE r1 c1 L1 r2 c2 L2 S x N = 0) (hN : N ≤ 14 ∨ 400 < N) (hA : CB 9600 (qs L1)) (hS : CB 1920 (qs S)) : (∀ k, k ≤ N.toNat → CB 137160 (stepv (qs S) (qs L1) r1.toNat k)) ∧ (qs S).length = r1.toNat ∧ r1.toNat ≤ 60 := by
  obtain ⟨hC, hW, x0, x1, n0, n1⟩ := endsE_zero he
  obtain ⟨n, m, rfl, rfl, rfl, rfl, hn, hm, k1, k2, o1, o2, hR⟩ := chB_inv hC
  obtain ⟨ea, o3, ha⟩ := wtB_parts hW
  simp only [Int.toNat_natCast]
  refine ⟨fun k hk => (stepv_CB ea hA hS k).mono ?_, ea, hn⟩
  have := Nat.mul_le_mul (show k ≤ 14 by omega) (show 9600 + n ≤ 9660 by omega)
  omega
theorem endsR_QF {r1 c1 r2 c2 : Int} {L1 L2 S : List Raw} {x N : Int} (hN : N ≤ 14 ∨ 400 < N) (hA : CB 9600 (qs L1)) (hB : CB 9600 (qs L2)) (hS : CB 1920 (qs S)) : ∀ y ∈ endsR r1 c1 L1 r2 c2 L2 S x N, QF y := by
  unfold endsR
  split
  · rename_i he
    obtain ⟨h1, h2, h3⟩ := step_fit he hN hA hS
    intro y hy
    unfold endsL mk at hy
    obtain ⟨k, hk, rfl⟩ := List.mem_map.1 hy
    have hk := List.mem_range.1 hk
    have := (thr_CB (h1 k (by omega)) hB c2.toNat).at x.toNat
    rw [stepv_len h2] at this
    exact this.qf (by omega)
  · simp
theorem ends_c (V : View) (s1 s2 v : Value) (r1 c1 r2 c2 : Int) (L01 L02 S0 : List Raw) (x N : Int) (h1 : Raws V s1 L01) (h2 : Raws V s2 L02) (hv : Raws V v S0) :
    Spec Try.prog 9 [.agg #[.int .i64 r1, .int .i64 c1, s1, .int .i64 r2, .int .i64 c2, s2], v, .int .i64 x, .int .i64 N] V fun v' V' => v' = .bool true := by
  obtain ⟨A1, q1, rfl, _, _⟩ := h1.form
  obtain ⟨A2, q2, rfl, _, _⟩ := h2.form
  refine (Spec.enter Try.func9 rfl fun Γ => ?_)
  simp only [Try.ntmps9, List.map_cons, List.map_nil, List.length_cons, List.length_nil, Nat.reduceAdd, Nat.reduceSub, List.replicate_succ, List.replicate_zero, List.cons_append, List.nil_append]
  first | refine Gx.a (by kernel_rfl) fun K hK => ?_ | refine Gx.b (by kernel_rfl) fun K hK => ?_ | refine Gx.c (by kernel_rfl) fun K hK => ?_
  simp only [XM, XA, XB, gateX, Nat.reduceAdd, Nat.reduceLeDiff, Nat.reduceSub, Nat.reduceMul, ↓reduceIte, Int.reduceToNat, Int.reduceLE, beq_self_eq_true]
  refine hK _ ?_
  first | refine Gx.a (by kernel_rfl) fun K hK => ?_ | refine Gx.b (by kernel_rfl) fun K hK => ?_ | refine Gx.c (by kernel_rfl) fun K hK => ?_
  simp only [XM, XA, XB, gateX, Nat.reduceAdd, Nat.reduceLeDiff, Nat.reduceSub, Nat.reduceMul, ↓reduceIte, Int.reduceToNat, Int.reduceLE, beq_self_eq_true]
  refine call_go (by kernel_rfl) rfl (chained_c _ _ _ _ r1 c1 r2 c2 L01 L02 S0 h1 h2 hv) fun v1 V1 hV1 g1 => ?_
  obtain ⟨w1, w2, u, rfl, k1, k2, k3⟩ := g1
  clear h1 h2 hv
  have fL1 := fewL_few L01 100
  have lL1 := fewL_len L01 100
  have fL2 := fewL_few L02 100
  have lL2 := fewL_len L02 100
  have fS := fewL_few S0 20
  have lS := fewL_len S0 20
  generalize fewL L01 100 = L1 at *
  generalize fewL L02 100 = L2 at *
  generalize fewL S0 20 = S at *
  obtain ⟨B1, d1, rfl, _, _⟩ := k1.form
  obtain ⟨B2, d2, rfl, _, _⟩ := k2.form
  have aL1 : CB 9600 (qs L1) := fewR_CBn fL1 (Raws.dig k1) lL1 9600 rfl
  have aL2 : CB 9600 (qs L2) := fewR_CBn fL2 (Raws.dig k2) lL2 9600 rfl
  have aS : CB 1920 (qs S) := fewR_CBn fS (Raws.dig k3) lS 1920 rfl
  simp only [XM, XA, XB, gateX, Nat.reduceAdd, Nat.reduceLeDiff, Nat.reduceSub, Nat.reduceMul, ↓reduceIte, Int.reduceToNat, Int.reduceLE, beq_self_eq_true]
  refine st_six shapeT_63 rfl rfl rfl ?_
  simp only [XM, XA, XB, gateX, Nat.reduceAdd, Nat.reduceLeDiff, Nat.reduceSub, Nat.reduceMul, ↓reduceIte, Int.reduceToNat, Int.reduceLE, beq_self_eq_true]
  refine hK _ ?_
  refine XWP.seq ?_
  by_cases hok : r1 ≤ 5 ∧ c2 ≤ 4
  rotate_left
  · have b1 : (decide (r1 ≤ 5) && decide (c2 ≤ 4)) = false := by
      rw [Bool.and_eq_false_iff, decide_eq_false_iff_not, decide_eq_false_iff_not]
      omega
    rw [b1]
    first | refine Gx.a (by kernel_rfl) fun K hK => ?_ | refine Gx.b (by kernel_rfl) fun K hK => ?_ | refine Gx.c (by kernel_rfl) fun K hK => ?_
    simp only [XM, XA, XB, gateX, Nat.reduceAdd, Nat.reduceLeDiff, Nat.reduceSub, Nat.reduceMul, ↓reduceIte, Int.reduceToNat, Int.reduceLE, beq_self_eq_true]
    refine hK _ ?_
    first | refine Gx.t rfl ?_ | refine XWP.seq (Gx.t rfl ?_)
    first | refine Gx.a (by kernel_rfl) fun K hK => ?_ | refine Gx.b (by kernel_rfl) fun K hK => ?_ | refine Gx.c (by kernel_rfl) fun K hK => ?_
    simp only [XM, XA, XB, gateX, Nat.reduceAdd, Nat.reduceLeDiff, Nat.reduceSub, Nat.reduceMul, ↓reduceIte, Int.reduceToNat, Int.reduceLE, beq_self_eq_true]
    refine call_go (by kernel_rfl) rfl (alive_c _) fun v2 V2 hV2 g2 => ?_
    subst g2
    simp only [XM, XA, XB, gateX, Nat.reduceAdd, Nat.reduceLeDiff, Nat.reduceSub, Nat.reduceMul, ↓reduceIte, Int.reduceToNat, Int.reduceLE, beq_self_eq_true]
    refine hK _ (XWP.ret ?_)
    try simp only [thenX_ret, inBlockX_ret]
    refine ret_go _ rfl ?_
    rfl
  have b1 : (decide (r1 ≤ 5) && decide (c2 ≤ 4)) = true := by rw [decide_eq_true hok.1, decide_eq_true hok.2]; rfl
  rw [b1]
  first | refine Gx.a (by kernel_rfl) fun K hK => ?_ | refine Gx.b (by kernel_rfl) fun K hK => ?_ | refine Gx.c (by kernel_rfl) fun K hK => ?_
  simp only [XM, XA, XB, gateX, Nat.reduceAdd, Nat.reduceLeDiff, Nat.reduceSub, Nat.reduceMul, ↓reduceIte, Int.reduceToNat, Int.reduceLE, beq_self_eq_true]
  refine hK _ ?_
  first | refine Gx.f rfl ?_ | refine XWP.seq (Gx.f rfl ?_)
  refine XWP.skip ?_
  refine XWP.cut (fun s => ∃ (M : Int), StIs (fun Z => [Z 0, .v u, .v (.int .i64 x), .v (.int .i64 M), .p 0 0, Z 5,Z 6,Z 7,Z 8,Z 9,Z 10,Z 11,Z 12,Z 13,Z 14,Z 15,Z 16,Z 17,Z 18,Z 19,Z 20,Z 21,Z 22,Z 23,Z 24,Z 25,Z 26,Z 27,Z 28,Z 29,Z 30,Z 31,Z 32,Z 33,Z 34,Z 35,Z 36,Z 37,Z 38,Z 39,Z 40,Z 41,Z 42,Z 43,Z 44,Z 45,Z 46,Z 47,Z 48,Z 49,Z 50,Z 51,Z 52,Z 53,Z 54,Z 55,Z 56,Z 57,Z 58,Z 59]) [[.int .i64 r1, .int .i64 c1, .slice B1 L1.length d1, .int .i64 r2, .int .i64 c2, .slice B2 L2.length d2]] (fun _ => none) V1 s ∧ (M ≤ 14 ∨ 400 < M)) ?_ ?_
  · by_cases h8 : 14 < N
    · have b1 : decide (14 < N) = true := decide_eq_true h8
      by_cases h4 : N ≤ 400
      · have b2 : decide (N ≤ 400) = true := decide_eq_true h4
        first | refine Gx.a (by kernel_rfl) fun K hK => ?_ | refine Gx.b (by kernel_rfl) fun K hK => ?_ | refine Gx.c (by kernel_rfl) fun K hK => ?_
        simp only [XM, XA, XB, gateX, Nat.reduceAdd, Nat.reduceLeDiff, Nat.reduceSub, Nat.reduceMul, ↓reduceIte, Int.reduceToNat, Int.reduceLE, beq_self_eq_true, b1, b2]
        refine hK _ ?_
        first | refine Gx.t rfl ?_ | refine XWP.seq (Gx.t rfl ?_)
        first | refine Gx.a (by kernel_rfl) fun K hK => ?_ | refine Gx.b (by kernel_rfl) fun K hK => ?_ | refine Gx.c (by kernel_rfl) fun K hK => ?_
        simp only [XM, XA, XB, gateX, Nat.reduceAdd, Nat.reduceLeDiff, Nat.reduceSub, Nat.reduceMul, ↓reduceIte, Int.reduceToNat, Int.reduceLE, beq_self_eq_true, bin_rem _ _ N 14 (by decide)]
        have := Int.tmod_lt_of_pos N (show (0 : Int) < 14 by omega)
        exact hK _ ⟨_, StIs.of (by exact rfl), by omega⟩
      · have b2 : decide (N ≤ 400) = false := decide_eq_false h4
        first | refine Gx.a (by kernel_rfl) fun K hK => ?_ | refine Gx.b (by kernel_rfl) fun K hK => ?_ | refine Gx.c (by kernel_rfl) fun K hK => ?_
        simp only [XM, XA, XB, gateX, Nat.reduceAdd, Nat.reduceLeDiff, Nat.reduceSub, Nat.reduceMul, ↓reduceIte, Int.reduceToNat, Int.reduceLE, beq_self_eq_true, b1, b2]
        refine hK _ ?_
        first | refine Gx.f rfl ?_ | refine XWP.seq (Gx.f rfl ?_)
        refine XWP.skip ?_
        exact ⟨_, StIs.of (by exact rfl), by omega⟩
    · have b1 : decide (14 < N) = false := decide_eq_false h8
      first | refine Gx.a (by kernel_rfl) fun K hK => ?_ | refine Gx.b (by kernel_rfl) fun K hK => ?_ | refine Gx.c (by kernel_rfl) fun K hK => ?_
      simp only [XM, XA, XB, gateX, Nat.reduceAdd, Nat.reduceLeDiff, Nat.reduceSub, Nat.reduceMul, ↓reduceIte, Int.reduceToNat, Int.reduceLE, beq_self_eq_true, b1]
      refine hK _ ?_
      first | refine Gx.f rfl ?_ | refine XWP.seq (Gx.f rfl ?_)
      refine XWP.skip ?_
      exact ⟨_, StIs.of (by exact rfl), by omega⟩
  rintro s ⟨M, hs, hM⟩
  obtain ⟨z, rfl⟩ := hs.out
  try dsimp only
  clear hs
  have hst := fun he => (step_fit (c1 := c1) (r1 := r1) (r2 := r2) (c2 := c2) (L2 := L2) (x := x) he hM aL1 aS).1
  have qE := endsR_QF (r1 := r1) (c1 := c1) (r2 := r2) (c2 := c2) (x := x) hM aL1 aL2 aS
  first | refine Gx.a (by kernel_rfl) fun K hK => ?_ | refine Gx.b (by kernel_rfl) fun K hK => ?_ | refine Gx.c (by kernel_rfl) fun K hK => ?_
  simp only [XM, XA, XB, gateX, Nat.reduceAdd, Nat.reduceLeDiff, Nat.reduceSub, Nat.reduceMul, ↓reduceIte, Int.reduceToNat, Int.reduceLE, beq_self_eq_true]
  refine call_go (by kernel_rfl) rfl (cends_c _ _ _ _ r1 c1 r2 c2 L1 L2 S x M k1 k2 k3 fL1.fit fL2.fit fS.fit (by omega) (by omega) (by omega) 9600 9600 137160 (fun _ => aL1) (fun _ => aL2) hst (by omega)) fun v5 V5 hV5 g5 => ?_
  have g5' : ∃ w, v5 = .tuple #[w, .int .i64 (endsE r1 c1 L1 r2 c2 L2 S x M)] ∧ Rats V5 w (endsR r1 c1 L1 r2 c2 L2 S x M) := by
    unfold endsR
    by_cases he : endsE r1 c1 L1 r2 c2 L2 S x M = 0
    · rw [if_pos he, he]; exact g5.2 he
    · rw [if_neg he]; exact ⟨_, g5.1 he, SlAt.nil _⟩
  obtain ⟨we, rfl, h5⟩ := g5'
  simp only [XM, XA, XB, gateX, Nat.reduceAdd, Nat.reduceLeDiff, Nat.reduceSub, Nat.reduceMul, ↓reduceIte, Int.reduceToNat, Int.reduceLE, beq_self_eq_true]
  refine hK _ ?_
  first | refine Gx.a (by kernel_rfl) fun K hK => ?_ | refine Gx.b (by kernel_rfl) fun K hK => ?_ | refine Gx.c (by kernel_rfl) fun K hK => ?_
  simp only [XM, XA, XB, gateX, Nat.reduceAdd, Nat.reduceLeDiff, Nat.reduceSub, Nat.reduceMul, ↓reduceIte, Int.reduceToNat, Int.reduceLE, beq_self_eq_true]
  refine call_go (by kernel_rfl) rfl (of_c' _ _ _ r1 c1 r2 c2 rfl rfl) fun v6 V6 hV6 g6 => ?_
  subst g6
  have hV6' := View.le_trans hV5 hV6
  simp only [XM, XA, XB, gateX, Nat.reduceAdd, Nat.reduceLeDiff, Nat.reduceSub, Nat.reduceMul, ↓reduceIte, Int.reduceToNat, Int.reduceLE, beq_self_eq_true]
  refine call_go (by kernel_rfl) rfl (dends_c _ _ _ _ r1 c1 r2 c2 L1 L2 S x M (k1.up hV6') (k2.up hV6') (k3.up hV6') fL1.fit fL2.fit fS.fit (fewR_qf fS (Raws.dig k3)) (by omega) (by omega) (by omega) 9600 9600 137160 (fun _ => aL1) (fun _ => aL2) hst (by omega)) fun v7 V7 hV7 g7 => ?_
  have g7' : ∃ w, v7 = .tuple #[w, .int .i64 (endsE r1 c1 L1 r2 c2 L2 S x M)] ∧ Rats V7 w (endsR r1 c1 L1 r2 c2 L2 S x M) := by
    unfold endsR
    by_cases he : endsE r1 c1 L1 r2 c2 L2 S x M = 0
    · rw [if_pos he, he]; exact g7.2 he
    · rw [if_neg he]; exact ⟨_, g7.1 he, SlAt.nil _⟩
  obtain ⟨wf, rfl, h7⟩ := g7'
  simp only [XM, XA, XB, gateX, Nat.reduceAdd, Nat.reduceLeDiff, Nat.reduceSub, Nat.reduceMul, ↓reduceIte, Int.reduceToNat, Int.reduceLE, beq_self_eq_true]
  refine hK _ ?_
  first | refine Gx.a (by kernel_rfl) fun K hK => ?_ | refine Gx.b (by kernel_rfl) fun K hK => ?_ | refine Gx.c (by kernel_rfl) fun K hK => ?_
  simp only [XM, XA, XB, gateX, Nat.reduceAdd, Nat.reduceLeDiff, Nat.reduceSub, Nat.reduceMul, ↓reduceIte, Int.reduceToNat, Int.reduceLE, beq_self_eq_true, decide_true]
  refine call_go (by kernel_rfl) rfl (lsame_c _ _ _ _ _ ((h5.up hV6).up hV7) h7 qE qE) fun v8 V8 hV8 g8 => ?_
  subst g8
  simp only [XM, XA, XB, gateX, Nat.reduceAdd, Nat.reduceLeDiff, Nat.reduceSub, Nat.reduceMul, ↓reduceIte, Int.reduceToNat, Int.reduceLE, beq_self_eq_true, decide_true]
  refine call_go (by kernel_rfl) rfl (alive_c _) fun v9 V9 hV9 g9 => ?_
  subst g9
  simp only [XM, XA, XB, gateX, Nat.reduceAdd, Nat.reduceLeDiff, Nat.reduceSub, Nat.reduceMul, ↓reduceIte, Int.reduceToNat, Int.reduceLE, beq_self_eq_true]
  refine hK _ (XWP.ret ?_)
  try simp only [thenX_ret, inBlockX_ret]
  refine ret_go _ rfl ?_
  rfl
end Go.Proofs.Ythoboehbadmlmaa
end
section
namespace Go.Proofs.Ythoboehbadmlmaa.recurEnds
open Go.ChangeShapes Go.WideShapes Go.ChangeAt Go.RowKit
set_option linter.unusedVariables false
theorem own : ownKnob Try.prog.godebug = none := by kernel_rfl
theorem laidOut : laidOutB Try.prog = true := by kernel_rfl
set_option maxRecDepth 100000 in
theorem lifted (os : Os) (started : os.Started) (H : Type) (enc : TypeId × Value → H) :
    ReturnsInHanded {} Try.checked os 9 .any (Rows.recurEndsSpec.pre6 enc Try.prog Try.f9 Rows.recurEndsRow.domain false) (Rows.recurEndsSpec.post enc Try.prog Try.f9 false true false false) := by
  refine returnsInHanded_of_change_sized (C := Try.checked) own started (by kernel_rfl) Try.func9
    (ChangeSpec.witness6 (enc := enc) (C := Try.checked) false ⟨#[], #[.agg #[.int .i64 0, .int .i64 0, .slice none 0 0, .int .i64 0, .int .i64 0, .slice none 0 0], .slice none 0 0, .int .i64 0, .int .i64 0], []⟩ 8 (by kernel_rfl) (by kernel_rfl) (by kernel_rfl) (by kernel_rfl)) ?_
  intro W base args ds gs before hval0 hW hcnd hsz0 _
  have hval : ∀ (j : Nat) t v, Try.f9.params[j]? = some t → args[j]? = some v → Value.okWide Try.prog W .any base t v := hval0
  have hW' := hW
  obtain ⟨p, q, hA0, hV, rfl, hfz, hnd⟩ := hW
  have hA : DataW.TrodAll enc Try.prog W 0 (fun _ => true) true Try.f9.params.toList args.toList ds p := hA0
  rw [Try.params9] at hA hval
  obtain ⟨v0, vs0, d0, ds0, p0, q0, hargs, rfl, rfl, h0, r0⟩ := trodAll_cons hA
  obtain ⟨v1, vs1, d1, ds1, p1, q1, rfl, rfl, rfl, h1, r1⟩ := trodAll_cons r0
  obtain ⟨v2, vs2, d2, ds2, p2, q2, rfl, rfl, rfl, h2, r2⟩ := trodAll_cons r1
  obtain ⟨v3, vs3, d3, ds3, p3, q3, rfl, rfl, rfl, h3, r3⟩ := trodAll_cons r2
  obtain ⟨rfl, rfl, rfl⟩ := trodAll_nil r3
  obtain rfl : args = #[v0, v1, v2, v3] := by cases args; simp_all
  obtain ⟨rfl, rfl⟩ := trodVars_none hV
  obtain ⟨c0, rfl, _⟩ := okWide_struct und_chn (hval 0 63 v0 rfl rfl)
  have k0 := h0
  have lt0 : ∀ x ∈ p0, x.block < W.heap.size := by obtain ⟨m, hm⟩ := k0; exact DataW.trod_lt m _ _ _ hm
  obtain ⟨fuel0, hf0⟩ := h0
  obtain ⟨ra, ca, sa, La, rb, cb, sb, Lb, j0, ha0, hb0⟩ := open_chain hf0
  obtain rfl : c0 = #[.int .i64 ra, .int .i64 ca, sa, .int .i64 rb, .int .i64 cb, sb] := by cases c0; simpa [Value.cells] using j0
  obtain ⟨a1, len1, cap1, rfl⟩ := okWide_slice (und_elem (P := Try.prog) (e := 34) (by kernel_rfl)) (hval 1 22 v1 rfl rfl)
  have k1 := h1
  have lt1 : ∀ x ∈ p1, x.block < W.heap.size := by obtain ⟨m, hm⟩ := k1; exact DataW.trod_lt m _ _ _ hm
  obtain ⟨fuel1, hf1⟩ := h1
  obtain ⟨L1, hL1⟩ := open_raws (by kernel_rfl) hf1
  obtain ⟨a2, rfl, rfl, rfl, w2⟩ := open_int (k := .i64) (by kernel_rfl) (hval 2 3 v2 rfl rfl) h2
  obtain ⟨a3, rfl, rfl, rfl, w3⟩ := open_int (k := .i64) (by kernel_rfl) (hval 3 3 v3 rfl rfl) h3
  clear hA0 hval0 hsz0
  refine (ends_c (viewW W) _ _ _ ra ca rb cb La Lb L1 a2 a3 ha0 hb0 hL1 W (viewW_sub W)).mono fun e W' ⟨v, V', he, _, _, _, bel, hv⟩ => ?_
  subst hv
  subst he
  exact ⟨_, rfl, _, _, _, [], _, [], hW', trodAll_mk1 (shut_bool Try.underlying4 _), (trodAll_cons_mk (Below.trod laidOut (by kernel_rfl) (of_decide_eq_true (by kernel_rfl)) k0 bel lt0) (trodAll_cons_mk (Below.trod laidOut (by kernel_rfl) (of_decide_eq_true (by kernel_rfl)) k1 bel lt1) (trodAll_cons_mk (shut_int (k := .i64) (by kernel_rfl) w2) (trodAll_cons_mk (shut_int (k := .i64) (by kernel_rfl) w3) trodAll_mk0)))), rfl, bel.frame _, fun h => by cases h⟩
theorem over : Rows.recurEndsRow.holds Try.pinned (OpenSpec.ofChange Rows.recurEndsSpec) :=
  OpenClaim.holds_of_wide 9 Try.f9 rfl rfl rfl rfl rfl rfl rfl ⟨rfl, rfl, rfl, rfl, rfl⟩ rfl rfl rfl rfl rfl (by kernel_rfl) Try.func9 (by kernel_rfl)
    (of_decide_eq_true (by kernel_rfl)) (by unfold Func.isWrapper; first | (rw [if_pos (by decide +kernel)]; kernel_rfl) | (rw [if_neg (by decide +kernel)]; exact ⟨rfl, rfl⟩))
    (fun os started H enc _ => lifted os started H enc)
theorem proved : Rows.RecurEndsSaid := over
#print axioms proved
end Go.Proofs.Ythoboehbadmlmaa.recurEnds
namespace Go.Proofs.Ythoboehbadmlmaa
/-- The row, under a short name, for the claim. -/
theorem recurEnds_holds : Rows.RecurEndsSaid := recurEnds.proved
end Go.Proofs.Ythoboehbadmlmaa
end
