/- The law RecurLong of the program answers true at every input. (part 11 of 12) -/
import Derived.OrdersHeld
import Derived.Below
import Derived.Tactics
import Derived.KernelRfl
import Derived.RangeFuncCalls
import Derived.RangeFuncFrom
import Derived.RangeFuncLeaves
import Derived.OrdersIn
import Derived.Laws.AppendOwn
import Derived.Laws.MakeOwn
import Derived.Laws.CopyRow
import Derived.Laws.Cells
import Derived.Laws.World
import Derived.Laws.Alloc2
import Derived.Laws.NewBlocks
import Derived.Maps.AppendAt
import Derived.Test.YthoboehbadmlmaaProg
import Init.Data.List.Lemmas
import Init.Omega
import Derived.WalkKit
import Derived.ProofKit
import Derived.OpenShut
import Derived.ChangeOld
import Derived.SizedLaws
import Derived.ChangeSlices
import Derived.ChangeArms
import Derived.Deep.Slices
import Derived.Test.YthoboehbadmlmaaLO10
section
namespace Go.Proofs.Ythoboehbadmlmaa
open Go Go.RowKit
set_option linter.unusedSimpArgs false
set_option linter.unusedVariables false
attribute [local irreducible] XWP Spec SpecO XPub XCall seqX clX apX stX ldX iaX slX
def endsE (r1 c1 : Int) (L1 : List Raw) (r2 c2 : Int) (L2 S : List Raw) (x N : Int) : Int :=
  if chB r1 c1 L1 r2 c2 L2 = false ∨ wtB r1 S = false ∨ x < 0 ∨ c2 ≤ x ∨ N < 0 then 1 else if 400 < N then 2 else 0
theorem endsE_zero {r1 c1 r2 c2 : Int} {L1 L2 S : List Raw} {x N : Int} (h : endsE r1 c1 L1 r2 c2 L2 S x N = 0) : chB r1 c1 L1 r2 c2 L2 = true ∧ wtB r1 S = true ∧ 0 ≤ x ∧ x < c2 ∧ 0 ≤ N ∧ N ≤ 400 := by
  unfold endsE at h
  split at h
  · cases h
  · rename_i h1
    split at h
    · cases h
    · refine ⟨?_, ?_, by omega, by omega, by omega, by omega⟩
      · cases hk : chB r1 c1 L1 r2 c2 L2
        · exact absurd (.inl hk) h1
        · rfl
      · cases hk : wtB r1 S
        · exact absurd (.inr (.inl hk)) h1
        · rfl
theorem wtB_parts {n : Nat} {S : List Raw} (h : wtB n S = true) : (qs S).length = n ∧ okR S = true ∧ ∀ j, j < n → 0 ≤ cf (qs S) j := by
  unfold wtB at h
  rw [Bool.and_eq_true, decide_eq_true_eq] at h
  obtain ⟨h1, h2⟩ := wtsR_ok h.2
  exact ⟨by rw [qs_len]; omega, h1, fun j hj => (ng_iff _).1 (h2 j (by omega))⟩
theorem wtB_raw {n : Nat} {l : List Rat} (h : l.length = n) (hn : ∀ j, j < n → 0 ≤ cf l j) : wtB n (l.map toRaw) = true := by
  unfold wtB wtsR
  rw [List.length_map, decide_eq_true (by omega), Bool.true_and, List.all_eq_true]
  intro r hr
  obtain ⟨y, hy, rfl⟩ := List.mem_map.1 hr
  obtain ⟨i, hi, rfl⟩ := List.mem_iff_getElem.1 hy
  unfold wtR
  rw [toRaw_ok, toRaw_q, cf_get hi, (ng_iff _).2 (hn i (by omega))]; rfl
theorem cends_c (V : View) (s1 s2 v : Value) (r1 c1 r2 c2 : Int) (L1 L2 S : List Raw) (x N : Int) (h1 : Raws V s1 L1) (h2 : Raws V s2 L2) (hv : Raws V v S) (f1 : fitR L1) (f2 : fitR L2) (f3 : fitR S) (l1 : L1.length ≤ 1000000) (l2 : L2.length ≤ 1000000) (l3 : S.length ≤ 1000000) (A B M : Nat)
    (hA : okR L1 = true → CB A (qs L1)) (hB : okR L2 = true → CB B (qs L2)) (hS : endsE r1 c1 L1 r2 c2 L2 S x N = 0 → ∀ k, k ≤ N.toNat → CB M (stepv (qs S) (qs L1) r1.toNat k)) (hfit : 2 * (A + B) + M + 400 ≤ 17592186044416) :
    Spec Try.prog 39 [.agg #[.int .i64 r1, .int .i64 c1, s1, .int .i64 r2, .int .i64 c2, s2], v, .int .i64 x, .int .i64 N] V fun v' V' => (endsE r1 c1 L1 r2 c2 L2 S x N ≠ 0 → v' = .tuple #[.slice none 0 0, .int .i64 (endsE r1 c1 L1 r2 c2 L2 S x N)]) ∧ (endsE r1 c1 L1 r2 c2 L2 S x N = 0 → ∃ w, v' = .tuple #[w, .int .i64 0] ∧ Rats V' w (endsL (qs S) (qs L1) (qs L2) r1.toNat c2.toNat x.toNat N.toNat)) := by
  obtain ⟨A1, q1, rfl, _, _⟩ := h1.form
  obtain ⟨A2, q2, rfl, _, _⟩ := h2.form
  obtain ⟨A3, q3, rfl, _, _⟩ := hv.form
  refine (Spec.enter Try.func39 rfl fun Γ => ?_)
  simp only [Try.ntmps39, List.map_cons, List.map_nil, List.length_cons, List.length_nil, Nat.reduceAdd, Nat.reduceSub, List.replicate_succ, List.replicate_zero, List.cons_append, List.nil_append]
  first | refine Gx.a (by kernel_rfl) fun K hK => ?_ | refine Gx.b (by kernel_rfl) fun K hK => ?_ | refine Gx.c (by kernel_rfl) fun K hK => ?_
  simp only [XM, XA, XB, gateX, Nat.reduceAdd, Nat.reduceLeDiff, Nat.reduceSub, Nat.reduceMul, ↓reduceIte, Int.reduceToNat, Int.reduceLE, beq_self_eq_true]
  refine hK _ ?_
  refine XWP.cut (fun s => ∃ (V1 : View), StIs (fun Z => [Z 0, .v (.slice A3 S.length q3), .v (.int .i64 x), .v (.int .i64 N), .p 0 0, Z 5,Z 6,Z 7,Z 8,Z 9,Z 10,Z 11,Z 12,Z 13,Z 14,Z 15,Z 16,Z 17,Z 18,Z 19,Z 20,Z 21,Z 22,Z 23,Z 24,Z 25,Z 26,Z 27,Z 28,Z 29,Z 30,Z 31,Z 32,Z 33,Z 34,Z 35,Z 36,Z 37,Z 38,Z 39,Z 40,Z 41,Z 42,Z 43,Z 44,Z 45,Z 46,Z 47,Z 48,Z 49,Z 50,Z 51,Z 52,Z 53,Z 54,Z 55,Z 56,Z 57,Z 58,Z 59,Z 60,Z 61,Z 62,Z 63,Z 64]) [[.int .i64 r1, .int .i64 c1, .slice A1 L1.length q1, .int .i64 r2, .int .i64 c2, .slice A2 L2.length q2]] (fun _ => none) V1 s ∧ V.le V1 ∧ endsE r1 c1 L1 r2 c2 L2 S x N = 0) ?_ ?_
  · first | refine XWP.block ?_ | refine XWP.seq (XWP.block ?_)
    refine XWP.seq ?_
    first | refine Gx.a (by kernel_rfl) fun K hK => ?_ | refine Gx.b (by kernel_rfl) fun K hK => ?_ | refine Gx.c (by kernel_rfl) fun K hK => ?_
    simp only [XM, XA, XB, gateX, Nat.reduceAdd, Nat.reduceLeDiff, Nat.reduceSub, Nat.reduceMul, ↓reduceIte, Int.reduceToNat, Int.reduceLE, beq_self_eq_true]
    refine call_go (by kernel_rfl) rfl (cchright_c _ _ _ r1 c1 r2 c2 L1 L2 h1 h2 f1 f2 l1 l2 A B hA hB (by omega)) fun v1 V1 hV1 g1 => ?_
    subst g1
    by_cases g0 : chB r1 c1 L1 r2 c2 L2 = false ∨ wtB r1 S = false ∨ x < 0 ∨ c2 ≤ x ∨ N < 0
    · have eE : endsE r1 c1 L1 r2 c2 L2 S x N = 1 := by unfold endsE; rw [if_pos g0]
      cases e1 : chB r1 c1 L1 r2 c2 L2
      · simp only [XM, XA, XB, gateX, Nat.reduceAdd, Nat.reduceLeDiff, Nat.reduceSub, Nat.reduceMul, ↓reduceIte, Int.reduceToNat, Int.reduceLE, beq_self_eq_true]
        refine hK _ ?_
        first | refine Gx.t rfl ?_ | refine XWP.seq (Gx.t rfl ?_)
        first | refine Gx.a (by kernel_rfl) fun K hK => ?_ | refine Gx.b (by kernel_rfl) fun K hK => ?_ | refine Gx.c (by kernel_rfl) fun K hK => ?_
        simp only [XM, XA, XB, gateX, Nat.reduceAdd, Nat.reduceLeDiff, Nat.reduceSub, Nat.reduceMul, ↓reduceIte, Int.reduceToNat, Int.reduceLE, beq_self_eq_true]
        refine hK _ (XWP.ret ?_)
        try simp only [thenX_ret, inBlockX_ret]
        refine ret_go _ rfl ?_
        exact ⟨fun _ => by rw [eE]; rfl, fun h => by rw [eE] at h; cases h⟩
      simp only [XM, XA, XB, gateX, Nat.reduceAdd, Nat.reduceLeDiff, Nat.reduceSub, Nat.reduceMul, ↓reduceIte, Int.reduceToNat, Int.reduceLE, beq_self_eq_true]
      refine call_go (by kernel_rfl) rfl (cweights_c _ _ _ _ r1 c1 r2 c2 S rfl rfl (hv.up hV1) f3 l3) fun v2 V2 hV2 g2 => ?_
      subst g2
      cases e2 : wtB r1 S
      · simp only [XM, XA, XB, gateX, Nat.reduceAdd, Nat.reduceLeDiff, Nat.reduceSub, Nat.reduceMul, ↓reduceIte, Int.reduceToNat, Int.reduceLE, beq_self_eq_true]
        refine hK _ ?_
        first | refine Gx.t rfl ?_ | refine XWP.seq (Gx.t rfl ?_)
        first | refine Gx.a (by kernel_rfl) fun K hK => ?_ | refine Gx.b (by kernel_rfl) fun K hK => ?_ | refine Gx.c (by kernel_rfl) fun K hK => ?_
        simp only [XM, XA, XB, gateX, Nat.reduceAdd, Nat.reduceLeDiff, Nat.reduceSub, Nat.reduceMul, ↓reduceIte, Int.reduceToNat, Int.reduceLE, beq_self_eq_true]
        refine hK _ (XWP.ret ?_)
        try simp only [thenX_ret, inBlockX_ret]
        refine ret_go _ rfl ?_
        exact ⟨fun _ => by rw [eE]; rfl, fun h => by rw [eE] at h; cases h⟩
      by_cases d1 : x < 0
      · have b1 : decide (x < 0) = true := decide_eq_true d1
        simp only [XM, XA, XB, gateX, Nat.reduceAdd, Nat.reduceLeDiff, Nat.reduceSub, Nat.reduceMul, ↓reduceIte, Int.reduceToNat, Int.reduceLE, beq_self_eq_true, b1]
        refine hK _ ?_
        first | refine Gx.t rfl ?_ | refine XWP.seq (Gx.t rfl ?_)
        first | refine Gx.a (by kernel_rfl) fun K hK => ?_ | refine Gx.b (by kernel_rfl) fun K hK => ?_ | refine Gx.c (by kernel_rfl) fun K hK => ?_
        simp only [XM, XA, XB, gateX, Nat.reduceAdd, Nat.reduceLeDiff, Nat.reduceSub, Nat.reduceMul, ↓reduceIte, Int.reduceToNat, Int.reduceLE, beq_self_eq_true]
        refine hK _ (XWP.ret ?_)
        try simp only [thenX_ret, inBlockX_ret]
        refine ret_go _ rfl ?_
        exact ⟨fun _ => by rw [eE]; rfl, fun h => by rw [eE] at h; cases h⟩
      have b1 : decide (x < 0) = false := decide_eq_false d1
      by_cases d2 : c2 ≤ x
      · have b2 : decide (c2 ≤ x) = true := decide_eq_true d2
        simp only [XM, XA, XB, gateX, Nat.reduceAdd, Nat.reduceLeDiff, Nat.reduceSub, Nat.reduceMul, ↓reduceIte, Int.reduceToNat, Int.reduceLE, beq_self_eq_true, b1, b2]
        refine hK _ ?_
        first | refine Gx.t rfl ?_ | refine XWP.seq (Gx.t rfl ?_)
        first | refine Gx.a (by kernel_rfl) fun K hK => ?_ | refine Gx.b (by kernel_rfl) fun K hK => ?_ | refine Gx.c (by kernel_rfl) fun K hK => ?_
        simp only [XM, XA, XB, gateX, Nat.reduceAdd, Nat.reduceLeDiff, Nat.reduceSub, Nat.reduceMul, ↓reduceIte, Int.reduceToNat, Int.reduceLE, beq_self_eq_true]
        refine hK _ (XWP.ret ?_)
        try simp only [thenX_ret, inBlockX_ret]
        refine ret_go _ rfl ?_
        exact ⟨fun _ => by rw [eE]; rfl, fun h => by rw [eE] at h; cases h⟩
      have b2 : decide (c2 ≤ x) = false := decide_eq_false d2
      have b3 : decide (N < 0) = true := decide_eq_true (by rcases g0 with h | h | h | h | h; · rw [e1] at h; cases h
                                                            · rw [e2] at h; cases h
                                                            · exact absurd h d1
                                                            · exact absurd h d2
                                                            · exact h)
      simp only [XM, XA, XB, gateX, Nat.reduceAdd, Nat.reduceLeDiff, Nat.reduceSub, Nat.reduceMul, ↓reduceIte, Int.reduceToNat, Int.reduceLE, beq_self_eq_true, b1, b2, b3]
      refine hK _ ?_
      first | refine Gx.t rfl ?_ | refine XWP.seq (Gx.t rfl ?_)
      first | refine Gx.a (by kernel_rfl) fun K hK => ?_ | refine Gx.b (by kernel_rfl) fun K hK => ?_ | refine Gx.c (by kernel_rfl) fun K hK => ?_
      simp only [XM, XA, XB, gateX, Nat.reduceAdd, Nat.reduceLeDiff, Nat.reduceSub, Nat.reduceMul, ↓reduceIte, Int.reduceToNat, Int.reduceLE, beq_self_eq_true]
      refine hK _ (XWP.ret ?_)
      try simp only [thenX_ret, inBlockX_ret]
      refine ret_go _ rfl ?_
      exact ⟨fun _ => by rw [eE]; rfl, fun h => by rw [eE] at h; cases h⟩
    have e1 : chB r1 c1 L1 r2 c2 L2 = true := by
      cases hk : chB r1 c1 L1 r2 c2 L2
      · exact absurd (.inl hk) g0
      · rfl
    have e2 : wtB r1 S = true := by
      cases hk : wtB r1 S
      · exact absurd (.inr (.inl hk)) g0
      · rfl
    have b1 : decide (x < 0) = false := decide_eq_false (by omega)
    have b2 : decide (c2 ≤ x) = false := decide_eq_false (by omega)
    have b3 : decide (N < 0) = false := decide_eq_false (by omega)
    rw [e1]
    simp only [XM, XA, XB, gateX, Nat.reduceAdd, Nat.reduceLeDiff, Nat.reduceSub, Nat.reduceMul, ↓reduceIte, Int.reduceToNat, Int.reduceLE, beq_self_eq_true]
    refine call_go (by kernel_rfl) rfl (cweights_c _ _ _ _ r1 c1 r2 c2 S rfl rfl (hv.up hV1) f3 l3) fun v2 V2 hV2 g2 => ?_
    subst g2
    rw [e2]
    simp only [XM, XA, XB, gateX, Nat.reduceAdd, Nat.reduceLeDiff, Nat.reduceSub, Nat.reduceMul, ↓reduceIte, Int.reduceToNat, Int.reduceLE, beq_self_eq_true, b1, b2, b3]
    refine hK _ ?_
    first | refine Gx.f rfl ?_ | refine XWP.seq (Gx.f rfl ?_)
    by_cases g1 : 400 < N
    · have eE : endsE r1 c1 L1 r2 c2 L2 S x N = 2 := by unfold endsE; rw [if_neg g0, if_pos g1]
      have b4 : decide (400 < N) = true := decide_eq_true g1
      first | refine Gx.a (by kernel_rfl) fun K hK => ?_ | refine Gx.b (by kernel_rfl) fun K hK => ?_ | refine Gx.c (by kernel_rfl) fun K hK => ?_
      simp only [XM, XA, XB, gateX, Nat.reduceAdd, Nat.reduceLeDiff, Nat.reduceSub, Nat.reduceMul, ↓reduceIte, Int.reduceToNat, Int.reduceLE, beq_self_eq_true, b4]
      refine hK _ ?_
      first | refine Gx.t rfl ?_ | refine XWP.seq (Gx.t rfl ?_)
      first | refine Gx.a (by kernel_rfl) fun K hK => ?_ | refine Gx.b (by kernel_rfl) fun K hK => ?_ | refine Gx.c (by kernel_rfl) fun K hK => ?_
      simp only [XM, XA, XB, gateX, Nat.reduceAdd, Nat.reduceLeDiff, Nat.reduceSub, Nat.reduceMul, ↓reduceIte, Int.reduceToNat, Int.reduceLE, beq_self_eq_true]
      refine hK _ (XWP.ret ?_)
      try simp only [thenX_ret, inBlockX_ret]
      refine ret_go _ rfl ?_
      exact ⟨fun _ => by rw [eE]; rfl, fun h => by rw [eE] at h; cases h⟩
    have b4 : decide (400 < N) = false := decide_eq_false g1
    first | refine Gx.a (by kernel_rfl) fun K hK => ?_ | refine Gx.b (by kernel_rfl) fun K hK => ?_ | refine Gx.c (by kernel_rfl) fun K hK => ?_
    simp only [XM, XA, XB, gateX, Nat.reduceAdd, Nat.reduceLeDiff, Nat.reduceSub, Nat.reduceMul, ↓reduceIte, Int.reduceToNat, Int.reduceLE, beq_self_eq_true, b4]
    refine hK _ ?_
    first | refine Gx.f rfl ?_ | refine XWP.seq (Gx.f rfl ?_)
    refine XWP.skip ?_
    exact ⟨V2, StIs.of (by exact rfl), View.le_trans hV1 hV2, by unfold endsE; rw [if_neg g0, if_neg g1]⟩
  rintro s ⟨V1, hs, hV1, he⟩
  obtain ⟨z, rfl⟩ := hs.out
  try dsimp only
  clear hs
  obtain ⟨hC, hW, x0, x1, n0, n1⟩ := endsE_zero he
  have hst := hS he
  obtain ⟨n, m, rfl, rfl, rfl, rfl, hn, hm, k1, k2, o1, o2, hR⟩ := chB_inv hC
  obtain ⟨N, rfl⟩ : ∃ k : Nat, N = k := ⟨N.toNat, by omega⟩
  obtain ⟨x, rfl⟩ : ∃ k : Nat, x = k := ⟨x.toNat, by omega⟩
  obtain ⟨ea, o3, ha⟩ := wtB_parts hW
  obtain ⟨hpn, hqn⟩ := rowsB_nn hR
  have hA := hA o1
  have hB := hB o2
  simp only [Int.toNat_natCast] at hst ⊢
  have h1 := h1.up hV1
  have h2 := h2.up hV1
  have hv := hv.up hV1
  generalize endsE n n L1 n m L2 S x N = E at he ⊢
  first | refine Gx.a (by kernel_rfl) fun K hK => ?_ | refine Gx.b (by kernel_rfl) fun K hK => ?_ | refine Gx.c (by kernel_rfl) fun K hK => ?_
  refine bs_go (by kernel_rfl) #[] (by simp) (bs_zero elemT_22 zeroT_34) fun b hb1 hb2 => ?_
  simp only [XM, XA, XB, gateX, Nat.reduceAdd, Nat.reduceLeDiff, Nat.reduceSub, Nat.reduceMul, ↓reduceIte, Int.reduceToNat, Int.reduceLE, beq_self_eq_true]
  refine hK _ ?_
  first | refine Gx.a (by kernel_rfl) fun K hK => ?_ | refine Gx.b (by kernel_rfl) fun K hK => ?_ | refine Gx.c (by kernel_rfl) fun K hK => ?_
  simp only [XM, XA, XB, gateX, Nat.reduceAdd, Nat.reduceLeDiff, Nat.reduceSub, Nat.reduceMul, ↓reduceIte, Int.reduceToNat, Int.reduceLE, beq_self_eq_true]
  refine hK _ ?_
  refine XWP.cutD 1 (fun s => ∃ (V6 : View) (H6 : Heap) (w : Value) (cells : List Value), StIs (fun Z => [Z 0,Z 1,Z 2,Z 3,Z 4,Z 5,Z 6,Z 7,Z 8,Z 9, .v w, Z 11,Z 12,Z 13,Z 14,Z 15,Z 16,Z 17,Z 18,Z 19,Z 20,Z 21,Z 22,Z 23,Z 24,Z 25,Z 26,Z 27,Z 28,Z 29,Z 30,Z 31,Z 32,Z 33,Z 34,Z 35,Z 36,Z 37,Z 38,Z 39,Z 40,Z 41,Z 42,Z 43,Z 44,Z 45,Z 46,Z 47,Z 48,Z 49,Z 50,Z 51,Z 52,Z 53,Z 54,Z 55,Z 56,Z 57,Z 58,Z 59,Z 60,Z 61,Z 62,Z 63,Z 64]) [[.int .i64 (n : Int), .int .i64 (n : Int), .slice A1 L1.length q1, .int .i64 (n : Int), .int .i64 (m : Int), .slice A2 L2.length q2]] H6 V6 s ∧ Own H6 34 3 w N cells ∧ RowAt ratE V6 cells (endsL (qs S) (qs L1) (qs L2) n m x N)) ?_ ?_
  · first | refine Gx.a (by kernel_rfl) fun K hK => ?_ | refine Gx.b (by kernel_rfl) fun K hK => ?_ | refine Gx.c (by kernel_rfl) fun K hK => ?_
    simp only [XM, XA, XB, gateX, Nat.reduceAdd, Nat.reduceLeDiff, Nat.reduceSub, Nat.reduceMul, ↓reduceIte, Int.reduceToNat, Int.reduceLE, beq_self_eq_true]
    refine hK _ ?_
    clear hK
    first | refine XWP.block ?_ | refine XWP.seq (XWP.block ?_)
    refine XWP.loopD 1 (fun r s => ∃ (i : Nat) (V6 : View) (H6 : Heap) (w u : Value) (cells : List Value), StIs (fun Z => [Z 0, Z 1, .v (.int .i64 (x : Int)), Z 3, .p 0 0, Z 5,Z 6,Z 7,Z 8,Z 9, .v w, .v u, Z 12,Z 13,Z 14,Z 15,Z 16,Z 17,Z 18,Z 19,Z 20,Z 21,Z 22,Z 23,Z 24,Z 25,Z 26,Z 27,Z 28,Z 29,Z 30,Z 31,Z 32,Z 33,Z 34,Z 35,Z 36,Z 37,Z 38,Z 39,Z 40,Z 41,Z 42,Z 43,Z 44, .v (.int .i64 (N : Int)), .v (.int .i64 (i : Int)), Z 47,Z 48,Z 49,Z 50,Z 51,Z 52,Z 53,Z 54,Z 55,Z 56,Z 57,Z 58,Z 59,Z 60,Z 61,Z 62,Z 63,Z 64]) [[.int .i64 (n : Int), .int .i64 (n : Int), .slice A1 L1.length q1, .int .i64 (n : Int), .int .i64 (m : Int), .slice A2 L2.length q2]] H6 V6 s ∧ V1.le V6 ∧ r + i = N ∧ Rats V6 u (stepv (qs S) (qs L1) n i) ∧ Own H6 34 3 w i cells ∧ RowAt ratE V6 cells (endsL (qs S) (qs L1) (qs L2) n m x i)) N ⟨0, V1, _, _, _, [], StIs.of (by exact rfl), View.le_refl _, by omega, Raws.rats hv o3, own3 (by simp [upd]) rfl (Nat.le_refl _) (by omega), RowAt.nil _⟩ ?_
    rintro r s ⟨i, V6, H6, w, u, cells, hs, hV6, hr, hu, hown, hrow⟩
    obtain ⟨z, rfl⟩ := hs.out
    try dsimp only
    clear hs
    by_cases hi : i < N
    rotate_left
    · obtain rfl : i = N := by omega
      have b2 : decide ((i : Int) < (i : Int)) = false := decide_eq_false (by omega)
      first | refine Gx.a (by kernel_rfl) fun K hK => ?_ | refine Gx.b (by kernel_rfl) fun K hK => ?_ | refine Gx.c (by kernel_rfl) fun K hK => ?_
      simp only [XM, XA, XB, gateX, Nat.reduceAdd, Nat.reduceLeDiff, Nat.reduceSub, Nat.reduceMul, ↓reduceIte, Int.reduceToNat, Int.reduceLE, beq_self_eq_true, b2]
      refine hK _ ?_
      first | refine Gx.f rfl ?_ | refine XWP.seq (Gx.f rfl ?_)
      refine XWP.exit ?_
      exact fun f => ⟨V6, H6, w, cells, StIs.of (by exact rfl), hown, hrow⟩
    have b2 : decide ((i : Int) < (N : Int)) = true := decide_eq_true (by omega)
    first | refine Gx.a (by kernel_rfl) fun K hK => ?_ | refine Gx.b (by kernel_rfl) fun K hK => ?_ | refine Gx.c (by kernel_rfl) fun K hK => ?_
    simp only [XM, XA, XB, gateX, Nat.reduceAdd, Nat.reduceLeDiff, Nat.reduceSub, Nat.reduceMul, ↓reduceIte, Int.reduceToNat, Int.reduceLE, beq_self_eq_true, b2]
    refine hK _ ?_
    first | refine Gx.t rfl ?_ | refine XWP.seq (Gx.t rfl ?_)
    refine XWP.skip ?_
    refine XWP.seq ?_
    first | refine XWP.block ?_ | refine XWP.seq (XWP.block ?_)
    have hsl := stepv_len (p := qs L1) ea i
    have hcs := hst i (by omega)
    have hW6 : wtB n ((stepv (qs S) (qs L1) n i).map toRaw) = true := wtB_raw hsl (stepv_nn ea ha hpn i)
    have hcf : fitR ((stepv (qs S) (qs L1) n i).map toRaw) := hcs.fitR (by omega)
    have hcq : CB M (qs ((stepv (qs S) (qs L1) n i).map toRaw)) := by rw [qs_toRaw]; exact hcs
    first | refine Gx.a (by kernel_rfl) fun K hK => ?_ | refine Gx.b (by kernel_rfl) fun K hK => ?_ | refine Gx.c (by kernel_rfl) fun K hK => ?_
    simp only [XM, XA, XB, gateX, Nat.reduceAdd, Nat.reduceLeDiff, Nat.reduceSub, Nat.reduceMul, ↓reduceIte, Int.reduceToNat, Int.reduceLE, beq_self_eq_true]
    refine call_go (by kernel_rfl) rfl (cafter_c _ _ _ _ n m L1 L2 _ (h1.up hV6) (h2.up hV6) (Rats.raws hu) f1 f2 hcf hC hW6 A B M hA hB hcq (by omega)) fun v7 V7 hV7 h7 => ?_
    obtain ⟨w7, u7, rfl, hw7, hu7⟩ := h7
    rw [qs_toRaw] at hw7 hu7
    simp only [XM, XA, XB, gateX, Nat.reduceAdd, Nat.reduceLeDiff, Nat.reduceSub, Nat.reduceMul, ↓reduceIte, Int.reduceToNat, Int.reduceLE, beq_self_eq_true]
    refine hK _ ?_
    have lt := thr_len (stepv (qs S) (qs L1) n i) (qs L2) m
    obtain ⟨A7, c7, rfl, _, _⟩ := hu7.form
    obtain ⟨b', o', rfl⟩ := SlAt.addr hu7 (by omega)
    obtain ⟨m3, n3, d3, hx3, ⟨p1, p2, p3⟩, hld3⟩ := Rats.get hu7 x (by omega)
    first | refine Gx.a (by kernel_rfl) fun K hK => ?_ | refine Gx.b (by kernel_rfl) fun K hK => ?_ | refine Gx.c (by kernel_rfl) fun K hK => ?_
    simp only [XM, XA, XB, gateX, Nat.reduceAdd, Nat.reduceLeDiff, Nat.reduceSub, Nat.reduceMul, ↓reduceIte, Int.reduceToNat, Int.reduceLE, beq_self_eq_true]
    refine ⟨by omega, by omega, ld_mem (hld3 _) ?_⟩
    simp only [XM, XA, XB, gateX, Nat.reduceAdd, Nat.reduceLeDiff, Nat.reduceSub, Nat.reduceMul, ↓reduceIte, Int.reduceToNat, Int.reduceLE, beq_self_eq_true]
    refine bs_go (by kernel_rfl) #[(0, .agg #[m3, n3, d3])] (by simp [ev_tmp, SV.val]) (bs_rat elemT_22) fun b3 hb3 hb4 => ?_
    simp only [XM, XA, XB, gateX, Nat.reduceAdd, Nat.reduceLeDiff, Nat.reduceSub, Nat.reduceMul, ↓reduceIte, Int.reduceToNat, Int.reduceLE, beq_self_eq_true]
    refine ap_go elemT_22 (by kernel_rfl) zeroT_34 rfl (by omega) (own_upd hown hb3) (src3 (upd_at _ _ _) p1 p2 p3) (by omega) (by omega) fun v' H' hres => ?_
    simp only [XM, XA, XB, gateX, Nat.reduceAdd, Nat.reduceLeDiff, Nat.reduceSub, Nat.reduceMul, ↓reduceIte, Int.reduceToNat, Int.reduceLE, beq_self_eq_true]
    refine hK _ ?_
    first | refine Gx.a (by kernel_rfl) fun K hK => ?_ | refine Gx.b (by kernel_rfl) fun K hK => ?_ | refine Gx.c (by kernel_rfl) fun K hK => ?_
    simp only [XM, XA, XB, gateX, Nat.reduceAdd, Nat.reduceLeDiff, Nat.reduceSub, Nat.reduceMul, ↓reduceIte, Int.reduceToNat, Int.reduceLE, beq_self_eq_true, i64_succ i (by omega)]
    have hrow' := (hrow.mono ratE_ok hV7).snoc p1 p2 p3 hx3
    rw [← endsL_succ] at hrow'
    exact hK _ ⟨r - 1, by omega, fun f => ⟨i + 1, V7, _, _, _, _, StIs.of (by exact rfl), View.le_trans hV6 hV7, by omega, hw7, hres.1, hrow'⟩⟩
  rintro s ⟨V6, H6, w, cells, hs, hown, hrow⟩
  obtain ⟨z, rfl⟩ := hs.out
  try dsimp only
  have ll := endsL_len (qs S) (qs L1) (qs L2) n m x N
  first | refine Gx.a (by kernel_rfl) fun K hK => ?_ | refine Gx.b (by kernel_rfl) fun K hK => ?_ | refine Gx.c (by kernel_rfl) fun K hK => ?_
  simp only [XM, XA, XB, gateX, Nat.reduceAdd, Nat.reduceLeDiff, Nat.reduceSub, Nat.reduceMul, ↓reduceIte, Int.reduceToNat, Int.reduceLE, beq_self_eq_true]
  refine hK _ (XWP.ret ?_)
  try simp only [thenX_ret, inBlockX_ret]
  rcases own_parts hown with ⟨rfl, hn0, rfl⟩ | ⟨g, cap, rfl, hg, hle, hcap, _⟩
  · refine ret_go _ rfl ⟨fun h => absurd he h, fun _ => ⟨_, rfl, ?_⟩⟩
    rw [List.length_eq_zero_iff.1 (ll.trans hn0)]; exact SlAt.nil _
  · refine ret_pub g _ hg fun o ho hle' => ret_go _ rfl ⟨fun h => absurd he h, fun _ => ⟨_, rfl, ?_⟩⟩
    exact hrow.pub ratE_ok ho hle' ll hle (by unfold maxLen at hcap; omega)
end Go.Proofs.Ythoboehbadmlmaa
end
section
namespace Go.Proofs.Ythoboehbadmlmaa
end Go.Proofs.Ythoboehbadmlmaa
end
section
namespace Go.Proofs.Ythoboehbadmlmaa
open Go Go.RowKit
set_option linter.unusedSimpArgs false
set_option linter.unusedVariables false
attribute [local irreducible] XWP Spec SpecO XPub XCall seqX clX apX stX ldX iaX slX
theorem placesT_61 : placesT Try.prog 61 = some [(0, 1), (1, 1), (2, 1)] := by kernel_rfl
theorem bd_mtx3 {x y z : Value} (hx : isOne x = true) (hy : isOne y = true) (hz : isOne z = true) : BuildsTo Try.prog 61 #[(0, x), (1, y), (2, z)] (.agg #[x, y, z]) := by
  refine bd_run placesT_61 zeroT_61 ?_
  show Instr.fill _ _ [(0, x), (1, y), (2, z)] = _
  rw [fill_one (off := 0) rfl hx (by simp), fill_one (off := 1) rfl hy (by simp), fill_one (off := 2) rfl hz (by simp)]; rfl
end Go.Proofs.Ythoboehbadmlmaa
end
section
namespace Go.Proofs.Ythoboehbadmlmaa
open Go Go.RowKit
set_option linter.unusedSimpArgs false
set_option linter.unusedVariables false
attribute [local irreducible] XWP Spec SpecO XPub XCall seqX clX apX stX ldX iaX slX
end Go.Proofs.Ythoboehbadmlmaa
end
section
namespace Go.Proofs.Ythoboehbadmlmaa
open Go Go.RowKit
set_option linter.unusedSimpArgs false
set_option linter.unusedVariables false
attribute [local irreducible] XWP Spec SpecO XPub XCall seqX clX apX stX ldX iaX slX
end Go.Proofs.Ythoboehbadmlmaa
end
section
namespace Go.Proofs.Ythoboehbadmlmaa
open Go Go.RowKit
set_option linter.unusedSimpArgs false
set_option linter.unusedVariables false
attribute [local irreducible] XWP Spec SpecO XPub XCall seqX clX apX stX ldX iaX slX
end Go.Proofs.Ythoboehbadmlmaa
end
section
namespace Go.Proofs.Ythoboehbadmlmaa
open Go Go.RowKit
set_option linter.unusedSimpArgs false
set_option linter.unusedVariables false
attribute [local irreducible] XWP Spec SpecO XPub XCall seqX clX apX stX ldX iaX slX
end Go.Proofs.Ythoboehbadmlmaa
end
section
namespace Go.Proofs.Ythoboehbadmlmaa
open Go Go.RowKit
set_option linter.unusedSimpArgs false
set_option linter.unusedVariables false
attribute [local irreducible] XWP Spec SpecO XPub XCall seqX clX apX stX ldX iaX slX
end Go.Proofs.Ythoboehbadmlmaa
end
section
namespace Go.Proofs.Ythoboehbadmlmaa
open Go Go.RowKit
set_option linter.unusedSimpArgs false
set_option linter.unusedVariables false
attribute [local irreducible] XWP Spec SpecO XPub XCall seqX clX apX stX ldX iaX slX
end Go.Proofs.Ythoboehbadmlmaa
end
section
namespace Go.Proofs.Ythoboehbadmlmaa
open Go Go.RowKit
set_option linter.unusedSimpArgs false
set_option linter.unusedVariables false
attribute [local irreducible] XWP Spec SpecO XPub XCall seqX clX apX stX ldX iaX slX
end Go.Proofs.Ythoboehbadmlmaa
end
section
namespace Go.Proofs.Ythoboehbadmlmaa
open Go Go.RowKit
set_option linter.unusedSimpArgs false
set_option linter.unusedVariables false
attribute [local irreducible] XWP Spec SpecO XPub XCall seqX clX apX stX ldX iaX slX
end Go.Proofs.Ythoboehbadmlmaa
end
section
namespace Go.Proofs.Ythoboehbadmlmaa
open Go Go.RowKit
set_option linter.unusedSimpArgs false
set_option linter.unusedVariables false
attribute [local irreducible] XWP Spec SpecO XPub XCall seqX clX apX stX ldX iaX slX
end Go.Proofs.Ythoboehbadmlmaa
end
section
namespace Go.Proofs.Ythoboehbadmlmaa
open Go Go.RowKit
set_option linter.unusedSimpArgs false
set_option linter.unusedVariables false
attribute [local irreducible] XWP Spec SpecO XPub XCall seqX clX apX stX ldX iaX slX
end Go.Proofs.Ythoboehbadmlmaa
end
section
namespace Go.Proofs.Ythoboehbadmlmaa
open Go Go.RowKit
set_option linter.unusedSimpArgs false
set_option linter.unusedVariables false
attribute [local irreducible] XWP Spec SpecO XPub XCall seqX clX apX stX ldX iaX slX
end Go.Proofs.Ythoboehbadmlmaa
end
section
namespace Go.Proofs.Ythoboehbadmlmaa
open Go Go.RowKit
/-! ### What an iterator promises: it yields these, in order, as long as yield answers true -/
def IterX (P : Program) (gf : Nat) (lb : Array Value) (V : View) (L : List (Array Value)) : Prop :=
  ∀ (l : Nat) (J : Nat → World → Prop) (Jx : World → Prop) (W : World), J 0 W → (∀ r W1, J r W1 → V.sub W1) → (∀ W1, Jx W1 → V.sub W1) →
    (∀ r W1 args, L[r]? = some args → J r W1 → YieldAt Fence.wide 0 P l args W1 fun e W' => (e = .returned (.bool true) ∧ J (r + 1) W') ∨ (e = .returned (.bool false) ∧ Jx W')) →
    CallsIn Fence.wide 0 P gf (#[.func (.yield l) #[] #[]] ++ lb) W fun e W' => (∃ v, e = .returned v) ∧ (J L.length W' ∨ Jx W')
def setPs : List Tmp → List Value → List SV → List SV
  | p :: ps, v :: vs, t => setPs ps vs (t.set p (.v v))
  | _, _, t => t
theorem setPs_conc {bl : Nat → Nat} : ∀ (ps : List Tmp) (vs : List Value) (t : List SV), (ps.zip vs).foldl (fun (t : Array Value) (q : Tmp × Value) => t.setIfInBounds q.1 q.2) (t.map (SV.conc bl)).toArray = ((setPs ps vs t).map (SV.conc bl)).toArray
  | [], _, t => by simp [setPs]
  | _ :: _, [], t => by simp [setPs]
  | p :: ps, v :: vs, t => by
    simp only [List.zip_cons_cons, List.foldl_cons, setPs]
    rw [← setPs_conc ps vs (t.set p (.v v))]
    congr 1
    simp [List.map_set, SV.conc]
theorem setPs_ok {n : Nat} : ∀ (ps : List Tmp) (vs : List Value) (t : List SV), (∀ x ∈ t, x.ok n) → ∀ x ∈ setPs ps vs t, x.ok n
  | [], _, t, h => by simpa [setPs] using h
  | _ :: _, [], t, h => by simpa [setPs] using h
  | p :: ps, v :: vs, t, h => by
    simp only [setPs]
    refine setPs_ok ps vs _ fun x hx => ?_
    rcases List.mem_or_eq_of_mem_set hx with h1 | rfl
    · exact h x h1
    · trivial
/-- how a round's body may be left -/
def roundQ (I : Heap → View → Prop) (Ix : Heap → View → Prop) : Exit → XS → Prop
  | .normal, s => I s.H s.V
  | .ret, s => Ix s.H s.V
  | _, _ => False
theorem CW.putObj {Γ : Cx} {bl : Nat → Nat} {H : Heap} {V : View} {w : World} (hp : Γ.V0.sub Γ.w0) (h : CW Γ bl [] H V w) (hs : CS Γ bl [] H V) {D : Nat} {o : Obj} (hD : w.heap[D]? = some o) (ho : o.isCells = false) (hn : Γ.w0.heap.size ≤ D) (o' : Obj) : CW Γ bl [] H V (w.putObj D o') := h.turn hp hs hD ho hn o'
theorem CW.nobox {Γ : Cx} {bl bl' : Nat → Nat} {bx : List (List Value)} {H : Heap} {V : View} {w : World} (h : CW Γ bl bx H V w) : CW Γ bl' [] H V w := ⟨fun i vs hi => by simp at hi, h.row, h.view, h.below⟩
theorem CS.nobox {Γ : Cx} {bl bl' : Nat → Nat} {bx : List (List Value)} {H : Heap} {V : View} (h : CS Γ bl bx H V) : CS Γ bl' [] H V := ⟨fun i j hi => by simp at hi, fun i hi => by simp at hi, h.HV, h.V0, h.frm⟩
theorem CW.cx {Γ Γ' : Cx} {bl : Nat → Nat} {bx : List (List Value)} {H : Heap} {V : View} {w : World} (h : CW Γ bl bx H V w) (e : Γ'.w0 = Γ.w0) : CW Γ' bl bx H V w := ⟨h.box, h.row, h.view, by rw [e]; exact h.below⟩
theorem CS.cx {Γ Γ' : Cx} {bl : Nat → Nat} {bx : List (List Value)} {H : Heap} {V : View} (h : CS Γ bl bx H V) (e : Γ'.w0 = Γ.w0) (e' : Γ'.V0 = Γ.V0) : CS Γ' bl bx H V := ⟨h.inj, fun i hi => by rw [e]; exact h.bxH i hi, fun b r hb => by rw [e]; exact h.HV b r hb, by rw [e']; exact h.V0, by rw [e, e']; exact h.frm⟩
theorem wpIn_any {Γ : Cx} {P : Program} {c : Code} {Q : Exit → Act → World → Prop} {a : Act} {w : World} {n m : Nat} (h : c.wpIn Γ.F n P Q a w) : c.wpIn Γ.F m P Q a w := fun b k cs hro hb _ => h b k cs hro hb (Γ.room _)
theorem others_put {w w1 : World} {l : Nat} (h : KeepsOthers w1 w) (hl : w1.heap.size ≤ l) (o : Obj) : KeepsOthers w1 (w.putObj l o) :=
  ⟨by rw [World.putObj_size]; exact h.size, fun k ob hk ho => by
    have := (Array.getElem?_eq_some_iff.1 hk).1
    rw [World.putObj_heap_other (by omega)]; exact h.same k ob hk ho⟩
theorem CW.allocO {Γ : Cx} {bl : Nat → Nat} {H : Heap} {V : View} {w : World} (h : CW Γ bl [] H V w) (o : Obj) : CW Γ bl [] H V (w.alloc o) :=
  ⟨fun i vs hi => by simp at hi, fun b r hb => by
    obtain ⟨ex, hh, hl⟩ := h.row b r hb
    exact ⟨ex, by rw [Below.heap_alloc w _ _ (h.lt_row hb)]; exact hh, hl⟩, view_alloc h.view _, h.below.alloc h.below.size _⟩
theorem mk_turn {Γ Γ' : Cx} {a : Act} {w : World} {l : Nat} {o o' : Obj} (h : Mk Γ a w) (hl : w.heap[l]? = some o) (ho : ∀ d, o ≠ .deferred d) (e0 : Γ'.w0 = Γ.w0) (e1 : Γ'.w1 = w.putObj l o') (e2 : ∃ r, Γ'.rd = some r) : Mk Γ' a (w.putObj l o') := by
  obtain ⟨⟨ms, h1, h2, h3⟩, _⟩ := h
  obtain ⟨r2, e2⟩ := e2
  refine ⟨⟨ms, h1, h2, fun D hD => ⟨by unfold Cx.base; rw [e2]; dsimp only; rw [e0]; exact Nat.le_trans (Cx.base_ge _) (h3 D hD).1, ?_⟩⟩, by rw [e1]; exact KeepsOthers.refl _⟩
  refine (World.putObj_heap_other (fun e => ?_)).trans (h3 D hD).2
  have := (h3 D hD).2
  rw [e, hl] at this
  cases this; exact ho _ rfl
/-- **A range over a function.** -/
theorem XWP.range {Γ : Cx} {P : Program} (hΓ : Γ.Plain) {g : Operand} {ps : Array Tmp} {assign body : Code} {Q : Exit → XS → Prop} {t : List SV} {H : Heap} {V : View} {gf : Nat} {lb : Array Value} {L : List (Array Value)} {I : Nat → Heap → View → Prop} {Ix : Heap → View → Prop}
    (hg : (⟨t, [], H, V⟩ : XS).ev g = .v (.func (.func gf) #[] lb)) (hcall : callable P gf = true) (hps : ∀ args ∈ L, args.size = ps.size) (it : IterX P gf lb V L) (h0 : I 0 H V) (hle : ∀ r H' V', I r H' V' → V.le V') (hleX : ∀ H' V', Ix H' V' → V.le V')
    (hr : ∀ (Γ' : Cx) (r : Nat) (args : Array Value) (H' : Heap) (V' : View), L[r]? = some args → I r H' V' → XWP Γ' P assign (fun e s1 => match e with | .normal => ∀ Γ'' : Cx, XWP Γ'' P body (roundQ (I (r + 1)) Ix) s1 | _ => False) ⟨setPs ps.toList args.toList t, [], H', V'⟩)
    (hdone : ∀ H' V', I L.length H' V' → Q .normal ⟨t, [], H', V'⟩) (hstop : ∀ H' V', Ix H' V' → Q .ret ⟨t, [], H', V'⟩) : XWP Γ P (.rangeFunc g ps assign body) Q ⟨t, [], H, V⟩ := by
  intro bl a w hC
  obtain ⟨⟨ms, m1, m2, m3⟩, m4⟩ := hC.df
  have eF : Γ.F = Fence.wide := by unfold Cx.F; rw [hΓ.1]; rfl
  have hev : a.eval g = .func (.func gf) #[] lb := by rw [hC.ev, hg]; rfl
  have hok : ∀ x ∈ t, x.ok 0 := hC.ok
  have htm : a.tmps = (t.map (SV.conc bl)).toArray := hC.tm
  refine wpIn_any (n := 1) (wpIn_rangeFunc fun fn _ => ?_)
  obtain ⟨rec, hrec⟩ : ∃ rec : LoopState → Option Code → Loop, rec = fun st pe => { state := st, pending := pe, fn, tmps := a.tmps, params := ps, assign, body, defers := w.heap.size } := ⟨_, rfl⟩
  obtain ⟨W1, hW1⟩ : ∃ W1, (w.alloc (.deferred (some []))).alloc (.loop (rec .ready none)) = W1 := ⟨_, rfl⟩
  have hL1 : W1.heap[w.heap.size + 1]? = some (.loop (rec .ready none)) := by
    rw [← hW1]; have := World.alloc_heap_new (w.alloc (.deferred (some []))) (.loop (rec .ready none)); rwa [World.size_alloc] at this
  have hK1 : W1.heap[w.heap.size]? = some (.deferred (some [])) := by
    rw [← hW1]; exact (Below.heap_alloc _ _ _ (by simp)).trans (World.alloc_heap_new w _)
  have hcw1 : CW Γ bl [] H V W1 := by rw [← hW1]; exact (CW.allocO hC.cw _).allocO _
  have hko1 : KeepsOthers w W1 := by rw [← hW1]; exact (KeepsOthers.alloc _ _).trans (KeepsOthers.alloc _ _)
  have hws : Γ.w0.heap.size ≤ w.heap.size := hC.cw.below.size
  have hw1s : Γ.w1.heap.size ≤ w.heap.size := m4.size
  have hmlt : ∀ E ∈ ms, E < w.heap.size := fun E hE => (Array.getElem?_eq_some_iff.1 (m3 E hE).2).1
  refine ⟨w.heap.size + 1, [{ target := .collected w.heap.size, args := #[] }], W1, { target := .fn (.func gf) lb, args := #[.func (.yield (w.heap.size + 1)) #[] #[]] }, W1, gf, #[.func (.yield (w.heap.size + 1)) #[] #[]] ++ lb, W1, ?_, ?_, fun _ _ => trivial, ?_, fun _ => Nat.le_refl _, ?_⟩
  · show (Instr.enterLoop fn a.tmps ps assign body Γ.rd).run P w = _
    rw [hΓ.1, ← hW1, hrec]; exact run_enterLoop_outer _ _ _ _ _
  · simp only [resolve, hev]
    simp [go_sem]
  · unfold callable at hcall
    cases hf : P.funcs[gf]? with
    | none => simp [hf] at hcall
    | some fn =>
      simp [hf] at hcall
      have hb : fn.body ≠ none := fun hn => by simp [hn] at hcall
      simp [invoke, callFunc, hf, hcall.1, hb]
  rw [eF]
  have keepE : ∀ {A B : World}, (∀ E ∈ ms, A.heap[E]? = some (.deferred (some []))) → KeepsOthers A B → ∀ E ∈ ms, B.heap[E]? = some (.deferred (some [])) := fun h k E hE => k.same E _ (h E hE) rfl
  have putE : ∀ {A : World} (o : Obj), (∀ E ∈ ms, A.heap[E]? = some (.deferred (some []))) → ∀ E ∈ ms, (A.putObj (w.heap.size + 1) o).heap[E]? = some (.deferred (some [])) := fun o h E hE =>
    (World.putObj_heap_other (by have := hmlt E hE; omega)).trans (h E hE)
  have fini : ∀ (A : World) (H' : Heap) (V' : View), CW Γ bl [] H' V' A → CS Γ bl [] H' V' → (∀ E ∈ ms, A.heap[E]? = some (.deferred (some []))) → KeepsOthers Γ.w1 A → A.heap[w.heap.size]? = some (.deferred (some [])) →
      Conc Γ bl ⟨t, [], H', V'⟩ { a with defers := { target := .collected w.heap.size, args := #[] } :: a.defers } A := fun A H' V' c1 c2 c3 c4 c5 =>
    ⟨htm, ⟨⟨w.heap.size :: ms, by simp [m1], List.nodup_cons.2 ⟨fun h => by have := hmlt _ h; omega, m2⟩, fun D hD => by
      rcases List.mem_cons.1 hD with rfl | h
      · exact ⟨Cx.base_le _ hws hw1s, c5⟩
      · exact ⟨(m3 D h).1, c3 D h⟩⟩, c4⟩, c1, c2, hok⟩
  refine (it (w.heap.size + 1)
    (fun r W => ∃ H' V', I r H' V' ∧ CW Γ bl [] H' V' W ∧ CS Γ bl [] H' V' ∧ (∀ E ∈ ms, W.heap[E]? = some (.deferred (some []))) ∧ KeepsOthers Γ.w1 W ∧ W.heap[w.heap.size + 1]? = some (.loop (rec .ready none)) ∧ W.heap[w.heap.size]? = some (.deferred (some [])))
    (fun W => ∃ H' V', Ix H' V' ∧ CW Γ bl [] H' V' W ∧ CS Γ bl [] H' V' ∧ (∀ E ∈ ms, W.heap[E]? = some (.deferred (some []))) ∧ KeepsOthers Γ.w1 W ∧ W.heap[w.heap.size + 1]? = some (.loop (rec .done (some .ret))) ∧ W.heap[w.heap.size]? = some (.deferred (some [])))
    W1 ⟨H, V, h0, hcw1, hC.cs.nobox, keepE (fun E hE => (m3 E hE).2) hko1, m4.trans hko1, hL1, hK1⟩ (fun r W ⟨H', V', hI, cw, _⟩ k o hk => cw.view k o (hle r H' V' hI k o hk)) (fun W ⟨H', V', hI, cw, _⟩ k o hk => cw.view k o (hleX H' V' hI k o hk)) ?_).mono ?_
  · rintro r W args hLr ⟨H', V', hI, cw, cs, me, ko, hl, hk⟩
    have hsz : args.size = ps.size := hps args (List.mem_of_getElem? hLr)
    have hy := run_yield (P := P) (args := args) hl (by rw [hrec]; exact hsz)
    refine ⟨fn, _, assign, body, by rw [hy, hrec], roundIn_of_wpIn trivial ?_⟩
    have hx := hr ⟨Γ.w0, Γ.V0, W, some (w.heap.size + 1)⟩ r args H' V' hLr hI bl { tmps := (ps.zip args).foldl (fun tmps (t, a) => tmps.setIfInBounds t a) a.tmps, defers := [] } W
      ⟨by rw [htm, ← setPs_conc, ← Array.foldl_toList, Array.toList_zip], ⟨⟨[], rfl, List.nodup_nil, fun D hD => by simp at hD⟩, KeepsOthers.refl _⟩, cw.cx rfl, cs.cx rfl rfl, setPs_ok _ _ _ hok⟩
    refine wpIn_mono hx ?_
    rintro e a1 Wa ⟨bl1, s1, hC1, hq⟩
    cases e with
    | normal =>
      have hla := hC1.df.2.same _ _ hl rfl
      have hka := hC1.df.2.same _ _ hk rfl
      have hlt : w.heap.size + 1 < Wa.heap.size := (Array.getElem?_eq_some_iff.1 hla).1
      refine ⟨_, run_beginRound hla (by rw [hrec]), ?_⟩
      obtain ⟨W2, hW2⟩ : ∃ W2, W2 = Wa.putObj (w.heap.size + 1) (.loop { rec .ready none with state := .busy }) := ⟨_, rfl⟩
      rw [← hW2]
      have hl2 : W2.heap[w.heap.size + 1]? = some (.loop { rec .ready none with state := .busy }) := by rw [hW2]; exact World.putObj_heap_same hlt
      have hk2 : W2.heap[w.heap.size]? = some (.deferred (some [])) := by rw [hW2]; exact (World.putObj_heap_other (by omega)).trans hka
      have hb := hq ⟨Γ.w0, Γ.V0, W2, some (w.heap.size + 1)⟩ bl1 a1 W2 ⟨hC1.tm, by
        rw [hW2]; exact mk_turn hC1.df hla (fun d h => by cases h) rfl rfl ⟨_, rfl⟩, by
        rw [hW2]; exact (CW.turn (Γ := ⟨Γ.w0, Γ.V0, W, some (w.heap.size + 1)⟩) hΓ.2 hC1.cw hC1.cs hla rfl (Nat.le_trans hws (Nat.le_succ _)) _).cx rfl, hC1.cs.cx rfl rfl, hC1.ok⟩
      refine wpIn_mono hb ?_
      rintro e a3 W3 ⟨bl3, s3, hC3, hq3⟩
      have hl3 := hC3.df.2.same _ _ hl2 rfl
      have hk3 := hC3.df.2.same _ _ hk2 rfl
      have hlt3 : w.heap.size + 1 < W3.heap.size := (Array.getElem?_eq_some_iff.1 hl3).1
      have hend := fun jump : Option Code => run_endRound (P := P) jump hl3
      have me3 : ∀ E ∈ ms, W3.heap[E]? = some (.deferred (some [])) := keepE (by rw [hW2]; exact putE _ (keepE me hC1.df.2)) hC3.df.2
      have ko3 : KeepsOthers Γ.w1 W3 := KeepsOthers.trans (by rw [hW2]; exact others_put (ko.trans hC1.df.2) (by omega) _) hC3.df.2
      have fin4 : ∀ o : Obj, CW Γ bl [] s3.H s3.V (W3.putObj (w.heap.size + 1) o) ∧ CS Γ bl [] s3.H s3.V ∧ (∀ E ∈ ms, (W3.putObj (w.heap.size + 1) o).heap[E]? = some (.deferred (some []))) ∧ KeepsOthers Γ.w1 (W3.putObj (w.heap.size + 1) o) ∧ (W3.putObj (w.heap.size + 1) o).heap[w.heap.size + 1]? = some o ∧ (W3.putObj (w.heap.size + 1) o).heap[w.heap.size]? = some (.deferred (some [])) := fun o => by
        have c0 : CS Γ bl [] s3.H s3.V := (hC3.cs.cx (Γ' := Γ) rfl rfl).nobox
        exact ⟨((hC3.cw.cx (Γ' := Γ) rfl).nobox).turn hΓ.2 c0 hl3 rfl (by omega) o, c0, putE o me3, others_put ko3 (by omega) o, World.putObj_heap_same hlt3, (World.putObj_heap_other (by omega)).trans hk3⟩
      cases e with
      | normal =>
        obtain ⟨f1, f2, f3, f4, f5, f6⟩ := fin4 (.loop (rec .ready none))
        refine ⟨_, _, hend none, .inl ⟨rfl, s3.H, s3.V, hq3, ?_⟩⟩
        rw [hrec] at f1 f3 f4 f5 f6 ⊢
        exact ⟨f1, f2, f3, f4, f5, f6⟩
      | ret =>
        obtain ⟨f1, f2, f3, f4, f5, f6⟩ := fin4 (.loop (rec .done (some .ret)))
        refine ⟨_, _, hend (some .ret), .inr ⟨rfl, s3.H, s3.V, hq3, ?_⟩⟩
        rw [hrec] at f1 f3 f4 f5 f6 ⊢
        exact ⟨f1, f2, f3, f4, f5, f6⟩
      | _ => exact hq3.elim
    | _ => exact hq.elim
  · rintro e W2 ⟨⟨v, rfl⟩, (⟨H', V', hI, cw, cs, me, ko, hl, hk⟩ | ⟨H', V', hI, cw, cs, me, ko, hl, hk⟩)⟩
    · have he := run_endLoop (P := P) hl (by rw [hrec]; simp)
      rw [hrec] at he
      refine ⟨none, _, he, ?_⟩
      exact ⟨bl, _, fini _ H' V' (cw.turn hΓ.2 cs hl rfl (by omega) _) cs (putE _ me) (others_put ko (by omega) _) ((World.putObj_heap_other (by omega)).trans hk), hdone H' V' hI⟩
    · have he := run_endLoop (P := P) hl (by rw [hrec]; simp)
      rw [hrec] at he
      refine ⟨some .ret, _, he, ?_⟩
      exact wpIn_ret ⟨bl, _, fini _ H' V' (cw.turn hΓ.2 cs hl rfl (by omega) _) cs (putE _ me) (others_put ko (by omega) _) ((World.putObj_heap_other (by omega)).trans hk), hstop H' V' hI⟩
end Go.Proofs.Ythoboehbadmlmaa
end
section
namespace Go.Proofs.Ythoboehbadmlmaa
open Go Go.RowKit
abbrev conc0 (t : List SV) : Array Value := (t.map (SV.conc fun _ => 0)).toArray
def YQ (Q : Exit → List SV → World → Prop) : Exit → Act → World → Prop := fun e a W => ∃ t, a.tmps = conc0 t ∧ a.defers = [] ∧ Q e t W
def YW (P : Program) (c : Code) (Q : Exit → List SV → World → Prop) (t : List SV) (W : World) : Prop :=
  ∀ a : Act, a.tmps = conc0 t → a.defers = [] → c.wpIn Fence.wide 0 P (YQ Q) a W
def thenY (K : List SV → World → Prop) (Q : Exit → List SV → World → Prop) : Exit → List SV → World → Prop
  | .normal, t, W => K t W
  | e, t, W => Q e t W
def inBlockY (id : Nat) (Q : Exit → List SV → World → Prop) : Exit → List SV → World → Prop
  | .exit id', t, W => if id' = id then Q .normal t W else Q (.exit id') t W
  | e, t, W => Q e t W
section
variable {P : Program} {Q : Exit → List SV → World → Prop} {t : List SV} {W : World}
theorem YW.apply {c : Code} {t : List SV} {a : Act} (h : YW P c Q t W) (h1 : a.tmps = conc0 t) (h2 : a.defers = []) : c.wpIn Fence.wide 0 P (YQ Q) a W := h a h1 h2
theorem YW.seq {x y : Code} (h : YW P x (thenY (YW P y Q) Q) t W) : YW P (.seq x y) Q t W := fun a h1 h2 =>
  wpIn_seq (wpIn_mono (h a h1 h2) fun e a w hq => by
    obtain ⟨t', h1', h2', q⟩ := hq
    cases e <;> first
      | exact q a h1' h2'
      | exact ⟨t', h1', h2', q⟩)
theorem YW.skip (h : Q .normal t W) : YW P .skip Q t W := fun _ h1 h2 => wpIn_skip ⟨t, h1, h2, h⟩
theorem YW.ret (h : Q .ret t W) : YW P .ret Q t W := fun _ h1 h2 => wpIn_ret ⟨t, h1, h2, h⟩
theorem YW.exit {i : Nat} (h : Q (.exit i) t W) : YW P (.exit i) Q t W := fun _ h1 h2 => wpIn_exit ⟨t, h1, h2, h⟩
theorem YW.block {i : Nat} {c : Code} (h : YW P c (inBlockY i Q) t W) : YW P (.block i c) Q t W := fun a h1 h2 =>
  wpIn_block (wpIn_mono (h a h1 h2) fun e a w hq => by
    obtain ⟨t', h1', h2', q⟩ := hq
    cases e with
    | exit j =>
      simp only [inBlockY] at q
      simp only [Exit.inBlock]
      split <;> rename_i hj
      · exact ⟨t', h1', h2', by simpa [hj] using q⟩
      · exact ⟨t', h1', h2', by simpa [hj] using q⟩
    | _ => exact ⟨t', h1', h2', q⟩)
theorem ev0 {a : Act} (h : a.tmps = conc0 t) (x : Operand) (H : Heap) (V : View) : a.eval x = ((⟨t, [], H, V⟩ : XS).ev x).conc fun _ => 0 := ev_conc (s := ⟨t, [], H, V⟩) h x
theorem YW.cond {c : Operand} {x y : Code} {b : Bool} {V : View} (hc : (⟨t, [], fun _ => none, V⟩ : XS).ev c = .v (.bool b)) (h1 : b = true → YW P x Q t W) (h2 : b = false → YW P y Q t W) : YW P (.cond c x y) Q t W := fun a e1 e2 =>
  wpIn_cond_split (t := b) (by rw [ev0 e1 c (fun _ => none) V, hc]; rfl) (fun e => h1 e a e1 e2) (fun e => h2 e a e1 e2)
theorem YW.loop {c : Code} (I : Nat → List SV → World → Prop) (n : Nat) (h0 : I n t W) (hr : ∀ n t W, I n t W → YW P c (thenY (fun t' W' => ∃ m, m < n ∧ I m t' W') Q) t W) : YW P (.loop c) Q t W := by
  intro a e1 e2
  have key : ∀ n t W a, I n t W → a.tmps = conc0 t → a.defers = [] → ∀ (b : Frame) (k : List Item) (cs : List Frame), b.roundOf = none →
      ∃ e a' w', YQ Q e a' w' ∧ ArrivesIn (Machine.fenced P Fence.wide) P (lone (b.atR a (.code c :: .inLoop c :: k)) cs W) b k cs e a' w' := by
    intro n
    induction n using Nat.strongRecOn with
    | _ n ih =>
      intro t W a hI e1 e2 b k cs hro
      obtain ⟨e, a₁, w₁, ⟨t1, h1, h2, hq⟩, harr⟩ := hr n t W hI a e1 e2 b (.inLoop c :: k) cs hro trivial (room_wide _)
      cases e with
      | normal =>
        obtain ⟨m, hm, hI1⟩ := hq
        obtain ⟨e₂, a₂, w₂, hq₂, harr₂⟩ := ih m hm t1 w₁ a₁ hI1 h1 h2 b k cs hro
        exact ⟨e₂, a₂, w₂, hq₂, .of_steps (StepsIn.trans harr (.one (fenced_calm (F := Fence.wide) (n := 0) (fr := b.atR a₁ (.inLoop c :: k)) trivial (room_wide _) rfl) stepR_inLoop)) harr₂⟩
      | exit id => exact ⟨_, a₁, w₁, ⟨t1, h1, h2, hq⟩, .pass (x := .inLoop c) rfl (fun _ _ => .inl (by simp)) harr⟩
      | goto l => exact ⟨_, a₁, w₁, ⟨t1, h1, h2, hq⟩, .pass (x := .inLoop c) rfl (fun _ _ => .inl (by simp)) harr⟩
      | ret => exact ⟨_, a₁, w₁, ⟨t1, h1, h2, hq⟩, .pass (x := .inLoop c) rfl (fun _ _ => .inl (by simp)) harr⟩
      | panic ch => exact ⟨_, a₁, w₁, ⟨t1, h1, h2, hq⟩, .pass (x := .inLoop c) rfl (fun _ _ => .inl (by simp)) harr⟩
      | outgrown => exact ⟨_, a₁, w₁, ⟨t1, h1, h2, hq⟩, .pass (x := .inLoop c) rfl (fun _ _ => .inl (by simp)) harr⟩
  intro b k cs hro _ _
  obtain ⟨e, a', w', hq, harr⟩ := key n t W a h0 e1 e2 b k cs hro
  exact ⟨e, a', w', hq, .of_steps (.one (fenced_calm (F := Fence.wide) (n := 0) (fr := b.atR a (.code (.loop c) :: k)) trivial (room_wide _) rfl) stepR_loop) harr⟩
/-- operations that read alone -/
theorem reads_in {ops : Array Oper} {V : View} {Q' : Exit → Act → World → Prop} (hV : V.sub W) (rest : List Nat) : ∀ (l : List Oper) (k : Nat) (K : XS → Prop) (t : List SV) (a : Act), (∀ i o, l[i]? = some o → ops[k + i]? = some o) → (l.all fun o => isRead o.op && o.guard.isNone) = true →
    a.tmps = conc0 t → a.defers = [] → (∀ x ∈ t, x.ok 0) → seqX P ops l K ⟨t, [], fun _ => none, V⟩ → (∀ t' a', a'.tmps = conc0 t' → a'.defers = [] → (∀ x ∈ t', x.ok 0) → K ⟨t', [], fun _ => none, V⟩ → wpOpsIn Fence.wide 0 P ops Q' rest a' W) →
    wpOpsIn Fence.wide 0 P ops Q' (List.range' k l.length ++ rest) a W
  | [], k, K, t, a, _, _, e1, e2, hok, h, hk => by simpa using hk t a e1 e2 hok h
  | o :: l, k, K, t, a, hi, hall, e1, e2, hok, h, hk => by
    simp only [List.all_cons, Bool.and_eq_true] at hall
    obtain ⟨⟨hrd, hgd⟩, hall⟩ := hall
    have ho : ops[k]? = some o := by simpa using hi 0 o (by simp)
    have hg : o.guard = none := by cases hx : o.guard <;> simp_all
    simp only [List.length_cons, List.range'_succ, List.cons_append]
    rw [wpOpsIn_cons]
    unfold wpOpIn
    simp only [ho]
    have hw : Region.wanted o (yielded ops a.tmps) = true := by unfold Region.wanted; rw [hg]
    rw [if_pos hw]
    unfold seqX stepX at h
    rw [hg] at h
    dsimp only at h
    unfold opX at h
    rw [if_pos hrd] at h
    obtain ⟨sv, ⟨hsv, hrun⟩, h⟩ := readX_sound (s := ⟨t, [], fun _ => none, V⟩) hok h
    have hr := hrun ⟨W, V, W, none⟩ (fun _ => 0) a W e1 ⟨fun i vs hi => by simp at hi, fun b r hb => (by cases hb), hV, Below.refl _ _⟩
    refine ⟨fun _ _ => trivial, ?_⟩
    have hd : ∀ c, o.op ≠ .defer c := fun c e => by rw [e] at hrd; cases hrd
    rw [Oper.semAt_eq _ _ _ hd, hr]
    have hconc : Conc ⟨W, V, W, none⟩ (fun _ => 0) ⟨t, [], fun _ => none, V⟩ a W := ⟨e1, ⟨⟨[], by rw [e2]; rfl, List.nodup_nil, fun D hD => by simp at hD⟩, KeepsOthers.refl _⟩, ⟨fun i vs hi => by simp at hi, fun b r hb => (by cases hb), hV, Below.refl _ _⟩, ⟨fun i j hi => by simp at hi, fun i hi => by simp at hi, fun b r hb => (by cases hb), View.le_refl _, View.from_refl _ _⟩, hok⟩
    have hput := hconc.put o.dst sv hsv
    have et : (XS.put ⟨t, [], fun _ => none, V⟩ o.dst sv) = ⟨(XS.put ⟨t, [], fun _ => none, V⟩ o.dst sv).t, [], fun _ => none, V⟩ := by cases o.dst <;> rfl
    rw [et] at h
    have hok2 : ∀ x ∈ (XS.put ⟨t, [], fun _ => none, V⟩ o.dst sv).t, x.ok 0 := by
      have := put_ok (s := ⟨t, [], fun _ => none, V⟩) hok o.dst hsv
      rw [XS.put_bx] at this; exact this
    refine reads_in hV rest l (k + 1) K _ _ (fun i o' h' => ?_) hall hput.tm ?_ hok2 h hk
    · have := hi (i + 1) o' (by simpa using h')
      rw [show k + 1 + i = k + (i + 1) by omega]; exact this
    · cases o.dst <;> exact e2
theorem YW.reads {id : Nat} {ops : Array Oper} {V : View} (hV : V.sub W) (hok : ∀ x ∈ t, x.ok 0) (hall : (ops.toList.all fun o => isRead o.op && o.guard.isNone) = true) (h : seqX P ops ops.toList (fun s => (∀ x ∈ s.t, x.ok 0) → Q .normal s.t W) ⟨t, [], fun _ => none, V⟩) : YW P (.region id ops false) Q t W := fun a e1 e2 => by
  refine wpIn_region ?_
  have := reads_in (Q' := YQ Q) hV [] ops.toList 0 _ t a (fun i o h => by simpa using h) hall e1 e2 hok h fun t' a' e1' e2' hok' hk => ⟨t', e1', e2', hk hok'⟩
  rwa [List.append_nil, Array.length_toList, ← List.range_eq_range'] at this
/-- reads, a call of yield, reads -/
theorem YW.yield {id : Nat} {ops : Array Oper} {V : View} {pre post : List Oper} {d : Option Tmp} {x : Tmp} {xs : List Operand} {ts : Array TypeId} {ty pos af} (hops : ops.toList = pre ++ ⟨d, .call ⟨.value (.tmp x), xs.toArray, ts⟩, ty, pos, af, none⟩ :: post) (hV : V.sub W) (hok : ∀ x ∈ t, x.ok 0)
    (hpre : (pre.all fun o => isRead o.op && o.guard.isNone) = true) (hpost : (post.all fun o => isRead o.op && o.guard.isNone) = true)
    (h : seqX P ops pre (fun s => ∃ (l : Nat) (args : List Value) (R : Ending → World → Prop), s.ev (.tmp x) = .v (.func (.yield l) #[] #[]) ∧ xs.map s.ev = args.map .v ∧ YieldAt Fence.wide 0 P l args.toArray W R ∧
      ∀ e W', R e W' → ∃ b, e = .returned (.bool b) ∧ V.sub W' ∧ seqX P ops post (fun s' => (∀ x ∈ s'.t, x.ok 0) → Q .normal s'.t W') (s.put d (.v (.bool b)))) ⟨t, [], fun _ => none, V⟩) : YW P (.region id ops false) Q t W := fun a e1 e2 => by
  refine wpIn_region ?_
  have hlen : List.range ops.size = List.range' 0 pre.length ++ (pre.length :: List.range' (pre.length + 1) post.length) := by
    have : ops.size = pre.length + (post.length + 1) := by rw [← Array.length_toList, hops]; simp
    rw [this, List.range_eq_range', ← List.range'_append_1, Nat.zero_add, List.range'_succ]
  rw [hlen]
  have hget : ∀ i : Nat, ops[i]? = (pre ++ ⟨d, .call ⟨.value (.tmp x), xs.toArray, ts⟩, ty, pos, af, none⟩ :: post)[i]? := fun i => by rw [← hops]; simp
  refine reads_in hV _ pre 0 _ t a (fun i o h => by
    rw [hget, Nat.zero_add, List.getElem?_append_left (List.getElem?_eq_some_iff.1 h).1]; exact h) hpre e1 e2 hok h fun t' a' e1' e2' hok' hk => ?_
  obtain ⟨l, args, R, hx, hxs, ⟨fn, tmps, assign, body, hrun, hround⟩, hR⟩ := hk
  rw [wpOpsIn_cons]
  unfold wpOpIn
  have ho : ops[pre.length]? = some ⟨d, .call ⟨.value (.tmp x), xs.toArray, ts⟩, ty, pos, af, none⟩ := by rw [hget, List.getElem?_append_right (Nat.le_refl _), Nat.sub_self]; rfl
  simp only [ho]
  rw [if_pos (by unfold Region.wanted; rfl)]
  refine ⟨fun _ _ => trivial, ?_⟩
  rw [Oper.semAt_eq _ _ _ (fun c e => by cases e)]
  have hev : a'.eval (.tmp x) = .func (.yield l) #[] #[] := by rw [ev0 e1' _ (fun _ => none) V, hx]; rfl
  have hargs : xs.toArray.map a'.eval = args.toArray := by
    apply Array.ext'
    simp only [Array.toList_map]
    have h2 : xs.map a'.eval = (xs.map (⟨t', [], fun _ => none, V⟩ : XS).ev).map (SV.conc fun _ => 0) := by
      rw [List.map_map]
      exact List.map_congr_left fun q _ => ev0 e1' q (fun _ => none) V
    rw [h2, hxs, List.map_map]
    have : (SV.conc fun _ => 0) ∘ SV.v = fun x => x := rfl
    rw [this, List.map_id']
  have hcall : (execOp a'.eval ⟨d, .call ⟨.value (.tmp x), xs.toArray, ts⟩, ty, pos, af, none⟩).run P W = .ok (.round l fn tmps assign body) W := by
    simp [execOp, resolve, hev, Deferred.ofValue, invoke, callFunc, hargs, hrun]
  rw [hcall]
  refine ⟨fun h => by simp [Fence.wide] at h, hround.mono fun e W' hre => ?_⟩
  obtain ⟨b, rfl, hV', hpo⟩ := hR e W' hre
  dsimp only
  have hokp : ∀ y ∈ (XS.put ⟨t', [], fun _ => none, V⟩ d (.v (.bool b))).t, y.ok 0 := by
    have := put_ok (s := ⟨t', [], fun _ => none, V⟩) hok' d (x := .v (.bool b)) trivial
    rw [XS.put_bx] at this; exact this
  have et : (XS.put ⟨t', [], fun _ => none, V⟩ d (.v (.bool b))) = ⟨(XS.put ⟨t', [], fun _ => none, V⟩ d (.v (.bool b))).t, [], fun _ => none, V⟩ := by cases d <;> rfl
  rw [et] at hpo
  have := reads_in (Q' := YQ Q) hV' [] post (pre.length + 1) _ _ (a'.put d (.bool b)) (fun i o h => by
    rw [hget, List.getElem?_append_right (by omega), show pre.length + 1 + i - pre.length = i + 1 by omega]; simpa using h) hpost (conc_put (s := ⟨t', [], fun _ => none, V⟩) e1' d (.v (.bool b))) (by cases d <;> exact e2') hokp hpo fun t2 a2 e3 e4 hok2 hk => ⟨t2, e3, e4, hk hok2⟩
  rwa [List.append_nil] at this
end
end Go.Proofs.Ythoboehbadmlmaa
end
section
namespace Go.Proofs.Ythoboehbadmlmaa
open Go Go.RowKit
set_option linter.unusedSimpArgs false
set_option linter.unusedVariables false
attribute [local irreducible] XWP Spec SpecO XPub XCall seqX clX apX stX ldX iaX slX
attribute [local irreducible] YW
def TIs (F : (Nat → SV) → List SV) (t : List SV) : Prop := F (nth t) = t
theorem TIs.out {F : (Nat → SV) → List SV} {t : List SV} (h : TIs F t) : ∃ u, t = F u := ⟨nth t, h.symm⟩
/-- the program's way: from the highest power down -/
def hor (l : List Rat) (x : Rat) : Nat → Rat
  | 0 => 0
  | r + 1 => hor l x r * x + cf l (l.length - 1 - r)
end Go.Proofs.Ythoboehbadmlmaa
end
section
namespace Go.Proofs.Ythoboehbadmlmaa
open Go Go.RowKit
set_option linter.unusedSimpArgs false
set_option linter.unusedVariables false
attribute [local irreducible] XWP Spec SpecO XPub XCall seqX clX apX stX ldX iaX slX
end Go.Proofs.Ythoboehbadmlmaa
end
section
namespace Go.Proofs.Ythoboehbadmlmaa
open Go Go.RowKit
set_option linter.unusedSimpArgs false
set_option linter.unusedVariables false
attribute [local irreducible] XWP Spec SpecO XPub XCall seqX clX apX stX ldX iaX slX
section
variable {V : View} {v u : Value} {P Q : List Raw} (hv : Raws V v P) (hu : Raws V u Q) (fP : fewR P) (fQ : fewR Q) (lP : P.length ≤ 9) (lQ : Q.length ≤ 9)
include hv hu fP fQ lP lQ
end
end Go.Proofs.Ythoboehbadmlmaa
end
section
namespace Go.Proofs.Ythoboehbadmlmaa
open Go Go.RowKit
set_option linter.unusedSimpArgs false
set_option linter.unusedVariables false
attribute [local irreducible] XWP Spec SpecO XPub XCall seqX clX apX stX ldX iaX slX
section
variable {V : View} {v u : Value} {P Q : List Raw} (hv : Raws V v P) (hu : Raws V u Q) (fP : fewR P) (fQ : fewR Q) (lP : P.length ≤ 5) (lQ : Q.length ≤ 5)
include hv hu fP fQ lP lQ
end
end Go.Proofs.Ythoboehbadmlmaa
end
section
namespace Go.Proofs.Ythoboehbadmlmaa
open Go Go.RowKit
set_option linter.unusedSimpArgs false
set_option linter.unusedVariables false
attribute [local irreducible] XWP Spec SpecO XPub XCall seqX clX apX stX ldX iaX slX
end Go.Proofs.Ythoboehbadmlmaa
end
section
namespace Go.Proofs.Ythoboehbadmlmaa
open Go Go.RowKit
set_option linter.unusedSimpArgs false
set_option linter.unusedVariables false
attribute [local irreducible] XWP Spec SpecO XPub XCall seqX clX apX stX ldX iaX slX
end Go.Proofs.Ythoboehbadmlmaa
end
section
namespace Go.Proofs.Ythoboehbadmlmaa
open Go Go.RowKit
set_option linter.unusedSimpArgs false
set_option linter.unusedVariables false
attribute [local irreducible] XWP Spec SpecO XPub XCall seqX clX apX stX ldX iaX slX
end Go.Proofs.Ythoboehbadmlmaa
end
section
namespace Go.Proofs.Ythoboehbadmlmaa
def hf : Rat := 1 / 2
def pw : Nat → Rat
  | 0 => 1
  | k + 1 => pw k * hf
def pwL (n : Nat) : List Rat := mk n pw
theorem pwL_len (n : Nat) : (pwL n).length = n := mk_len _ _
theorem pwL_succ (n : Nat) : pwL (n + 1) = pwL n ++ [pw n] := by
  unfold pwL mk; rw [List.range_succ, List.map_append]; rfl
theorem cf_pwL {n k : Nat} (h : k < n) : cf (pwL n) k = pw k := by unfold pwL; rw [cf_mk, if_pos h]
theorem pw_next (n : Nat) : pwL (n + 1) = 1 :: mk n fun k => pw (k + 1) := by
  unfold pwL mk
  rw [List.range_succ_eq_map, List.map_cons, List.map_map]; rfl
theorem step_pw (k : Nat) : stepv [1] [hf] 1 k = [pw k] := by
  induction k with
  | zero => rfl
  | succ k ih =>
    rw [stepv, ih]
    show mk 1 (fun c => tS [pw k] [hf] 1 c 1) = [pw (k + 1)]
    show [0 + pw k * hf] = [pw k * hf]
    rw [Rat.zero_add]
theorem ends_pw (n : Nat) : endsL [1] [hf] [hf] 1 1 0 n = mk n fun k => pw (k + 1) := by
  unfold endsL
  refine List.map_congr_left fun k _ => ?_
  rw [step_pw]
  show 0 + pw k * hf = pw k * hf
  rw [Rat.zero_add]
theorem nxI_pw (n : Nat) : nxI [1] [hf] n = pwL (n + 1) := by
  induction n with
  | zero => rfl
  | succ n ih =>
    rw [nxI, ih, pwL_succ (n + 1)]
    congr 2
    show 0 + hf * cf (pwL (n + 1)) ((pwL (n + 1)).length - 1 - 0) = pw n * hf
    rw [pwL_len, Nat.add_sub_cancel, Nat.sub_zero, cf_pwL (by omega), Rat.zero_add, Rat.mul_comm]
theorem next_pw (n : Nat) : nextP [1] [hf] n = mk n fun k => pw (k + 1) := by
  unfold nextP
  rw [nxI_pw, pw_next]; rfl
theorem ser_pw (n : Nat) : serI [1] [1, -hf] n = pwL n := by
  have := ser_of (p := [1]) (q := [1, -hf]) (y := pwL n) (by decide +kernel) fun i hi => by
    rw [pwL_len] at hi
    rw [cv_front]
    cases i with
    | zero =>
      rw [cf_pwL hi]
      show (1 : Rat) * 1 + 0 = 1
      decide +kernel
    | succ i =>
      rw [cf_pwL hi, Sm_front, cf_pwL (show i + 1 - (0 + 1) < n by omega), Sm_zero i fun j hj => by
        rw [cf_none (l := [1, -hf]) (i := j + 1 + 1) (by simp)]; grind]
      show (1 : Rat) * (pw i * hf) + ((-hf) * pw (i + 1 - (0 + 1)) + 0) = 0
      rw [show i + 1 - (0 + 1) = i by omega]
      grind
  rw [pwL_len] at this; exact this
theorem off_pw {n i : Nat} (h1 : 1 ≤ i) (h : i < n) : off (pwL n) [1, -hf] i = 0 := by
  unfold off
  have : min ([1, -hf] : List Rat).length (i + 1) = 2 := by simp; omega
  rw [this]
  show 0 + 1 * cf (pwL n) (i - 0) + (-hf) * cf (pwL n) (i - 1) = 0
  obtain ⟨j, rfl⟩ : ∃ j, i = j + 1 := ⟨i - 1, by omega⟩
  rw [Nat.sub_zero, Nat.add_sub_cancel, cf_pwL h, cf_pwL (by omega)]
  show 0 + 1 * (pw j * hf) + (-hf) * pw j = 0
  grind
theorem bm_pw {n : Nat} (hn : 2 ≤ n) : bmI (pwL n) 1 = ⟨[1, -1], [1], 1, 1, 1⟩ ∧ ∀ i, i + 2 ≤ n → bmI (pwL n) (i + 2) = ⟨[1, -hf], [1], 1, i + 2, 1⟩ := by
  have o0 : off (pwL n) [1] 0 = 1 := by
    show 0 + 1 * cf (pwL n) 0 = 1
    rw [cf_pwL (by omega)]; decide +kernel
  have o1 : off (pwL n) [1, -1] 1 = -hf := by
    show 0 + 1 * cf (pwL n) 1 + (-1) * cf (pwL n) 0 = -hf
    rw [cf_pwL (by omega), cf_pwL (by omega)]; decide +kernel
  have e1 : bmI (pwL n) 1 = ⟨[1, -1], [1], 1, 1, 1⟩ := by
    show bmStep (pwL n) ⟨[1], [1], 0, 1, 1⟩ 0 = _
    unfold bmStep bmNext
    dsimp only
    rw [o0, if_neg (by decide +kernel), if_pos (by omega)]
    decide +kernel
  refine ⟨e1, fun i => ?_⟩
  induction i with
  | zero =>
    intro _
    rw [bmI, e1]
    unfold bmStep bmNext
    dsimp only
    rw [o1, if_neg (by decide +kernel), if_neg (by omega)]
    decide +kernel
  | succ i ih =>
    intro hi
    rw [bmI, ih (by omega)]
    unfold bmStep
    dsimp only
    rw [if_pos (off_pw (by omega) (by omega))]
theorem bmOut_pw {n : Nat} (hn : 2 ≤ n) : bmOut (bmI (pwL n) n) = [hf] ∧ (bmI (pwL n) n).size = 1 := by
  obtain ⟨i, rfl⟩ : ∃ i, n = i + 2 := ⟨n - 2, by omega⟩
  rw [(bm_pw hn).2 i (Nat.le_refl _)]
  exact ⟨by show [-(-hf)] = [hf]; rw [Rat.neg_neg], rfl⟩
theorem hf_mk : hf = mkRat 1 2 := by decide +kernel
theorem pw_mk (k : Nat) : pw k = mkRat 1 (2 ^ k) := by
  induction k with
  | zero => decide +kernel
  | succ k ih => rw [pw, ih, hf_mk, Rat.mkRat_mul_mkRat, Nat.pow_succ]; rfl
theorem pw_over {n k : Nat} (h : k ≤ n) : Over (2 ^ n) n (pw k) := by
  refine ⟨((2 ^ (n - k) : Nat) : Int), ?_, ?_⟩
  · rw [Int.natAbs_natCast]; exact two_mono (by omega)
  · have e : 2 ^ n = 2 ^ k * 2 ^ (n - k) := by rw [← Nat.pow_add]; congr 1; omega
    have h2 : 2 ^ (n - k) ≠ 0 := by have := two_pos (n - k); omega
    rw [pw_mk, e]
    have := Rat.mkRat_mul_right (n := 1) (d := 2 ^ k) h2
    rw [Int.one_mul] at this
    exact this.symm
theorem mk_pw_CB {m n c : Nat} (h : m + c ≤ n + 1) : CB n (mk m fun k => pw (k + c)) := by
  refine ⟨2 ^ n, two_pos n, Nat.le_refl _, fun i => ?_⟩
  rw [cf_mk]
  split
  · exact pw_over (by omega)
  · exact Over.zero _ _
theorem pwL_CB (n : Nat) : CB n (pwL n) := mk_pw_CB (m := n) (c := 0) (by omega)
theorem pw_CB1 (n : Nat) : CB n [pw n] := by
  refine ⟨2 ^ n, two_pos n, Nat.le_refl _, fun i => ?_⟩
  cases i with
  | zero => exact pw_over (Nat.le_refl _)
  | succ i => rw [cf_none (by simp)]; exact Over.zero _ _
theorem hf_QB : QB 1 hf := by
  have := (pw_CB1 1).at 0
  have e : cf [pw 1] 0 = hf := by decide +kernel
  rw [e] at this; exact this
end Go.Proofs.Ythoboehbadmlmaa
end
section
namespace Go.Proofs.Ythoboehbadmlmaa
open Go Go.RowKit
set_option linter.unusedSimpArgs false
set_option linter.unusedVariables false
attribute [local irreducible] XWP Spec SpecO XPub XCall seqX clX apX stX ldX iaX slX
theorem dsize_c (V : View) (n : Nat) (hn : n < 4611686018427387904) : Spec Try.prog 96 [.int .i64 (n : Int)] V fun v' V' => ∃ w, v' = .tuple #[w, .bool false] ∧ NatC V' w n := by
  have b1 : decide ((n : Int) < 0) = false := decide_eq_false (by omega)
  have w1 : IntKind.u64.wrap (n : Int) = (n : Int) := w64_id (by omega) (by omega)
  refine (Spec.enter Try.func96 rfl fun Γ => ?_)
  simp only [Try.ntmps96, List.map_cons, List.map_nil, List.length_cons, List.length_nil, Nat.reduceAdd, Nat.reduceSub, List.replicate_succ, List.replicate_zero, List.cons_append, List.nil_append]
  first | refine Gx.a (by kernel_rfl) fun K hK => ?_ | refine Gx.b (by kernel_rfl) fun K hK => ?_ | refine Gx.c (by kernel_rfl) fun K hK => ?_
  simp only [XA, XB, gateX, Nat.reduceAdd, Nat.reduceLeDiff, Nat.reduceSub, Nat.reduceMul, ↓reduceIte, Int.reduceToNat, Int.reduceLE, beq_self_eq_true]
  refine hK _ ?_
  refine XWP.seq ?_
  first | refine Gx.a (by kernel_rfl) fun K hK => ?_ | refine Gx.b (by kernel_rfl) fun K hK => ?_ | refine Gx.c (by kernel_rfl) fun K hK => ?_
  simp only [XA, XB, gateX, Nat.reduceAdd, Nat.reduceLeDiff, Nat.reduceSub, Nat.reduceMul, ↓reduceIte, Int.reduceToNat, Int.reduceLE, beq_self_eq_true, b1]
  refine hK _ ?_
  first | refine Gx.f rfl ?_ | refine XWP.seq (Gx.f rfl ?_)
  refine XWP.skip ?_
  first | refine Gx.a (by kernel_rfl) fun K hK => ?_ | refine Gx.b (by kernel_rfl) fun K hK => ?_ | refine Gx.c (by kernel_rfl) fun K hK => ?_
  simp only [XA, XB, gateX, Nat.reduceAdd, Nat.reduceLeDiff, Nat.reduceSub, Nat.reduceMul, ↓reduceIte, Int.reduceToNat, Int.reduceLE, beq_self_eq_true, w1]
  refine call_go (by kernel_rfl) rfl (rof_c _ n (by omega)) fun v1 V1 hV1 h1 => ?_
  simp only [XA, XB, gateX, Nat.reduceAdd, Nat.reduceLeDiff, Nat.reduceSub, Nat.reduceMul, ↓reduceIte, Int.reduceToNat, Int.reduceLE, beq_self_eq_true]
  refine hK _ (XWP.ret ?_)
  try simp only [thenX_ret, inBlockX_ret]
  refine ret_go _ rfl ?_
  exact ⟨_, rfl, h1⟩
theorem dmake_c (V : View) : Spec Try.prog 46 [.int .i64 1, .int .i64 2] V fun v' V' => ∃ w, v' = .tuple #[w, .int .i64 0] ∧ RatC V' w hf := by
  refine (Spec.enter Try.func46 rfl fun Γ => ?_)
  simp only [Try.ntmps46, List.map_cons, List.map_nil, List.length_cons, List.length_nil, Nat.reduceAdd, Nat.reduceSub, List.replicate_succ, List.replicate_zero, List.cons_append, List.nil_append]
  first | refine Gx.a (by kernel_rfl) fun K hK => ?_ | refine Gx.b (by kernel_rfl) fun K hK => ?_ | refine Gx.c (by kernel_rfl) fun K hK => ?_
  simp only [XA, XB, gateX, Nat.reduceAdd, Nat.reduceLeDiff, Nat.reduceSub, Nat.reduceMul, ↓reduceIte, Int.reduceToNat, Int.reduceLE, beq_self_eq_true]
  refine hK _ ?_
  first | refine Gx.a (by kernel_rfl) fun K hK => ?_ | refine Gx.b (by kernel_rfl) fun K hK => ?_ | refine Gx.c (by kernel_rfl) fun K hK => ?_
  simp only [XA, XB, gateX, Nat.reduceAdd, Nat.reduceLeDiff, Nat.reduceSub, Nat.reduceMul, ↓reduceIte, Int.reduceToNat, Int.reduceLE, beq_self_eq_true]
  refine call_go (by kernel_rfl) rfl (dsize_c _ 1 (by omega)) fun v1 V1 hV1 h1 => ?_
  obtain ⟨w1, rfl, h1⟩ := h1
  simp only [XA, XB, gateX, Nat.reduceAdd, Nat.reduceLeDiff, Nat.reduceSub, Nat.reduceMul, ↓reduceIte, Int.reduceToNat, Int.reduceLE, beq_self_eq_true]
  refine hK _ ?_
  first | refine Gx.a (by kernel_rfl) fun K hK => ?_ | refine Gx.b (by kernel_rfl) fun K hK => ?_ | refine Gx.c (by kernel_rfl) fun K hK => ?_
  simp only [XA, XB, gateX, Nat.reduceAdd, Nat.reduceLeDiff, Nat.reduceSub, Nat.reduceMul, ↓reduceIte, Int.reduceToNat, Int.reduceLE, beq_self_eq_true]
  refine call_go (by kernel_rfl) rfl (dsize_c _ 2 (by omega)) fun v2 V2 hV2 h2 => ?_
  obtain ⟨w2, rfl, h2⟩ := h2
  simp only [XA, XB, gateX, Nat.reduceAdd, Nat.reduceLeDiff, Nat.reduceSub, Nat.reduceMul, ↓reduceIte, Int.reduceToNat, Int.reduceLE, beq_self_eq_true]
  refine hK _ ?_
  first | refine Gx.a (by kernel_rfl) fun K hK => ?_ | refine Gx.b (by kernel_rfl) fun K hK => ?_ | refine Gx.c (by kernel_rfl) fun K hK => ?_
  simp only [XA, XB, gateX, Nat.reduceAdd, Nat.reduceLeDiff, Nat.reduceSub, Nat.reduceMul, ↓reduceIte, Int.reduceToNat, Int.reduceLE, beq_self_eq_true]
  refine call_go (by kernel_rfl) rfl (pof_c _ _ _ _ 1 2 (h1.mono hV2) h2 (Fit1.of_two (B := 1) (by decide) (by omega)) (Fit1.of_two (B := 1) (by decide) (by omega))) fun v3 V3 hV3 h3 => ?_
  obtain ⟨w3, rfl, r3⟩ := h3.2 (by omega)
  clear h3
  obtain ⟨x3, y3, rfl, o1, o2⟩ := r3.form
  simp only [XA, XB, gateX, Nat.reduceAdd, Nat.reduceLeDiff, Nat.reduceSub, Nat.reduceMul, ↓reduceIte, Int.reduceToNat, Int.reduceLE, beq_self_eq_true]
  refine st_rat rfl rfl rfl o1 o2 ?_
  simp only [XA, XB, gateX, Nat.reduceAdd, Nat.reduceLeDiff, Nat.reduceSub, Nat.reduceMul, ↓reduceIte, Int.reduceToNat, Int.reduceLE, beq_self_eq_true]
  refine hK _ (XWP.ret ?_)
  try simp only [thenX_ret, inBlockX_ret]
  refine ret_rat2 rfl rfl rfl rfl ⟨_, rfl, ?_⟩
  rw [show hf = rv false 1 2 by decide +kernel]
  exact r3
end Go.Proofs.Ythoboehbadmlmaa
end
section
namespace Go.Proofs.Ythoboehbadmlmaa
open Go Go.RowKit
set_option linter.unusedSimpArgs false
set_option linter.unusedVariables false
attribute [local irreducible] XWP Spec SpecO XPub XCall seqX clX apX stX ldX iaX slX
theorem placesT_63 : placesT Try.prog 63 = some [(0, 3), (3, 3)] := by kernel_rfl
theorem bd_chn {a b c d e f : Value} : BuildsTo Try.prog 63 #[(0, .agg #[a, b, c]), (1, .agg #[d, e, f])] (.agg #[a, b, c, d, e, f]) := by
  refine bd_run placesT_63 zeroT_63 ?_
  show Instr.fill _ _ [(0, .agg #[a, b, c]), (1, .agg #[d, e, f])] = _
  rw [fill_three (off := 0) rfl (by simp), fill_three (off := 3) rfl (by simp)]; rfl
theorem chB_half : chB 1 1 ([hf].map toRaw) 1 1 ([hf].map toRaw) = true := by
  have e : matR 1 1 ([hf].map toRaw) = true := by unfold matR; rw [okR_toRaw]; rfl
  unfold chB
  rw [e, qs_toRaw]
  have : rowsB (1 : Int).toNat (1 : Int).toNat [hf] [hf] (1 : Int).toNat = true := by decide +kernel
  rw [this]; rfl
theorem wtB_unit : wtB 1 ([(1 : Rat)].map toRaw) = true := wtB_raw (n := 1) rfl fun j hj => by
  obtain rfl : j = 0 := by omega
  decide +kernel
theorem endsE_half {n : Nat} (h : n ≤ 400) : endsE 1 1 ([hf].map toRaw) 1 1 ([hf].map toRaw) ([(1 : Rat)].map toRaw) 0 n = 0 := by
  unfold endsE
  rw [chB_half, wtB_unit, if_neg (by simp <;> omega), if_neg (by omega)]
theorem hf_CB : CB 1 [hf] := CB_one hf_QB
theorem one_CB : CB 0 [(1 : Rat)] := CB_one (QB_one 0)
theorem qf_pw (k : Nat) (h : k ≤ 1000) : QF (pw k) := by
  have := (pw_CB1 k).at 0
  exact this.qf (by omega)
theorem hf_qf : QF hf := hf_QB.qf (by omega)
/-- a row made new is none that is there -/
theorem new_ne {H : Heap} {b g : Nat} {r : Row} (hb : H b = none) (hg : H g = some r) : g ≠ b := fun e => by rw [e, hb] at hg; cases hg
/-- Ends of the chain that stays with 1/2 -/
theorem ends_half (V : View) (s v : Value) (n : Nat) (hn : n ≤ 400) (hs : Rats V s [hf]) (hv : Rats V v [1]) :
    Spec Try.prog 39 [.agg #[.int .i64 1, .int .i64 1, s, .int .i64 1, .int .i64 1, s], v, .int .i64 0, .int .i64 (n : Int)] V fun v' V' => ∃ w, v' = .tuple #[w, .int .i64 0] ∧ Rats V' w (mk n fun k => pw (k + 1)) := by
  refine (cends_c V s s v 1 1 1 1 ([hf].map toRaw) ([hf].map toRaw) ([(1 : Rat)].map toRaw) 0 n (Rats.raws hs) (Rats.raws hs) (Rats.raws hv) (hf_CB.fitR (by omega)) (hf_CB.fitR (by omega)) (one_CB.fitR (by omega)) (by simp) (by simp) (by simp) 1 1 401 (fun _ => by rw [qs_toRaw]; exact hf_CB) (fun _ => by rw [qs_toRaw]; exact hf_CB) (fun _ k hk => ?_) (by omega)).mono fun v' V' _ h => ?_
  · rw [qs_toRaw, qs_toRaw]
    show CB 401 (stepv [1] [hf] 1 k)
    rw [step_pw]
    rw [Int.toNat_natCast] at hk
    exact (pw_CB1 k).mono (by omega)
  · have := h.2 (endsE_half hn)
    rw [qs_toRaw, qs_toRaw] at this
    have e : endsL [(1 : Rat)] [hf] [hf] (1 : Int).toNat (1 : Int).toNat (0 : Int).toNat (n : Int).toNat = mk n fun k => pw (k + 1) := by rw [Int.toNat_natCast]; exact ends_pw n
    rw [e] at this; exact this
theorem rec_half (V : View) (v : Value) (n : Nat) (hn : 2 ≤ n) (h4 : n ≤ 400) (hv : Rats V v (pwL n)) :
    Spec Try.prog 13 [v] V fun v' V' => ∃ w, v' = .tuple #[w, .int .i64 0] ∧ Rats V' w [hf] := by
  have el : ((pwL n).map toRaw).length = n := by rw [List.length_map, pwL_len]
  obtain ⟨b1, b2⟩ := bm_pw hn
  obtain ⟨e1, e2⟩ := bmOut_pw hn
  have q1 : ∀ x ∈ ([1] : List Rat), QB 2 x := by simp; exact QB_one 2
  have q2 : ∀ x ∈ ([1, -1] : List Rat), QB 2 x := by
    intro x hx
    simp only [List.mem_cons, List.not_mem_nil, or_false] at hx
    rcases hx with rfl | rfl
    · exact QB_one 2
    · exact (QB_one 2).neg
  have q3 : ∀ x ∈ ([1, -hf] : List Rat), QB 2 x := by
    intro x hx
    simp only [List.mem_cons, List.not_mem_nil, or_false] at hx
    rcases hx with rfl | rfl
    · exact QB_one 2
    · exact hf_QB.neg.mono (by omega)
  have cP := pwL_CB n
  have fit : ∀ i, i < n → ∃ q last size ago, bmI (pwL n) i = ⟨q, last, size, ago, 1⟩ ∧ (∀ x ∈ q, QB 2 x) ∧ (∀ x ∈ last, QB 2 x) ∧ q.length ≤ 2 ∧ QB 1 (off (pwL n) q i) := by
    intro i hi
    match i with
    | 0 =>
      refine ⟨[1], [1], 0, 1, rfl, q1, q1, by simp, ?_⟩
      have : off (pwL n) [1] 0 = 1 := by
        show 0 + 1 * cf (pwL n) 0 = 1
        rw [cf_pwL (by omega)]; decide +kernel
      rw [this]; exact QB_one 1
    | 1 =>
      refine ⟨_, _, _, _, b1, q2, q1, by simp, ?_⟩
      have : off (pwL n) [1, -1] 1 = -hf := by
        show 0 + 1 * cf (pwL n) 1 + (-1) * cf (pwL n) 0 = -hf
        rw [cf_pwL (by omega), cf_pwL (by omega)]; decide +kernel
      rw [this]; exact hf_QB.neg
    | i + 2 =>
      refine ⟨_, _, _, _, b2 i (by omega), q3, q1, by simp, ?_⟩
      rw [off_pw (by omega) hi]; exact QB_zero 1
  refine (crec_c V v ((pwL n).map toRaw) (Rats.raws hv) (cP.fitR (by omega)) (by omega) (fun _ i hi => ?_) (fun _ x hx => ?_) (fun _ i => ?_)).mono fun v' V' _ h => ?_
  · rw [qs_toRaw]
    obtain ⟨q, last, size, ago, e, hq, hl, hql, hd⟩ := fit i (by omega)
    rw [e]
    have hcq : ∀ k, QB 2 (cf q k) := fun k => by
      by_cases hk : k < q.length
      · exact hq _ (cf_mem hk)
      · rw [cf_none (by omega)]; exact QB_zero 2
    have hterm : ∀ k, QB (2 + n) (cf q k * cf (pwL n) (i - k)) := fun k => (hcq k).mul (cP.at _)
    have hoff : ∀ k, k ≤ 2 → QB (2 * (2 + n) + 10) (offS (pwL n) q i k) := fun k hk => by
      match k, hk with
      | 0, _ => exact QB_zero _
      | 1, _ => exact ((QB_zero 0).add (hterm 0)).mono (by omega)
      | 2, _ => exact (((QB_zero 0).add (hterm 0)).add (hterm 1)).mono (by omega)
    have hdv : off (pwL n) q i / 1 = off (pwL n) q i := by rw [Rat.div_def]; grind
    refine ⟨fun x hx => (hq x hx).qf (by omega), fun k hk => ⟨(hoff k (by have hk' : k < min q.length (i + 1) := hk; omega)).qf (by omega), (hterm k).qf (by omega)⟩, hd.qf (by omega), QF_one, ?_, 2, 2, 1, hq, hl, ?_, by omega⟩
    · show QF (off (pwL n) q i / 1)
      rw [hdv]; exact hd.qf (by omega)
    · show QB 1 (off (pwL n) q i / 1)
      rw [hdv]; exact hd
  · rw [qs_toRaw] at hx; exact cP.qf (by omega) x hx
  · rw [qs_toRaw, el]
    obtain ⟨j, rfl⟩ : ∃ j, n = j + 2 := ⟨n - 2, by omega⟩
    rw [b2 j (by omega)]
    show QF (cf [1, -hf] i)
    by_cases hk : i < ([1, -hf] : List Rat).length
    · exact (q3 _ (cf_mem hk)).qf (by omega)
    · rw [cf_none (by omega)]; exact QF_zero
  · have := h.2.2 (okR_toRaw _)
    rw [qs_toRaw, el, e1, e2] at this
    exact this (by omega)
end Go.Proofs.Ythoboehbadmlmaa
end
section
namespace Go.Proofs.Ythoboehbadmlmaa
open Go Go.RowKit
set_option linter.unusedSimpArgs false
set_option linter.unusedVariables false
attribute [local irreducible] XWP Spec SpecO XPub XCall seqX clX apX stX ldX iaX slX
theorem next_half (V : View) (v u : Value) (n : Nat) (hn : n ≤ 400) (hv : Rats V v [1]) (hu : Rats V u [hf]) :
    Spec Try.prog 15 [v, u, .int .i64 (n : Int)] V fun v' V' => ∃ w, v' = .tuple #[w, .int .i64 0] ∧ Rats V' w (mk n fun k => pw (k + 1)) := by
  have e : listsE ([(1 : Rat)].map toRaw) ([hf].map toRaw) (n : Int) = 0 := by
    unfold listsE
    rw [okR_toRaw, okR_toRaw, if_neg (by simp), if_neg (by simp; omega), if_neg (by simp)]
  refine (cnext_c V v u ([(1 : Rat)].map toRaw) ([hf].map toRaw) n (Rats.raws hv) (Rats.raws hu) (one_CB.fitR (by omega)) (hf_CB.fitR (by omega)) (by simp) (by simp) 401 1 (fun _ => ?_) (by omega)).mono fun v' V' _ h => ?_
  · rw [qs_toRaw, qs_toRaw, Int.toNat_natCast, nxI_pw]
    exact ⟨(pwL_CB (n + 1)).mono (by omega), hf_CB⟩
  · have := h.2 e
    rw [qs_toRaw, qs_toRaw, Int.toNat_natCast, next_pw] at this
    exact this
theorem ser_half (V : View) (v u : Value) (n : Nat) (hn : n ≤ 400) (hv : Rats V v [1]) (hu : Rats V u [1, -hf]) :
    Spec Try.prog 36 [v, u, .int .i64 (n : Int)] V fun v' V' => ∃ w, v' = .tuple #[w, .int .i64 0] ∧ Rats V' w (pwL n) := by
  have hq : CB 4 [1, -hf] := CB_of (B := 2) [1, -hf] fun x hx => by
    simp only [List.mem_cons, List.not_mem_nil, or_false] at hx
    rcases hx with rfl | rfl
    · exact QB_one 2
    · exact hf_QB.neg.mono (by omega)
  have r1 : rightP ([(1 : Rat)].map toRaw) = true := by
    unfold rightP
    rw [okR_toRaw, qs_toRaw]; decide +kernel
  have r2 : rightP ([1, -hf].map toRaw) = true := by
    unfold rightP
    rw [okR_toRaw, qs_toRaw]; decide +kernel
  have e : serE ([(1 : Rat)].map toRaw) ([1, -hf].map toRaw) (n : Int) = 0 := by
    unfold serE
    rw [r1, r2, if_neg (by simp), if_neg (by omega), if_neg (by rw [qs_toRaw]; decide +kernel)]
  refine (cser_c V v u ([(1 : Rat)].map toRaw) ([1, -hf].map toRaw) n (Rats.raws hv) (Rats.raws hu) (one_CB.fitR (by omega)) (hq.fitR (by omega)) (by simp) (by simp) 0 4 400 (fun _ => ?_) (by omega)).mono fun v' V' _ h => ?_
  · rw [qs_toRaw, qs_toRaw, Int.toNat_natCast, ser_pw]
    exact ⟨one_CB, hq, (pwL_CB n).mono (by omega)⟩
  · have := h.2 e
    rw [qs_toRaw, qs_toRaw, Int.toNat_natCast, ser_pw] at this
    exact this
end Go.Proofs.Ythoboehbadmlmaa
end
section
namespace Go.Proofs.Ythoboehbadmlmaa
open Go Go.RowKit
set_option linter.unusedVariables false
/-- a row is published, anywhere -/
theorem XWP.pub {Γ : Cx} {P : Program} {c : Code} {Q : Exit → XS → Prop} {t : List SV} {bx : List (List Value)} {H : Heap} {V : View} (b : Nat) (r : Row) (hr : H b = some r)
    (h : ∀ o, RowObj r o → V.le (addV V b o) → XWP Γ P c Q ⟨t, bx, upd H b none, addV V b o⟩) : XWP Γ P c Q ⟨t, bx, H, V⟩ := by
  intro bl a w hc
  obtain ⟨o, ho, h3, h4, _, h6⟩ := pub_row hc.cw hc.cs hr
  exact h o ho h6 bl a w ⟨hc.tm, hc.df, h3, h4, hc.ok⟩
def MPost (P : Program) (rs : List ResultVar) (R : Value → Heap → View → Prop) : Exit → XS → Prop
  | .normal, s | .ret, s => XPub (fun s' => ∃ vs, resAll P s' rs = some vs ∧ R (oneOf vs) s'.H s'.V) s
  | _, _ => False
/-- A contract over the caller's own rows: from (H, V) to a result and (H', V'). -/
def MSpec (P : Program) (f : FuncId) (args : List Value) (H : Heap) (V : View) (R : Value → Heap → View → Prop) : Prop :=
  ∃ fn c, P.funcs[f]? = some fn ∧ fn.body = some c ∧ ∀ Γ : Cx, Γ.Plain → XWP Γ P c (MPost P fn.results.toList R) ⟨args.map .v ++ List.replicate (fn.ntmps - args.length) (.v undef), [], H, V⟩
theorem MPost_ret {P : Program} {rs : List ResultVar} {R : Value → Heap → View → Prop} {s : XS} : MPost P rs R .ret s = XPub (fun s' => ∃ vs, resAll P s' rs = some vs ∧ R (oneOf vs) s'.H s'.V) s := rfl
theorem MPost_normal {P : Program} {rs : List ResultVar} {R : Value → Heap → View → Prop} {s : XS} : MPost P rs R .normal s = XPub (fun s' => ∃ vs, resAll P s' rs = some vs ∧ R (oneOf vs) s'.H s'.V) s := rfl
theorem MPost.mono {P : Program} {rs : List ResultVar} {R R' : Value → Heap → View → Prop} (hr : ∀ v H V, R v H V → R' v H V) {e : Exit} {s : XS} (h : MPost P rs R e s) : MPost P rs R' e s := by
  cases e with
  | normal => rw [MPost_normal] at h ⊢; exact XPub.mono h fun s' ⟨vs, h1, h2⟩ => ⟨vs, h1, hr _ _ _ h2⟩
  | ret => rw [MPost_ret] at h ⊢; exact XPub.mono h fun s' ⟨vs, h1, h2⟩ => ⟨vs, h1, hr _ _ _ h2⟩
  | _ => exact h
theorem MSpec.mono {P : Program} {f : FuncId} {args : List Value} {H : Heap} {V : View} {R R' : Value → Heap → View → Prop} (h : MSpec P f args H V R) (hr : ∀ v H V, R v H V → R' v H V) : MSpec P f args H V R' := by
  obtain ⟨fn, c, h1, h2, h3⟩ := h
  exact ⟨fn, c, h1, h2, fun Γ hΓ => (h3 Γ hΓ).mono fun e s h => h.mono hr⟩
theorem MSpec.enter {P : Program} {f : FuncId} {fn : Func} {c : Code} {args : List Value} {H : Heap} {V : View} {R : Value → Heap → View → Prop} (hf : P.funcs[f]? = some fn) (hb : fn.body = some c)
    (h : ∀ Γ : Cx, Γ.Plain → XWP Γ P c (MPost P fn.results.toList R) ⟨args.map .v ++ List.replicate (fn.ntmps - args.length) (.v undef), [], H, V⟩) : MSpec P f args H V R := ⟨fn, c, hf, hb, h⟩
theorem leave_marksK {Γ : Cx} {P : Program} {bl : Nat → Nat} {bx : List (List Value)} {H : Heap} {V : View} (hV0 : Γ.V0.sub Γ.w0) (W0 : World) {fn : Func} {R : Ending → World → Prop} {tmps : Array Value} (hs : CS Γ bl bx H V) : ∀ (ms : List Nat) (w : World), CW Γ bl bx H V w → KeepsOthers W0 w → ms.Nodup → (∀ D ∈ ms, (Γ.w0.heap.size ≤ D ∧ W0.heap.size ≤ D) ∧ w.heap[D]? = some (.deferred (some []))) →
    (∀ w', CW Γ bl bx H V w' → KeepsOthers W0 w' → ∃ v, (results fn tmps).run P w' = .ok v w' ∧ R (.returned v) w') → LeavesInM Fence.wide 0 P fn tmps R (ms.map fun D => { target := .collected D, args := #[] }) .returning w
  | [], w, h, ho, _, _, k => k w h ho
  | D :: ms, w, h, ho, hn, hD, k => by
    obtain ⟨⟨h1, h1'⟩, h2⟩ := hD D (by simp)
    obtain ⟨n1, n2⟩ := List.nodup_cons.1 hn
    refine ⟨by simp, .inl ⟨D, _, rfl, run_takeDeferred h2, leave_marksK hV0 W0 hs ms _ (h.turn hV0 hs h2 rfl h1 _) (others_put ho h1' _) n2 (fun E hE => ?_) k⟩⟩
    obtain ⟨h3, h4⟩ := hD E (by simp [hE])
    exact ⟨h3, (World.putObj_heap_other (fun e => n1 (by rw [← e]; exact hE))).trans h4⟩
/-- The call, in the world. -/
theorem MSpec.calls {P : Program} {f : FuncId} {args : List Value} {H : Heap} {V : View} {R : Value → Heap → View → Prop} (h : MSpec P f args H V R) {Γ : Cx} (hV0 : Γ.V0.sub Γ.w0) {bl : Nat → Nat} {w : World} (hw : CW Γ bl [] H V w) (hs : CS Γ bl [] H V) :
    Calls P f args.toArray w fun e w' => ∃ v H' V', e = .returned v ∧ CW Γ bl [] H' V' w' ∧ CS Γ bl [] H' V' ∧ KeepsOthers w w' ∧ R v H' V' := by
  obtain ⟨fn, c, hf, hb, h⟩ := h
  refine (callsIn_wide (n := 0)).1 (callsIn_of_wp_marks hf hb trivial ?_)
  have hc : Conc ⟨Γ.w0, Γ.V0, w, none⟩ bl ⟨args.map .v ++ List.replicate (fn.ntmps - args.length) (.v undef), [], H, V⟩ { tmps := args.toArray ++ Array.replicate (fn.ntmps - args.toArray.size) undef, defers := [] } w := by
    refine ⟨?_, ⟨⟨[], rfl, List.nodup_nil, fun D hD => by simp at hD⟩, KeepsOthers.refl _⟩, hw.cx rfl, hs.cx rfl rfl, fun x hx => ?_⟩
    · have e1 : (SV.conc bl) ∘ SV.v = id := rfl
      have e2 : (SV.conc bl (SV.v undef)) = undef := rfl
      simp [List.map_append, List.map_map, List.map_replicate, e1, e2]
    · simp only [List.mem_append, List.mem_map, List.mem_replicate] at hx
      rcases hx with ⟨_, _, rfl⟩ | ⟨_, rfl⟩ <;> trivial
  refine wpIn_mono (h ⟨Γ.w0, Γ.V0, w, none⟩ ⟨rfl, hV0⟩ bl _ w hc) ?_
  have fin : ∀ bl1 s a w', Conc ⟨Γ.w0, Γ.V0, w, none⟩ bl1 s a w' → MPost P fn.results.toList R .ret s → LeavesInM Fence.wide 0 P fn a.tmps (fun e w' => ∃ v H' V', e = .returned v ∧ CW Γ bl [] H' V' w' ∧ CS Γ bl [] H' V' ∧ KeepsOthers w w' ∧ R v H' V') a.defers .returning w' := by
    intro bl1 s a w' hC hR
    obtain ⟨H', V', h1, h2, _, _, vs, hvs, hR⟩ := hR ⟨Γ.w0, Γ.V0, w, none⟩ bl1 w' hC.cw hC.cs
    obtain ⟨⟨ms, e1, e2, e3⟩, e4⟩ := hC.df
    rw [e1]
    refine leave_marksK (Γ := ⟨Γ.w0, Γ.V0, w, none⟩) hV0 w h2 ms w' h1 e4 e2 (fun D hD => ⟨⟨Nat.le_trans (Cx.base_ge _) (e3 D hD).1, Nat.le_trans (Cx.base_w1 ⟨Γ.w0, Γ.V0, w, none⟩ rfl) (e3 D hD).1⟩, (e3 D hD).2⟩) fun w'' h3 h4 => ⟨_, ?_, _, H', V', rfl, (h3.cx (Γ' := Γ) rfl).nobox, (h2.cx (Γ' := Γ) rfl rfl).nobox, h4, hR⟩
    exact results_run (Γ := ⟨Γ.w0, Γ.V0, w, none⟩) (a := { tmps := a.tmps, defers := [] }) (s := ⟨s.t, s.bx, H', V'⟩) ⟨hC.tm, ⟨⟨[], rfl, List.nodup_nil, fun D hD => by simp at hD⟩, h4⟩, h3, h2, hC.ok⟩ vs hvs
  rintro e a w' ⟨bl1, s, hC, hq⟩
  cases e with
  | normal => exact fin bl1 s a w' hC hq
  | ret => exact fin bl1 s a w' hC hq
  | _ => exact hq.elim

section
variable {Γ : Cx} {P : Program} {ops : Array Oper} {Q : Exit → XS → Prop}
/-- operations in the order of the text, then what follows -/
theorem seqX_ops (rest : List Nat) : ∀ (l : List Oper) (k : Nat) (K : XS → Prop), (∀ i o, l[i]? = some o → ops[k + i]? = some o) → ∀ bl s a w, Conc Γ bl s a w → guardsIn ops s.t.length = true → seqX P ops l K s →
    (∀ bl s a w, Conc Γ bl s a w → guardsIn ops s.t.length = true → K s → wpOps P ops (XQ Γ (onlyN Q)) rest a w) → wpOps P ops (XQ Γ (onlyN Q)) (List.range' k l.length ++ rest) a w
  | [], k, K, _, bl, s, a, w, hc, hg, h, hk => by simpa using hk bl s a w hc hg h
  | o :: l, k, K, hi, bl, s, a, w, hc, hg, h, hk => by
    have ho : ops[k]? = some o := by simpa using hi 0 o (by simp)
    simp only [List.length_cons, List.range'_succ, List.cons_append]
    rw [wpOps_cons]
    refine wpOp_mono ?_ (wpOp_size hc.len (stepX_wp ho (guardsIn_spec hg ho) hc h (XQ Γ (onlyN Q))))
    rintro a' w' ⟨hsz, bl', s', hc', _, hk'⟩
    refine seqX_ops rest l (k + 1) K (fun i o' h' => ?_) bl' s' a' w' hc' (by rw [← hc'.len, hsz]; exact hg) hk' hk
    have := hi (i + 1) o' (by simpa using h')
    rw [show k + 1 + i = k + (i + 1) by omega]; exact this
def MCall (P : Program) (f : FuncId) (args : List SV) (s : XS) (K : Value → XS → Prop) : Prop :=
  s.bx = [] ∧ args.all SV.isV = true ∧ ∃ R, MSpec P f (args.map SV.val) s.H s.V R ∧ ∀ v H V, R v H V → K v ⟨s.t, [], H, V⟩
/-- A region in the order of its text, one of its operations a call over the caller's rows. -/
theorem XWP.regM {id : Nat} {s : XS} (k : Nat) {d : Option Tmp} {f : FuncId} {args : List Operand} {ts : Array TypeId} {ty pos af} (hΓ : Γ.V0.sub Γ.w0) (hk : ops.toList[k]? = some ⟨d, .call ⟨.value (.func f), args.toArray, ts⟩, ty, pos, af, none⟩) (hcl : callable P f = true) (hg : guardsIn ops s.t.length = true)
    (h : seqX P ops (ops.toList.take k) (fun s1 => MCall P f (args.map s1.ev) s1 fun v s2 => seqX P ops (ops.toList.drop (k + 1)) (fun s' => Q .normal s') (s2.put d (.v v))) s) : XWP Γ P (.region id ops false) Q s := by
  intro bl a w hc
  have hnd : noDefer ops = true := by unfold guardsIn at hg; rw [Bool.and_eq_true] at hg; exact hg.1
  refine wpIn_mono (wpIn_region (wpOps_in onlyN_out hnd _ _ _ ?_)) (onlyN_all (Q := Q))
  obtain ⟨hlt, hke⟩ := List.getElem?_eq_some_iff.1 hk
  have hlen : List.range ops.size = List.range' 0 (ops.toList.take k).length ++ (k :: (List.range' (k + 1) (ops.toList.drop (k + 1)).length ++ [])) := by
    have e1 : (ops.toList.take k).length = k := by rw [List.length_take]; omega
    have e2 : ops.size = k + ((ops.toList.drop (k + 1)).length + 1) := by rw [List.length_drop, ← Array.length_toList]; omega
    rw [e1, e2, List.range_eq_range', ← List.range'_append_1, Nat.zero_add, List.range'_succ, List.append_nil]
  rw [hlen]
  refine seqX_ops _ _ 0 _ (fun i o ho => ?_) bl s a w hc hg h ?_
  · rw [Nat.zero_add, ← Array.getElem?_toList]
    rw [List.getElem?_take] at ho
    split at ho
    · exact ho
    · cases ho
  intro bl1 s1 a1 w1 hc1 hg1 ⟨hbx, hall, R, hspec, hK⟩
  obtain ⟨t1, bx1, H1, V1⟩ := s1
  dsimp only at hbx hg1 hspec hK
  subst hbx
  have hok : ops[k]? = some ⟨d, .call ⟨.value (.func f), args.toArray, ts⟩, ty, pos, af, none⟩ := by rw [← Array.getElem?_toList]; exact hk
  rw [wpOps_cons]
  unfold wpOp
  simp only [hok]
  rw [if_pos (by unfold Region.wanted; rfl)]
  refine .inl ?_
  have eargs : ((args.map (⟨t1, [], H1, V1⟩ : XS).ev).map SV.val).toArray = args.toArray.map a1.eval := by
    apply Array.ext'
    simp only [Array.toList_map, List.map_map]
    refine List.map_congr_left fun q hq => ?_
    rw [hc1.ev]
    exact (val_conc (List.all_eq_true.1 hall _ (List.mem_map_of_mem hq))).symm
  have hrun : (execOp a1.eval ⟨d, .call ⟨.value (.func f), args.toArray, ts⟩, ty, pos, af, none⟩).run P w1 = .ok (.enter f (args.toArray.map a1.eval)) w1 := by
    have ef : a1.eval (.func f) = .func (.func f) #[] #[] := rfl
    unfold callable at hcl
    cases hf : P.funcs[f]? with
    | none => simp [hf] at hcl
    | some fn =>
      simp [hf] at hcl
      have hb : fn.body ≠ none := fun hn => by simp [hn] at hcl
      simp [execOp, resolve, ef, Deferred.ofValue, invoke, callFunc, hf, hcl.1, hb]
  unfold Oper.wp
  rw [hrun]
  show Calls P f (args.toArray.map a1.eval) w1 _
  rw [← eargs]
  refine (hspec.calls hΓ hc1.cw hc1.cs).mono ?_
  rintro e w' ⟨v, H', V', rfl, cw, cs, ko, hR⟩
  dsimp only
  have hput := Conc.put (Γ := Γ) (bl := bl1) (s := ⟨t1, [], H', V'⟩) (a := a1) (w := w') ⟨hc1.tm, hc1.df.keep ko, cw, cs, hc1.ok⟩ d (.v v) trivial
  exact seqX_ops [] _ (k + 1) _ (fun i o ho => by rw [← Array.getElem?_toList]; rw [List.getElem?_drop] at ho; exact ho) bl1 _ _ _ hput (by rw [put_len]; exact hg1) (hK v H' V' hR) fun bl s a w hc _ hq => ⟨bl, s, hc, hq⟩
theorem Gx.ma {id : Nat} {s : XS} {y : Code} (k : Nat) {d : Option Tmp} {f : FuncId} {args : List Operand} {ts : Array TypeId} {ty pos af} (hΓ : Γ.Plain) (hk : ops.toList[k]? = some ⟨d, .call ⟨.value (.func f), args.toArray, ts⟩, ty, pos, af, none⟩) (hcl : callable P f = true) (hg : guardsIn ops s.t.length = true)
    (h : ∀ K : XS → Prop, (∀ s', XWP Γ P y Q s' → K s') → seqX P ops (ops.toList.take k) (fun s1 => MCall P f (args.map s1.ev) s1 fun v s2 => seqX P ops (ops.toList.drop (k + 1)) K (s2.put d (.v v))) s) : XWP Γ P (.seq (.region id ops false) y) Q s :=
  XWP.seq (XWP.regM k hΓ.2 hk hcl hg (h _ fun _ h => h))
end
end Go.Proofs.Ythoboehbadmlmaa
end
section
namespace Go.Proofs.Ythoboehbadmlmaa
open Go Go.RowKit
set_option linter.unusedSimpArgs false
set_option linter.unusedVariables false
attribute [local irreducible] XWP Spec SpecO XPub XCall seqX clX apX stX ldX iaX slX
/-- the slice v reads as xs, a cell each -/
def Sl1 {α : Type} (E : El α) (V : View) (v : Value) (xs : List α) : Prop := ∃ A c, v = .slice A xs.length c ∧ xs.length ≤ c ∧ c ≤ 9223372036854775807 ∧ (xs = [] ∨ ∃ b o arr ty fr, A = some ⟨b, o, none⟩ ∧ V b = some (.cells arr ty fr) ∧ ∀ (i : Nat) (x : α), xs[i]? = some x → ∃ u, arr[o + i]? = some u ∧ isOne u = true ∧ E V u x)
/-- the cells of a private row read as xs -/
def R1At {α : Type} (E : El α) (V : View) (cells : List Value) (xs : List α) : Prop := cells.length = xs.length ∧ ∀ (i : Nat) (x : α), xs[i]? = some x → ∃ u, cells[i]? = some u ∧ isOne u = true ∧ E V u x
section
variable {α : Type} {E : El α}
theorem Sl1.mono (hE : ElOk E) {V V' : View} {v : Value} {xs : List α} (h : Sl1 E V v xs) (hV : V.le V') : Sl1 E V' v xs := by
  obtain ⟨A, c, e, h1, h2, h3⟩ := h
  refine ⟨A, c, e, h1, h2, ?_⟩
  rcases h3 with h3 | ⟨b, o, arr, ty, fr, e1, e2, h4⟩
  · exact .inl h3
  · exact .inr ⟨b, o, arr, ty, fr, e1, hV _ _ e2, fun i x hi => by obtain ⟨u, a, b, d⟩ := h4 i x hi; exact ⟨u, a, b, hE _ _ _ _ hV d⟩⟩
theorem Sl1.form {V : View} {v : Value} {xs : List α} (h : Sl1 E V v xs) : ∃ A c, v = .slice A xs.length c ∧ xs.length ≤ c ∧ c ≤ 9223372036854775807 := by
  obtain ⟨A, c, e, h1, h2, _⟩ := h; exact ⟨A, c, e, h1, h2⟩
theorem Sl1.one {V : View} {v : Value} {xs : List α} (h : Sl1 E V v xs) : isOne v = true := by obtain ⟨A, c, rfl, _⟩ := h.form; rfl
theorem Sl1.nil (V : View) : Sl1 E V (.slice none 0 0) ([] : List α) := ⟨none, 0, rfl, Nat.le_refl _, by omega, .inl rfl⟩
theorem Sl1.addr {V : View} {A : Option Addr} {n c : Nat} {xs : List α} (h : Sl1 E V (.slice A n c) xs) (hk : 0 < xs.length) : ∃ b o, A = some ⟨b, o, none⟩ := by
  obtain ⟨A', c', e, _, _, h3⟩ := h
  cases e
  rcases h3 with rfl | ⟨b, o, _, _, _, e1, _⟩
  · simp at hk
  · exact ⟨b, o, e1⟩
theorem Sl1.load {V : View} {b o n c : Nat} {xs : List α} (h : Sl1 E V (.slice (some ⟨b, o, none⟩) n c) xs) (i : Nat) (hi : i < xs.length) : ∃ u, E V u xs[i] ∧ isOne u = true ∧ ∀ H (t m : Nat), shapeT Try.prog t = some (false, m) → Loads Try.prog H V t b (o + i) u := by
  obtain ⟨A', c', e, _, _, h3⟩ := h
  cases e
  rcases h3 with rfl | ⟨b', o', arr, ty, fr, e1, e2, h4⟩
  · simp at hi
  · cases e1
    obtain ⟨u, g1, g2, g3⟩ := h4 i xs[i] (List.getElem?_eq_getElem hi)
    exact ⟨u, g3, g2, fun H t m ht => ⟨false, m, ht, .inr ⟨rfl, .inr ⟨arr, ty, fr, e2, g1⟩⟩⟩⟩
theorem R1At.mono (hE : ElOk E) {V V' : View} {cells : List Value} {xs : List α} (h : R1At E V cells xs) (hV : V.le V') : R1At E V' cells xs := ⟨h.1, fun i x hi => by obtain ⟨u, a, b, d⟩ := h.2 i x hi; exact ⟨u, a, b, hE _ _ _ _ hV d⟩⟩
theorem R1At.nil (V : View) : R1At E V [] ([] : List α) := ⟨rfl, fun i x hi => by simp at hi⟩
theorem R1At.load {H : Heap} {V : View} {b e tot : Nat} {cells : List Value} {xs : List α} (hr : H b = some ⟨e, cells, tot⟩) (h : R1At E V cells xs) (i : Nat) (hi : i < xs.length) : ∃ u, E V u xs[i] ∧ isOne u = true ∧ ∀ (t m : Nat), shapeT Try.prog t = some (false, m) → Loads Try.prog H V t b i u := by
  obtain ⟨u, g1, g2, g3⟩ := h.2 i xs[i] (List.getElem?_eq_getElem hi)
  exact ⟨u, g3, g2, fun t m ht => ⟨false, m, ht, .inr ⟨rfl, .inl ⟨_, hr, g1⟩⟩⟩⟩
theorem R1At.pub (hE : ElOk E) {V : View} {b n c tot e : Nat} {o : Obj} {cells : List Value} {xs : List α} (h : R1At E V cells xs) (ho : RowObj ⟨e, cells, tot⟩ o) (hle : V.le (addV V b o)) (hn : xs.length = n) (hc : n ≤ c) (hm : c ≤ 9223372036854775807) : Sl1 E (addV V b o) (.slice (some ⟨b, 0, none⟩) n c) xs := by
  obtain ⟨ex, rfl, _⟩ := ho
  refine ⟨some ⟨b, 0, none⟩, c, by rw [hn], by omega, hm, .inr ⟨b, 0, _, e, (0, 0), rfl, by simp [addV]; rfl, fun i x hi => ?_⟩⟩
  obtain ⟨u, g1, g2, g3⟩ := h.2 i x hi
  have hlt : i < xs.length := by
    rcases Nat.lt_or_ge i xs.length with h1 | h1
    · exact h1
    · rw [List.getElem?_eq_none h1] at hi; cases hi
  refine ⟨u, ?_, g2, hE _ _ _ _ hle g3⟩
  simp only [Nat.zero_add, List.getElem?_toArray]; rw [List.getElem?_append_left (by have := h.1; omega)]; exact g1
theorem R1At.snoc {V : View} {cells : List Value} {xs : List α} (h : R1At E V cells xs) {u : Value} {x : α} (h1 : isOne u = true) (hx : E V u x) : R1At E V (cells ++ [u]) (xs ++ [x]) := by
  have hl := h.1
  refine ⟨by simp [hl], fun i y hi => ?_⟩
  by_cases hlt : i < xs.length
  · rw [List.getElem?_append_left hlt] at hi
    rw [List.getElem?_append_left (by omega)]; exact h.2 i y hi
  · rw [List.getElem?_append_right (by omega)] at hi
    have e : i = xs.length := by
      rcases Nat.lt_or_ge (i - xs.length) 1 with h2 | h2
      · omega
      · rw [List.getElem?_eq_none (by simpa using h2)] at hi; cases hi
    subst e
    rw [Nat.sub_self] at hi
    cases hi
    exact ⟨u, by rw [← hl]; simp, h1, hx⟩
theorem R1At.set {V : View} {cells : List Value} {xs : List α} (h : R1At E V cells xs) (i : Nat) (hi : i < xs.length) {u : Value} {x : α} (h1 : isOne u = true) (hx : E V u x) : R1At E V (cells.set i u) (xs.set i x) := by
  refine ⟨by rw [List.length_set, List.length_set]; exact h.1, fun j y hj => ?_⟩
  by_cases e : i = j
  · subst e
    rw [List.getElem?_set_self hi] at hj
    cases hj
    exact ⟨u, by rw [List.getElem?_set_self (by rw [h.1]; exact hi)], h1, hx⟩
  · rw [List.getElem?_set_ne e] at hj ⊢
    exact h.2 j y hj
theorem R1At.take {V : View} {cells : List Value} {xs : List α} (h : R1At E V cells xs) (k : Nat) : R1At E V (cells.take k) (xs.take k) := by
  refine ⟨by rw [List.length_take, List.length_take, h.1], fun i x hi => ?_⟩
  rw [List.getElem?_take] at hi ⊢
  split at hi
  · rename_i hk; rw [if_pos hk]; exact h.2 i x hi
  · cases hi
end
end Go.Proofs.Ythoboehbadmlmaa
end
