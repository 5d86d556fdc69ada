/- The law RecurLong of the program answers true at every input. (part 10 of 12) -/
import Derived.OrdersHeld
import Derived.Below
import Derived.Tactics
import Derived.KernelRfl
import Derived.RangeFuncCalls
import Derived.RangeFuncFrom
import Derived.RangeFuncLeaves
import Derived.OrdersIn
import Derived.Laws.AppendOwn
import Derived.Laws.MakeOwn
import Derived.Laws.CopyRow
import Derived.Laws.Cells
import Derived.Laws.World
import Derived.Laws.Alloc2
import Derived.Laws.NewBlocks
import Derived.Maps.AppendAt
import Derived.Test.YthoboehbadmlmaaProg
import Init.Data.List.Lemmas
import Init.Omega
import Derived.WalkKit
import Derived.ProofKit
import Derived.OpenShut
import Derived.ChangeOld
import Derived.SizedLaws
import Derived.ChangeSlices
import Derived.ChangeArms
import Derived.Deep.Slices
import Derived.Test.YthoboehbadmlmaaLO9
section
namespace Go.Proofs.Ythoboehbadmlmaa
open Go Go.RowKit
set_option linter.unusedSimpArgs false
set_option linter.unusedVariables false
attribute [local irreducible] XWP Spec SpecO XPub XCall seqX clX apX stX ldX iaX slX
def serE (P Q : List Raw) (N : Int) : Int :=
  if rightP P = false ∨ rightP Q = false ∨ N < 0 then 1 else if 400 < N then 2 else if cf (qs Q) 0 = 0 then 31 else 0
theorem serE_zero {P Q : List Raw} {N : Int} (h : serE P Q N = 0) : rightP P = true ∧ rightP Q = true ∧ 0 ≤ N ∧ N ≤ 400 ∧ cf (qs Q) 0 ≠ 0 := by
  unfold serE at h
  split at h
  · cases h
  · rename_i h1
    split at h
    · cases h
    · split at h
      · cases h
      · rename_i h3
        refine ⟨?_, ?_, by omega, by omega, h3⟩
        · cases hk : rightP P
          · exact absurd (.inl hk) h1
          · rfl
        · cases hk : rightP Q
          · exact absurd (.inr (.inl hk)) h1
          · rfl
theorem serT_offS (p q out : List Rat) (i k : Nat) (h : out.length ≤ i) : serT p q out i k = cf p i - offS out q i (k + 1) := by
  induction k with
  | zero => simp only [serT, offS, Nat.sub_zero, cf_none h]; grind
  | succ k ih =>
    have e : offS out q i (k + 1 + 1) = offS out q i (k + 1) + cf q (k + 1) * cf out (i - (k + 1)) := rfl
    rw [serT, ih, e]; grind
theorem serT_QB {A B C e : Nat} {p q out : List Rat} (hp : CB A p) (hq : CB B q) (ho : CB C out) (i k : Nat) (h : out.length ≤ i) (hk : k + 1 ≤ 2 ^ e) : QB (A + (C + B + e) + 1) (serT p q out i k) := by
  rw [serT_offS _ _ _ _ _ h]
  exact (hp.at i).sub (CB.offs ho hq i (k + 1) e hk)
theorem cser_c (V : View) (v u : Value) (P Q : List Raw) (N : Int) (hv : Raws V v P) (hu : Raws V u Q) (fP : fitR P) (fQ : fitR Q) (lP : P.length ≤ 1000000) (lQ : Q.length ≤ 1000000) (A B C : Nat)
    (hC : serE P Q N = 0 → CB A (qs P) ∧ CB B (qs Q) ∧ CB C (serI (qs P) (qs Q) N.toNat)) (hfit : A + 2 * B + C + 20 ≤ 17592186044416) :
    Spec Try.prog 36 [v, u, .int .i64 N] V fun v' V' => (serE P Q N ≠ 0 → v' = .tuple #[.slice none 0 0, .int .i64 (serE P Q N)]) ∧ (serE P Q N = 0 → ∃ w, v' = .tuple #[w, .int .i64 0] ∧ Rats V' w (serI (qs P) (qs Q) N.toNat)) := by
  obtain ⟨A1, c1, rfl, hc1, hm1⟩ := hv.form
  obtain ⟨A2, c2, rfl, hc2, hm2⟩ := hu.form
  refine (Spec.enter Try.func36 rfl fun Γ => ?_)
  simp only [Try.ntmps36, List.map_cons, List.map_nil, List.length_cons, List.length_nil, Nat.reduceAdd, Nat.reduceSub, List.replicate_succ, List.replicate_zero, List.cons_append, List.nil_append]
  first | refine Gx.a (by kernel_rfl) fun K hK => ?_ | refine Gx.b (by kernel_rfl) fun K hK => ?_ | refine Gx.c (by kernel_rfl) fun K hK => ?_
  simp only [XA, XB, gateX, Nat.reduceAdd, Nat.reduceLeDiff, Nat.reduceSub, Nat.reduceMul, ↓reduceIte, Int.reduceToNat, Int.reduceLE, beq_self_eq_true]
  refine hK _ ?_
  refine XWP.cut (fun s => ∃ (V5 : View), StIs (fun Z => [.v (.slice A1 P.length c1), .v (.slice A2 Q.length c2), .v (.int .i64 N), Z 3,Z 4,Z 5,Z 6,Z 7,Z 8,Z 9,Z 10,Z 11,Z 12,Z 13,Z 14,Z 15,Z 16,Z 17,Z 18,Z 19,Z 20,Z 21,Z 22,Z 23,Z 24,Z 25,Z 26,Z 27,Z 28,Z 29,Z 30,Z 31,Z 32,Z 33,Z 34,Z 35,Z 36,Z 37,Z 38,Z 39,Z 40,Z 41,Z 42,Z 43,Z 44,Z 45,Z 46,Z 47,Z 48,Z 49,Z 50,Z 51,Z 52,Z 53,Z 54,Z 55,Z 56,Z 57,Z 58,Z 59,Z 60,Z 61,Z 62,Z 63,Z 64,Z 65,Z 66,Z 67,Z 68,Z 69,Z 70,Z 71,Z 72,Z 73,Z 74,Z 75,Z 76,Z 77,Z 78,Z 79]) [] (fun _ => none) V5 s ∧ V.le V5 ∧ serE P Q N = 0) ?_ ?_
  · first | refine XWP.block ?_ | refine XWP.seq (XWP.block ?_)
    refine XWP.seq ?_
    first | refine Gx.a (by kernel_rfl) fun K hK => ?_ | refine Gx.b (by kernel_rfl) fun K hK => ?_ | refine Gx.c (by kernel_rfl) fun K hK => ?_
    simp only [XA, XB, gateX, Nat.reduceAdd, Nat.reduceLeDiff, Nat.reduceSub, Nat.reduceMul, ↓reduceIte, Int.reduceToNat, Int.reduceLE, beq_self_eq_true]
    refine call_go (by kernel_rfl) rfl (cright_c _ _ _ hv fP lP) fun v1 V1 hV1 h1 => ?_
    subst h1
    by_cases g0 : rightP P = false ∨ rightP Q = false ∨ N < 0
    · have eE : serE P Q N = 1 := by unfold serE; rw [if_pos g0]
      cases e1 : rightP P
      · simp only [XA, XB, gateX, Nat.reduceAdd, Nat.reduceLeDiff, Nat.reduceSub, Nat.reduceMul, ↓reduceIte, Int.reduceToNat, Int.reduceLE, beq_self_eq_true]
        refine hK _ ?_
        first | refine Gx.t rfl ?_ | refine XWP.seq (Gx.t rfl ?_)
        first | refine Gx.a (by kernel_rfl) fun K hK => ?_ | refine Gx.b (by kernel_rfl) fun K hK => ?_ | refine Gx.c (by kernel_rfl) fun K hK => ?_
        simp only [XA, XB, gateX, Nat.reduceAdd, Nat.reduceLeDiff, Nat.reduceSub, Nat.reduceMul, ↓reduceIte, Int.reduceToNat, Int.reduceLE, beq_self_eq_true]
        refine hK _ (XWP.ret ?_)
        try simp only [thenX_ret, inBlockX_ret]
        refine ret_go _ rfl ?_
        exact ⟨fun _ => by rw [eE]; rfl, fun h => by rw [eE] at h; cases h⟩
      simp only [XA, XB, gateX, Nat.reduceAdd, Nat.reduceLeDiff, Nat.reduceSub, Nat.reduceMul, ↓reduceIte, Int.reduceToNat, Int.reduceLE, beq_self_eq_true]
      refine call_go (by kernel_rfl) rfl (cright_c _ _ _ (hu.up hV1) fQ lQ) fun v2 V2 hV2 h2 => ?_
      subst h2
      cases e2 : rightP Q
      · simp only [XA, XB, gateX, Nat.reduceAdd, Nat.reduceLeDiff, Nat.reduceSub, Nat.reduceMul, ↓reduceIte, Int.reduceToNat, Int.reduceLE, beq_self_eq_true]
        refine hK _ ?_
        first | refine Gx.t rfl ?_ | refine XWP.seq (Gx.t rfl ?_)
        first | refine Gx.a (by kernel_rfl) fun K hK => ?_ | refine Gx.b (by kernel_rfl) fun K hK => ?_ | refine Gx.c (by kernel_rfl) fun K hK => ?_
        simp only [XA, XB, gateX, Nat.reduceAdd, Nat.reduceLeDiff, Nat.reduceSub, Nat.reduceMul, ↓reduceIte, Int.reduceToNat, Int.reduceLE, beq_self_eq_true]
        refine hK _ (XWP.ret ?_)
        try simp only [thenX_ret, inBlockX_ret]
        refine ret_go _ rfl ?_
        exact ⟨fun _ => by rw [eE]; rfl, fun h => by rw [eE] at h; cases h⟩
      have b1 : decide (N < 0) = true := decide_eq_true (by rcases g0 with h | h | h; · rw [e1] at h; cases h
                                                            · rw [e2] at h; cases h
                                                            · exact h)
      simp only [XA, XB, gateX, Nat.reduceAdd, Nat.reduceLeDiff, Nat.reduceSub, Nat.reduceMul, ↓reduceIte, Int.reduceToNat, Int.reduceLE, beq_self_eq_true, b1]
      refine hK _ ?_
      first | refine Gx.t rfl ?_ | refine XWP.seq (Gx.t rfl ?_)
      first | refine Gx.a (by kernel_rfl) fun K hK => ?_ | refine Gx.b (by kernel_rfl) fun K hK => ?_ | refine Gx.c (by kernel_rfl) fun K hK => ?_
      simp only [XA, XB, gateX, Nat.reduceAdd, Nat.reduceLeDiff, Nat.reduceSub, Nat.reduceMul, ↓reduceIte, Int.reduceToNat, Int.reduceLE, beq_self_eq_true]
      refine hK _ (XWP.ret ?_)
      try simp only [thenX_ret, inBlockX_ret]
      refine ret_go _ rfl ?_
      exact ⟨fun _ => by rw [eE]; rfl, fun h => by rw [eE] at h; cases h⟩
    have e1 : rightP P = true := by
      cases hk : rightP P
      · exact absurd (.inl hk) g0
      · rfl
    have e2 : rightP Q = true := by
      cases hk : rightP Q
      · exact absurd (.inr (.inl hk)) g0
      · rfl
    have b1 : decide (N < 0) = false := decide_eq_false (fun h => g0 (.inr (.inr h)))
    rw [e1]
    simp only [XA, XB, gateX, Nat.reduceAdd, Nat.reduceLeDiff, Nat.reduceSub, Nat.reduceMul, ↓reduceIte, Int.reduceToNat, Int.reduceLE, beq_self_eq_true]
    refine call_go (by kernel_rfl) rfl (cright_c _ _ _ (hu.up hV1) fQ lQ) fun v2 V2 hV2 h2 => ?_
    subst h2
    rw [e2]
    simp only [XA, XB, gateX, Nat.reduceAdd, Nat.reduceLeDiff, Nat.reduceSub, Nat.reduceMul, ↓reduceIte, Int.reduceToNat, Int.reduceLE, beq_self_eq_true, b1]
    refine hK _ ?_
    first | refine Gx.f rfl ?_ | refine XWP.seq (Gx.f rfl ?_)
    refine XWP.seq ?_
    by_cases g1 : 400 < N
    · have eE : serE P Q N = 2 := by unfold serE; rw [if_neg g0, if_pos g1]
      have b2 : decide (400 < N) = true := decide_eq_true g1
      first | refine Gx.a (by kernel_rfl) fun K hK => ?_ | refine Gx.b (by kernel_rfl) fun K hK => ?_ | refine Gx.c (by kernel_rfl) fun K hK => ?_
      simp only [XA, XB, gateX, Nat.reduceAdd, Nat.reduceLeDiff, Nat.reduceSub, Nat.reduceMul, ↓reduceIte, Int.reduceToNat, Int.reduceLE, beq_self_eq_true, b2]
      refine hK _ ?_
      first | refine Gx.t rfl ?_ | refine XWP.seq (Gx.t rfl ?_)
      first | refine Gx.a (by kernel_rfl) fun K hK => ?_ | refine Gx.b (by kernel_rfl) fun K hK => ?_ | refine Gx.c (by kernel_rfl) fun K hK => ?_
      simp only [XA, XB, gateX, Nat.reduceAdd, Nat.reduceLeDiff, Nat.reduceSub, Nat.reduceMul, ↓reduceIte, Int.reduceToNat, Int.reduceLE, beq_self_eq_true]
      refine hK _ (XWP.ret ?_)
      try simp only [thenX_ret, inBlockX_ret]
      refine ret_go _ rfl ?_
      exact ⟨fun _ => by rw [eE]; rfl, fun h => by rw [eE] at h; cases h⟩
    have b2 : decide (400 < N) = false := decide_eq_false g1
    first | refine Gx.a (by kernel_rfl) fun K hK => ?_ | refine Gx.b (by kernel_rfl) fun K hK => ?_ | refine Gx.c (by kernel_rfl) fun K hK => ?_
    simp only [XA, XB, gateX, Nat.reduceAdd, Nat.reduceLeDiff, Nat.reduceSub, Nat.reduceMul, ↓reduceIte, Int.reduceToNat, Int.reduceLE, beq_self_eq_true, b2]
    refine hK _ ?_
    first | refine Gx.f rfl ?_ | refine XWP.seq (Gx.f rfl ?_)
    refine XWP.seq ?_
    have hu2 := (Raws.rats hu (rightP_parts e2).1).up (View.le_trans hV1 hV2)
    have lq := qs_len Q
    first | refine Gx.a (by kernel_rfl) fun K hK => ?_ | refine Gx.b (by kernel_rfl) fun K hK => ?_ | refine Gx.c (by kernel_rfl) fun K hK => ?_
    simp only [XA, XB, gateX, Nat.reduceAdd, Nat.reduceLeDiff, Nat.reduceSub, Nat.reduceMul, ↓reduceIte, Int.reduceToNat, Int.reduceLE, beq_self_eq_true]
    refine call_go (by kernel_rfl) rfl (cget_c _ _ _ 0 hu2 (by omega)) fun v3 V3 hV3 h3 => ?_
    simp only [XA, XB, gateX, Nat.reduceAdd, Nat.reduceLeDiff, Nat.reduceSub, Nat.reduceMul, ↓reduceIte, Int.reduceToNat, Int.reduceLE, beq_self_eq_true]
    refine call_go (by kernel_rfl) rfl (czero_c _ _ _ h3) fun v4 V4 hV4 h4 => ?_
    subst h4
    by_cases g2 : cf (qs Q) 0 = 0
    · have eE : serE P Q N = 31 := by unfold serE; rw [if_neg g0, if_neg g1, if_pos g2]
      have b3 : decide (cf (qs Q) 0 = 0) = true := decide_eq_true g2
      simp only [XA, XB, gateX, Nat.reduceAdd, Nat.reduceLeDiff, Nat.reduceSub, Nat.reduceMul, ↓reduceIte, Int.reduceToNat, Int.reduceLE, beq_self_eq_true, b3]
      refine hK _ ?_
      first | refine Gx.t rfl ?_ | refine XWP.seq (Gx.t rfl ?_)
      first | refine Gx.a (by kernel_rfl) fun K hK => ?_ | refine Gx.b (by kernel_rfl) fun K hK => ?_ | refine Gx.c (by kernel_rfl) fun K hK => ?_
      simp only [XA, XB, gateX, Nat.reduceAdd, Nat.reduceLeDiff, Nat.reduceSub, Nat.reduceMul, ↓reduceIte, Int.reduceToNat, Int.reduceLE, beq_self_eq_true]
      refine hK _ (XWP.ret ?_)
      try simp only [thenX_ret, inBlockX_ret]
      refine ret_go _ rfl ?_
      exact ⟨fun _ => by rw [eE]; rfl, fun h => by rw [eE] at h; cases h⟩
    · have eE : serE P Q N = 0 := by unfold serE; rw [if_neg g0, if_neg g1, if_neg g2]
      have b3 : decide (cf (qs Q) 0 = 0) = false := decide_eq_false g2
      simp only [XA, XB, gateX, Nat.reduceAdd, Nat.reduceLeDiff, Nat.reduceSub, Nat.reduceMul, ↓reduceIte, Int.reduceToNat, Int.reduceLE, beq_self_eq_true, b3]
      refine hK _ ?_
      first | refine Gx.f rfl ?_ | refine XWP.seq (Gx.f rfl ?_)
      refine XWP.skip ?_
      exact ⟨V4, StIs.of (by exact rfl), View.le_trans (View.le_trans hV1 hV2) (View.le_trans hV3 hV4), eE⟩
  rintro s ⟨V5, hs, hV5, he⟩
  obtain ⟨z, rfl⟩ := hs.out
  try dsimp only
  obtain ⟨r1, r2, n0, n4, q0⟩ := serE_zero he
  obtain ⟨hA, hB, hCs⟩ := hC he
  have hp := (Raws.rats hv (rightP_parts r1).1).up hV5
  have hq := (Raws.rats hu (rightP_parts r2).1).up hV5
  have ep := qs_len P
  have eq := qs_len Q
  obtain ⟨N, rfl⟩ : ∃ n : Nat, N = n := ⟨N.toNat, by omega⟩
  rw [Int.toNat_natCast] at *
  have lr1 : P.length ≤ 1000 := by have := r1; unfold rightP at this; simp at this; omega
  have lr2 : Q.length ≤ 1000 := by have := r2; unfold rightP at this; simp at this; omega
  generalize serE P Q N = E at he
  generalize qs P = p at *
  generalize qs Q = q at *
  have hq1 : 1 ≤ q.length := by
    rcases Nat.eq_zero_or_pos q.length with h | h
    · exact absurd (cf_none (by omega)) q0
    · exact h
  have hCi : ∀ i, i ≤ N → CB C (serI p q i) := fun i hi => by rw [← serI_take p q hi]; exact hCs.take _
  first | refine Gx.a (by kernel_rfl) fun K hK => ?_ | refine Gx.b (by kernel_rfl) fun K hK => ?_ | refine Gx.c (by kernel_rfl) fun K hK => ?_
  refine bs_go (by kernel_rfl) #[] (by simp) (bs_zero elemT_22 zeroT_34) fun b hb1 hb2 => ?_
  simp only [XA, XB, gateX, Nat.reduceAdd, Nat.reduceLeDiff, Nat.reduceSub, Nat.reduceMul, ↓reduceIte, Int.reduceToNat, Int.reduceLE, beq_self_eq_true]
  refine hK _ ?_
  refine XWP.cutD 0 (fun s => ∃ (V6 : View) (H6 : Heap) (w : Value) (cells : List Value), StIs (fun Z => [.v (.slice A1 P.length c1), .v (.slice A2 Q.length c2), .v (.int .i64 (N : Int)), Z 3,Z 4,Z 5,Z 6,Z 7, .v w, Z 9,Z 10,Z 11,Z 12,Z 13,Z 14,Z 15,Z 16,Z 17,Z 18,Z 19,Z 20,Z 21,Z 22,Z 23,Z 24,Z 25,Z 26,Z 27,Z 28,Z 29,Z 30,Z 31,Z 32,Z 33,Z 34,Z 35,Z 36,Z 37,Z 38,Z 39,Z 40,Z 41,Z 42,Z 43,Z 44,Z 45,Z 46,Z 47,Z 48,Z 49,Z 50,Z 51,Z 52,Z 53,Z 54,Z 55,Z 56,Z 57,Z 58,Z 59,Z 60,Z 61,Z 62,Z 63,Z 64,Z 65,Z 66,Z 67,Z 68,Z 69,Z 70,Z 71,Z 72,Z 73,Z 74,Z 75,Z 76,Z 77,Z 78,Z 79]) [] H6 V6 s ∧ Own H6 34 3 w N cells ∧ RowAt ratE V6 cells (serI p q N)) ?_ ?_
  · first | refine Gx.a (by kernel_rfl) fun K hK => ?_ | refine Gx.b (by kernel_rfl) fun K hK => ?_ | refine Gx.c (by kernel_rfl) fun K hK => ?_
    simp only [XA, XB, gateX, Nat.reduceAdd, Nat.reduceLeDiff, Nat.reduceSub, Nat.reduceMul, ↓reduceIte, Int.reduceToNat, Int.reduceLE, beq_self_eq_true]
    refine hK _ ?_
    clear hK
    first | refine XWP.block ?_ | refine XWP.seq (XWP.block ?_)
    refine XWP.loopD 0 (fun m s => ∃ (i : Nat) (V6 : View) (H6 : Heap) (w : Value) (cells : List Value), StIs (fun Z => [.v (.slice A1 P.length c1), .v (.slice A2 Q.length c2), .v (.int .i64 (N : Int)), Z 3,Z 4,Z 5,Z 6,Z 7, .v w, Z 9,Z 10,Z 11,Z 12,Z 13,Z 14,Z 15,Z 16,Z 17,Z 18,Z 19,Z 20,Z 21,Z 22,Z 23,Z 24,Z 25,Z 26,Z 27,Z 28,Z 29,Z 30,Z 31,Z 32,Z 33,Z 34, .v (.int .i64 (N : Int)), .v (.int .i64 (i : Int)), Z 37,Z 38,Z 39,Z 40,Z 41,Z 42,Z 43,Z 44,Z 45,Z 46,Z 47,Z 48,Z 49,Z 50,Z 51,Z 52,Z 53,Z 54,Z 55,Z 56,Z 57,Z 58,Z 59,Z 60,Z 61,Z 62,Z 63,Z 64,Z 65,Z 66,Z 67,Z 68,Z 69,Z 70,Z 71,Z 72,Z 73,Z 74,Z 75,Z 76,Z 77,Z 78,Z 79]) [] H6 V6 s ∧ V5.le V6 ∧ m + i = N ∧ Own H6 34 3 w i cells ∧ RowAt ratE V6 cells (serI p q i)) N ⟨0, V5, _, _, [], StIs.of (by exact rfl), View.le_refl _, by omega, own3 (by simp [upd]) rfl (Nat.le_refl _) (by omega), RowAt.nil _⟩ ?_
    rintro m s ⟨i, V6, H6, w, cells, hs, hV6, hm, hown, hrow⟩
    obtain ⟨z, rfl⟩ := hs.out
    try dsimp only
    by_cases hi : i < N
    rotate_left
    · obtain rfl : i = N := by omega
      have b2 : decide ((i : Int) < (i : Int)) = false := decide_eq_false (by omega)
      first | refine Gx.a (by kernel_rfl) fun K hK => ?_ | refine Gx.b (by kernel_rfl) fun K hK => ?_ | refine Gx.c (by kernel_rfl) fun K hK => ?_
      simp only [XA, XB, gateX, Nat.reduceAdd, Nat.reduceLeDiff, Nat.reduceSub, Nat.reduceMul, ↓reduceIte, Int.reduceToNat, Int.reduceLE, beq_self_eq_true, b2]
      refine hK _ ?_
      first | refine Gx.f rfl ?_ | refine XWP.seq (Gx.f rfl ?_)
      refine XWP.exit ?_
      exact fun f => ⟨V6, H6, w, cells, StIs.of (by exact rfl), hown, hrow⟩
    have b2 : decide ((i : Int) < (N : Int)) = true := decide_eq_true (by omega)
    first | refine Gx.a (by kernel_rfl) fun K hK => ?_ | refine Gx.b (by kernel_rfl) fun K hK => ?_ | refine Gx.c (by kernel_rfl) fun K hK => ?_
    simp only [XA, XB, gateX, Nat.reduceAdd, Nat.reduceLeDiff, Nat.reduceSub, Nat.reduceMul, ↓reduceIte, Int.reduceToNat, Int.reduceLE, beq_self_eq_true, b2]
    refine hK _ ?_
    first | refine Gx.t rfl ?_ | refine XWP.seq (Gx.t rfl ?_)
    refine XWP.skip ?_
    refine XWP.seq ?_
    first | refine XWP.block ?_ | refine XWP.seq (XWP.block ?_)
    first | refine Gx.a (by kernel_rfl) fun K hK => ?_ | refine Gx.b (by kernel_rfl) fun K hK => ?_ | refine Gx.c (by kernel_rfl) fun K hK => ?_
    simp only [XA, XB, gateX, Nat.reduceAdd, Nat.reduceLeDiff, Nat.reduceSub, Nat.reduceMul, ↓reduceIte, Int.reduceToNat, Int.reduceLE, beq_self_eq_true]
    refine hK _ ?_
    first | refine Gx.a (by kernel_rfl) fun K hK => ?_ | refine Gx.b (by kernel_rfl) fun K hK => ?_ | refine Gx.c (by kernel_rfl) fun K hK => ?_
    simp only [XA, XB, gateX, Nat.reduceAdd, Nat.reduceLeDiff, Nat.reduceSub, Nat.reduceMul, ↓reduceIte, Int.reduceToNat, Int.reduceLE, beq_self_eq_true]
    refine call_go (by kernel_rfl) rfl (cget_c _ _ _ i (hp.up hV6) (by omega)) fun v7 V7 hV7 h7 => ?_
    obtain ⟨x7, y7, rfl, o1, o2⟩ := h7.form
    simp only [XA, XB, gateX, Nat.reduceAdd, Nat.reduceLeDiff, Nat.reduceSub, Nat.reduceMul, ↓reduceIte, Int.reduceToNat, Int.reduceLE, beq_self_eq_true]
    refine st_rat rfl rfl rfl o1 o2 ?_
    simp only [XA, XB, gateX, Nat.reduceAdd, Nat.reduceLeDiff, Nat.reduceSub, Nat.reduceMul, ↓reduceIte, Int.reduceToNat, Int.reduceLE, beq_self_eq_true]
    refine hK _ ?_
    clear hK
    have hCi' := hCi i (by omega)
    have hlen := serI_len p q i
    obtain ⟨out, hout⟩ : ∃ out, out = serI p q i := ⟨_, rfl⟩
    rw [← hout] at hrow hCi' hlen
    obtain ⟨M, hM⟩ : ∃ M, M = min (q.length - 1) i := ⟨_, rfl⟩
    have hS : ∀ k, k ≤ 1000 → QB (A + (C + B + 10) + 1) (serT p q out i k) := fun k hk => serT_QB (e := 10) hA hB hCi' i k (by omega) (by omega)
    have hT : ∀ j k, QF (cf q j * cf out k) := fun j k => ((hB.at j).mul (hCi'.at k)).qf (by omega)
    refine XWP.cutD 1 (fun s => ∃ (V8 : View) (m : Bool) (x y : Value), StIs (fun Z => [.v (.slice A1 P.length c1), .v (.slice A2 Q.length c2), .v (.int .i64 (N : Int)), Z 3,Z 4,Z 5,Z 6,Z 7, .v w, .v (.int .i64 (i : Int)), .p 0 0, Z 11,Z 12,Z 13,Z 14,Z 15,Z 16,Z 17,Z 18,Z 19,Z 20,Z 21,Z 22,Z 23,Z 24,Z 25,Z 26,Z 27,Z 28,Z 29,Z 30,Z 31,Z 32,Z 33,Z 34, .v (.int .i64 (N : Int)), .v (.int .i64 (i : Int)), Z 37,Z 38,Z 39,Z 40,Z 41,Z 42,Z 43,Z 44,Z 45,Z 46,Z 47,Z 48,Z 49,Z 50,Z 51,Z 52,Z 53,Z 54,Z 55,Z 56,Z 57,Z 58,Z 59,Z 60,Z 61,Z 62,Z 63,Z 64,Z 65,Z 66,Z 67,Z 68,Z 69,Z 70,Z 71,Z 72,Z 73,Z 74,Z 75,Z 76,Z 77,Z 78,Z 79]) [[.bool m, x, y]] H6 V8 s ∧ V6.le V8 ∧ RatC V8 (.agg #[.bool m, x, y]) (serT p q out i M) ∧ isOne x = true ∧ isOne y = true) ?_ ?_
    · first | refine Gx.a (by kernel_rfl) fun K hK => ?_ | refine Gx.b (by kernel_rfl) fun K hK => ?_ | refine Gx.c (by kernel_rfl) fun K hK => ?_
      simp only [XA, XB, gateX, Nat.reduceAdd, Nat.reduceLeDiff, Nat.reduceSub, Nat.reduceMul, ↓reduceIte, Int.reduceToNat, Int.reduceLE, beq_self_eq_true]
      refine hK _ ?_
      clear hK
      first | refine XWP.block ?_ | refine XWP.seq (XWP.block ?_)
      refine XWP.loopD 1 (fun r s => ∃ (j : Nat) (V8 : View) (m : Bool) (x y : Value), StIs (fun Z => [.v (.slice A1 P.length c1), .v (.slice A2 Q.length c2), .v (.int .i64 (N : Int)), Z 3,Z 4,Z 5,Z 6,Z 7, .v w, .v (.int .i64 (i : Int)), .p 0 0, .v (.int .i64 ((j + 1 : Nat) : Int)), Z 12,Z 13,Z 14,Z 15,Z 16,Z 17,Z 18,Z 19,Z 20,Z 21,Z 22,Z 23,Z 24,Z 25,Z 26,Z 27,Z 28,Z 29,Z 30,Z 31,Z 32,Z 33,Z 34, .v (.int .i64 (N : Int)), .v (.int .i64 (i : Int)), Z 37,Z 38,Z 39,Z 40,Z 41,Z 42,Z 43,Z 44,Z 45,Z 46,Z 47,Z 48,Z 49,Z 50,Z 51,Z 52,Z 53,Z 54,Z 55,Z 56,Z 57,Z 58,Z 59,Z 60,Z 61,Z 62,Z 63,Z 64,Z 65,Z 66,Z 67,Z 68,Z 69,Z 70,Z 71,Z 72,Z 73,Z 74,Z 75,Z 76,Z 77,Z 78,Z 79]) [[.bool m, x, y]] H6 V8 s ∧ V6.le V8 ∧ r + j = M ∧ RatC V8 (.agg #[.bool m, x, y]) (serT p q out i j) ∧ isOne x = true ∧ isOne y = true) M ⟨0, V7, _, x7, y7, StIs.of (by exact rfl), hV7, by omega, h7, o1, o2⟩ ?_
      clear h7 o1 o2
      rintro r s ⟨j, V8, m', x, y, hs, hV8, hr, h8, o1, o2⟩
      obtain ⟨z, rfl⟩ := hs.out
      try dsimp only
      refine XWP.seq ?_
      by_cases hj : j < M
      rotate_left
      · obtain rfl : j = M := by omega
        by_cases hj1 : j + 1 < q.length
        · have b3 : decide (((j + 1 : Nat) : Int) < (Q.length : Int)) = true := decide_eq_true (by omega)
          have b4 : decide (((j + 1 : Nat) : Int) ≤ (i : Int)) = false := decide_eq_false (by omega)
          first | refine Gx.a (by kernel_rfl) fun K hK => ?_ | refine Gx.b (by kernel_rfl) fun K hK => ?_ | refine Gx.c (by kernel_rfl) fun K hK => ?_
          simp only [XA, XB, gateX, Nat.reduceAdd, Nat.reduceLeDiff, Nat.reduceSub, Nat.reduceMul, ↓reduceIte, Int.reduceToNat, Int.reduceLE, beq_self_eq_true, b3, b4]
          refine hK _ ?_
          first | refine Gx.f rfl ?_ | refine XWP.seq (Gx.f rfl ?_)
          refine XWP.exit ?_
          exact fun f => ⟨V8, m', x, y, StIs.of (by exact rfl), hV8, h8, o1, o2⟩
        · have b3 : decide (((j + 1 : Nat) : Int) < (Q.length : Int)) = false := decide_eq_false (by omega)
          first | refine Gx.a (by kernel_rfl) fun K hK => ?_ | refine Gx.b (by kernel_rfl) fun K hK => ?_ | refine Gx.c (by kernel_rfl) fun K hK => ?_
          simp only [XA, XB, gateX, Nat.reduceAdd, Nat.reduceLeDiff, Nat.reduceSub, Nat.reduceMul, ↓reduceIte, Int.reduceToNat, Int.reduceLE, beq_self_eq_true, b3]
          refine hK _ ?_
          first | refine Gx.f rfl ?_ | refine XWP.seq (Gx.f rfl ?_)
          refine XWP.exit ?_
          exact fun f => ⟨V8, m', x, y, StIs.of (by exact rfl), hV8, h8, o1, o2⟩
      have b3 : decide (((j + 1 : Nat) : Int) < (Q.length : Int)) = true := decide_eq_true (by omega)
      have b4 : decide (((j + 1 : Nat) : Int) ≤ (i : Int)) = true := decide_eq_true (by omega)
      first | refine Gx.a (by kernel_rfl) fun K hK => ?_ | refine Gx.b (by kernel_rfl) fun K hK => ?_ | refine Gx.c (by kernel_rfl) fun K hK => ?_
      simp only [XA, XB, gateX, Nat.reduceAdd, Nat.reduceLeDiff, Nat.reduceSub, Nat.reduceMul, ↓reduceIte, Int.reduceToNat, Int.reduceLE, beq_self_eq_true, b3, b4]
      refine hK _ ?_
      first | refine Gx.t rfl ?_ | refine XWP.seq (Gx.t rfl ?_)
      refine XWP.skip ?_
      refine XWP.seq ?_
      first | refine XWP.block ?_ | refine XWP.seq (XWP.block ?_)
      have hq8 := hq.up (View.le_trans hV6 hV8)
      obtain ⟨b', o', rfl⟩ := SlAt.addr hq8 (by omega)
      obtain ⟨m3, n3, d3, hx3, ⟨p1, p2, p3⟩, hld3⟩ := Rats.get hq8 (j + 1) (by omega)
      rcases own_parts hown with ⟨_, h0, _⟩ | ⟨g, cap, rfl, hg, hle, hcap, hcl⟩
      · omega
      have w2 := i64_sub i (j + 1) (by omega) (by omega)
      have hrow8 := hrow.mono ratE_ok hV8
      obtain ⟨m4, n4', d4, hx4, ⟨s1, s2, s3⟩, hld4⟩ := rowQ_load hg hrow8 (i - (j + 1)) (by omega)
      (first | refine XWP.drw [0, 1, 2, 3, 4, 5, 6, 7, 8, 9, 10, 11, 12, 13] (by kernel_rfl) (by kernel_rfl) (by kernel_rfl) fun K hK => ?_ | refine XWP.seq (XWP.drw [0, 1, 2, 3, 4, 5, 6, 7, 8, 9, 10, 11, 12, 13] (by kernel_rfl) (by kernel_rfl) (by kernel_rfl) fun K hK => ?_) | refine XWP.drw1 [0, 1, 2, 3, 4, 5, 6, 7, 8, 9, 10, 11, 12, 13] (by kernel_rfl) (by kernel_rfl) (by kernel_rfl) fun K hK => ?_) <;> dsimp only [pickOps, List.getElem?_cons_zero, List.getElem?_cons_succ]
      simp only [XA, XB, gateX, Nat.reduceAdd, Nat.reduceLeDiff, Nat.reduceSub, Nat.reduceMul, ↓reduceIte, Int.reduceToNat, Int.reduceLE, beq_self_eq_true, w2]
      refine ⟨by omega, by omega, ld_mem (hld3 _) ?_⟩
      simp only [XA, XB, gateX, Nat.reduceAdd, Nat.reduceLeDiff, Nat.reduceSub, Nat.reduceMul, ↓reduceIte, Int.reduceToNat, Int.reduceLE, beq_self_eq_true, w2]
      refine ⟨by omega, by omega, ?_⟩
      refine ld_mem hld4 ?_
      simp only [XA, XB, gateX, Nat.reduceAdd, Nat.reduceLeDiff, Nat.reduceSub, Nat.reduceMul, ↓reduceIte, Int.reduceToNat, Int.reduceLE, beq_self_eq_true]
      refine call_go (by kernel_rfl) rfl (qmul_c _ _ _ _ _ hx3 hx4 ((hB.at _).qf (by omega)) ((hCi'.at _).qf (by omega))) fun v9 V9 hV9 h9 => ?_
      simp only [XA, XB, gateX, Nat.reduceAdd, Nat.reduceLeDiff, Nat.reduceSub, Nat.reduceMul, ↓reduceIte, Int.reduceToNat, Int.reduceLE, beq_self_eq_true]
      refine call_go (by kernel_rfl) rfl (qsub_c _ _ _ _ _ (h8.mono hV9) h9 ((hS j (by omega)).qf (by omega)) (hT _ _)) fun v10 V10 hV10 h10 => ?_
      obtain ⟨x10, y10, rfl, o6, o7⟩ := h10.form
      simp only [XA, XB, gateX, Nat.reduceAdd, Nat.reduceLeDiff, Nat.reduceSub, Nat.reduceMul, ↓reduceIte, Int.reduceToNat, Int.reduceLE, beq_self_eq_true]
      refine st_rat rfl rfl rfl o6 o7 ?_
      simp only [XA, XB, gateX, Nat.reduceAdd, Nat.reduceLeDiff, Nat.reduceSub, Nat.reduceMul, ↓reduceIte, Int.reduceToNat, Int.reduceLE, beq_self_eq_true]
      refine hK _ ?_
      first | refine Gx.a (by kernel_rfl) fun K hK => ?_ | refine Gx.b (by kernel_rfl) fun K hK => ?_ | refine Gx.c (by kernel_rfl) fun K hK => ?_
      simp only [XA, XB, gateX, Nat.reduceAdd, Nat.reduceLeDiff, Nat.reduceSub, Nat.reduceMul, ↓reduceIte, Int.reduceToNat, Int.reduceLE, beq_self_eq_true, i64_succ (j + 1) (by omega)]
      exact hK _ ⟨r - 1, by omega, fun f => ⟨j + 1, V10, _, x10, y10, StIs.of (by exact rfl), View.le_trans hV8 (View.le_trans hV9 hV10), by omega, by rw [serT]; exact h10, o6, o7⟩⟩
    clear h7 o1 o2
    rintro s ⟨V8, m', x, y, hs, hV8, h8, o1, o2⟩
    obtain ⟨z, rfl⟩ := hs.out
    try dsimp only
    have hq8 := hq.up (View.le_trans hV6 hV8)
    obtain ⟨b', o', rfl⟩ := SlAt.addr hq8 (by omega)
    obtain ⟨m3, n3, d3, hx3, ⟨p1, p2, p3⟩, hld3⟩ := Rats.get hq8 0 (by omega)
    refine XWP.cut (fun s => ∃ (V9 : View) (x9 y9 : Value), StIs (fun Z => [.v (.slice A1 P.length c1), .v (.slice (some ⟨b', o', none⟩) Q.length c2), .v (.int .i64 (N : Int)), Z 3,Z 4,Z 5,Z 6,Z 7, .v w, .v (.int .i64 (i : Int)), .p 0 0, Z 11, .p 1 0, Z 13,Z 14,Z 15,Z 16,Z 17,Z 18,Z 19,Z 20,Z 21,Z 22,Z 23,Z 24,Z 25,Z 26,Z 27,Z 28,Z 29,Z 30,Z 31,Z 32,Z 33,Z 34, .v (.int .i64 (N : Int)), .v (.int .i64 (i : Int)), Z 37,Z 38,Z 39,Z 40,Z 41,Z 42,Z 43,Z 44,Z 45,Z 46,Z 47,Z 48,Z 49,Z 50,Z 51,Z 52,Z 53,Z 54,Z 55,Z 56,Z 57,Z 58,Z 59,Z 60,Z 61,Z 62,Z 63,Z 64,Z 65,Z 66,Z 67,Z 68,Z 69,Z 70,Z 71,Z 72,Z 73,Z 74,Z 75,Z 76,Z 77,Z 78,Z 79]) [[.bool m', x, y], [.bool (ng (serT p q out i M / cf q 0)), x9, y9]] H6 V9 s ∧ V8.le V9 ∧ RatC V9 (.agg #[.bool (ng (serT p q out i M / cf q 0)), x9, y9]) (serT p q out i M / cf q 0) ∧ isOne x9 = true ∧ isOne y9 = true) ?_ ?_
    · (first | refine XWP.drwT (.lin [0, 1, 2, 3] (.two (.lin [4, 5, 6, 7, 8, 9, 10] .nil) (.lin [8, 4, 5, 6, 7, 9, 10] .nil))) (by kernel_rfl) (by kernel_rfl) (by kernel_rfl) fun K hK => ?_ | refine XWP.seq (XWP.drwT (.lin [0, 1, 2, 3] (.two (.lin [4, 5, 6, 7, 8, 9, 10] .nil) (.lin [8, 4, 5, 6, 7, 9, 10] .nil))) (by kernel_rfl) (by kernel_rfl) (by kernel_rfl) fun K hK => ?_) | refine XWP.drwT1 (.lin [0, 1, 2, 3] (.two (.lin [4, 5, 6, 7, 8, 9, 10] .nil) (.lin [8, 4, 5, 6, 7, 9, 10] .nil))) (by kernel_rfl) (by kernel_rfl) (by kernel_rfl) fun K hK => ?_)
      simp only [XA, XB, gateX, Nat.reduceAdd, Nat.reduceLeDiff, Nat.reduceSub, Nat.reduceMul, ↓reduceIte, Int.reduceToNat, Int.reduceLE, beq_self_eq_true]
      refine ⟨by omega, ?_⟩
      have hld3' := fun H => hld3 H
      simp only [Nat.zero_mul, Nat.add_zero] at hld3'
      refine ld_mem (hld3' _) ?_
      simp only [XA, XB, gateX, Nat.reduceAdd, Nat.reduceLeDiff, Nat.reduceSub, Nat.reduceMul, ↓reduceIte, Int.reduceToNat, Int.reduceLE, beq_self_eq_true]
      refine And.intro ?_ ?_
      all_goals refine call_go (by kernel_rfl) rfl (qdiv_c _ _ _ _ _ h8 hx3 ((hS M (by omega)).qf (by omega)) ((hB.at _).qf (by omega))) fun v9 V9 hV9 h9 => ?_
      all_goals obtain ⟨x7, rfl, hx7⟩ := h9.2 q0
      all_goals obtain ⟨x9, y9, rfl, ox, oy⟩ := hx7.form
      all_goals simp only [XA, XB, gateX, Nat.reduceAdd, Nat.reduceLeDiff, Nat.reduceSub, Nat.reduceMul, ↓reduceIte, Int.reduceToNat, Int.reduceLE, beq_self_eq_true]
      all_goals refine st_rat rfl rfl rfl ox oy ?_
      all_goals simp only [XA, XB, gateX, Nat.reduceAdd, Nat.reduceLeDiff, Nat.reduceSub, Nat.reduceMul, ↓reduceIte, Int.reduceToNat, Int.reduceLE, beq_self_eq_true]
      all_goals exact hK _ ⟨V9, x9, y9, StIs.of (by exact rfl), hV9, hx7, ox, oy⟩
    rintro s ⟨V9, x9, y9, hs, hV9, h9, o3, o4⟩
    obtain ⟨z, rfl⟩ := hs.out
    try dsimp only
    first | refine Gx.a (by kernel_rfl) fun K hK => ?_ | refine Gx.b (by kernel_rfl) fun K hK => ?_ | refine Gx.c (by kernel_rfl) fun K hK => ?_
    simp only [XA, XB, gateX, Nat.reduceAdd, Nat.reduceLeDiff, Nat.reduceSub, Nat.reduceMul, ↓reduceIte, Int.reduceToNat, Int.reduceLE, beq_self_eq_true]
    refine bs_go (by kernel_rfl) #[(0, .agg #[.bool (ng (serT p q out i M / cf q 0)), x9, y9])] (by simp [ev_tmp, SV.val]) (bs_rat elemT_22) fun b3 hb3 hb4 => ?_
    simp only [XA, XB, gateX, Nat.reduceAdd, Nat.reduceLeDiff, Nat.reduceSub, Nat.reduceMul, ↓reduceIte, Int.reduceToNat, Int.reduceLE, beq_self_eq_true]
    refine ap_go elemT_22 (by kernel_rfl) zeroT_34 rfl (by omega) (own_upd hown hb3) (src3 (upd_at _ _ _) rfl o3 o4) (by omega) (by omega) fun v' H' hres => ?_
    simp only [XA, XB, gateX, Nat.reduceAdd, Nat.reduceLeDiff, Nat.reduceSub, Nat.reduceMul, ↓reduceIte, Int.reduceToNat, Int.reduceLE, beq_self_eq_true]
    refine hK _ ?_
    first | refine Gx.a (by kernel_rfl) fun K hK => ?_ | refine Gx.b (by kernel_rfl) fun K hK => ?_ | refine Gx.c (by kernel_rfl) fun K hK => ?_
    simp only [XA, XB, gateX, Nat.reduceAdd, Nat.reduceLeDiff, Nat.reduceSub, Nat.reduceMul, ↓reduceIte, Int.reduceToNat, Int.reduceLE, beq_self_eq_true, i64_succ i (by omega)]
    have hrow' := (hrow.mono ratE_ok (View.le_trans hV8 hV9)).snoc (show isOne (.bool (ng (serT p q out i M / cf q 0))) = true from rfl) o3 o4 h9
    rw [hM, hout, show serI p q i ++ [serT p q (serI p q i) i (min (q.length - 1) i) / cf q 0] = serI p q (i + 1) from rfl] at hrow'
    rw [hM, hout] at hres
    exact hK _ ⟨m - 1, by omega, fun f => ⟨i + 1, V9, _, _, _, StIs.of (by exact rfl), View.le_trans hV6 (View.le_trans hV8 hV9), by omega, hres.1, hrow'⟩⟩
  rintro s ⟨V6, H6, w, cells, hs, hown, hrow⟩
  obtain ⟨z, rfl⟩ := hs.out
  try dsimp only
  first | refine Gx.a (by kernel_rfl) fun K hK => ?_ | refine Gx.b (by kernel_rfl) fun K hK => ?_ | refine Gx.c (by kernel_rfl) fun K hK => ?_
  simp only [XA, XB, gateX, Nat.reduceAdd, Nat.reduceLeDiff, Nat.reduceSub, Nat.reduceMul, ↓reduceIte, Int.reduceToNat, Int.reduceLE, beq_self_eq_true]
  refine hK _ (XWP.ret ?_)
  try simp only [thenX_ret, inBlockX_ret]
  rcases own_parts hown with ⟨rfl, hn0, rfl⟩ | ⟨g, cap, rfl, hg, hle, hcap, _⟩
  · refine ret_go _ rfl ⟨fun h => absurd he h, fun _ => ⟨_, rfl, ?_⟩⟩
    rw [List.length_eq_zero_iff.1 (show (serI p q N).length = 0 by rw [serI_len]; exact hn0)]; exact SlAt.nil _
  · refine ret_pub g _ hg fun o ho hle' => ret_go _ rfl ⟨fun h => absurd he h, fun _ => ⟨_, rfl, ?_⟩⟩
    exact hrow.pub ratE_ok ho hle' (serI_len p q N) hle (by unfold maxLen at hcap; omega)
end Go.Proofs.Ythoboehbadmlmaa
end
section
namespace Go.Proofs.Ythoboehbadmlmaa
open Go Go.RowKit
set_option linter.unusedSimpArgs false
set_option linter.unusedVariables false
attribute [local irreducible] XWP Spec SpecO XPub XCall seqX clX apX stX ldX iaX slX
theorem RowAt.append {α : Type} {E : View → Value → α → Prop} {V : View} {c1 c2 : List Value} {l1 l2 : List α} (h1 : RowAt E V c1 l1) (h2 : RowAt E V c2 l2) : RowAt E V (c1 ++ c2) (l1 ++ l2) := by
  have e1 := h1.1
  have e2 := h2.1
  refine ⟨by rw [List.length_append, List.length_append, e1, e2]; omega, fun i x hi => ?_⟩
  by_cases hlt : i < l1.length
  · rw [List.getElem?_append_left hlt] at hi
    obtain ⟨m, n, d, g1, g2, g3, r⟩ := h1.2 i x hi
    refine ⟨m, n, d, ?_, ?_, ?_, r⟩
    · show (c1 ++ c2)[i * 3]? = _
      rw [List.getElem?_append_left (by omega)]; exact g1
    · show (c1 ++ c2)[i * 3 + 1]? = _
      rw [List.getElem?_append_left (by omega)]; exact g2
    · show (c1 ++ c2)[i * 3 + 2]? = _
      rw [List.getElem?_append_left (by omega)]; exact g3
  · rw [List.getElem?_append_right (by omega)] at hi
    obtain ⟨m, n, d, g1, g2, g3, r⟩ := h2.2 (i - l1.length) x hi
    refine ⟨m, n, d, ?_, ?_, ?_, r⟩
    · show (c1 ++ c2)[i * 3]? = _
      rw [List.getElem?_append_right (by omega), show i * 3 - c1.length = (i - l1.length) * 3 by omega]; exact g1
    · show (c1 ++ c2)[i * 3 + 1]? = _
      rw [List.getElem?_append_right (by omega), show i * 3 + 1 - c1.length = (i - l1.length) * 3 + 1 by omega]; exact g2
    · show (c1 ++ c2)[i * 3 + 2]? = _
      rw [List.getElem?_append_right (by omega), show i * 3 + 2 - c1.length = (i - l1.length) * 3 + 2 by omega]; exact g3
end Go.Proofs.Ythoboehbadmlmaa
end
section
namespace Go.Proofs.Ythoboehbadmlmaa
set_option linter.unusedVariables false
abbrev Grid := Nat → Nat → Rat
def SolG (G : Grid) (R n : Nat) (x : Nat → Rat) : Prop := ∀ i, i < R → Sm (fun j => G i j * x j) n = G i n
def wset (wh : Nat → Int) (k : Nat) (x : Int) : Nat → Int := fun c => if c = k then x else wh c
/-- the numbers that are read off -/
def gx (G : Grid) (wh : Nat → Int) (n c : Nat) : Rat := if 0 ≤ wh c then G (wh c).toNat n else 0
end Go.Proofs.Ythoboehbadmlmaa
end
section
namespace Go.Proofs.Ythoboehbadmlmaa
open Go Go.RowKit
set_option linter.unusedSimpArgs false
set_option linter.unusedVariables false
attribute [local irreducible] XWP Spec SpecO XPub XCall seqX clX apX stX ldX iaX slX
theorem upd_off {H : Heap} {b k : Nat} {r : Option Row} (h : k ≠ b) : upd H b r k = H k := by unfold upd; rw [if_neg h]
def GRow (H : Heap) (V : View) (m : Nat) (f : Nat → Rat) (av : List Nat) (v : Value) : Prop :=
  ∃ b c cs, v = .slice (some ⟨b, 0, none⟩) m c ∧ H b = some ⟨34, cs, c * 3⟩ ∧ RowAt ratE V cs (mk m f) ∧ m ≤ c ∧ c ≤ maxLen ∧ b ∉ av
structure GCells (H : Heap) (V : View) (R m : Nat) (G : Grid) (av : List Nat) (cells : List Value) : Prop where
  len : cells.length = R
  row : ∀ (i : Nat) (v : Value), cells[i]? = some v → GRow H V m (G i) av v
  inj : ∀ (i j b c c' : Nat), cells[i]? = some (Value.slice (some ⟨b, 0, none⟩) m c) → cells[j]? = some (Value.slice (some ⟨b, 0, none⟩) m c') → i = j
def GridAt (H : Heap) (V : View) (v : Value) (R m : Nat) (G : Grid) (av : List Nat) : Prop :=
  ∃ cells, Own H 22 1 v R cells ∧ GCells H V R m G av cells
theorem mk_congr {m : Nat} {f g : Nat → Rat} (h : ∀ j, j < m → f j = g j) : mk m f = mk m g := by
  unfold mk
  exact List.map_congr_left fun j hj => h j (List.mem_range.1 hj)
theorem GRow.congr {H : Heap} {V : View} {m : Nat} {f g : Nat → Rat} {av : List Nat} {v : Value} (h : GRow H V m f av v) (e : ∀ j, j < m → f j = g j) : GRow H V m g av v := by
  obtain ⟨b, c, cs, h1, h2, h3, h4⟩ := h
  rw [mk_congr e] at h3
  exact ⟨b, c, cs, h1, h2, h3, h4⟩
theorem GRow.mono {H : Heap} {V V' : View} {m : Nat} {f : Nat → Rat} {av : List Nat} {v : Value} (h : GRow H V m f av v) (hV : V.le V') : GRow H V' m f av v := by
  obtain ⟨b, c, cs, h1, h2, h3, h4⟩ := h
  exact ⟨b, c, cs, h1, h2, h3.mono ratE_ok hV, h4⟩
theorem GridAt.nil (H : Heap) (V : View) (m : Nat) (G : Grid) (av : List Nat) : GridAt H V (.slice none 0 0) 0 m G av :=
  ⟨[], own_nil, ⟨rfl, fun i v h => by simp at h, fun i j b c c' h => by simp at h⟩⟩
theorem GridAt.mono {H : Heap} {V V' : View} {v : Value} {R m : Nat} {G : Grid} {av : List Nat} (h : GridAt H V v R m G av) (hV : V.le V') : GridAt H V' v R m G av := by
  obtain ⟨cells, h1, h2⟩ := h
  exact ⟨cells, h1, h2.len, fun i v hv => (h2.row i v hv).mono hV, h2.inj⟩
theorem GridAt.congr {H : Heap} {V : View} {v : Value} {R m : Nat} {G G' : Grid} {av : List Nat} (h : GridAt H V v R m G av) (e : ∀ i j, i < R → j < m → G i j = G' i j) : GridAt H V v R m G' av := by
  obtain ⟨cells, h1, h2⟩ := h
  refine ⟨cells, h1, h2.len, fun i v hv => (h2.row i v hv).congr fun j hj => e i j ?_ hj, h2.inj⟩
  rw [← h2.len]
  exact (List.getElem?_eq_some_iff.1 hv).1
/-- what else is written, leaves it -/
theorem GridAt.frame {H H' : Heap} {V : View} {v : Value} {R m : Nat} {G : Grid} {av av' : List Nat} (h : GridAt H V v R m G av)
    (h1 : ∀ k cs tot, H k = some ⟨22, cs, tot⟩ → H' k = H k) (h2 : ∀ k cs tot, k ∉ av → H k = some ⟨34, cs, tot⟩ → H' k = H k ∧ k ∉ av') : GridAt H' V v R m G av' := by
  obtain ⟨cells, ho, hc⟩ := h
  refine ⟨cells, ⟨ho.1, ?_⟩, hc.len, fun i v hv => ?_, hc.inj⟩
  · rcases ho.2 with h | ⟨b, cap, e, hb, h3⟩
    · exact .inl h
    · exact .inr ⟨b, cap, e, by rw [h1 b _ _ hb]; exact hb, h3⟩
  · obtain ⟨b, c, cs, e, hb, h3, h4, h5, h6⟩ := hc.row i v hv
    obtain ⟨a1, a2⟩ := h2 b _ _ h6 hb
    exact ⟨b, c, cs, e, by rw [a1]; exact hb, h3, h4, h5, a2⟩
/-- one row: how to read it, how to write it -/
theorem GridAt.at {H : Heap} {V : View} {v : Value} {R m : Nat} {G : Grid} {av : List Nat} (h : GridAt H V v R m G av) {i : Nat} (hi : i < R) :
    ∃ g cap b c cs, v = .slice (some ⟨g, 0, none⟩) R cap ∧ Loads Try.prog H V 22 g i (.slice (some ⟨b, 0, none⟩) m c) ∧ H b = some ⟨34, cs, c * 3⟩ ∧ RowAt ratE V cs (mk m (G i)) ∧ m ≤ c ∧ c ≤ maxLen ∧ b ∉ av ∧
      ∀ V' cs' f, V.le V' → RowAt ratE V' cs' (mk m f) → GridAt (upd H b (some ⟨34, cs', c * 3⟩)) V' v R m (fun i' => if i' = i then f else G i') av := by
  obtain ⟨cells, ho, hc⟩ := h
  rcases own_parts ho with ⟨_, h0, _⟩ | ⟨g, cap, rfl, hg, hle, hcap, hcl⟩
  · omega
  have hlt : i < cells.length := by rw [hc.len]; exact hi
  obtain ⟨b, c, cs, e, hb, h3, h4, h5, h6⟩ := hc.row i cells[i] (List.getElem?_eq_getElem hlt)
  refine ⟨g, cap, b, c, cs, rfl, ⟨false, 1, shapeT_22, .inr ⟨rfl, .inl ⟨_, hg, by rw [List.getElem?_eq_getElem hlt, e]⟩⟩⟩, hb, h3, h4, h5, h6, fun V' cs' f hV hrow => ?_⟩
  have hgb : g ≠ b := fun e => by subst e; rw [hg] at hb; cases hb
  refine ⟨cells, ⟨ho.1, .inr ⟨g, cap, rfl, by unfold upd; rw [if_neg hgb]; exact hg, hle, hcap⟩⟩, hc.len, fun j w hw => ?_, hc.inj⟩
  by_cases hji : j = i
  · subst hji
    rw [List.getElem?_eq_getElem hlt, e] at hw
    cases hw
    exact ⟨b, c, cs', rfl, upd_at _ _ _, by rw [if_pos rfl]; exact hrow, h4, h5, h6⟩
  · obtain ⟨b', c', cs2, e', hb', g3, g4⟩ := hc.row j w hw
    subst e'
    have hne : b' ≠ b := fun hbb => hji (hc.inj j i b' c' c hw (by rw [List.getElem?_eq_getElem hlt, e, hbb]))
    refine ⟨b', c', cs2, rfl, by unfold upd; rw [if_neg hne]; exact hb', ?_, g4⟩
    try dsimp only
    rw [if_neg hji]; exact g3.mono ratE_ok hV
/-- a new row at the end -/
theorem GridAt.snoc {H H' : Heap} {V : View} {v v' w : Value} {R m : Nat} {G : Grid} {xs cells : List Value} {f : Nat → Rat} (ho : Own H 22 1 v R cells) (hc' : GCells H V R m G w.ownBlock.toList cells) (hm : 0 < m) (hown : Own H 34 3 w m xs) (hrow : RowAt ratE V xs (mk m f))
    (hres : AppRes H V 22 1 v (R + 1) (cells ++ [w]) v' H') : GridAt H' V v' (R + 1) m (fun i => if i = R then f else G i) [] := by
  obtain ⟨ho', hk, hg⟩ := hres
  rcases own_parts hown with ⟨_, h0, _⟩ | ⟨bw, cw, rfl, hbw, hcw, hcw2, _⟩
  · omega
  have hsame : ∀ k cs tot, H k = some ⟨34, cs, tot⟩ → H' k = H k := fun k cs tot hr => by
    refine hk k fun e => ?_
    rcases hg k e with h1 | ⟨h1, _⟩
    · rcases own_parts ho with ⟨rfl, _, _⟩ | ⟨b, cap, rfl, hb, _⟩
      · cases h1
      · have : b = k := by simpa [Value.ownBlock] using h1
        subst this
        rw [hb] at hr; cases hr
    · rw [hr] at h1; cases h1
  have hlast : ∀ i w, (cells ++ [Value.slice (some ⟨bw, 0, none⟩) m cw])[i]? = some w → (i < R ∧ cells[i]? = some w) ∨ (i = R ∧ w = .slice (some ⟨bw, 0, none⟩) m cw) := fun i w hw => by
    by_cases hi : i < cells.length
    · rw [List.getElem?_append_left hi] at hw; exact .inl ⟨by rw [← hc'.len]; exact hi, hw⟩
    · rw [List.getElem?_append_right (by omega)] at hw
      have h2 : i - cells.length < 1 := by
        rcases Nat.lt_or_ge (i - cells.length) 1 with h | h
        · exact h
        · rw [List.getElem?_eq_none (by simpa using h)] at hw; cases hw
      have e0 : i - cells.length = 0 := by omega
      rw [e0] at hw
      have := hc'.len
      exact .inr ⟨by omega, by simpa using hw.symm⟩
  have hav : ∀ i b c, cells[i]? = some (Value.slice (some ⟨b, 0, none⟩) m c) → b ≠ bw := fun i b c hi e => by
    obtain ⟨b', c', cs, e', _, _, _, _, h6⟩ := hc'.row i _ hi
    cases e'
    exact h6 (by rw [e]; simp [Value.ownBlock])
  refine ⟨cells ++ [_], ho', by rw [List.length_append, hc'.len]; rfl, fun i w hw => ?_, fun i j b c c' h1 h2 => ?_⟩
  · rcases hlast i w hw with ⟨hi, h⟩ | ⟨hi, h⟩
    · obtain ⟨b, c, cs, e, hb, h3, h4, h5, h6⟩ := hc'.row i w h
      refine ⟨b, c, cs, e, by rw [hsame b _ _ hb]; exact hb, ?_, h4, h5, by simp⟩
      rw [if_neg (by omega)]; exact h3
    · subst h
      refine ⟨bw, cw, xs, rfl, by rw [hsame bw _ _ hbw]; exact hbw, ?_, hcw, hcw2, by simp⟩
      rw [if_pos hi]; exact hrow
  · rcases hlast i _ h1 with ⟨hi, h⟩ | ⟨hi, h⟩ <;> rcases hlast j _ h2 with ⟨hj, h'⟩ | ⟨hj, h'⟩
    · exact hc'.inj i j b c c' h h'
    · cases h'; exact absurd rfl (hav i _ c h)
    · cases h; exact absurd rfl (hav j _ c' h')
    · omega
theorem GridAt.alloc {H : Heap} {V : View} {v : Value} {R m b : Nat} {r : Option Row} {G : Grid} {av : List Nat} (h : GridAt H V v R m G av) (hb : H b = none) : GridAt (upd H b r) V v R m G av := by
  have key : ∀ k q, H k = some q → upd H b r k = H k := fun k q hk => by
    unfold upd
    split
    · rename_i e; rw [e, hb] at hk; cases hk
    · rfl
  exact h.frame (fun k cs tot hk => key k _ hk) fun k cs tot ha hk => ⟨key k _ hk, ha⟩
theorem GridAt.form {H : Heap} {V : View} {v : Value} {R m : Nat} {G : Grid} {av : List Nat} (h : GridAt H V v R m G av) : ∃ A c, v = .slice A R c := by
  obtain ⟨cells, ho, _⟩ := h
  rcases own_parts ho with ⟨rfl, h0, _⟩ | ⟨b, cap, rfl, _⟩
  · exact ⟨none, 0, by rw [h0]⟩
  · exact ⟨_, _, rfl⟩
theorem mk_set1 {m j : Nat} {f : Nat → Rat} {x : Rat} (hj : j < m) : (mk m f).set j x = mk m (fun c => if c = j then x else f c) := by
  apply List.ext_getElem?
  intro i
  by_cases hi : i < m
  · by_cases e : j = i
    · subst e; rw [List.getElem?_set_self (by rw [mk_len]; exact hj)]; simp [mk, hj]
    · rw [List.getElem?_set_ne e]
      have e' : ¬ i = j := fun h => e h.symm
      simp [mk, hi, e']
  · rw [List.getElem?_eq_none (by rw [List.length_set, mk_len]; omega), List.getElem?_eq_none (by rw [mk_len]; omega)]
/-- the memory of an elimination under way -/
structure KMem (H : Heap) (V : View) (w : Value) (R n go gw : Nat) (G : Grid) (wh : Nat → Int) (k : Nat) : Prop where
  grid : GridAt H V w R (n + 1) G [go]
  wr : ∃ cw tot, H gw = some ⟨3, cw, tot⟩ ∧ cw.length = n ∧ ∀ c, c < k → cw[c]? = some (.int .i64 (wh c))
  out : ∃ co tot, H go = some ⟨34, co, tot⟩ ∧ RowAt (optE ratE) V co (List.replicate n none)
theorem KMem.mono {H : Heap} {V V' : View} {w : Value} {R n go gw : Nat} {G : Grid} {wh : Nat → Int} {k : Nat} (h : KMem H V w R n go gw G wh k) (hV : V.le V') : KMem H V' w R n go gw G wh k := by
  obtain ⟨co, tot, h1, h2⟩ := h.out
  exact ⟨h.grid.mono hV, h.wr, co, tot, h1, h2.mono (optE_ok ratE_ok) hV⟩
theorem KMem.congr {H : Heap} {V : View} {w : Value} {R n go gw : Nat} {G G' : Grid} {wh : Nat → Int} {k : Nat} (h : KMem H V w R n go gw G wh k) (e : ∀ i j, i < R → j < n + 1 → G i j = G' i j) : KMem H V w R n go gw G' wh k := ⟨h.grid.congr e, h.wr, h.out⟩
/-- one place of the grid: how to read it, how to write it -/
theorem KMem.at {H : Heap} {V : View} {w : Value} {R n go gw : Nat} {G : Grid} {wh : Nat → Int} {k : Nat} (h : KMem H V w R n go gw G wh k) {i : Nat} (hi : i < R) :
    ∃ g cap b c cs, w = .slice (some ⟨g, 0, none⟩) R cap ∧ Loads Try.prog H V 22 g i (.slice (some ⟨b, 0, none⟩) (n + 1) c) ∧ H b = some ⟨34, cs, c * 3⟩ ∧ cs.length = (n + 1) * 3 ∧ n + 1 ≤ c ∧
      (∀ j, j < n + 1 → ∃ x y z, RatC V (.agg #[x, y, z]) (G i j) ∧ (isOne x = true ∧ isOne y = true ∧ isOne z = true) ∧ Loads Try.prog H V 34 b (j * 3) (.agg #[x, y, z])) ∧
      ∀ V' j q x y z, j < n + 1 → V.le V' → RatC V' (.agg #[x, y, z]) q → isOne x = true → isOne y = true → isOne z = true → KMem (upd H b (some ⟨34, splice cs (j * 3) [x, y, z], c * 3⟩)) V' w R n go gw (fun i' j' => if i' = i ∧ j' = j then q else G i' j') wh k := by
  obtain ⟨g, cap, b, c, cs, e, h1, h2, h3, h4, h5, h6, h7⟩ := h.grid.at hi
  refine ⟨g, cap, b, c, cs, e, h1, h2, by rw [h3.1, mk_len], h4, fun j hj => ?_, fun V' j q x y z hj hV hx o1 o2 o3 => ?_⟩
  · obtain ⟨x, y, z, a1, a2, a3⟩ := rowQ_load h2 h3 j (by rw [mk_len]; exact hj)
    rw [cf_mk, if_pos hj] at a1
    exact ⟨x, y, z, a1, a2, a3⟩
  · have hr := (h3.mono ratE_ok hV).set j (by rw [mk_len]; exact hj) o1 o2 o3 hx
    rw [mk_set1 hj] at hr
    obtain ⟨cw, tot, w1, w2⟩ := h.wr
    obtain ⟨co, tot', u1, u2⟩ := h.out
    have hgb : gw ≠ b := fun e => by subst e; rw [h2] at w1; cases w1
    have hob : go ≠ b := fun e => h6 (by rw [e]; simp)
    refine ⟨(h7 V' _ _ hV hr).congr fun i' j' _ _ => ?_, ⟨cw, tot, by unfold upd; rw [if_neg hgb]; exact w1, w2⟩, ⟨co, tot', by unfold upd; rw [if_neg hob]; exact u1, u2.mono (optE_ok ratE_ok) hV⟩⟩
    by_cases e1 : i' = i
    · by_cases e2 : j' = j
      · simp [e1, e2]
      · simp [e1, e2]
    · simp [e1]
theorem KMem.where {H : Heap} {V : View} {w : Value} {R n go gw : Nat} {G : Grid} {wh : Nat → Int} {k : Nat} (h : KMem H V w R n go gw G wh k) (hk : k < n) (x : Int) :
    ∃ cw tot, H gw = some ⟨3, cw, tot⟩ ∧ k < cw.length ∧ KMem (upd H gw (some ⟨3, cw.set k (.int .i64 x), tot⟩)) V w R n go gw G (wset wh k x) (k + 1) := by
  obtain ⟨cw, tot, w1, w2, w3⟩ := h.wr
  obtain ⟨co, tot', u1, u2⟩ := h.out
  have hne : ∀ b cs t, H b = some ⟨34, cs, t⟩ → upd H gw (some ⟨3, cw.set k (.int .i64 x), tot⟩) b = H b := fun b cs t hb => by
    unfold upd; split
    · rename_i e; subst e; rw [w1] at hb; cases hb
    · rfl
  have hne2 : ∀ b cs t, H b = some ⟨22, cs, t⟩ → upd H gw (some ⟨3, cw.set k (.int .i64 x), tot⟩) b = H b := fun b cs t hb => by
    unfold upd; split
    · rename_i e; subst e; rw [w1] at hb; cases hb
    · rfl
  refine ⟨cw, tot, w1, by omega, h.grid.frame hne2 fun b cs t ha hb => ⟨hne b cs t hb, ha⟩, ⟨_, tot, upd_at _ _ _, by rw [List.length_set]; exact w2, fun c hc => ?_⟩, ⟨co, tot', by rw [hne _ _ _ u1]; exact u1, u2⟩⟩
  unfold wset
  by_cases e : k = c
  · subst e; rw [List.getElem?_set_self (by omega), if_pos rfl]
  · rw [List.getElem?_set_ne e, if_neg (Ne.symm e)]; exact w3 c (by omega)
theorem KMem.again {H : Heap} {V : View} {w : Value} {R n go gw : Nat} {G : Grid} {wh : Nat → Int} {k : Nat} {y : Int} (h : KMem H V w R n go gw G (wset wh k y) (k + 1)) (hk : k < n) (x : Int) :
    ∃ cw tot, H gw = some ⟨3, cw, tot⟩ ∧ k < cw.length ∧ KMem (upd H gw (some ⟨3, cw.set k (.int .i64 x), tot⟩)) V w R n go gw G (wset wh k x) (k + 1) := by
  obtain ⟨cw, tot, w1, w2, w3⟩ := h.wr
  have h0 : KMem H V w R n go gw G wh k := ⟨h.grid, ⟨cw, tot, w1, w2, fun c hc => by
    have := w3 c (by omega)
    unfold wset at this
    rw [if_neg (by omega)] at this; exact this⟩, h.out⟩
  exact h0.where hk x
theorem SolG.congr {G : Grid} {R n : Nat} {x y : Nat → Rat} (h : SolG G R n x) (e : ∀ j, j < n → x j = y j) : SolG G R n y := fun i hi => by
  rw [← h i hi]
  exact Sm_congr _ fun j hj => by rw [e j hj]
end Go.Proofs.Ythoboehbadmlmaa
end
section
namespace Go.Proofs.Ythoboehbadmlmaa
open Go Go.RowKit
set_option linter.unusedSimpArgs false
set_option linter.unusedVariables false
attribute [local irreducible] XWP Spec SpecO XPub XCall seqX clX apX stX ldX iaX slX
def wtR (r : Raw) : Bool := r.ok && !ng r.q
def wtsR (l : List Raw) : Bool := l.all wtR
def wtB (n : Int) (l : List Raw) : Bool := decide ((l.length : Int) = n) && wtsR l
theorem wtsR_ok {l : List Raw} (h : wtsR l = true) : okR l = true ∧ ∀ i, i < l.length → ng (cf (qs l) i) = false := by
  unfold wtsR at h
  rw [List.all_eq_true] at h
  refine ⟨?_, fun i hi => ?_⟩
  · unfold okR
    rw [List.all_eq_true]
    intro r hr
    have := h r hr
    unfold wtR at this
    rw [Bool.and_eq_true] at this
    exact this.1
  · have := h l[i] (List.getElem_mem hi)
    unfold wtR at this
    rw [Bool.and_eq_true] at this
    have e : cf (qs l) i = l[i].q := by
      rw [← cf_get (by rw [qs_len]; exact hi)]
      unfold qs; simp
    rw [e]
    simpa using this.2
theorem RawAt.neg {V : View} {v : Value} {m : Bool} {nd dd : List Nat} (h : RawAt V v m nd dd) (hk : rawOk m nd dd = true) : ng (Go.Proofs.Ythoboehbadmlmaa.rv m (nv nd) (nv dd)) = m := by
  obtain ⟨x, y, e, _, _⟩ := (RawAt.rat h hk).form
  obtain ⟨n, d, rfl, _, _⟩ := h
  simp only [Value.agg.injEq, Array.mk.injEq, List.cons.injEq, Value.bool.injEq] at e
  exact e.1.symm
theorem weight1_c (V : View) (v : Value) (r : Raw) (h : rawE V v r) (f : r.fit) : Spec Try.prog 122 [v] V fun v' V' => v' = .bool (!wtR r) := by
  have h0 := h
  obtain ⟨n, d, rfl, hn, hd⟩ := h
  refine (Spec.enter Try.func122 rfl fun Γ => ?_)
  simp only [Try.ntmps122, List.map_cons, List.map_nil, List.length_cons, List.length_nil, Nat.reduceAdd, Nat.reduceSub, List.replicate_succ, List.replicate_zero, List.cons_append, List.nil_append]
  first | refine Gx.a (by kernel_rfl) fun K hK => ?_ | refine Gx.b (by kernel_rfl) fun K hK => ?_ | refine Gx.c (by kernel_rfl) fun K hK => ?_
  simp only [XM, XA, XB, gateX, Nat.reduceAdd, Nat.reduceLeDiff, Nat.reduceSub, Nat.reduceMul, ↓reduceIte, Int.reduceToNat, Int.reduceLE, beq_self_eq_true]
  refine hK _ ?_
  first | refine Gx.a (by kernel_rfl) fun K hK => ?_ | refine Gx.b (by kernel_rfl) fun K hK => ?_ | refine Gx.c (by kernel_rfl) fun K hK => ?_
  simp only [XM, XA, XB, gateX, Nat.reduceAdd, Nat.reduceLeDiff, Nat.reduceSub, Nat.reduceMul, ↓reduceIte, Int.reduceToNat, Int.reduceLE, beq_self_eq_true]
  refine call_go (by kernel_rfl) rfl (qright_c _ _ _ _ _ h0 f.1 f.2) fun v1 V1 hV1 h1 => ?_
  subst h1
  cases e : rawOk r.m r.nd r.dd
  · simp only [XM, XA, XB, gateX, Nat.reduceAdd, Nat.reduceLeDiff, Nat.reduceSub, Nat.reduceMul, ↓reduceIte, Int.reduceToNat, Int.reduceLE, beq_self_eq_true]
    refine hK _ (XWP.ret ?_)
    try simp only [thenX_ret, inBlockX_ret]
    refine ret_go _ rfl ?_
    have : wtR r = false := by unfold wtR Raw.ok; rw [e]; rfl
    rw [this]; rfl
  · simp only [XM, XA, XB, gateX, Nat.reduceAdd, Nat.reduceLeDiff, Nat.reduceSub, Nat.reduceMul, ↓reduceIte, Int.reduceToNat, Int.reduceLE, beq_self_eq_true]
    refine hK _ (XWP.ret ?_)
    try simp only [thenX_ret, inBlockX_ret]
    refine ret_go _ rfl ?_
    have h2 : ng r.q = r.m := RawAt.neg h0 e
    have : wtR r = !r.m := by unfold wtR Raw.ok; rw [e, h2]; rfl
    rw [this, Bool.not_not]; rfl
theorem windex_c (V : View) (v : Value) (l : List Raw) (h : Raws V v l) (f : fitR l) (ll : l.length ≤ 1000000) : Spec Try.prog 129 [v, .func (.func 122) #[] #[]] V fun v' V' => ∃ r : Int, v' = .int .i64 r ∧ decide (0 ≤ r) = !wtsR l := by
  obtain ⟨A, c, rfl, hc, hm⟩ := h.form
  refine (Spec.enter Try.func129 rfl fun Γ => ?_)
  simp only [Try.ntmps129, List.map_cons, List.map_nil, List.length_cons, List.length_nil, Nat.reduceAdd, Nat.reduceSub, List.replicate_succ, List.replicate_zero, List.cons_append, List.nil_append]
  first | refine Gx.a (by kernel_rfl) fun K hK => ?_ | refine Gx.b (by kernel_rfl) fun K hK => ?_ | refine Gx.c (by kernel_rfl) fun K hK => ?_
  simp only [XM, XA, XB, gateX, Nat.reduceAdd, Nat.reduceLeDiff, Nat.reduceSub, Nat.reduceMul, ↓reduceIte, Int.reduceToNat, Int.reduceLE, beq_self_eq_true]
  refine hK _ ?_
  refine XWP.cut (fun s => StIs (fun Z => [Z 0,Z 1,Z 2,Z 3,Z 4,Z 5,Z 6,Z 7,Z 8,Z 9,Z 10,Z 11,Z 12,Z 13,Z 14,Z 15,Z 16,Z 17,Z 18]) [] (fun _ => none) s.V s ∧ wtsR l = true) ?_ ?_
  · first | refine Gx.a (by kernel_rfl) fun K hK => ?_ | refine Gx.b (by kernel_rfl) fun K hK => ?_ | refine Gx.c (by kernel_rfl) fun K hK => ?_
    simp only [XM, XA, XB, gateX, Nat.reduceAdd, Nat.reduceLeDiff, Nat.reduceSub, Nat.reduceMul, ↓reduceIte, Int.reduceToNat, Int.reduceLE, beq_self_eq_true]
    refine hK _ ?_
    clear hK
    first | refine XWP.block ?_ | refine XWP.seq (XWP.block ?_)
    refine XWP.loop (fun n s => ∃ (k : Nat) (V2 : View), StIs (fun Z => [.v (.slice A l.length c), .v (.func (.func 122) #[] #[]), Z 2,Z 3,Z 4,Z 5,Z 6, .v (.int .i64 (l.length : Int)), .v (.int .i64 (k : Int)), Z 9,Z 10,Z 11,Z 12,Z 13,Z 14,Z 15,Z 16,Z 17,Z 18]) [] (fun _ => none) V2 s ∧ V.le V2 ∧ n + k = l.length ∧ wtsR (l.take k) = true) l.length ⟨0, V, StIs.of (by exact rfl), View.le_refl _, rfl, by simp [wtsR]⟩ ?_
    rintro n s ⟨k, V2, hs, hV2, hn, hk⟩
    obtain ⟨u, rfl⟩ := hs.out
    try dsimp only
    by_cases hlt : k < l.length
    · have b1 : decide ((k : Int) < (l.length : Int)) = true := decide_eq_true (by omega)
      first | refine Gx.a (by kernel_rfl) fun K hK => ?_ | refine Gx.b (by kernel_rfl) fun K hK => ?_ | refine Gx.c (by kernel_rfl) fun K hK => ?_
      simp only [XM, XA, XB, gateX, Nat.reduceAdd, Nat.reduceLeDiff, Nat.reduceSub, Nat.reduceMul, ↓reduceIte, Int.reduceToNat, Int.reduceLE, beq_self_eq_true, b1]
      refine hK _ ?_
      first | refine Gx.t rfl ?_ | refine XWP.seq (Gx.t rfl ?_)
      refine XWP.skip ?_
      refine XWP.seq ?_
      first | refine XWP.block ?_ | refine XWP.seq (XWP.block ?_)
      first | refine Gx.a (by kernel_rfl) fun K hK => ?_ | refine Gx.b (by kernel_rfl) fun K hK => ?_ | refine Gx.c (by kernel_rfl) fun K hK => ?_
      simp only [XM, XA, XB, gateX, Nat.reduceAdd, Nat.reduceLeDiff, Nat.reduceSub, Nat.reduceMul, ↓reduceIte, Int.reduceToNat, Int.reduceLE, beq_self_eq_true]
      refine hK _ ?_
      first | refine Gx.a (by kernel_rfl) fun K hK => ?_ | refine Gx.b (by kernel_rfl) fun K hK => ?_ | refine Gx.c (by kernel_rfl) fun K hK => ?_
      have hv2 := Raws.up h hV2
      obtain ⟨b, o, rfl⟩ := SlAt.addr hv2 (by omega)
      obtain ⟨x, hx, ⟨m3, n3, d3, rfl, p1, p2, p3⟩, hld⟩ := SlAt.load hv2 k hlt
      simp only [XM, XA, XB, gateX, Nat.reduceAdd, Nat.reduceLeDiff, Nat.reduceSub, Nat.reduceMul, ↓reduceIte, Int.reduceToNat, Int.reduceLE, beq_self_eq_true]
      refine ⟨by omega, by omega, ld_mem (hld _) ?_⟩
      simp only [XM, XA, XB, gateX, Nat.reduceAdd, Nat.reduceLeDiff, Nat.reduceSub, Nat.reduceMul, ↓reduceIte, Int.reduceToNat, Int.reduceLE, beq_self_eq_true]
      refine call_go (by kernel_rfl) rfl (weight1_c _ _ _ hx (f _ (List.getElem_mem hlt))) fun v3 V3 hV3 h3 => ?_
      subst h3
      have et : l.take (k + 1) = l.take k ++ [l[k]] := by rw [List.take_succ_eq_append_getElem hlt]
      cases hr : wtR l[k]
      · simp only [XM, XA, XB, gateX, Nat.reduceAdd, Nat.reduceLeDiff, Nat.reduceSub, Nat.reduceMul, ↓reduceIte, Int.reduceToNat, Int.reduceLE, beq_self_eq_true]
        refine hK _ ?_
        first | refine Gx.t rfl ?_ | refine XWP.seq (Gx.t rfl ?_)
        first | refine Gx.a (by kernel_rfl) fun K hK => ?_ | refine Gx.b (by kernel_rfl) fun K hK => ?_ | refine Gx.c (by kernel_rfl) fun K hK => ?_
        simp only [XM, XA, XB, gateX, Nat.reduceAdd, Nat.reduceLeDiff, Nat.reduceSub, Nat.reduceMul, ↓reduceIte, Int.reduceToNat, Int.reduceLE, beq_self_eq_true]
        refine hK _ (XWP.ret ?_)
        try simp only [thenX_ret, inBlockX_ret]
        refine ret_go _ rfl ?_
        refine ⟨k, rfl, ?_⟩
        have : wtsR l = false := by
          unfold wtsR
          rw [List.all_eq_false]
          exact ⟨l[k], List.getElem_mem hlt, by rw [hr]; simp⟩
        rw [this, decide_eq_true (by omega)]; rfl
      · simp only [XM, XA, XB, gateX, Nat.reduceAdd, Nat.reduceLeDiff, Nat.reduceSub, Nat.reduceMul, ↓reduceIte, Int.reduceToNat, Int.reduceLE, beq_self_eq_true]
        refine hK _ ?_
        first | refine Gx.f rfl ?_ | refine XWP.seq (Gx.f rfl ?_)
        refine XWP.skip ?_
        first | refine Gx.a (by kernel_rfl) fun K hK => ?_ | refine Gx.b (by kernel_rfl) fun K hK => ?_ | refine Gx.c (by kernel_rfl) fun K hK => ?_
        simp only [XM, XA, XB, gateX, Nat.reduceAdd, Nat.reduceLeDiff, Nat.reduceSub, Nat.reduceMul, ↓reduceIte, Int.reduceToNat, Int.reduceLE, beq_self_eq_true, i64_succ k (by omega)]
        refine hK _ ⟨n - 1, by omega, k + 1, V3, StIs.of (by exact rfl), View.le_trans hV2 hV3, by omega, ?_⟩
        unfold wtsR at hk ⊢
        rw [et, List.all_append, hk]
        simp [hr]
    · have b1 : decide ((k : Int) < (l.length : Int)) = false := decide_eq_false (by omega)
      first | refine Gx.a (by kernel_rfl) fun K hK => ?_ | refine Gx.b (by kernel_rfl) fun K hK => ?_ | refine Gx.c (by kernel_rfl) fun K hK => ?_
      simp only [XM, XA, XB, gateX, Nat.reduceAdd, Nat.reduceLeDiff, Nat.reduceSub, Nat.reduceMul, ↓reduceIte, Int.reduceToNat, Int.reduceLE, beq_self_eq_true, b1]
      refine hK _ ?_
      first | refine Gx.f rfl ?_ | refine XWP.seq (Gx.f rfl ?_)
      refine XWP.exit ?_
      rw [List.take_of_length_le (by omega)] at hk
      exact ⟨StIs.of (by exact rfl), hk⟩
  rintro s ⟨hs, hk⟩
  obtain ⟨t, bx, H, V2⟩ := s
  obtain ⟨u, e⟩ := hs.out
  cases e
  try dsimp only
  first | refine Gx.a (by kernel_rfl) fun K hK => ?_ | refine Gx.b (by kernel_rfl) fun K hK => ?_ | refine Gx.c (by kernel_rfl) fun K hK => ?_
  simp only [XM, XA, XB, gateX, Nat.reduceAdd, Nat.reduceLeDiff, Nat.reduceSub, Nat.reduceMul, ↓reduceIte, Int.reduceToNat, Int.reduceLE, beq_self_eq_true]
  refine hK _ (XWP.ret ?_)
  try simp only [thenX_ret, inBlockX_ret]
  refine ret_go _ rfl ?_
  exact ⟨-1, rfl, by rw [hk]; rfl⟩
theorem wcontains_c (V : View) (v : Value) (l : List Raw) (h : Raws V v l) (f : fitR l) (ll : l.length ≤ 1000000) : Spec Try.prog 100 [v, .func (.func 122) #[] #[]] V fun v' V' => v' = .bool (!wtsR l) := by
  refine (Spec.enter Try.func100 rfl fun Γ => ?_)
  simp only [Try.ntmps100, List.map_cons, List.map_nil, List.length_cons, List.length_nil, Nat.reduceAdd, Nat.reduceSub, List.replicate_succ, List.replicate_zero, List.cons_append, List.nil_append]
  first | refine Gx.a (by kernel_rfl) fun K hK => ?_ | refine Gx.b (by kernel_rfl) fun K hK => ?_ | refine Gx.c (by kernel_rfl) fun K hK => ?_
  simp only [XM, XA, XB, gateX, Nat.reduceAdd, Nat.reduceLeDiff, Nat.reduceSub, Nat.reduceMul, ↓reduceIte, Int.reduceToNat, Int.reduceLE, beq_self_eq_true]
  refine hK _ ?_
  first | refine Gx.a (by kernel_rfl) fun K hK => ?_ | refine Gx.b (by kernel_rfl) fun K hK => ?_ | refine Gx.c (by kernel_rfl) fun K hK => ?_
  simp only [XM, XA, XB, gateX, Nat.reduceAdd, Nat.reduceLeDiff, Nat.reduceSub, Nat.reduceMul, ↓reduceIte, Int.reduceToNat, Int.reduceLE, beq_self_eq_true]
  refine call_go (by kernel_rfl) rfl (windex_c _ _ _ h f ll) fun v1 V1 hV1 h1 => ?_
  obtain ⟨r, rfl, hr⟩ := h1
  simp only [XM, XA, XB, gateX, Nat.reduceAdd, Nat.reduceLeDiff, Nat.reduceSub, Nat.reduceMul, ↓reduceIte, Int.reduceToNat, Int.reduceLE, beq_self_eq_true, hr]
  refine hK _ (XWP.ret ?_)
  try simp only [thenX_ret, inBlockX_ret]
  refine ret_go _ rfl ?_
  rfl
theorem cweights_c (V : View) (s1 s2 v : Value) (r1 c1 r2 c2 : Int) (L : List Raw) (o1 : isOne s1 = true) (o2 : isOne s2 = true) (h : Raws V v L) (f : fitR L) (ll : L.length ≤ 1000000) :
    Spec Try.prog 86 [.agg #[.int .i64 r1, .int .i64 c1, s1, .int .i64 r2, .int .i64 c2, s2], v] V fun v' V' => v' = .bool (wtB r1 L) := by
  obtain ⟨A, c, rfl, hc, hm⟩ := h.form
  refine (Spec.enter Try.func86 rfl fun Γ => ?_)
  simp only [Try.ntmps86, List.map_cons, List.map_nil, List.length_cons, List.length_nil, Nat.reduceAdd, Nat.reduceSub, List.replicate_succ, List.replicate_zero, List.cons_append, List.nil_append]
  first | refine Gx.a (by kernel_rfl) fun K hK => ?_ | refine Gx.b (by kernel_rfl) fun K hK => ?_ | refine Gx.c (by kernel_rfl) fun K hK => ?_
  simp only [XM, XA, XB, gateX, Nat.reduceAdd, Nat.reduceLeDiff, Nat.reduceSub, Nat.reduceMul, ↓reduceIte, Int.reduceToNat, Int.reduceLE, beq_self_eq_true]
  refine hK _ ?_
  first | refine Gx.a (by kernel_rfl) fun K hK => ?_ | refine Gx.b (by kernel_rfl) fun K hK => ?_ | refine Gx.c (by kernel_rfl) fun K hK => ?_
  by_cases d : (L.length : Int) = r1
  · have b : decide ((L.length : Int) = r1) = true := decide_eq_true d
    simp only [XM, XA, XB, gateX, Nat.reduceAdd, Nat.reduceLeDiff, Nat.reduceSub, Nat.reduceMul, ↓reduceIte, Int.reduceToNat, Int.reduceLE, beq_self_eq_true, b]
    refine call_go (by kernel_rfl) rfl (wcontains_c _ _ _ h f ll) fun v1 V1 hV1 h1 => ?_
    subst h1
    simp only [XM, XA, XB, gateX, Nat.reduceAdd, Nat.reduceLeDiff, Nat.reduceSub, Nat.reduceMul, ↓reduceIte, Int.reduceToNat, Int.reduceLE, beq_self_eq_true]
    refine hK _ (XWP.ret ?_)
    try simp only [thenX_ret, inBlockX_ret]
    refine ret_go _ rfl ?_
    show Value.bool _ = _
    unfold wtB
    rw [b, Bool.not_not, Bool.true_and]
  · have b : decide ((L.length : Int) = r1) = false := decide_eq_false d
    simp only [XM, XA, XB, gateX, Nat.reduceAdd, Nat.reduceLeDiff, Nat.reduceSub, Nat.reduceMul, ↓reduceIte, Int.reduceToNat, Int.reduceLE, beq_self_eq_true, b]
    refine hK _ (XWP.ret ?_)
    try simp only [thenX_ret, inBlockX_ret]
    refine ret_go _ rfl ?_
    unfold wtB
    rw [b]; rfl
theorem czeros_o (V : View) (n : Nat) (hn : n ≤ 1000) : SpecO Try.prog 123 [.int .i64 (n : Int)] V fun v' V' o => ∃ g cells, v' = .slice (some ⟨g, 0, none⟩) n n ∧ o = some (g, ⟨34, cells, n * 3⟩) ∧ RowAt ratE V' cells (mk n fun _ => 0) := by
  refine (SpecO.enter Try.func123 rfl fun Γ => ?_)
  simp only [Try.ntmps123, List.map_cons, List.map_nil, List.length_cons, List.length_nil, Nat.reduceAdd, Nat.reduceSub, List.replicate_succ, List.replicate_zero, List.cons_append, List.nil_append]
  first | refine Gx.a (by kernel_rfl) fun K hK => ?_ | refine Gx.b (by kernel_rfl) fun K hK => ?_ | refine Gx.c (by kernel_rfl) fun K hK => ?_
  simp only [XM, XA, XB, gateX, Nat.reduceAdd, Nat.reduceLeDiff, Nat.reduceSub, Nat.reduceMul, ↓reduceIte, Int.reduceToNat, Int.reduceLE, beq_self_eq_true]
  refine hK _ ?_
  first | refine Gx.a (by kernel_rfl) fun K hK => ?_ | refine Gx.b (by kernel_rfl) fun K hK => ?_ | refine Gx.c (by kernel_rfl) fun K hK => ?_
  simp only [XM, XA, XB, gateX, Nat.reduceAdd, Nat.reduceLeDiff, Nat.reduceSub, Nat.reduceMul, ↓reduceIte, Int.reduceToNat, Int.reduceLE, beq_self_eq_true]
  refine mk_go rfl rfl elemT_22 zeroT_34 (by omega) (by omega) (by omega) (by omega) rfl (by omega) fun g hg1 hg2 => ?_
  simp only [XM, XA, XB, gateX, Nat.reduceAdd, Nat.reduceLeDiff, Nat.reduceSub, Nat.reduceMul, ↓reduceIte, Int.reduceToNat, Int.reduceLE, beq_self_eq_true]
  refine hK _ ?_
  clear hK
  refine XWP.cut (fun s => ∃ (V2 : View) (H5 : Heap) (cells : List Value), StIs (fun Z => [Z 0,Z 1,Z 2, .v (.slice (some ⟨g, 0, none⟩) n n), Z 4,Z 5,Z 6,Z 7,Z 8,Z 9,Z 10,Z 11,Z 12,Z 13,Z 14,Z 15,Z 16,Z 17]) [] H5 V2 s ∧ H5 g = some ⟨34, cells, n * 3⟩ ∧ RowAt ratE V2 cells (mk n fun _ => 0)) ?_ ?_
  · first | refine Gx.a (by kernel_rfl) fun K hK => ?_ | refine Gx.b (by kernel_rfl) fun K hK => ?_ | refine Gx.c (by kernel_rfl) fun K hK => ?_
    simp only [XM, XA, XB, gateX, Nat.reduceAdd, Nat.reduceLeDiff, Nat.reduceSub, Nat.reduceMul, ↓reduceIte, Int.reduceToNat, Int.reduceLE, beq_self_eq_true]
    refine hK _ ?_
    clear hK
    first | refine XWP.block ?_ | refine XWP.seq (XWP.block ?_)
    refine XWP.loop (fun r s => ∃ (k : Nat) (V2 : View) (H5 : Heap) (cells : List Value), StIs (fun Z => [Z 0,Z 1,Z 2, .v (.slice (some ⟨g, 0, none⟩) n n), Z 4,Z 5,Z 6,Z 7, .v (.int .i64 (n : Int)), .v (.int .i64 (k : Int)), Z 10,Z 11,Z 12,Z 13,Z 14,Z 15,Z 16,Z 17]) [] H5 V2 s ∧ r + k = n ∧ H5 g = some ⟨34, cells, n * 3⟩ ∧ RowAt (optE ratE) V2 cells (part n (fun _ => 0) k)) n ⟨0, V, _, _, StIs.of (by exact rfl), by omega, upd_at _ _ _, by rw [part_zero]; exact RowAt.new _ _⟩ ?_
    rintro r s ⟨k, V2, H5, cells, hs, hr, hH, hrow⟩
    obtain ⟨z, rfl⟩ := hs.out
    try dsimp only
    clear hs
    by_cases hk : k < n
    rotate_left
    · obtain rfl : k = n := by omega
      have b1 : decide ((k : Int) < (k : Int)) = false := decide_eq_false (by omega)
      first | refine Gx.a (by kernel_rfl) fun K hK => ?_ | refine Gx.b (by kernel_rfl) fun K hK => ?_ | refine Gx.c (by kernel_rfl) fun K hK => ?_
      simp only [XM, XA, XB, gateX, Nat.reduceAdd, Nat.reduceLeDiff, Nat.reduceSub, Nat.reduceMul, ↓reduceIte, Int.reduceToNat, Int.reduceLE, beq_self_eq_true, b1]
      refine hK _ ?_
      first | refine Gx.f rfl ?_ | refine XWP.seq (Gx.f rfl ?_)
      refine XWP.exit ?_
      rw [part_all] at hrow
      exact ⟨V2, H5, cells, StIs.of (by exact rfl), hH, hrow.all⟩
    have b1 : decide ((k : Int) < (n : Int)) = true := decide_eq_true (by omega)
    first | refine Gx.a (by kernel_rfl) fun K hK => ?_ | refine Gx.b (by kernel_rfl) fun K hK => ?_ | refine Gx.c (by kernel_rfl) fun K hK => ?_
    simp only [XM, XA, XB, gateX, Nat.reduceAdd, Nat.reduceLeDiff, Nat.reduceSub, Nat.reduceMul, ↓reduceIte, Int.reduceToNat, Int.reduceLE, beq_self_eq_true, b1]
    refine hK _ ?_
    first | refine Gx.t rfl ?_ | refine XWP.seq (Gx.t rfl ?_)
    refine XWP.skip ?_
    refine XWP.seq ?_
    first | refine XWP.block ?_ | refine XWP.seq (XWP.block ?_)
    first | refine Gx.a (by kernel_rfl) fun K hK => ?_ | refine Gx.b (by kernel_rfl) fun K hK => ?_ | refine Gx.c (by kernel_rfl) fun K hK => ?_
    simp only [XM, XA, XB, gateX, Nat.reduceAdd, Nat.reduceLeDiff, Nat.reduceSub, Nat.reduceMul, ↓reduceIte, Int.reduceToNat, Int.reduceLE, beq_self_eq_true]
    refine hK _ ?_
    first | refine Gx.a (by kernel_rfl) fun K hK => ?_ | refine Gx.b (by kernel_rfl) fun K hK => ?_ | refine Gx.c (by kernel_rfl) fun K hK => ?_
    simp only [XM, XA, XB, gateX, Nat.reduceAdd, Nat.reduceLeDiff, Nat.reduceSub, Nat.reduceMul, ↓reduceIte, Int.reduceToNat, Int.reduceLE, beq_self_eq_true]
    refine call_go (by kernel_rfl) rfl (qzero_c _) fun v3 V3 hV3 h3 => ?_
    obtain ⟨x3, y3, rfl, o1, o2⟩ := h3.form
    have hrow := hrow.mono (optE_ok ratE_ok) hV3
    have hl := hrow.1
    rw [part_len] at hl
    simp only [XM, XA, XB, gateX, Nat.reduceAdd, Nat.reduceLeDiff, Nat.reduceSub, Nat.reduceMul, ↓reduceIte, Int.reduceToNat, Int.reduceLE, beq_self_eq_true]
    refine ⟨by omega, by omega, ?_⟩
    refine st_rowA shapeT_34 (all3 rfl o1 o2) rfl hH (by dsimp only; omega) ?_
    simp only [XM, XA, XB, gateX, Nat.reduceAdd, Nat.reduceLeDiff, Nat.reduceSub, Nat.reduceMul, ↓reduceIte, Int.reduceToNat, Int.reduceLE, beq_self_eq_true]
    refine hK _ ?_
    have hrow2 := hrow.set k (by rw [part_len]; omega) (x := some 0) (show isOne (.bool (ng 0)) = true from rfl) o1 o2 h3
    rw [part_step n (fun _ => 0) k] at hrow2
    first | refine Gx.a (by kernel_rfl) fun K hK => ?_ | refine Gx.b (by kernel_rfl) fun K hK => ?_ | refine Gx.c (by kernel_rfl) fun K hK => ?_
    simp only [XM, XA, XB, gateX, Nat.reduceAdd, Nat.reduceLeDiff, Nat.reduceSub, Nat.reduceMul, ↓reduceIte, Int.reduceToNat, Int.reduceLE, beq_self_eq_true, i64_succ k (by omega)]
    exact hK _ ⟨r - 1, by omega, k + 1, V3, _, _, StIs.of (by exact rfl), by omega, upd_at _ _ _, hrow2⟩
  rintro s ⟨V2, H5, cells, hs, hH, hrow⟩
  obtain ⟨z, rfl⟩ := hs.out
  try dsimp only
  first | refine Gx.a (by kernel_rfl) fun K hK => ?_ | refine Gx.b (by kernel_rfl) fun K hK => ?_ | refine Gx.c (by kernel_rfl) fun K hK => ?_
  simp only [XM, XA, XB, gateX, Nat.reduceAdd, Nat.reduceLeDiff, Nat.reduceSub, Nat.reduceMul, ↓reduceIte, Int.reduceToNat, Int.reduceLE, beq_self_eq_true]
  refine hK _ (XWP.ret ?_)
  try simp only [thenX_ret, inBlockX_ret]
  refine ret_own _ (some (g, _)) rfl (fun g' r e => ?_) ⟨g, cells, rfl, rfl, hrow⟩
  cases e; exact hH
end Go.Proofs.Ythoboehbadmlmaa
end
section
namespace Go.Proofs.Ythoboehbadmlmaa
open Go Go.RowKit
set_option linter.unusedSimpArgs false
set_option linter.unusedVariables false
attribute [local irreducible] XWP Spec SpecO XPub XCall seqX clX apX stX ldX iaX slX
def rowf (a M : List Rat) (c i k0 : Nat) : Nat → Rat := fun k => if k < k0 then tS a M c k (i + 1) else tS a M c k i
theorem rowf_set {a M : List Rat} {c i k0 : Nat} (hk : k0 < c) : (mk c (rowf a M c i k0)).set k0 (tS a M c k0 (i + 1)) = mk c (rowf a M c i (k0 + 1)) := by
  rw [mk_set1 hk]
  refine mk_congr fun j _ => ?_
  unfold rowf
  by_cases e : j = k0
  · rw [if_pos e, if_pos (by omega), e]
  · rw [if_neg e]
    by_cases h : j < k0
    · rw [if_pos h, if_pos (by omega)]
    · rw [if_neg h, if_neg (by omega)]
theorem rowf_skip {a M : List Rat} {c i k0 : Nat} (hk : k0 < c) (h : tS a M c k0 (i + 1) = tS a M c k0 i) : mk c (rowf a M c i k0) = mk c (rowf a M c i (k0 + 1)) := by
  refine mk_congr fun j _ => ?_
  unfold rowf
  by_cases e : j = k0
  · rw [if_neg (by omega), if_pos (by omega), e, h]
  · by_cases h : j < k0
    · rw [if_pos h, if_pos (by omega)]
    · rw [if_neg h, if_neg (by omega)]
theorem rowf_zero (a M : List Rat) (c i : Nat) : mk c (rowf a M c i 0) = mk c fun k => tS a M c k i := mk_congr fun j _ => by unfold rowf; rw [if_neg (by omega)]
theorem rowf_all (a M : List Rat) (c i : Nat) : mk c (rowf a M c i c) = mk c fun k => tS a M c k (i + 1) := mk_congr fun j hj => by unfold rowf; rw [if_pos hj]
theorem cf_mk_lt {c k : Nat} {f : Nat → Rat} (h : k < c) : cf (mk c f) k = f k := by rw [cf_mk, if_pos h]
/-- the slice of a fraction's numerator -/
theorem RatC.num {V : View} {m n d : Value} {q : Rat} (h : RatC V (.agg #[m, n, d]) q) : ∃ A c, n = .slice A (dg q.num.natAbs).length c := by
  obtain ⟨n', d', e, hn, _⟩ := h
  simp only [Value.agg.injEq, Array.mk.injEq, List.cons.injEq] at e
  obtain ⟨A, c, e2, _, _⟩ := NatAt.form hn
  exact ⟨A, c, by rw [e.2.1, e2]⟩
theorem num_zero (q : Rat) : decide (((dg q.num.natAbs).length : Int) = 0) = decide (q = 0) := by
  rw [len_zero, decide_eq_decide]
  exact (rat_zero_iff q).symm
theorem num_pos (q : Rat) : decide ((0 : Int) < ((dg q.num.natAbs).length : Int)) = !decide (q = 0) := by
  rw [← num_zero]
  by_cases h : (dg q.num.natAbs).length = 0
  · rw [decide_eq_false (by omega), decide_eq_true (by omega)]; rfl
  · rw [decide_eq_true (by omega), decide_eq_false (by omega)]; rfl
theorem cthrough_c (V : View) (v sM : Value) (a M : List Rat) (r : Int) (c A B : Nat) (hv : Rats V v a) (hM : Rats V sM M) (hl : M.length = a.length * c) (la : a.length ≤ 60) (lc : c ≤ 60) (hA : CB A a) (hB : CB B M) (hfit : A + B + 100 ≤ 17592186044416) :
    Spec Try.prog 124 [v, .agg #[.int .i64 r, .int .i64 (c : Int), sM]] V fun v' V' => Rats V' v' (thr a M c) := by
  obtain ⟨A1, c1, rfl, _, _⟩ := hv.form
  obtain ⟨A2, c2, rfl, _, _⟩ := hM.form
  have hac : a.length * c ≤ 3600 := Nat.le_trans (Nat.mul_le_mul la lc) (by decide)
  refine (Spec.enter Try.func124 rfl fun Γ => ?_)
  simp only [Try.ntmps124, List.map_cons, List.map_nil, List.length_cons, List.length_nil, Nat.reduceAdd, Nat.reduceSub, List.replicate_succ, List.replicate_zero, List.cons_append, List.nil_append]
  first | refine Gx.a (by kernel_rfl) fun K hK => ?_ | refine Gx.b (by kernel_rfl) fun K hK => ?_ | refine Gx.c (by kernel_rfl) fun K hK => ?_
  simp only [XM, XA, XB, gateX, Nat.reduceAdd, Nat.reduceLeDiff, Nat.reduceSub, Nat.reduceMul, ↓reduceIte, Int.reduceToNat, Int.reduceLE, beq_self_eq_true]
  refine hK _ ?_
  first | refine Gx.a (by kernel_rfl) fun K hK => ?_ | refine Gx.b (by kernel_rfl) fun K hK => ?_ | refine Gx.c (by kernel_rfl) fun K hK => ?_
  simp only [XM, XA, XB, gateX, Nat.reduceAdd, Nat.reduceLeDiff, Nat.reduceSub, Nat.reduceMul, ↓reduceIte, Int.reduceToNat, Int.reduceLE, beq_self_eq_true]
  refine call_own (by kernel_rfl) rfl (czeros_o _ c (by omega)) fun v1 V1 o1 hV1 hs1 h1 => ?_
  obtain ⟨g, cells1, rfl, rfl, hrow1⟩ := h1
  have hg1 : addRow (fun _ => none) (some (g, (⟨34, cells1, c * 3⟩ : Row))) g = some ⟨34, cells1, c * 3⟩ := show upd (fun _ => none) g (some _) g = some _ from upd_at _ _ _
  simp only [XM, XA, XB, gateX, Nat.reduceAdd, Nat.reduceLeDiff, Nat.reduceSub, Nat.reduceMul, ↓reduceIte, Int.reduceToNat, Int.reduceLE, beq_self_eq_true]
  refine hK _ ?_
  clear hK
  generalize addRow (fun _ => none) (some (g, (⟨34, cells1, c * 3⟩ : Row))) = H1 at *
  refine XWP.cutD 1 (fun s => ∃ (V2 : View) (H5 : Heap) (cells : List Value), StIs (fun Z => [Z 0,Z 1,Z 2,Z 3,Z 4, .v (.slice (some ⟨g, 0, none⟩) c c), Z 6,Z 7,Z 8,Z 9,Z 10,Z 11,Z 12,Z 13,Z 14,Z 15,Z 16,Z 17,Z 18,Z 19,Z 20,Z 21,Z 22,Z 23,Z 24,Z 25,Z 26,Z 27,Z 28,Z 29,Z 30,Z 31,Z 32,Z 33,Z 34,Z 35,Z 36,Z 37,Z 38,Z 39,Z 40,Z 41,Z 42,Z 43,Z 44,Z 45,Z 46,Z 47,Z 48,Z 49,Z 50]) [[.int .i64 r, .int .i64 (c : Int), .slice A2 M.length c2]] H5 V2 s ∧ H5 g = some ⟨34, cells, c * 3⟩ ∧ RowAt ratE V2 cells (thr a M c)) ?_ ?_
  · first | refine Gx.a (by kernel_rfl) fun K hK => ?_ | refine Gx.b (by kernel_rfl) fun K hK => ?_ | refine Gx.c (by kernel_rfl) fun K hK => ?_
    simp only [XM, XA, XB, gateX, Nat.reduceAdd, Nat.reduceLeDiff, Nat.reduceSub, Nat.reduceMul, ↓reduceIte, Int.reduceToNat, Int.reduceLE, beq_self_eq_true]
    refine hK _ ?_
    clear hK
    first | refine XWP.block ?_ | refine XWP.seq (XWP.block ?_)
    refine XWP.loopD 1 (fun n s => ∃ (i : Nat) (V2 : View) (H5 : Heap) (cells : List Value), StIs (fun Z => [Z 0,Z 1,Z 2, .p 0 0, Z 4, .v (.slice (some ⟨g, 0, none⟩) c c), Z 6,Z 7,Z 8,Z 9,Z 10,Z 11,Z 12, .v (.slice A1 a.length c1), .v (.int .i64 (a.length : Int)), .v (.int .i64 (i : Int)), Z 16,Z 17,Z 18,Z 19,Z 20,Z 21,Z 22,Z 23,Z 24,Z 25,Z 26,Z 27,Z 28,Z 29,Z 30,Z 31,Z 32,Z 33,Z 34,Z 35,Z 36,Z 37,Z 38,Z 39,Z 40,Z 41,Z 42,Z 43,Z 44,Z 45,Z 46,Z 47,Z 48,Z 49,Z 50]) [[.int .i64 r, .int .i64 (c : Int), .slice A2 M.length c2]] H5 V2 s ∧ V.le V2 ∧ n + i = a.length ∧ H5 g = some ⟨34, cells, c * 3⟩ ∧ RowAt ratE V2 cells (mk c fun k => tS a M c k i)) a.length ⟨0, V1, H1, cells1, StIs.of (by exact rfl), hV1, by omega, hg1, hrow1⟩ ?_
    clear hg1 hrow1 hs1
    rintro n s ⟨i, V2, H5, cells, hs, hV2, hn, hH, hrow⟩
    obtain ⟨z, rfl⟩ := hs.out
    try dsimp only
    clear hs
    by_cases hi : i < a.length
    rotate_left
    · obtain rfl : i = a.length := by omega
      have b1 : decide ((a.length : Int) < (a.length : Int)) = false := decide_eq_false (by omega)
      first | refine Gx.a (by kernel_rfl) fun K hK => ?_ | refine Gx.b (by kernel_rfl) fun K hK => ?_ | refine Gx.c (by kernel_rfl) fun K hK => ?_
      simp only [XM, XA, XB, gateX, Nat.reduceAdd, Nat.reduceLeDiff, Nat.reduceSub, Nat.reduceMul, ↓reduceIte, Int.reduceToNat, Int.reduceLE, beq_self_eq_true, b1]
      refine hK _ ?_
      first | refine Gx.f rfl ?_ | refine XWP.seq (Gx.f rfl ?_)
      refine XWP.exit ?_
      exact fun f => ⟨V2, H5, cells, StIs.of (by exact rfl), hH, hrow⟩
    have b1 : decide ((i : Int) < (a.length : Int)) = true := decide_eq_true (by omega)
    first | refine Gx.a (by kernel_rfl) fun K hK => ?_ | refine Gx.b (by kernel_rfl) fun K hK => ?_ | refine Gx.c (by kernel_rfl) fun K hK => ?_
    simp only [XM, XA, XB, gateX, Nat.reduceAdd, Nat.reduceLeDiff, Nat.reduceSub, Nat.reduceMul, ↓reduceIte, Int.reduceToNat, Int.reduceLE, beq_self_eq_true, b1]
    refine hK _ ?_
    first | refine Gx.t rfl ?_ | refine XWP.seq (Gx.t rfl ?_)
    refine XWP.skip ?_
    refine XWP.seq ?_
    first | refine XWP.block ?_ | refine XWP.seq (XWP.block ?_)
    have hv2 := hv.up hV2
    obtain ⟨b, o, rfl⟩ := SlAt.addr hv2 (by omega)
    obtain ⟨m3, n3, d3, hx3, ⟨p1, p2, p3⟩, hld3⟩ := Rats.get hv2 i hi
    obtain ⟨A3, c3, rfl⟩ := hx3.num
    first | refine Gx.a (by kernel_rfl) fun K hK => ?_ | refine Gx.b (by kernel_rfl) fun K hK => ?_ | refine Gx.c (by kernel_rfl) fun K hK => ?_
    simp only [XM, XA, XB, gateX, Nat.reduceAdd, Nat.reduceLeDiff, Nat.reduceSub, Nat.reduceMul, ↓reduceIte, Int.reduceToNat, Int.reduceLE, beq_self_eq_true]
    refine ⟨by omega, by omega, ld_mem (hld3 _) ?_⟩
    simp only [XM, XA, XB, gateX, Nat.reduceAdd, Nat.reduceLeDiff, Nat.reduceSub, Nat.reduceMul, ↓reduceIte, Int.reduceToNat, Int.reduceLE, beq_self_eq_true]
    refine st_rat rfl rfl p1 p2 p3 ?_
    simp only [XM, XA, XB, gateX, Nat.reduceAdd, Nat.reduceLeDiff, Nat.reduceSub, Nat.reduceMul, ↓reduceIte, Int.reduceToNat, Int.reduceLE, beq_self_eq_true]
    refine hK _ ?_
    refine XWP.seq ?_
    by_cases hz : cf a i = 0
    · have b2 : decide (cf a i = 0) = true := decide_eq_true hz
      first | refine Gx.a (by kernel_rfl) fun K hK => ?_ | refine Gx.b (by kernel_rfl) fun K hK => ?_ | refine Gx.c (by kernel_rfl) fun K hK => ?_
      simp only [XM, XA, XB, gateX, Nat.reduceAdd, Nat.reduceLeDiff, Nat.reduceSub, Nat.reduceMul, ↓reduceIte, Int.reduceToNat, Int.reduceLE, beq_self_eq_true, num_zero, b2]
      refine hK _ ?_
      first | refine Gx.t rfl ?_ | refine XWP.seq (Gx.t rfl ?_)
      refine XWP.exit ?_
      first | refine Gx.a (by kernel_rfl) fun K hK => ?_ | refine Gx.b (by kernel_rfl) fun K hK => ?_ | refine Gx.c (by kernel_rfl) fun K hK => ?_
      simp only [XM, XA, XB, gateX, Nat.reduceAdd, Nat.reduceLeDiff, Nat.reduceSub, Nat.reduceMul, ↓reduceIte, Int.reduceToNat, Int.reduceLE, beq_self_eq_true, i64_succ i (by omega)]
      refine hK _ ⟨n - 1, by omega, fun f => ⟨i + 1, V2, H5, cells, StIs.of (by exact rfl), hV2, by omega, hH, ?_⟩⟩
      have e : (mk c fun k => tS a M c k i) = mk c fun k => tS a M c k (i + 1) := mk_congr fun j _ => by
        show _ = tS a M c j i + _
        rw [hz, Rat.zero_mul, Rat.add_zero]
      rw [← e]; exact hrow
    have b2 : decide (cf a i = 0) = false := decide_eq_false hz
    first | refine Gx.a (by kernel_rfl) fun K hK => ?_ | refine Gx.b (by kernel_rfl) fun K hK => ?_ | refine Gx.c (by kernel_rfl) fun K hK => ?_
    simp only [XM, XA, XB, gateX, Nat.reduceAdd, Nat.reduceLeDiff, Nat.reduceSub, Nat.reduceMul, ↓reduceIte, Int.reduceToNat, Int.reduceLE, beq_self_eq_true, num_zero, b2]
    refine hK _ ?_
    first | refine Gx.f rfl ?_ | refine XWP.seq (Gx.f rfl ?_)
    refine XWP.skip ?_
    first | refine Gx.a (by kernel_rfl) fun K hK => ?_ | refine Gx.b (by kernel_rfl) fun K hK => ?_ | refine Gx.c (by kernel_rfl) fun K hK => ?_
    simp only [XM, XA, XB, gateX, Nat.reduceAdd, Nat.reduceLeDiff, Nat.reduceSub, Nat.reduceMul, ↓reduceIte, Int.reduceToNat, Int.reduceLE, beq_self_eq_true]
    refine hK _ ?_
    clear hK
    refine XWP.post (fun s => ∃ (V3 : View) (H6 : Heap) (cells6 : List Value), StIs (fun Z => [Z 0,Z 1,Z 2, .p 0 0, Z 4, .v (.slice (some ⟨g, 0, none⟩) c c), .v (.int .i64 (i : Int)), .p 1 0, Z 8,Z 9,Z 10,Z 11,Z 12, .v (.slice (some ⟨b, o, none⟩) a.length c1), .v (.int .i64 (a.length : Int)), .v (.int .i64 (i : Int)), Z 16,Z 17,Z 18,Z 19,Z 20,Z 21,Z 22,Z 23,Z 24,Z 25,Z 26,Z 27,Z 28,Z 29,Z 30,Z 31,Z 32,Z 33,Z 34,Z 35,Z 36,Z 37,Z 38,Z 39,Z 40,Z 41,Z 42,Z 43,Z 44,Z 45,Z 46,Z 47,Z 48,Z 49,Z 50]) [[.int .i64 r, .int .i64 (c : Int), .slice A2 M.length c2], [m3, .slice A3 (dg (cf a i).num.natAbs).length c3, d3]] H6 V3 s ∧ V2.le V3 ∧ H6 g = some ⟨34, cells6, c * 3⟩ ∧ RowAt ratE V3 cells6 (mk c fun k => tS a M c k (i + 1))) ?_ ?_
    · first | refine XWP.block ?_ | refine XWP.seq (XWP.block ?_)
      refine XWP.loopD 2 (fun r2 s => ∃ (k : Nat) (V3 : View) (H6 : Heap) (cells6 : List Value), StIs (fun Z => [Z 0,Z 1,Z 2, .p 0 0, Z 4, .v (.slice (some ⟨g, 0, none⟩) c c), .v (.int .i64 (i : Int)), .p 1 0, Z 8,Z 9,Z 10,Z 11,Z 12, .v (.slice (some ⟨b, o, none⟩) a.length c1), .v (.int .i64 (a.length : Int)), .v (.int .i64 (i : Int)), Z 16,Z 17,Z 18,Z 19,Z 20,Z 21,Z 22,Z 23, .v (.slice (some ⟨g, 0, none⟩) c c), .v (.int .i64 (c : Int)), .v (.int .i64 (k : Int)), Z 27,Z 28,Z 29,Z 30,Z 31,Z 32,Z 33,Z 34,Z 35,Z 36,Z 37,Z 38,Z 39,Z 40,Z 41,Z 42,Z 43,Z 44,Z 45,Z 46,Z 47,Z 48,Z 49,Z 50]) [[.int .i64 r, .int .i64 (c : Int), .slice A2 M.length c2], [m3, .slice A3 (dg (cf a i).num.natAbs).length c3, d3]] H6 V3 s ∧ V2.le V3 ∧ r2 + k = c ∧ H6 g = some ⟨34, cells6, c * 3⟩ ∧ RowAt ratE V3 cells6 (mk c (rowf a M c i k))) c ⟨0, V2, H5, cells, StIs.of (by exact rfl), View.le_refl _, by omega, hH, by rw [rowf_zero]; exact hrow⟩ ?_
      clear hH hrow
      rintro r2 s ⟨k, V3, H6, cells6, hs, hV3, hr2, hH, hrow⟩
      obtain ⟨z, rfl⟩ := hs.out
      try dsimp only
      clear hs
      by_cases hk : k < c
      rotate_left
      · obtain rfl : k = c := by omega
        have b3 : decide ((k : Int) < (k : Int)) = false := decide_eq_false (by omega)
        first | refine Gx.a (by kernel_rfl) fun K hK => ?_ | refine Gx.b (by kernel_rfl) fun K hK => ?_ | refine Gx.c (by kernel_rfl) fun K hK => ?_
        simp only [XM, XA, XB, gateX, Nat.reduceAdd, Nat.reduceLeDiff, Nat.reduceSub, Nat.reduceMul, ↓reduceIte, Int.reduceToNat, Int.reduceLE, beq_self_eq_true, b3]
        refine hK _ ?_
        first | refine Gx.f rfl ?_ | refine XWP.seq (Gx.f rfl ?_)
        refine XWP.exit ?_
        rw [rowf_all] at hrow
        exact ⟨V3, H6, cells6, StIs.of (by exact rfl), hV3, hH, hrow⟩
      have b3 : decide ((k : Int) < (c : Int)) = true := decide_eq_true (by omega)
      first | refine Gx.a (by kernel_rfl) fun K hK => ?_ | refine Gx.b (by kernel_rfl) fun K hK => ?_ | refine Gx.c (by kernel_rfl) fun K hK => ?_
      simp only [XM, XA, XB, gateX, Nat.reduceAdd, Nat.reduceLeDiff, Nat.reduceSub, Nat.reduceMul, ↓reduceIte, Int.reduceToNat, Int.reduceLE, beq_self_eq_true, b3]
      refine hK _ ?_
      first | refine Gx.t rfl ?_ | refine XWP.seq (Gx.t rfl ?_)
      refine XWP.skip ?_
      refine XWP.seq ?_
      first | refine XWP.block ?_ | refine XWP.seq (XWP.block ?_)
      first | refine Gx.a (by kernel_rfl) fun K hK => ?_ | refine Gx.b (by kernel_rfl) fun K hK => ?_ | refine Gx.c (by kernel_rfl) fun K hK => ?_
      simp only [XM, XA, XB, gateX, Nat.reduceAdd, Nat.reduceLeDiff, Nat.reduceSub, Nat.reduceMul, ↓reduceIte, Int.reduceToNat, Int.reduceLE, beq_self_eq_true]
      refine hK _ ?_
      have hik : i * c + k < M.length := by
        have := Nat.mul_le_mul_right c (show i + 1 ≤ a.length by omega)
        rw [Nat.add_mul, Nat.one_mul] at this
        omega
      first | refine Gx.a (by kernel_rfl) fun K hK => ?_ | refine Gx.b (by kernel_rfl) fun K hK => ?_ | refine Gx.c (by kernel_rfl) fun K hK => ?_
      simp only [XM, XA, XB, gateX, Nat.reduceAdd, Nat.reduceLeDiff, Nat.reduceSub, Nat.reduceMul, ↓reduceIte, Int.reduceToNat, Int.reduceLE, beq_self_eq_true]
      refine call_go (by kernel_rfl) rfl (ccell_c _ _ r c i k M (hM.up (View.le_trans hV2 hV3)) hik lc (by omega) (by omega)) fun v7 V7 hV7 h7 => ?_
      obtain ⟨x7, y7, rfl, o3, o4⟩ := h7.form
      obtain ⟨A7, c7, rfl⟩ := h7.num
      simp only [XM, XA, XB, gateX, Nat.reduceAdd, Nat.reduceLeDiff, Nat.reduceSub, Nat.reduceMul, ↓reduceIte, Int.reduceToNat, Int.reduceLE, beq_self_eq_true]
      refine st_rat rfl rfl rfl o3 o4 ?_
      simp only [XM, XA, XB, gateX, Nat.reduceAdd, Nat.reduceLeDiff, Nat.reduceSub, Nat.reduceMul, ↓reduceIte, Int.reduceToNat, Int.reduceLE, beq_self_eq_true]
      refine hK _ ?_
      have hrow7 := hrow.mono ratE_ok hV7
      by_cases hz2 : cf M (i * c + k) = 0
      · have b4 : decide (cf M (i * c + k) = 0) = true := decide_eq_true hz2
        first | refine Gx.a (by kernel_rfl) fun K hK => ?_ | refine Gx.b (by kernel_rfl) fun K hK => ?_ | refine Gx.c (by kernel_rfl) fun K hK => ?_
        simp only [XM, XA, XB, gateX, Nat.reduceAdd, Nat.reduceLeDiff, Nat.reduceSub, Nat.reduceMul, ↓reduceIte, Int.reduceToNat, Int.reduceLE, beq_self_eq_true, num_pos, b4]
        refine hK _ ?_
        first | refine Gx.f rfl ?_ | refine XWP.seq (Gx.f rfl ?_)
        refine XWP.skip ?_
        first | refine Gx.a (by kernel_rfl) fun K hK => ?_ | refine Gx.b (by kernel_rfl) fun K hK => ?_ | refine Gx.c (by kernel_rfl) fun K hK => ?_
        simp only [XM, XA, XB, gateX, Nat.reduceAdd, Nat.reduceLeDiff, Nat.reduceSub, Nat.reduceMul, ↓reduceIte, Int.reduceToNat, Int.reduceLE, beq_self_eq_true, i64_succ k (by omega)]
        rw [rowf_skip hk (by show tS a M c k i + _ = _; rw [hz2, Rat.mul_zero, Rat.add_zero])] at hrow7
        exact hK _ ⟨r2 - 1, by omega, fun f => ⟨k + 1, V7, H6, cells6, StIs.of (by exact rfl), View.le_trans hV3 hV7, by omega, hH, hrow7⟩⟩
      have b4 : decide (cf M (i * c + k) = 0) = false := decide_eq_false hz2
      first | refine Gx.a (by kernel_rfl) fun K hK => ?_ | refine Gx.b (by kernel_rfl) fun K hK => ?_ | refine Gx.c (by kernel_rfl) fun K hK => ?_
      simp only [XM, XA, XB, gateX, Nat.reduceAdd, Nat.reduceLeDiff, Nat.reduceSub, Nat.reduceMul, ↓reduceIte, Int.reduceToNat, Int.reduceLE, beq_self_eq_true, num_pos, b4]
      refine hK _ ?_
      first | refine Gx.t rfl ?_ | refine XWP.seq (Gx.t rfl ?_)
      obtain ⟨m8, n8, d8, hx8, ⟨s1, s2, s3⟩, hld8⟩ := rowQ_load hH hrow7 k (by rw [mk_len]; exact hk)
      rw [cf_mk_lt hk, show rowf a M c i k k = tS a M c k i from if_neg (by omega)] at hx8
      have qa : QF (cf a i) := (hA.at i).qf (by omega)
      have qm : QF (cf M (i * c + k)) := (hB.at _).qf (by omega)
      have qt : QF (tS a M c k i) := (tS_QB hA hB c k i).qf (by omega)
      have qp : QF (cf a i * cf M (i * c + k)) := ((hA.at i).mul (hB.at _)).qf (by omega)
      (first | refine XWP.drw [0, 1, 2, 3, 4, 5, 6, 7, 8, 9, 10, 11] (by kernel_rfl) (by kernel_rfl) (by kernel_rfl) fun K hK => ?_ | refine XWP.seq (XWP.drw [0, 1, 2, 3, 4, 5, 6, 7, 8, 9, 10, 11] (by kernel_rfl) (by kernel_rfl) (by kernel_rfl) fun K hK => ?_) | refine XWP.drw1 [0, 1, 2, 3, 4, 5, 6, 7, 8, 9, 10, 11] (by kernel_rfl) (by kernel_rfl) (by kernel_rfl) fun K hK => ?_) <;> dsimp only [pickOps, List.getElem?_cons_zero, List.getElem?_cons_succ]
      simp only [XM, XA, XB, gateX, Nat.reduceAdd, Nat.reduceLeDiff, Nat.reduceSub, Nat.reduceMul, ↓reduceIte, Int.reduceToNat, Int.reduceLE, beq_self_eq_true]
      refine ⟨by omega, by omega, ld_mem hld8 ?_⟩
      simp only [XM, XA, XB, gateX, Nat.reduceAdd, Nat.reduceLeDiff, Nat.reduceSub, Nat.reduceMul, ↓reduceIte, Int.reduceToNat, Int.reduceLE, beq_self_eq_true]
      refine call_go (by kernel_rfl) rfl (qmul_c _ _ _ _ _ (hx3.mono (View.le_trans hV3 hV7)) h7 qa qm) fun v9 V9 hV9 h9 => ?_
      simp only [XM, XA, XB, gateX, Nat.reduceAdd, Nat.reduceLeDiff, Nat.reduceSub, Nat.reduceMul, ↓reduceIte, Int.reduceToNat, Int.reduceLE, beq_self_eq_true]
      refine call_go (by kernel_rfl) rfl (qadd_c _ _ _ _ _ (hx8.mono hV9) h9 qt qp) fun v10 V10 hV10 h10 => ?_
      obtain ⟨x10, y10, rfl, o5, o6⟩ := h10.form
      have hrow10 := (hrow7.mono ratE_ok hV9).mono ratE_ok hV10
      have hl10 := hrow10.1
      rw [mk_len] at hl10
      simp only [XM, XA, XB, gateX, Nat.reduceAdd, Nat.reduceLeDiff, Nat.reduceSub, Nat.reduceMul, ↓reduceIte, Int.reduceToNat, Int.reduceLE, beq_self_eq_true]
      refine ⟨by omega, by omega, ?_⟩
      refine st_rowA shapeT_34 (all3 rfl o5 o6) rfl hH (by dsimp only; omega) ?_
      simp only [XM, XA, XB, gateX, Nat.reduceAdd, Nat.reduceLeDiff, Nat.reduceSub, Nat.reduceMul, ↓reduceIte, Int.reduceToNat, Int.reduceLE, beq_self_eq_true]
      refine hK _ ?_
      have hrow11 := hrow10.set k (by rw [mk_len]; exact hk) (show isOne (.bool (ng (tS a M c k i + cf a i * cf M (i * c + k)))) = true from rfl) o5 o6 h10
      rw [show tS a M c k i + cf a i * cf M (i * c + k) = tS a M c k (i + 1) from rfl, rowf_set hk] at hrow11
      first | refine Gx.a (by kernel_rfl) fun K hK => ?_ | refine Gx.b (by kernel_rfl) fun K hK => ?_ | refine Gx.c (by kernel_rfl) fun K hK => ?_
      simp only [XM, XA, XB, gateX, Nat.reduceAdd, Nat.reduceLeDiff, Nat.reduceSub, Nat.reduceMul, ↓reduceIte, Int.reduceToNat, Int.reduceLE, beq_self_eq_true, i64_succ k (by omega)]
      exact hK _ ⟨r2 - 1, by omega, fun f => ⟨k + 1, V10, _, _, StIs.of (by exact rfl), View.le_trans hV3 (View.le_trans hV7 (View.le_trans hV9 hV10)), by omega, upd_at _ _ _, hrow11⟩⟩
    rintro s ⟨V3, H6, cells6, hs, hV3, hH6, hrow6⟩
    obtain ⟨z, rfl⟩ := hs.out
    try dsimp only
    clear hs
    first | refine Gx.a (by kernel_rfl) fun K hK => ?_ | refine Gx.b (by kernel_rfl) fun K hK => ?_ | refine Gx.c (by kernel_rfl) fun K hK => ?_
    simp only [XM, XA, XB, gateX, Nat.reduceAdd, Nat.reduceLeDiff, Nat.reduceSub, Nat.reduceMul, ↓reduceIte, Int.reduceToNat, Int.reduceLE, beq_self_eq_true, i64_succ i (by omega)]
    exact hK _ ⟨n - 1, by omega, fun f => ⟨i + 1, V3, H6, cells6, StIs.of (by exact rfl), View.le_trans hV2 hV3, by omega, hH6, hrow6⟩⟩
  rintro s ⟨V2, H5, cells, hs, hH, hrow⟩
  obtain ⟨z, rfl⟩ := hs.out
  try dsimp only
  first | refine Gx.a (by kernel_rfl) fun K hK => ?_ | refine Gx.b (by kernel_rfl) fun K hK => ?_ | refine Gx.c (by kernel_rfl) fun K hK => ?_
  simp only [XM, XA, XB, gateX, Nat.reduceAdd, Nat.reduceLeDiff, Nat.reduceSub, Nat.reduceMul, ↓reduceIte, Int.reduceToNat, Int.reduceLE, beq_self_eq_true]
  refine hK _ (XWP.ret ?_)
  try simp only [thenX_ret, inBlockX_ret]
  refine ret_pub g _ hH fun o ho hle' => ret_go _ rfl ?_
  exact hrow.pub ratE_ok ho hle' (thr_len a M c) (Nat.le_refl _) (by omega)
end Go.Proofs.Ythoboehbadmlmaa
end
section
namespace Go.Proofs.Ythoboehbadmlmaa
open Go Go.RowKit
set_option linter.unusedSimpArgs false
set_option linter.unusedVariables false
attribute [local irreducible] XWP Spec SpecO XPub XCall seqX clX apX stX ldX iaX slX
theorem chB_inv {r1 c1 r2 c2 : Int} {L1 L2 : List Raw} (h : chB r1 c1 L1 r2 c2 L2 = true) :
    ∃ n m : Nat, r1 = n ∧ c1 = n ∧ r2 = n ∧ c2 = m ∧ n ≤ 60 ∧ m ≤ 60 ∧ L1.length = n * n ∧ L2.length = n * m ∧ okR L1 = true ∧ okR L2 = true ∧ rowsB n m (qs L1) (qs L2) n = true := by
  have h0 := h
  unfold chB at h
  rw [Bool.and_eq_true, Bool.and_eq_true, Bool.and_eq_true, Bool.and_eq_true, decide_eq_true_eq, decide_eq_true_eq] at h
  obtain ⟨⟨⟨⟨e1, e2⟩, e3⟩, e4⟩, _⟩ := h
  obtain ⟨n, m, g1, g2, g3, g4, g5, g6, g7, g8, g9, g10, g11⟩ := chB_shape e1 e2 e3 e4
  exact ⟨n, m, g1, g2, g3, g4, g5, g6, g7, g8, g9, g10, by rw [← g11]; exact h0⟩
theorem mk_self (a : List Rat) : mk a.length (cf a) = a := by
  refine List.ext_getElem? fun i => ?_
  unfold mk
  by_cases hi : i < a.length
  · rw [List.getElem?_map, List.getElem?_range hi, List.getElem?_eq_getElem hi, Option.map_some, cf_get hi]
  · rw [List.getElem?_eq_none (by simp; omega), List.getElem?_eq_none (by omega)]
def fillf (a : List Rat) (i : Nat) : Nat → Rat := fun j => if j < i then cf a j else 0
theorem fillf_set {a : List Rat} {c i : Nat} (hi : i < c) : (mk c (fillf a i)).set i (cf a i) = mk c (fillf a (i + 1)) := by
  rw [mk_set1 hi]
  refine mk_congr fun j _ => ?_
  unfold fillf
  by_cases e : j = i
  · rw [if_pos e, if_pos (by omega), e]
  · rw [if_neg e]
    by_cases h : j < i
    · rw [if_pos h, if_pos (by omega)]
    · rw [if_neg h, if_neg (by omega)]
theorem fillf_all {a : List Rat} {c : Nat} (h : a.length = c) : mk c (fillf a c) = a := by
  subst h
  have : mk a.length (fillf a a.length) = mk a.length (cf a) := mk_congr fun j hj => by unfold fillf; rw [if_pos hj]
  rw [this, mk_self]
theorem fillf_zero (a : List Rat) (c : Nat) : mk c (fillf a 0) = mk c fun _ => 0 := mk_congr fun j _ => by unfold fillf; rw [if_neg (by omega)]
theorem cafter_c (V : View) (s1 s2 v : Value) (n m : Nat) (L1 L2 S : List Raw) (h1 : Raws V s1 L1) (h2 : Raws V s2 L2) (hv : Raws V v S) (f1 : fitR L1) (f2 : fitR L2) (f3 : fitR S) (hC : chB n n L1 n m L2 = true) (hW : wtB n S = true) (A B C : Nat) (hA : CB A (qs L1)) (hB : CB B (qs L2)) (hS : CB C (qs S)) (hfit : 2 * (A + B) + C + 300 ≤ 17592186044416) :
    Spec Try.prog 87 [.agg #[.int .i64 (n : Int), .int .i64 (n : Int), s1, .int .i64 (n : Int), .int .i64 (m : Int), s2], v, .int .i64 1] V fun v' V' => ∃ w u, v' = .tuple #[w, u, .int .i64 0] ∧ Rats V' w (thr (qs S) (qs L1) n) ∧ Rats V' u (thr (qs S) (qs L2) m) := by
  obtain ⟨n', m', e1, _, _, e2, hn, hm, k1, k2, o1, o2, _⟩ := chB_inv hC
  obtain rfl : n = n' := by omega
  obtain rfl : m = m' := by omega
  clear e1 e2
  have hn2 : n * n ≤ 3600 := Nat.le_trans (Nat.mul_le_mul hn hn) (by decide)
  have hnm : n * m ≤ 3600 := Nat.le_trans (Nat.mul_le_mul hn hm) (by decide)
  have hW' := hW
  unfold wtB at hW'
  rw [Bool.and_eq_true, decide_eq_true_eq] at hW'
  have lS : S.length = n := by omega
  obtain ⟨o3, _⟩ := wtsR_ok hW'.2
  obtain ⟨A1, q1, rfl, _, _⟩ := h1.form
  obtain ⟨A2, q2, rfl, _, _⟩ := h2.form
  obtain ⟨A3, q3, rfl, _, _⟩ := hv.form
  refine (Spec.enter Try.func87 rfl fun Γ => ?_)
  simp only [Try.ntmps87, List.map_cons, List.map_nil, List.length_cons, List.length_nil, Nat.reduceAdd, Nat.reduceSub, List.replicate_succ, List.replicate_zero, List.cons_append, List.nil_append]
  first | refine Gx.a (by kernel_rfl) fun K hK => ?_ | refine Gx.b (by kernel_rfl) fun K hK => ?_ | refine Gx.c (by kernel_rfl) fun K hK => ?_
  simp only [XM, XA, XB, gateX, Nat.reduceAdd, Nat.reduceLeDiff, Nat.reduceSub, Nat.reduceMul, ↓reduceIte, Int.reduceToNat, Int.reduceLE, beq_self_eq_true]
  refine hK _ ?_
  refine XWP.cut (fun s => ∃ (V2 : View), StIs (fun Z => [Z 0, .v (.slice A3 S.length q3), .v (.int .i64 1), .p 0 0, Z 4,Z 5,Z 6,Z 7,Z 8,Z 9,Z 10,Z 11,Z 12,Z 13,Z 14,Z 15,Z 16,Z 17,Z 18,Z 19,Z 20,Z 21,Z 22,Z 23,Z 24,Z 25,Z 26,Z 27,Z 28,Z 29,Z 30,Z 31,Z 32,Z 33,Z 34,Z 35,Z 36,Z 37,Z 38,Z 39,Z 40,Z 41,Z 42,Z 43,Z 44,Z 45,Z 46,Z 47,Z 48,Z 49,Z 50,Z 51,Z 52,Z 53,Z 54,Z 55,Z 56,Z 57,Z 58,Z 59,Z 60,Z 61,Z 62,Z 63,Z 64,Z 65,Z 66,Z 67,Z 68,Z 69,Z 70,Z 71,Z 72,Z 73,Z 74,Z 75,Z 76,Z 77,Z 78,Z 79,Z 80,Z 81,Z 82,Z 83,Z 84,Z 85,Z 86]) [[.int .i64 (n : Int), .int .i64 (n : Int), .slice A1 L1.length q1, .int .i64 (n : Int), .int .i64 (m : Int), .slice A2 L2.length q2]] (fun _ => none) V2 s ∧ V.le V2) ?_ ?_
  · first | refine XWP.block ?_ | refine XWP.seq (XWP.block ?_)
    refine XWP.seq ?_
    first | refine Gx.a (by kernel_rfl) fun K hK => ?_ | refine Gx.b (by kernel_rfl) fun K hK => ?_ | refine Gx.c (by kernel_rfl) fun K hK => ?_
    simp only [XM, XA, XB, gateX, Nat.reduceAdd, Nat.reduceLeDiff, Nat.reduceSub, Nat.reduceMul, ↓reduceIte, Int.reduceToNat, Int.reduceLE, beq_self_eq_true]
    refine call_go (by kernel_rfl) rfl (cchright_c _ _ _ _ _ _ _ L1 L2 h1 h2 f1 f2 (by omega) (by omega) A B (fun _ => hA) (fun _ => hB) (by omega)) fun v1 V1 hV1 g1 => ?_
    rw [hC] at g1
    subst g1
    simp only [XM, XA, XB, gateX, Nat.reduceAdd, Nat.reduceLeDiff, Nat.reduceSub, Nat.reduceMul, ↓reduceIte, Int.reduceToNat, Int.reduceLE, beq_self_eq_true]
    refine call_go (by kernel_rfl) rfl (cweights_c _ _ _ _ _ _ _ _ S rfl rfl (hv.up hV1) f3 (by omega)) fun v2 V2 hV2 g2 => ?_
    rw [hW] at g2
    subst g2
    simp only [XM, XA, XB, gateX, Nat.reduceAdd, Nat.reduceLeDiff, Nat.reduceSub, Nat.reduceMul, ↓reduceIte, Int.reduceToNat, Int.reduceLE, beq_self_eq_true, decide_false]
    refine hK _ ?_
    first | refine Gx.f rfl ?_ | refine XWP.seq (Gx.f rfl ?_)
    first | refine Gx.a (by kernel_rfl) fun K hK => ?_ | refine Gx.b (by kernel_rfl) fun K hK => ?_ | refine Gx.c (by kernel_rfl) fun K hK => ?_
    simp only [XM, XA, XB, gateX, Nat.reduceAdd, Nat.reduceLeDiff, Nat.reduceSub, Nat.reduceMul, ↓reduceIte, Int.reduceToNat, Int.reduceLE, beq_self_eq_true, decide_false]
    refine hK _ ?_
    first | refine Gx.f rfl ?_ | refine XWP.seq (Gx.f rfl ?_)
    refine XWP.skip ?_
    exact ⟨V2, StIs.of (by exact rfl), View.le_trans hV1 hV2⟩
  rintro s ⟨V2, hs, hV2⟩
  obtain ⟨z, rfl⟩ := hs.out
  try dsimp only
  clear hs
  have hp := (Raws.rats h1 o1).up hV2
  have hq := (Raws.rats h2 o2).up hV2
  have ha := (Raws.rats hv o3).up hV2
  have ep := qs_len L1
  have eq := qs_len L2
  have ea := qs_len S
  generalize qs L1 = p at *
  generalize qs L2 = q at *
  generalize qs S = a at *
  clear h1 h2 hv f1 f2 f3 o1 o2 o3 hC hW hW'
  have w01 : IntKind.i64.wrap (0 + 1) = 1 := by rw [wrap_id (by omega) (by omega)]; rfl
  have b01 : decide ((0 : Int) < 1) = true := by decide
  have b11 : decide ((1 : Int) < 1) = false := by decide
  have mW : (thr a q m).length = m := thr_len a q m
  have cW : CB (C + B + n) (thr a q m) := by
    have := thr_CB hS hB m
    rw [ea, lS] at this; exact this
  have lp : p.length = a.length * n := by rw [ep, ea, lS]; exact k1
  have lq : q.length = a.length * m := by rw [eq, ea, lS]; exact k2
  (first | refine XWP.drw [0, 1, 2, 4, 5, 6, 3, 7, 8, 9] (by kernel_rfl) (by kernel_rfl) (by kernel_rfl) fun K hK => ?_ | refine XWP.seq (XWP.drw [0, 1, 2, 4, 5, 6, 3, 7, 8, 9] (by kernel_rfl) (by kernel_rfl) (by kernel_rfl) fun K hK => ?_) | refine XWP.drw1 [0, 1, 2, 4, 5, 6, 3, 7, 8, 9] (by kernel_rfl) (by kernel_rfl) (by kernel_rfl) fun K hK => ?_) <;> dsimp only [pickOps, List.getElem?_cons_zero, List.getElem?_cons_succ]
  simp only [XM, XA, XB, gateX, Nat.reduceAdd, Nat.reduceLeDiff, Nat.reduceSub, Nat.reduceMul, ↓reduceIte, Int.reduceToNat, Int.reduceLE, beq_self_eq_true]
  refine call_own (by kernel_rfl) rfl (czeros_o _ n (by omega)) fun v3 V3 o3 hV3 hs3 h3 => ?_
  obtain ⟨g1, cells1, rfl, rfl, hrow1⟩ := h3
  simp only [XM, XA, XB, gateX, Nat.reduceAdd, Nat.reduceLeDiff, Nat.reduceSub, Nat.reduceMul, ↓reduceIte, Int.reduceToNat, Int.reduceLE, beq_self_eq_true]
  refine call_own (by kernel_rfl) rfl (czeros_o _ m (by omega)) fun v4 V4 o4 hV4 hs4 h4 => ?_
  obtain ⟨g2, cells2, rfl, rfl, hrow2⟩ := h4
  have hn4 : addRow (fun _ => none) (some (g1, (⟨34, cells1, n * 3⟩ : Row))) g2 = none := (hs4 g2 _ rfl).1
  have hne : g2 ≠ g1 := fun e => by
    rw [e] at hn4
    rw [show addRow (fun _ => none) (some (g1, (⟨34, cells1, n * 3⟩ : Row))) g1 = some ⟨34, cells1, n * 3⟩ from (show upd (fun _ => none) g1 (some _) g1 = some _ from upd_at _ _ _)] at hn4
    cases hn4
  have hg1 : addRow (addRow (fun _ => none) (some (g1, (⟨34, cells1, n * 3⟩ : Row)))) (some (g2, (⟨34, cells2, m * 3⟩ : Row))) g1 = some ⟨34, cells1, n * 3⟩ := show upd (upd (fun _ => none) g1 (some _)) g2 (some _) g1 = some _ from (upd_off hne.symm).trans (upd_at _ _ _)
  have hg2 : addRow (addRow (fun _ => none) (some (g1, (⟨34, cells1, n * 3⟩ : Row)))) (some (g2, (⟨34, cells2, m * 3⟩ : Row))) g2 = some ⟨34, cells2, m * 3⟩ := show upd (upd (fun _ => none) g1 (some _)) g2 (some _) g2 = some _ from upd_at _ _ _
  simp only [XM, XA, XB, gateX, Nat.reduceAdd, Nat.reduceLeDiff, Nat.reduceSub, Nat.reduceMul, ↓reduceIte, Int.reduceToNat, Int.reduceLE, beq_self_eq_true]
  refine hK _ ?_
  clear hK hn4 hs3 hs4
  generalize addRow (addRow (fun _ => none) (some (g1, (⟨34, cells1, n * 3⟩ : Row)))) (some (g2, (⟨34, cells2, m * 3⟩ : Row))) = H4 at *
  have hrow1 := hrow1.mono ratE_ok hV4
  have hV4 := View.le_trans hV3 hV4
  refine XWP.cutD 1 (fun s => ∃ (V5 : View) (H5 : Heap) (cells1 : List Value), StIs (fun Z => [Z 0, .v (.slice A3 S.length q3), .v (.int .i64 1), .p 0 0, Z 4,Z 5,Z 6,Z 7,Z 8, .v (.slice (some ⟨g1, 0, none⟩) n n), .v (.slice (some ⟨g2, 0, none⟩) m m), Z 11,Z 12,Z 13,Z 14,Z 15,Z 16,Z 17,Z 18,Z 19,Z 20,Z 21,Z 22,Z 23,Z 24,Z 25,Z 26,Z 27,Z 28,Z 29,Z 30,Z 31,Z 32,Z 33,Z 34,Z 35,Z 36,Z 37,Z 38,Z 39,Z 40,Z 41,Z 42,Z 43,Z 44,Z 45,Z 46,Z 47,Z 48,Z 49,Z 50,Z 51,Z 52,Z 53,Z 54,Z 55,Z 56,Z 57,Z 58,Z 59,Z 60,Z 61,Z 62,Z 63,Z 64,Z 65,Z 66,Z 67,Z 68,Z 69,Z 70,Z 71,Z 72,Z 73,Z 74,Z 75,Z 76,Z 77,Z 78,Z 79,Z 80,Z 81,Z 82,Z 83,Z 84,Z 85,Z 86]) [[.int .i64 (n : Int), .int .i64 (n : Int), .slice A1 L1.length q1, .int .i64 (n : Int), .int .i64 (m : Int), .slice A2 L2.length q2]] H5 V5 s ∧ V4.le V5 ∧ H5 g1 = some ⟨34, cells1, n * 3⟩ ∧ RowAt ratE V5 cells1 a ∧ H5 g2 = some ⟨34, cells2, m * 3⟩) ?_ ?_
  · first | refine Gx.a (by kernel_rfl) fun K hK => ?_ | refine Gx.b (by kernel_rfl) fun K hK => ?_ | refine Gx.c (by kernel_rfl) fun K hK => ?_
    simp only [XM, XA, XB, gateX, Nat.reduceAdd, Nat.reduceLeDiff, Nat.reduceSub, Nat.reduceMul, ↓reduceIte, Int.reduceToNat, Int.reduceLE, beq_self_eq_true]
    refine hK _ ?_
    clear hK
    first | refine XWP.block ?_ | refine XWP.seq (XWP.block ?_)
    refine XWP.loopD 1 (fun r s => ∃ (i : Nat) (V5 : View) (H5 : Heap) (cells1 : List Value), StIs (fun Z => [Z 0, .v (.slice A3 S.length q3), .v (.int .i64 1), .p 0 0, Z 4,Z 5,Z 6,Z 7,Z 8, .v (.slice (some ⟨g1, 0, none⟩) n n), .v (.slice (some ⟨g2, 0, none⟩) m m), Z 11,Z 12,Z 13,Z 14,Z 15,Z 16,Z 17,Z 18,Z 19,Z 20,Z 21,Z 22,Z 23,Z 24,Z 25,Z 26,Z 27,Z 28,Z 29,Z 30,Z 31,Z 32,Z 33,Z 34,Z 35,Z 36,Z 37,Z 38,Z 39, .v (.slice A3 S.length q3), .v (.int .i64 (S.length : Int)), .v (.int .i64 (i : Int)), Z 43,Z 44,Z 45,Z 46,Z 47,Z 48,Z 49,Z 50,Z 51,Z 52,Z 53,Z 54,Z 55,Z 56,Z 57,Z 58,Z 59,Z 60,Z 61,Z 62,Z 63,Z 64,Z 65,Z 66,Z 67,Z 68,Z 69,Z 70,Z 71,Z 72,Z 73,Z 74,Z 75,Z 76,Z 77,Z 78,Z 79,Z 80,Z 81,Z 82,Z 83,Z 84,Z 85,Z 86]) [[.int .i64 (n : Int), .int .i64 (n : Int), .slice A1 L1.length q1, .int .i64 (n : Int), .int .i64 (m : Int), .slice A2 L2.length q2]] H5 V5 s ∧ V4.le V5 ∧ r + i = n ∧ H5 g1 = some ⟨34, cells1, n * 3⟩ ∧ RowAt ratE V5 cells1 (mk n (fillf a i)) ∧ H5 g2 = some ⟨34, cells2, m * 3⟩) n ⟨0, V4, H4, cells1, StIs.of (by exact rfl), View.le_refl _, by omega, hg1, by rw [fillf_zero]; exact hrow1, hg2⟩ ?_
    clear hrow1 hg1 hg2
    rintro r s ⟨i, V5, H5, cells1, hs, hV5, hr, hg1, hrow1, hg2⟩
    obtain ⟨z, rfl⟩ := hs.out
    try dsimp only
    clear hs
    by_cases hi : i < n
    rotate_left
    · obtain rfl : i = n := by omega
      have b1 : decide ((i : Int) < (S.length : Int)) = false := decide_eq_false (by omega)
      first | refine Gx.a (by kernel_rfl) fun K hK => ?_ | refine Gx.b (by kernel_rfl) fun K hK => ?_ | refine Gx.c (by kernel_rfl) fun K hK => ?_
      simp only [XM, XA, XB, gateX, Nat.reduceAdd, Nat.reduceLeDiff, Nat.reduceSub, Nat.reduceMul, ↓reduceIte, Int.reduceToNat, Int.reduceLE, beq_self_eq_true, b1]
      refine hK _ ?_
      first | refine Gx.f rfl ?_ | refine XWP.seq (Gx.f rfl ?_)
      refine XWP.exit ?_
      rw [fillf_all (by omega)] at hrow1
      exact fun f => ⟨V5, H5, cells1, StIs.of (by exact rfl), hV5, hg1, hrow1, hg2⟩
    have b1 : decide ((i : Int) < (S.length : Int)) = true := decide_eq_true (by omega)
    first | refine Gx.a (by kernel_rfl) fun K hK => ?_ | refine Gx.b (by kernel_rfl) fun K hK => ?_ | refine Gx.c (by kernel_rfl) fun K hK => ?_
    simp only [XM, XA, XB, gateX, Nat.reduceAdd, Nat.reduceLeDiff, Nat.reduceSub, Nat.reduceMul, ↓reduceIte, Int.reduceToNat, Int.reduceLE, beq_self_eq_true, b1]
    refine hK _ ?_
    first | refine Gx.t rfl ?_ | refine XWP.seq (Gx.t rfl ?_)
    refine XWP.skip ?_
    refine XWP.seq ?_
    first | refine XWP.block ?_ | refine XWP.seq (XWP.block ?_)
    have ha5 := ha.up (View.le_trans hV4 hV5)
    obtain ⟨b, o, rfl⟩ := SlAt.addr ha5 (by omega)
    obtain ⟨m3, n3, d3, hx3, ⟨p1, p2, p3⟩, hld3⟩ := Rats.get ha5 i (by omega)
    first | refine Gx.a (by kernel_rfl) fun K hK => ?_ | refine Gx.b (by kernel_rfl) fun K hK => ?_ | refine Gx.c (by kernel_rfl) fun K hK => ?_
    simp only [XM, XA, XB, gateX, Nat.reduceAdd, Nat.reduceLeDiff, Nat.reduceSub, Nat.reduceMul, ↓reduceIte, Int.reduceToNat, Int.reduceLE, beq_self_eq_true]
    refine ⟨by omega, by omega, ld_mem (hld3 _) ?_⟩
    simp only [XM, XA, XB, gateX, Nat.reduceAdd, Nat.reduceLeDiff, Nat.reduceSub, Nat.reduceMul, ↓reduceIte, Int.reduceToNat, Int.reduceLE, beq_self_eq_true]
    refine st_rat rfl rfl p1 p2 p3 ?_
    simp only [XM, XA, XB, gateX, Nat.reduceAdd, Nat.reduceLeDiff, Nat.reduceSub, Nat.reduceMul, ↓reduceIte, Int.reduceToNat, Int.reduceLE, beq_self_eq_true]
    refine hK _ ?_
    obtain ⟨m8, n8, d8, hx8, ⟨t1, t2, t3⟩, hld8⟩ := rowQ_load hg1 hrow1 i (by rw [mk_len]; exact hi)
    rw [cf_mk_lt hi, show fillf a i i = 0 from if_neg (by omega)] at hx8
    (first | refine XWP.drw [0, 1, 2, 3, 4, 5, 6, 7, 8, 9] (by kernel_rfl) (by kernel_rfl) (by kernel_rfl) fun K hK => ?_ | refine XWP.seq (XWP.drw [0, 1, 2, 3, 4, 5, 6, 7, 8, 9] (by kernel_rfl) (by kernel_rfl) (by kernel_rfl) fun K hK => ?_) | refine XWP.drw1 [0, 1, 2, 3, 4, 5, 6, 7, 8, 9] (by kernel_rfl) (by kernel_rfl) (by kernel_rfl) fun K hK => ?_) <;> dsimp only [pickOps, List.getElem?_cons_zero, List.getElem?_cons_succ]
    simp only [XM, XA, XB, gateX, Nat.reduceAdd, Nat.reduceLeDiff, Nat.reduceSub, Nat.reduceMul, ↓reduceIte, Int.reduceToNat, Int.reduceLE, beq_self_eq_true]
    refine ⟨by omega, by omega, ld_mem hld8 ?_⟩
    simp only [XM, XA, XB, gateX, Nat.reduceAdd, Nat.reduceLeDiff, Nat.reduceSub, Nat.reduceMul, ↓reduceIte, Int.reduceToNat, Int.reduceLE, beq_self_eq_true]
    refine call_go (by kernel_rfl) rfl (qadd_c _ _ _ _ _ hx8 hx3 QF_zero ((hS.at _).qf (by omega))) fun v6 V6 hV6 h6 => ?_
    rw [Rat.zero_add] at h6
    obtain ⟨x6, y6, rfl, o5, o6⟩ := h6.form
    have hrow6 := hrow1.mono ratE_ok hV6
    have hl6 := hrow6.1
    rw [mk_len] at hl6
    simp only [XM, XA, XB, gateX, Nat.reduceAdd, Nat.reduceLeDiff, Nat.reduceSub, Nat.reduceMul, ↓reduceIte, Int.reduceToNat, Int.reduceLE, beq_self_eq_true]
    refine ⟨by omega, by omega, ?_⟩
    refine st_rowA shapeT_34 (all3 rfl o5 o6) rfl hg1 (by dsimp only; omega) ?_
    simp only [XM, XA, XB, gateX, Nat.reduceAdd, Nat.reduceLeDiff, Nat.reduceSub, Nat.reduceMul, ↓reduceIte, Int.reduceToNat, Int.reduceLE, beq_self_eq_true]
    refine hK _ ?_
    have hrow7 := hrow6.set i (by rw [mk_len]; exact hi) (show isOne (.bool (ng (cf a i))) = true from rfl) o5 o6 h6
    rw [fillf_set hi] at hrow7
    first | refine Gx.a (by kernel_rfl) fun K hK => ?_ | refine Gx.b (by kernel_rfl) fun K hK => ?_ | refine Gx.c (by kernel_rfl) fun K hK => ?_
    simp only [XM, XA, XB, gateX, Nat.reduceAdd, Nat.reduceLeDiff, Nat.reduceSub, Nat.reduceMul, ↓reduceIte, Int.reduceToNat, Int.reduceLE, beq_self_eq_true, i64_succ i (by omega)]
    exact hK _ ⟨r - 1, by omega, fun f => ⟨i + 1, V6, _, _, StIs.of (by exact rfl), View.le_trans hV5 hV6, by omega, upd_at _ _ _, hrow7, (upd_off hne).trans hg2⟩⟩
  clear hrow1 hg1 hg2
  rintro s ⟨V5, H5, cells1, hs, hV5, hg1, hrow1, hg2⟩
  obtain ⟨z, rfl⟩ := hs.out
  try dsimp only
  clear hs
  have hrow2 := hrow2.mono ratE_ok hV5
  have hp := hp.up (View.le_trans hV4 hV5)
  have hq := hq.up (View.le_trans hV4 hV5)
  refine XWP.cutD 1 (fun s => ∃ (V6 : View) (H6 : Heap) (w : Value) (cs : List Value), StIs (fun Z => [Z 0, .v (.slice A3 S.length q3), .v (.int .i64 1), .p 0 0, Z 4,Z 5,Z 6,Z 7,Z 8, .v w, .v (.slice (some ⟨g2, 0, none⟩) m m), Z 11,Z 12,Z 13,Z 14,Z 15,Z 16,Z 17,Z 18,Z 19,Z 20,Z 21,Z 22,Z 23,Z 24,Z 25,Z 26,Z 27,Z 28,Z 29,Z 30,Z 31,Z 32,Z 33,Z 34,Z 35,Z 36,Z 37,Z 38,Z 39,Z 40,Z 41,Z 42,Z 43,Z 44,Z 45,Z 46,Z 47,Z 48,Z 49,Z 50,Z 51,Z 52,Z 53,Z 54,Z 55,Z 56,Z 57,Z 58,Z 59,Z 60,Z 61,Z 62,Z 63,Z 64,Z 65,Z 66,Z 67,Z 68,Z 69,Z 70,Z 71,Z 72,Z 73,Z 74,Z 75,Z 76,Z 77,Z 78,Z 79,Z 80,Z 81,Z 82,Z 83,Z 84,Z 85,Z 86]) [[.int .i64 (n : Int), .int .i64 (n : Int), .slice A1 L1.length q1, .int .i64 (n : Int), .int .i64 (m : Int), .slice A2 L2.length q2]] H6 V6 s ∧ Rats V6 w (thr a p n) ∧ H6 g2 = some ⟨34, cs, m * 3⟩ ∧ RowAt ratE V6 cs (thr a q m)) ?_ ?_
  · first | refine Gx.a (by kernel_rfl) fun K hK => ?_ | refine Gx.b (by kernel_rfl) fun K hK => ?_ | refine Gx.c (by kernel_rfl) fun K hK => ?_
    simp only [XM, XA, XB, gateX, Nat.reduceAdd, Nat.reduceLeDiff, Nat.reduceSub, Nat.reduceMul, ↓reduceIte, Int.reduceToNat, Int.reduceLE, beq_self_eq_true]
    refine hK _ ?_
    clear hK
    first | refine XWP.block ?_ | refine XWP.seq (XWP.block ?_)
    refine XWP.loopD 1 (fun r s => (r = 1 ∧ StIs (fun Z => [Z 0, .v (.slice A3 S.length q3), .v (.int .i64 1), .p 0 0, Z 4,Z 5,Z 6,Z 7,Z 8, .v (.slice (some ⟨g1, 0, none⟩) n n), .v (.slice (some ⟨g2, 0, none⟩) m m), Z 11,Z 12,Z 13,Z 14,Z 15,Z 16,Z 17,Z 18,Z 19,Z 20,Z 21,Z 22,Z 23,Z 24,Z 25,Z 26,Z 27,Z 28,Z 29,Z 30,Z 31,Z 32,Z 33,Z 34,Z 35,Z 36,Z 37,Z 38,Z 39,Z 40,Z 41,Z 42,Z 43,Z 44,Z 45,Z 46,Z 47,Z 48,Z 49,Z 50,Z 51,Z 52,Z 53,Z 54,Z 55,Z 56, .v (.int .i64 1), .v (.int .i64 0), Z 59,Z 60,Z 61,Z 62,Z 63,Z 64,Z 65,Z 66,Z 67,Z 68,Z 69,Z 70,Z 71,Z 72,Z 73,Z 74,Z 75,Z 76,Z 77,Z 78,Z 79,Z 80,Z 81,Z 82,Z 83,Z 84,Z 85,Z 86]) [[.int .i64 (n : Int), .int .i64 (n : Int), .slice A1 L1.length q1, .int .i64 (n : Int), .int .i64 (m : Int), .slice A2 L2.length q2]] H5 V5 s) ∨ (r = 0 ∧ ∃ (V6 : View) (H6 : Heap) (w : Value) (cs : List Value), StIs (fun Z => [Z 0, .v (.slice A3 S.length q3), .v (.int .i64 1), .p 0 0, Z 4,Z 5,Z 6,Z 7,Z 8, .v w, .v (.slice (some ⟨g2, 0, none⟩) m m), Z 11,Z 12,Z 13,Z 14,Z 15,Z 16,Z 17,Z 18,Z 19,Z 20,Z 21,Z 22,Z 23,Z 24,Z 25,Z 26,Z 27,Z 28,Z 29,Z 30,Z 31,Z 32,Z 33,Z 34,Z 35,Z 36,Z 37,Z 38,Z 39,Z 40,Z 41,Z 42,Z 43,Z 44,Z 45,Z 46,Z 47,Z 48,Z 49,Z 50,Z 51,Z 52,Z 53,Z 54,Z 55,Z 56, .v (.int .i64 1), .v (.int .i64 1), Z 59,Z 60,Z 61,Z 62,Z 63,Z 64,Z 65,Z 66,Z 67,Z 68,Z 69,Z 70,Z 71,Z 72,Z 73,Z 74,Z 75,Z 76,Z 77,Z 78,Z 79,Z 80,Z 81,Z 82,Z 83,Z 84,Z 85,Z 86]) [[.int .i64 (n : Int), .int .i64 (n : Int), .slice A1 L1.length q1, .int .i64 (n : Int), .int .i64 (m : Int), .slice A2 L2.length q2]] H6 V6 s ∧ Rats V6 w (thr a p n) ∧ H6 g2 = some ⟨34, cs, m * 3⟩ ∧ RowAt ratE V6 cs (thr a q m))) 1 (.inl ⟨rfl, StIs.of (by exact rfl)⟩) ?_
    rintro r s (⟨rfl, hs⟩ | ⟨rfl, V6, H6, w, cs, hs, hw, hg, hrow⟩)
    rotate_left
    · obtain ⟨z, rfl⟩ := hs.out
      try dsimp only
      first | refine Gx.a (by kernel_rfl) fun K hK => ?_ | refine Gx.b (by kernel_rfl) fun K hK => ?_ | refine Gx.c (by kernel_rfl) fun K hK => ?_
      simp only [XM, XA, XB, gateX, Nat.reduceAdd, Nat.reduceLeDiff, Nat.reduceSub, Nat.reduceMul, ↓reduceIte, Int.reduceToNat, Int.reduceLE, beq_self_eq_true, b11]
      refine hK _ ?_
      first | refine Gx.f rfl ?_ | refine XWP.seq (Gx.f rfl ?_)
      refine XWP.exit ?_
      exact fun f => ⟨V6, H6, w, cs, StIs.of (by exact rfl), hw, hg, hrow⟩
    obtain ⟨z, rfl⟩ := hs.out
    try dsimp only
    clear hs
    first | refine Gx.a (by kernel_rfl) fun K hK => ?_ | refine Gx.b (by kernel_rfl) fun K hK => ?_ | refine Gx.c (by kernel_rfl) fun K hK => ?_
    simp only [XM, XA, XB, gateX, Nat.reduceAdd, Nat.reduceLeDiff, Nat.reduceSub, Nat.reduceMul, ↓reduceIte, Int.reduceToNat, Int.reduceLE, beq_self_eq_true, b01]
    refine hK _ ?_
    first | refine Gx.t rfl ?_ | refine XWP.seq (Gx.t rfl ?_)
    refine XWP.skip ?_
    refine XWP.seq ?_
    first | refine XWP.block ?_ | refine XWP.seq (XWP.block ?_)
    clear hK
    refine XWP.cutD 1 (fun s => ∃ (V8 : View) (H8 : Heap) (cs : List Value), StIs (fun Z => [Z 0, .v (.slice A3 S.length q3), .v (.int .i64 1), .p 0 0, Z 4,Z 5,Z 6,Z 7,Z 8, .v (.slice (some ⟨g1, 0, none⟩) n n), .v (.slice (some ⟨g2, 0, none⟩) m m), Z 11,Z 12,Z 13,Z 14,Z 15,Z 16,Z 17,Z 18,Z 19,Z 20,Z 21,Z 22,Z 23,Z 24,Z 25,Z 26,Z 27,Z 28,Z 29,Z 30,Z 31,Z 32,Z 33,Z 34,Z 35,Z 36,Z 37,Z 38,Z 39,Z 40,Z 41,Z 42,Z 43,Z 44,Z 45,Z 46,Z 47,Z 48,Z 49,Z 50,Z 51,Z 52,Z 53,Z 54,Z 55,Z 56, .v (.int .i64 1), .v (.int .i64 0), Z 59,Z 60,Z 61,Z 62,Z 63,Z 64,Z 65,Z 66,Z 67,Z 68,Z 69,Z 70,Z 71,Z 72,Z 73,Z 74,Z 75,Z 76,Z 77,Z 78,Z 79,Z 80,Z 81,Z 82,Z 83,Z 84,Z 85,Z 86]) [[.int .i64 (n : Int), .int .i64 (n : Int), .slice A1 L1.length q1, .int .i64 (n : Int), .int .i64 (m : Int), .slice A2 L2.length q2]] H8 V8 s ∧ V5.le V8 ∧ Rats V8 (.slice (some ⟨g1, 0, none⟩) n n) a ∧ H8 g2 = some ⟨34, cs, m * 3⟩ ∧ RowAt ratE V8 cs (thr a q m)) ?_ ?_
    · first | refine Gx.a (by kernel_rfl) fun K hK => ?_ | refine Gx.b (by kernel_rfl) fun K hK => ?_ | refine Gx.c (by kernel_rfl) fun K hK => ?_
      simp only [XM, XA, XB, gateX, Nat.reduceAdd, Nat.reduceLeDiff, Nat.reduceSub, Nat.reduceMul, ↓reduceIte, Int.reduceToNat, Int.reduceLE, beq_self_eq_true]
      refine call_pub g1 ⟨34, cells1, n * 3⟩ hg1 (fun ob hob hle => ?_) (by kernel_rfl) rfl
      have hat : Rats _ _ a := hrow1.pub ratE_ok hob hle (n := n) (c := n) (by omega) (Nat.le_refl _) (by omega)
      refine call_go (by kernel_rfl) rfl (cthrough_c _ _ _ a q n m C B hat (hq.up hle) lq (by omega) hm hS hB (by omega)) fun v7 V7 hV7 h7 => ?_
      have hg2' := (upd_off (r := none) hne).trans hg2
      generalize upd H5 g1 none = H7 at *
      have hat := hat.up hV7
      have h57 := View.le_trans hle hV7
      have hrow2 := hrow2.mono ratE_ok h57
      obtain ⟨A7, c7, rfl, _, _⟩ := h7.form
      simp only [XM, XA, XB, gateX, Nat.reduceAdd, Nat.reduceLeDiff, Nat.reduceSub, Nat.reduceMul, ↓reduceIte, Int.reduceToNat, Int.reduceLE, beq_self_eq_true]
      refine hK _ ?_
      clear hK
      first | refine XWP.block ?_ | refine XWP.seq (XWP.block ?_)
      refine XWP.loopD 1 (fun r s => ∃ (k : Nat) (V8 : View) (H8 : Heap) (cs : List Value), StIs (fun Z => [Z 0, .v (.slice A3 S.length q3), .v (.int .i64 1), .p 0 0, Z 4,Z 5,Z 6,Z 7,Z 8, .v (.slice (some ⟨g1, 0, none⟩) n n), .v (.slice (some ⟨g2, 0, none⟩) m m), Z 11,Z 12,Z 13,Z 14,Z 15,Z 16,Z 17,Z 18,Z 19,Z 20,Z 21,Z 22,Z 23,Z 24,Z 25,Z 26,Z 27,Z 28,Z 29,Z 30,Z 31,Z 32,Z 33,Z 34,Z 35,Z 36,Z 37,Z 38,Z 39,Z 40,Z 41,Z 42,Z 43,Z 44,Z 45,Z 46,Z 47,Z 48,Z 49,Z 50,Z 51,Z 52,Z 53,Z 54,Z 55,Z 56, .v (.int .i64 1), .v (.int .i64 0), Z 59,Z 60,Z 61,Z 62, .v (.slice A7 (thr a q m).length c7), .v (.int .i64 ((thr a q m).length : Int)), .v (.int .i64 (k : Int)), Z 66,Z 67,Z 68,Z 69,Z 70,Z 71,Z 72,Z 73,Z 74,Z 75,Z 76,Z 77,Z 78,Z 79,Z 80,Z 81,Z 82,Z 83,Z 84,Z 85,Z 86]) [[.int .i64 (n : Int), .int .i64 (n : Int), .slice A1 L1.length q1, .int .i64 (n : Int), .int .i64 (m : Int), .slice A2 L2.length q2]] H8 V8 s ∧ V7.le V8 ∧ r + k = m ∧ H8 g2 = some ⟨34, cs, m * 3⟩ ∧ RowAt ratE V8 cs (mk m (fillf (thr a q m) k))) m ⟨0, V7, H7, cells2, StIs.of (by exact rfl), View.le_refl _, by omega, hg2', by rw [fillf_zero]; exact hrow2⟩ ?_
      clear hg2' hrow2
      rintro r s ⟨k, V8, H8, cs, hs, hV8, hr, hg, hrow⟩
      obtain ⟨z, rfl⟩ := hs.out
      try dsimp only
      clear hs
      by_cases hk : k < m
      rotate_left
      · obtain rfl : k = m := by omega
        have b1 : decide ((k : Int) < ((thr a q k).length : Int)) = false := decide_eq_false (by omega)
        first | refine Gx.a (by kernel_rfl) fun K hK => ?_ | refine Gx.b (by kernel_rfl) fun K hK => ?_ | refine Gx.c (by kernel_rfl) fun K hK => ?_
        simp only [XM, XA, XB, gateX, Nat.reduceAdd, Nat.reduceLeDiff, Nat.reduceSub, Nat.reduceMul, ↓reduceIte, Int.reduceToNat, Int.reduceLE, beq_self_eq_true, b1]
        refine hK _ ?_
        first | refine Gx.f rfl ?_ | refine XWP.seq (Gx.f rfl ?_)
        refine XWP.exit ?_
        rw [fillf_all mW] at hrow
        exact fun f => ⟨V8, H8, cs, StIs.of (by exact rfl), View.le_trans h57 hV8, hat.up hV8, hg, hrow⟩
      have b1 : decide ((k : Int) < ((thr a q m).length : Int)) = true := decide_eq_true (by omega)
      first | refine Gx.a (by kernel_rfl) fun K hK => ?_ | refine Gx.b (by kernel_rfl) fun K hK => ?_ | refine Gx.c (by kernel_rfl) fun K hK => ?_
      simp only [XM, XA, XB, gateX, Nat.reduceAdd, Nat.reduceLeDiff, Nat.reduceSub, Nat.reduceMul, ↓reduceIte, Int.reduceToNat, Int.reduceLE, beq_self_eq_true, b1]
      refine hK _ ?_
      first | refine Gx.t rfl ?_ | refine XWP.seq (Gx.t rfl ?_)
      refine XWP.skip ?_
      refine XWP.seq ?_
      first | refine XWP.block ?_ | refine XWP.seq (XWP.block ?_)
      have hw8 := h7.up hV8
      obtain ⟨b, o, rfl⟩ := SlAt.addr hw8 (by omega)
      obtain ⟨m3, n3, d3, hx3, ⟨p1, p2, p3⟩, hld3⟩ := Rats.get hw8 k (by omega)
      first | refine Gx.a (by kernel_rfl) fun K hK => ?_ | refine Gx.b (by kernel_rfl) fun K hK => ?_ | refine Gx.c (by kernel_rfl) fun K hK => ?_
      simp only [XM, XA, XB, gateX, Nat.reduceAdd, Nat.reduceLeDiff, Nat.reduceSub, Nat.reduceMul, ↓reduceIte, Int.reduceToNat, Int.reduceLE, beq_self_eq_true]
      refine ⟨by omega, by omega, ld_mem (hld3 _) ?_⟩
      simp only [XM, XA, XB, gateX, Nat.reduceAdd, Nat.reduceLeDiff, Nat.reduceSub, Nat.reduceMul, ↓reduceIte, Int.reduceToNat, Int.reduceLE, beq_self_eq_true]
      refine st_rat rfl rfl p1 p2 p3 ?_
      simp only [XM, XA, XB, gateX, Nat.reduceAdd, Nat.reduceLeDiff, Nat.reduceSub, Nat.reduceMul, ↓reduceIte, Int.reduceToNat, Int.reduceLE, beq_self_eq_true]
      refine hK _ ?_
      obtain ⟨m8, n8, d8, hx8, ⟨t1, t2, t3⟩, hld8⟩ := rowQ_load hg hrow k (by rw [mk_len]; exact hk)
      rw [cf_mk_lt hk, show fillf (thr a q m) k k = 0 from if_neg (by omega)] at hx8
      (first | refine XWP.drw [0, 1, 2, 3, 4, 5, 6, 7, 8, 9] (by kernel_rfl) (by kernel_rfl) (by kernel_rfl) fun K hK => ?_ | refine XWP.seq (XWP.drw [0, 1, 2, 3, 4, 5, 6, 7, 8, 9] (by kernel_rfl) (by kernel_rfl) (by kernel_rfl) fun K hK => ?_) | refine XWP.drw1 [0, 1, 2, 3, 4, 5, 6, 7, 8, 9] (by kernel_rfl) (by kernel_rfl) (by kernel_rfl) fun K hK => ?_) <;> dsimp only [pickOps, List.getElem?_cons_zero, List.getElem?_cons_succ]
      simp only [XM, XA, XB, gateX, Nat.reduceAdd, Nat.reduceLeDiff, Nat.reduceSub, Nat.reduceMul, ↓reduceIte, Int.reduceToNat, Int.reduceLE, beq_self_eq_true]
      refine ⟨by omega, by omega, ld_mem hld8 ?_⟩
      simp only [XM, XA, XB, gateX, Nat.reduceAdd, Nat.reduceLeDiff, Nat.reduceSub, Nat.reduceMul, ↓reduceIte, Int.reduceToNat, Int.reduceLE, beq_self_eq_true]
      refine call_go (by kernel_rfl) rfl (qadd_c _ _ _ _ _ hx8 hx3 QF_zero ((cW.at _).qf (by omega))) fun v9 V9 hV9 h9 => ?_
      rw [Rat.zero_add] at h9
      obtain ⟨x9, y9, rfl, o5, o6⟩ := h9.form
      have hrow9 := hrow.mono ratE_ok hV9
      have hl9 := hrow9.1
      rw [mk_len] at hl9
      simp only [XM, XA, XB, gateX, Nat.reduceAdd, Nat.reduceLeDiff, Nat.reduceSub, Nat.reduceMul, ↓reduceIte, Int.reduceToNat, Int.reduceLE, beq_self_eq_true]
      refine ⟨by omega, by omega, ?_⟩
      refine st_rowA shapeT_34 (all3 rfl o5 o6) rfl hg (by dsimp only; omega) ?_
      simp only [XM, XA, XB, gateX, Nat.reduceAdd, Nat.reduceLeDiff, Nat.reduceSub, Nat.reduceMul, ↓reduceIte, Int.reduceToNat, Int.reduceLE, beq_self_eq_true]
      refine hK _ ?_
      have hrow10 := hrow9.set k (by rw [mk_len]; exact hk) (show isOne (.bool (ng (cf (thr a q m) k))) = true from rfl) o5 o6 h9
      rw [fillf_set hk] at hrow10
      first | refine Gx.a (by kernel_rfl) fun K hK => ?_ | refine Gx.b (by kernel_rfl) fun K hK => ?_ | refine Gx.c (by kernel_rfl) fun K hK => ?_
      simp only [XM, XA, XB, gateX, Nat.reduceAdd, Nat.reduceLeDiff, Nat.reduceSub, Nat.reduceMul, ↓reduceIte, Int.reduceToNat, Int.reduceLE, beq_self_eq_true, i64_succ k (by omega)]
      exact hK _ ⟨r - 1, by omega, fun f => ⟨k + 1, V9, _, _, StIs.of (by exact rfl), View.le_trans hV8 hV9, by omega, upd_at _ _ _, hrow10⟩⟩
    rintro s ⟨V8, H8, cs, hs, hV8, hat, hg, hrow⟩
    obtain ⟨z, rfl⟩ := hs.out
    try dsimp only
    clear hs
    first | refine Gx.a (by kernel_rfl) fun K hK => ?_ | refine Gx.b (by kernel_rfl) fun K hK => ?_ | refine Gx.c (by kernel_rfl) fun K hK => ?_
    simp only [XM, XA, XB, gateX, Nat.reduceAdd, Nat.reduceLeDiff, Nat.reduceSub, Nat.reduceMul, ↓reduceIte, Int.reduceToNat, Int.reduceLE, beq_self_eq_true]
    refine call_go (by kernel_rfl) rfl (cthrough_c _ _ _ a p n n C A hat (hp.up hV8) lp (by omega) hn hS hA (by omega)) fun v9 V9 hV9 h9 => ?_
    simp only [XM, XA, XB, gateX, Nat.reduceAdd, Nat.reduceLeDiff, Nat.reduceSub, Nat.reduceMul, ↓reduceIte, Int.reduceToNat, Int.reduceLE, beq_self_eq_true]
    refine hK _ ?_
    first | refine Gx.a (by kernel_rfl) fun K hK => ?_ | refine Gx.b (by kernel_rfl) fun K hK => ?_ | refine Gx.c (by kernel_rfl) fun K hK => ?_
    simp only [XM, XA, XB, gateX, Nat.reduceAdd, Nat.reduceLeDiff, Nat.reduceSub, Nat.reduceMul, ↓reduceIte, Int.reduceToNat, Int.reduceLE, beq_self_eq_true, w01]
    exact hK _ ⟨0, by omega, fun f => .inr ⟨rfl, V9, H8, v9, cs, StIs.of (by exact rfl), h9, hg, hrow.mono ratE_ok hV9⟩⟩
  rintro s ⟨V6, H6, w, cs, hs, hw, hg, hrow⟩
  obtain ⟨z, rfl⟩ := hs.out
  try dsimp only
  first | refine Gx.a (by kernel_rfl) fun K hK => ?_ | refine Gx.b (by kernel_rfl) fun K hK => ?_ | refine Gx.c (by kernel_rfl) fun K hK => ?_
  simp only [XM, XA, XB, gateX, Nat.reduceAdd, Nat.reduceLeDiff, Nat.reduceSub, Nat.reduceMul, ↓reduceIte, Int.reduceToNat, Int.reduceLE, beq_self_eq_true]
  refine hK _ (XWP.ret ?_)
  try simp only [thenX_ret, inBlockX_ret]
  refine ret_pub g2 _ hg fun o ho hle' => ret_go _ rfl ⟨_, _, rfl, hw.up hle', ?_⟩
  exact hrow.pub ratE_ok ho hle' mW (Nat.le_refl _) (by omega)
end Go.Proofs.Ythoboehbadmlmaa
end
section
namespace Go.Proofs.Ythoboehbadmlmaa
def stepv (a p : List Rat) (n : Nat) : Nat → List Rat
  | 0 => a
  | k + 1 => thr (stepv a p n k) p n
/-- what leaves by an exit, step by step -/
def endsL (a p q : List Rat) (n m x N : Nat) : List Rat := mk N fun k => cf (thr (stepv a p n k) q m) x
theorem stepv_len {a p : List Rat} {n : Nat} (h : a.length = n) : ∀ k, (stepv a p n k).length = n
  | 0 => h
  | _ + 1 => thr_len _ _ _
theorem rowsB_nn {n m : Nat} {p q : List Rat} (h : rowsB n m p q n = true) : (∀ i k, i < n → k < n → 0 ≤ cf p (i * n + k)) ∧ (∀ i k, i < n → k < m → 0 ≤ cf q (i * m + k)) := by
  refine ⟨fun i k hi hk => ?_, fun i k hi hk => ?_⟩
  · have := rowsB_get h i hi
    unfold rowB at this
    rw [Bool.and_eq_true, Bool.and_eq_true] at this
    exact (ng_iff _).1 (nnB_get this.1.1 k hk)
  · have := rowsB_get h i hi
    unfold rowB at this
    rw [Bool.and_eq_true, Bool.and_eq_true] at this
    exact (ng_iff _).1 (nnB_get this.1.2 k hk)
theorem thr_nn {a M : List Rat} {c n : Nat} (hn : a.length = n) (ha : ∀ j, j < n → 0 ≤ cf a j) (hM : ∀ i k, i < n → k < c → 0 ≤ cf M (i * c + k)) : ∀ k, k < c → 0 ≤ cf (thr a M c) k := fun k hk => by
  unfold thr
  rw [cf_mk, if_pos hk]
  exact tS_nn k _ (fun j hj => ha j (by omega)) fun j hj => hM j k (by omega) hk
theorem stepv_nn {a p : List Rat} {n : Nat} (h : a.length = n) (ha : ∀ j, j < n → 0 ≤ cf a j) (hp : ∀ i k, i < n → k < n → 0 ≤ cf p (i * n + k)) : ∀ k j, j < n → 0 ≤ cf (stepv a p n k) j
  | 0, j, hj => ha j hj
  | k + 1, j, hj => thr_nn (stepv_len h k) (stepv_nn h ha hp k) hp j hj
theorem endsL_len (a p q : List Rat) (n m x N : Nat) : (endsL a p q n m x N).length = N := mk_len _ _
theorem endsL_succ (a p q : List Rat) (n m x N : Nat) : endsL a p q n m x (N + 1) = endsL a p q n m x N ++ [cf (thr (stepv a p n N) q m) x] := by
  unfold endsL mk
  rw [List.range_succ, List.map_append]; rfl
end Go.Proofs.Ythoboehbadmlmaa
end
