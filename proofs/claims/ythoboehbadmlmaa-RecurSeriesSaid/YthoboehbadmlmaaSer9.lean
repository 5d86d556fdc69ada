/- The law RecurSeries answers true at every input (part 9 of 12) -/
import Derived.OrdersHeld
import Derived.Below
import Derived.Tactics
import Derived.KernelRfl
import Derived.Laws.AppendOwn
import Derived.Laws.MakeOwn
import Derived.Laws.CopyRow
import Derived.Laws.Cells
import Derived.Laws.World
import Derived.Laws.Alloc2
import Derived.Laws.NewBlocks
import Derived.Maps.AppendAt
import Derived.Test.YthoboehbadmlmaaProg
import Init.Data.List.Lemmas
import Init.Omega
import Derived.Test.YthoboehbadmlmaaSer8
section
namespace Go.Proofs.Ythoboehbadmlmaa
open Go Go.RowKit
set_option linter.unusedSimpArgs false
set_option linter.unusedVariables false
attribute [local irreducible] XWP Spec SpecO XPub XCall seqX clX apX stX ldX iaX slX
theorem rightP_parts {P : List Raw} (h : rightP P = true) : okR P = true ∧ PolQ (qs P) ∧ P.length ≤ 1000 := by
  unfold rightP at h
  rw [Bool.and_eq_true, Bool.and_eq_true, decide_eq_true_eq] at h
  exact ⟨h.1.2, (polB_iff _).1 h.2, h.1.1⟩
def bad2 (P Q : List Raw) : Bool := !(rightP P) || !(rightP Q)
theorem cAdd_c (V : View) (v u : Value) (P Q : List Raw) (hv : Raws V v P) (hu : Raws V u Q) (fP : fitR P) (fQ : fitR Q) (lP : P.length ≤ 500) (lQ : Q.length ≤ 500) (A B : Nat) (hAB : bad2 P Q = false → CB A (qs P) ∧ CB B (qs Q)) (hfit : A + B + 2 ≤ 17592186044416) :
    Spec Try.prog 26 [v, u] V fun v' V' => (bad2 P Q = true → v' = .tuple #[.slice none 0 0, .int .i64 1]) ∧ (bad2 P Q = false → ∃ w, v' = .tuple #[w, .int .i64 0] ∧ Rats V' w (pAdd (qs P) (qs Q) 1 0)) := by
  obtain ⟨A1, c1, rfl, hc1, hm1⟩ := hv.form
  obtain ⟨A2, c2, rfl, hc2, hm2⟩ := hu.form
  refine (Spec.enter Try.func26 rfl fun Γ => ?_)
  simp only [Try.ntmps26, List.map_cons, List.map_nil, List.length_cons, List.length_nil, Nat.reduceAdd, Nat.reduceSub, List.replicate_succ, List.replicate_zero, List.cons_append, List.nil_append]
  first | refine XWP.reg (by kernel_rfl) fun K hK => ?_ | refine XWP.seq (XWP.reg (by kernel_rfl) fun K hK => ?_) | refine XWP.reg1 (by kernel_rfl) fun K hK => ?_
  simp only [XA, XB, gateX, Nat.reduceAdd, Nat.reduceLeDiff, Nat.reduceSub, Nat.reduceMul, ↓reduceIte, Int.reduceToNat, Int.reduceLE, beq_self_eq_true]
  refine hK _ ?_
  refine XWP.seq ?_
  first | refine XWP.reg (by kernel_rfl) fun K hK => ?_ | refine XWP.seq (XWP.reg (by kernel_rfl) fun K hK => ?_) | refine XWP.reg1 (by kernel_rfl) fun K hK => ?_
  simp only [XA, XB, gateX, Nat.reduceAdd, Nat.reduceLeDiff, Nat.reduceSub, Nat.reduceMul, ↓reduceIte, Int.reduceToNat, Int.reduceLE, beq_self_eq_true]
  refine call_go (by kernel_rfl) rfl (cright_c _ _ _ hv fP (by omega)) fun v1 V1 hV1 h1 => ?_
  subst h1
  cases e1 : rightP P
  · simp only [XA, XB, gateX, Nat.reduceAdd, Nat.reduceLeDiff, Nat.reduceSub, Nat.reduceMul, ↓reduceIte, Int.reduceToNat, Int.reduceLE, beq_self_eq_true]
    refine hK _ ?_
    first | refine XWP.cond (t := true) rfl (fun _ => ?_) (fun h => by cases h) | refine XWP.seq (XWP.cond (t := true) rfl (fun _ => ?_) (fun h => by cases h))
    first | refine XWP.reg (by kernel_rfl) fun K hK => ?_ | refine XWP.seq (XWP.reg (by kernel_rfl) fun K hK => ?_) | refine XWP.reg1 (by kernel_rfl) fun K hK => ?_
    simp only [XA, XB, gateX, Nat.reduceAdd, Nat.reduceLeDiff, Nat.reduceSub, Nat.reduceMul, ↓reduceIte, Int.reduceToNat, Int.reduceLE, beq_self_eq_true]
    refine hK _ (XWP.ret ?_)
    try simp only [thenX_ret, inBlockX_ret]
    refine ret_go _ rfl ?_
    refine ⟨fun _ => rfl, fun h => ?_⟩
    unfold bad2 at h; rw [e1] at h; cases h
  simp only [XA, XB, gateX, Nat.reduceAdd, Nat.reduceLeDiff, Nat.reduceSub, Nat.reduceMul, ↓reduceIte, Int.reduceToNat, Int.reduceLE, beq_self_eq_true]
  refine call_go (by kernel_rfl) rfl (cright_c _ _ _ (hu.up hV1) fQ (by omega)) fun v2 V2 hV2 h2 => ?_
  subst h2
  cases e2 : rightP Q
  · simp only [XA, XB, gateX, Nat.reduceAdd, Nat.reduceLeDiff, Nat.reduceSub, Nat.reduceMul, ↓reduceIte, Int.reduceToNat, Int.reduceLE, beq_self_eq_true]
    refine hK _ ?_
    first | refine XWP.cond (t := true) rfl (fun _ => ?_) (fun h => by cases h) | refine XWP.seq (XWP.cond (t := true) rfl (fun _ => ?_) (fun h => by cases h))
    first | refine XWP.reg (by kernel_rfl) fun K hK => ?_ | refine XWP.seq (XWP.reg (by kernel_rfl) fun K hK => ?_) | refine XWP.reg1 (by kernel_rfl) fun K hK => ?_
    simp only [XA, XB, gateX, Nat.reduceAdd, Nat.reduceLeDiff, Nat.reduceSub, Nat.reduceMul, ↓reduceIte, Int.reduceToNat, Int.reduceLE, beq_self_eq_true]
    refine hK _ (XWP.ret ?_)
    try simp only [thenX_ret, inBlockX_ret]
    refine ret_go _ rfl ?_
    refine ⟨fun _ => rfl, fun h => ?_⟩
    unfold bad2 at h; rw [e1, e2] at h; cases h
  have hb : bad2 P Q = false := by unfold bad2; rw [e1, e2]; rfl
  simp only [XA, XB, gateX, Nat.reduceAdd, Nat.reduceLeDiff, Nat.reduceSub, Nat.reduceMul, ↓reduceIte, Int.reduceToNat, Int.reduceLE, beq_self_eq_true]
  refine hK _ ?_
  first | refine XWP.cond (t := false) rfl (fun h => by cases h) (fun _ => ?_) | refine XWP.seq (XWP.cond (t := false) rfl (fun h => by cases h) (fun _ => ?_))
  refine XWP.skip ?_
  obtain ⟨k1, k2, k3⟩ := rightP_parts e1
  obtain ⟨k4, k5, k6⟩ := rightP_parts e2
  have hp := (Raws.rats hv k1).up (View.le_trans hV1 hV2)
  have hq := (Raws.rats hu k4).up (View.le_trans hV1 hV2)
  obtain ⟨f1, f2⟩ := hAB hb
  first | refine XWP.reg (by kernel_rfl) fun K hK => ?_ | refine XWP.seq (XWP.reg (by kernel_rfl) fun K hK => ?_) | refine XWP.reg1 (by kernel_rfl) fun K hK => ?_
  simp only [XA, XB, gateX, Nat.reduceAdd, Nat.reduceLeDiff, Nat.reduceSub, Nat.reduceMul, ↓reduceIte, Int.reduceToNat, Int.reduceLE, beq_self_eq_true]
  refine call_go (by kernel_rfl) rfl (qone_c _) fun v3 V3 hV3 h3 => ?_
  simp only [XA, XB, gateX, Nat.reduceAdd, Nat.reduceLeDiff, Nat.reduceSub, Nat.reduceMul, ↓reduceIte, Int.reduceToNat, Int.reduceLE, beq_self_eq_true]
  refine call_go (by kernel_rfl) rfl (cadd_c _ _ _ _ (qs P) (qs Q) 1 0 A B 0 (hp.up hV3) (hq.up hV3) h3 f1.mem f2.mem (QB_one 0) (by omega) (by rw [qs_len]; omega) (by rw [qs_len]; omega)) fun v4 V4 hV4 h4 => ?_
  simp only [XA, XB, gateX, Nat.reduceAdd, Nat.reduceLeDiff, Nat.reduceSub, Nat.reduceMul, ↓reduceIte, Int.reduceToNat, Int.reduceLE, beq_self_eq_true]
  refine hK _ (XWP.ret ?_)
  try simp only [thenX_ret, inBlockX_ret]
  refine ret_go _ rfl ?_
  exact ⟨fun h => (by rw [hb] at h; cases h), fun _ => ⟨_, rfl, h4⟩⟩
theorem cMul_c (V : View) (v u : Value) (P Q : List Raw) (hv : Raws V v P) (hu : Raws V u Q) (fP : fitR P) (fQ : fitR Q) (lP : P.length ≤ 500) (lQ : Q.length ≤ 500) (A B : Nat) (hAB : bad2 P Q = false → CB A (qs P) ∧ CB B (qs Q)) (hfit : P.length * (A + B + 1) + A + B + 2 ≤ 17592186044416) :
    Spec Try.prog 28 [v, u] V fun v' V' => (bad2 P Q = true → v' = .tuple #[.slice none 0 0, .int .i64 1]) ∧ (bad2 P Q = false → ∃ w, v' = .tuple #[w, .int .i64 0] ∧ Rats V' w (mulP (qs P) (qs Q))) := by
  obtain ⟨A1, c1, rfl, hc1, hm1⟩ := hv.form
  obtain ⟨A2, c2, rfl, hc2, hm2⟩ := hu.form
  refine (Spec.enter Try.func28 rfl fun Γ => ?_)
  simp only [Try.ntmps28, List.map_cons, List.map_nil, List.length_cons, List.length_nil, Nat.reduceAdd, Nat.reduceSub, List.replicate_succ, List.replicate_zero, List.cons_append, List.nil_append]
  first | refine XWP.reg (by kernel_rfl) fun K hK => ?_ | refine XWP.seq (XWP.reg (by kernel_rfl) fun K hK => ?_) | refine XWP.reg1 (by kernel_rfl) fun K hK => ?_
  simp only [XA, XB, gateX, Nat.reduceAdd, Nat.reduceLeDiff, Nat.reduceSub, Nat.reduceMul, ↓reduceIte, Int.reduceToNat, Int.reduceLE, beq_self_eq_true]
  refine hK _ ?_
  refine XWP.seq ?_
  first | refine XWP.reg (by kernel_rfl) fun K hK => ?_ | refine XWP.seq (XWP.reg (by kernel_rfl) fun K hK => ?_) | refine XWP.reg1 (by kernel_rfl) fun K hK => ?_
  simp only [XA, XB, gateX, Nat.reduceAdd, Nat.reduceLeDiff, Nat.reduceSub, Nat.reduceMul, ↓reduceIte, Int.reduceToNat, Int.reduceLE, beq_self_eq_true]
  refine call_go (by kernel_rfl) rfl (cright_c _ _ _ hv fP (by omega)) fun v1 V1 hV1 h1 => ?_
  subst h1
  cases e1 : rightP P
  · simp only [XA, XB, gateX, Nat.reduceAdd, Nat.reduceLeDiff, Nat.reduceSub, Nat.reduceMul, ↓reduceIte, Int.reduceToNat, Int.reduceLE, beq_self_eq_true]
    refine hK _ ?_
    first | refine XWP.cond (t := true) rfl (fun _ => ?_) (fun h => by cases h) | refine XWP.seq (XWP.cond (t := true) rfl (fun _ => ?_) (fun h => by cases h))
    first | refine XWP.reg (by kernel_rfl) fun K hK => ?_ | refine XWP.seq (XWP.reg (by kernel_rfl) fun K hK => ?_) | refine XWP.reg1 (by kernel_rfl) fun K hK => ?_
    simp only [XA, XB, gateX, Nat.reduceAdd, Nat.reduceLeDiff, Nat.reduceSub, Nat.reduceMul, ↓reduceIte, Int.reduceToNat, Int.reduceLE, beq_self_eq_true]
    refine hK _ (XWP.ret ?_)
    try simp only [thenX_ret, inBlockX_ret]
    refine ret_go _ rfl ?_
    refine ⟨fun _ => rfl, fun h => ?_⟩
    unfold bad2 at h; rw [e1] at h; cases h
  simp only [XA, XB, gateX, Nat.reduceAdd, Nat.reduceLeDiff, Nat.reduceSub, Nat.reduceMul, ↓reduceIte, Int.reduceToNat, Int.reduceLE, beq_self_eq_true]
  refine call_go (by kernel_rfl) rfl (cright_c _ _ _ (hu.up hV1) fQ (by omega)) fun v2 V2 hV2 h2 => ?_
  subst h2
  cases e2 : rightP Q
  · simp only [XA, XB, gateX, Nat.reduceAdd, Nat.reduceLeDiff, Nat.reduceSub, Nat.reduceMul, ↓reduceIte, Int.reduceToNat, Int.reduceLE, beq_self_eq_true]
    refine hK _ ?_
    first | refine XWP.cond (t := true) rfl (fun _ => ?_) (fun h => by cases h) | refine XWP.seq (XWP.cond (t := true) rfl (fun _ => ?_) (fun h => by cases h))
    first | refine XWP.reg (by kernel_rfl) fun K hK => ?_ | refine XWP.seq (XWP.reg (by kernel_rfl) fun K hK => ?_) | refine XWP.reg1 (by kernel_rfl) fun K hK => ?_
    simp only [XA, XB, gateX, Nat.reduceAdd, Nat.reduceLeDiff, Nat.reduceSub, Nat.reduceMul, ↓reduceIte, Int.reduceToNat, Int.reduceLE, beq_self_eq_true]
    refine hK _ (XWP.ret ?_)
    try simp only [thenX_ret, inBlockX_ret]
    refine ret_go _ rfl ?_
    refine ⟨fun _ => rfl, fun h => ?_⟩
    unfold bad2 at h; rw [e1, e2] at h; cases h
  have hb : bad2 P Q = false := by unfold bad2; rw [e1, e2]; rfl
  simp only [XA, XB, gateX, Nat.reduceAdd, Nat.reduceLeDiff, Nat.reduceSub, Nat.reduceMul, ↓reduceIte, Int.reduceToNat, Int.reduceLE, beq_self_eq_true]
  refine hK _ ?_
  first | refine XWP.cond (t := false) rfl (fun h => by cases h) (fun _ => ?_) | refine XWP.seq (XWP.cond (t := false) rfl (fun h => by cases h) (fun _ => ?_))
  refine XWP.skip ?_
  obtain ⟨k1, k2, k3⟩ := rightP_parts e1
  obtain ⟨k4, k5, k6⟩ := rightP_parts e2
  have hp := (Raws.rats hv k1).up (View.le_trans hV1 hV2)
  have hq := (Raws.rats hu k4).up (View.le_trans hV1 hV2)
  obtain ⟨f1, f2⟩ := hAB hb
  refine XWP.cut (fun s => StIs (fun τ => [.v (.slice A1 P.length c1), .v (.slice A2 Q.length c2), τ 2, τ 3, τ 4, τ 5, τ 6, τ 7, τ 8, τ 9, τ 10, τ 11, τ 12, τ 13, τ 14, τ 15, τ 16, τ 17, τ 18, τ 19, τ 20, τ 21, τ 22, τ 23, τ 24, τ 25, τ 26, τ 27, τ 28, τ 29, τ 30, τ 31, τ 32, τ 33]) [] (fun _ => none) V2 s ∧ True) ?_ ?_
  · first | refine XWP.reg (by kernel_rfl) fun K hK => ?_ | refine XWP.seq (XWP.reg (by kernel_rfl) fun K hK => ?_) | refine XWP.reg1 (by kernel_rfl) fun K hK => ?_
    by_cases n1 : P.length = 0
    · have b1 : decide ((0 : Int) < (P.length : Int)) = false := decide_eq_false (by omega)
      simp only [XA, XB, gateX, Nat.reduceAdd, Nat.reduceLeDiff, Nat.reduceSub, Nat.reduceMul, ↓reduceIte, Int.reduceToNat, Int.reduceLE, beq_self_eq_true, b1]
      refine hK _ ?_
      first | refine XWP.cond (t := false) rfl (fun h => by cases h) (fun _ => ?_) | refine XWP.seq (XWP.cond (t := false) rfl (fun h => by cases h) (fun _ => ?_))
      refine XWP.skip ?_
      exact ⟨StIs.of (by exact rfl), trivial⟩
    have b1 : decide ((0 : Int) < (P.length : Int)) = true := decide_eq_true (by omega)
    by_cases n2 : Q.length = 0
    · have b2 : decide ((0 : Int) < (Q.length : Int)) = false := decide_eq_false (by omega)
      simp only [XA, XB, gateX, Nat.reduceAdd, Nat.reduceLeDiff, Nat.reduceSub, Nat.reduceMul, ↓reduceIte, Int.reduceToNat, Int.reduceLE, beq_self_eq_true, b1, b2]
      refine hK _ ?_
      first | refine XWP.cond (t := false) rfl (fun h => by cases h) (fun _ => ?_) | refine XWP.seq (XWP.cond (t := false) rfl (fun h => by cases h) (fun _ => ?_))
      refine XWP.skip ?_
      exact ⟨StIs.of (by exact rfl), trivial⟩
    have b2 : decide ((0 : Int) < (Q.length : Int)) = true := decide_eq_true (by omega)
    have w1 := i64_add P.length Q.length (by omega)
    have w2 := i64_pred (P.length + Q.length) (by omega) (by omega)
    have b3 : decide ((1000 : Int) < ((P.length + Q.length - 1 : Nat) : Int)) = false := decide_eq_false (by omega)
    simp only [XA, XB, gateX, Nat.reduceAdd, Nat.reduceLeDiff, Nat.reduceSub, Nat.reduceMul, ↓reduceIte, Int.reduceToNat, Int.reduceLE, beq_self_eq_true, b1, b2, w1, w2, b3]
    refine hK _ ?_
    first | refine XWP.cond (t := false) rfl (fun h => by cases h) (fun _ => ?_) | refine XWP.seq (XWP.cond (t := false) rfl (fun h => by cases h) (fun _ => ?_))
    refine XWP.skip ?_
    exact ⟨StIs.of (by exact rfl), trivial⟩
  rintro s ⟨hs, _⟩
  obtain ⟨z, rfl⟩ := hs.out
  try dsimp only
  first | refine XWP.reg (by kernel_rfl) fun K hK => ?_ | refine XWP.seq (XWP.reg (by kernel_rfl) fun K hK => ?_) | refine XWP.reg1 (by kernel_rfl) fun K hK => ?_
  simp only [XA, XB, gateX, Nat.reduceAdd, Nat.reduceLeDiff, Nat.reduceSub, Nat.reduceMul, ↓reduceIte, Int.reduceToNat, Int.reduceLE, beq_self_eq_true]
  refine call_go (by kernel_rfl) rfl (cmul_c _ _ _ (qs P) (qs Q) A B hp hq f1 f2 (by rw [qs_len]; exact hfit) (by rw [qs_len, qs_len]; omega)) fun v4 V4 hV4 h4 => ?_
  simp only [XA, XB, gateX, Nat.reduceAdd, Nat.reduceLeDiff, Nat.reduceSub, Nat.reduceMul, ↓reduceIte, Int.reduceToNat, Int.reduceLE, beq_self_eq_true]
  refine hK _ (XWP.ret ?_)
  try simp only [thenX_ret, inBlockX_ret]
  refine ret_go _ rfl ?_
  exact ⟨fun h => (by rw [hb] at h; cases h), fun _ => ⟨_, rfl, h4⟩⟩
theorem cDiv_c (V : View) (v u : Value) (P Q : List Raw) (hv : Raws V v P) (hu : Raws V u Q) (fP : fitR P) (fQ : fitR Q) (lP : P.length ≤ 500) (lQ : Q.length ≤ 500) (A B : Nat) (hAB : bad2 P Q = false → CB A (qs P) ∧ CB B (qs Q)) (hfit : 2 ^ (P.length - Q.length + 1) * (A + 2 * B + 2) ≤ 17592186044416) :
    Spec Try.prog 21 [v, u] V fun v' V' => (bad2 P Q = true → v' = .tuple #[.slice none 0 0, .slice none 0 0, .int .i64 1]) ∧ (bad2 P Q = false → Q.length = 0 → v' = .tuple #[.slice none 0 0, .slice none 0 0, .int .i64 31]) ∧ (bad2 P Q = false → Q.length ≠ 0 → ∃ wq wr, v' = .tuple #[wq, wr, .int .i64 0] ∧ Rats V' wq (divP (qs P) (qs Q)).1 ∧ Rats V' wr (divP (qs P) (qs Q)).2 ∧ CB (2 ^ (P.length - Q.length + 1) * (A + 2 * B + 2)) (divP (qs P) (qs Q)).2) := by
  obtain ⟨A1, c1, rfl, hc1, hm1⟩ := hv.form
  obtain ⟨A2, c2, rfl, hc2, hm2⟩ := hu.form
  refine (Spec.enter Try.func21 rfl fun Γ => ?_)
  simp only [Try.ntmps21, List.map_cons, List.map_nil, List.length_cons, List.length_nil, Nat.reduceAdd, Nat.reduceSub, List.replicate_succ, List.replicate_zero, List.cons_append, List.nil_append]
  first | refine XWP.reg (by kernel_rfl) fun K hK => ?_ | refine XWP.seq (XWP.reg (by kernel_rfl) fun K hK => ?_) | refine XWP.reg1 (by kernel_rfl) fun K hK => ?_
  simp only [XA, XB, gateX, Nat.reduceAdd, Nat.reduceLeDiff, Nat.reduceSub, Nat.reduceMul, ↓reduceIte, Int.reduceToNat, Int.reduceLE, beq_self_eq_true]
  refine hK _ ?_
  refine XWP.seq ?_
  first | refine XWP.reg (by kernel_rfl) fun K hK => ?_ | refine XWP.seq (XWP.reg (by kernel_rfl) fun K hK => ?_) | refine XWP.reg1 (by kernel_rfl) fun K hK => ?_
  simp only [XA, XB, gateX, Nat.reduceAdd, Nat.reduceLeDiff, Nat.reduceSub, Nat.reduceMul, ↓reduceIte, Int.reduceToNat, Int.reduceLE, beq_self_eq_true]
  refine call_go (by kernel_rfl) rfl (cright_c _ _ _ hv fP (by omega)) fun v1 V1 hV1 h1 => ?_
  subst h1
  cases e1 : rightP P
  · simp only [XA, XB, gateX, Nat.reduceAdd, Nat.reduceLeDiff, Nat.reduceSub, Nat.reduceMul, ↓reduceIte, Int.reduceToNat, Int.reduceLE, beq_self_eq_true]
    refine hK _ ?_
    first | refine XWP.cond (t := true) rfl (fun _ => ?_) (fun h => by cases h) | refine XWP.seq (XWP.cond (t := true) rfl (fun _ => ?_) (fun h => by cases h))
    first | refine XWP.reg (by kernel_rfl) fun K hK => ?_ | refine XWP.seq (XWP.reg (by kernel_rfl) fun K hK => ?_) | refine XWP.reg1 (by kernel_rfl) fun K hK => ?_
    simp only [XA, XB, gateX, Nat.reduceAdd, Nat.reduceLeDiff, Nat.reduceSub, Nat.reduceMul, ↓reduceIte, Int.reduceToNat, Int.reduceLE, beq_self_eq_true]
    refine hK _ (XWP.ret ?_)
    try simp only [thenX_ret, inBlockX_ret]
    refine ret_go _ rfl ?_
    have : bad2 P Q = true := by unfold bad2; rw [e1]; rfl
    exact ⟨fun _ => rfl, fun h => (by rw [this] at h; cases h), fun h => by rw [this] at h; cases h⟩
  simp only [XA, XB, gateX, Nat.reduceAdd, Nat.reduceLeDiff, Nat.reduceSub, Nat.reduceMul, ↓reduceIte, Int.reduceToNat, Int.reduceLE, beq_self_eq_true]
  refine call_go (by kernel_rfl) rfl (cright_c _ _ _ (hu.up hV1) fQ (by omega)) fun v2 V2 hV2 h2 => ?_
  subst h2
  cases e2 : rightP Q
  · simp only [XA, XB, gateX, Nat.reduceAdd, Nat.reduceLeDiff, Nat.reduceSub, Nat.reduceMul, ↓reduceIte, Int.reduceToNat, Int.reduceLE, beq_self_eq_true]
    refine hK _ ?_
    first | refine XWP.cond (t := true) rfl (fun _ => ?_) (fun h => by cases h) | refine XWP.seq (XWP.cond (t := true) rfl (fun _ => ?_) (fun h => by cases h))
    first | refine XWP.reg (by kernel_rfl) fun K hK => ?_ | refine XWP.seq (XWP.reg (by kernel_rfl) fun K hK => ?_) | refine XWP.reg1 (by kernel_rfl) fun K hK => ?_
    simp only [XA, XB, gateX, Nat.reduceAdd, Nat.reduceLeDiff, Nat.reduceSub, Nat.reduceMul, ↓reduceIte, Int.reduceToNat, Int.reduceLE, beq_self_eq_true]
    refine hK _ (XWP.ret ?_)
    try simp only [thenX_ret, inBlockX_ret]
    refine ret_go _ rfl ?_
    have : bad2 P Q = true := by unfold bad2; rw [e1, e2]; rfl
    exact ⟨fun _ => rfl, fun h => (by rw [this] at h; cases h), fun h => by rw [this] at h; cases h⟩
  have hb : bad2 P Q = false := by unfold bad2; rw [e1, e2]; rfl
  simp only [XA, XB, gateX, Nat.reduceAdd, Nat.reduceLeDiff, Nat.reduceSub, Nat.reduceMul, ↓reduceIte, Int.reduceToNat, Int.reduceLE, beq_self_eq_true]
  refine hK _ ?_
  first | refine XWP.cond (t := false) rfl (fun h => by cases h) (fun _ => ?_) | refine XWP.seq (XWP.cond (t := false) rfl (fun h => by cases h) (fun _ => ?_))
  refine XWP.skip ?_
  obtain ⟨k1, k2, k3⟩ := rightP_parts e1
  obtain ⟨k4, k5, k6⟩ := rightP_parts e2
  have hp := (Raws.rats hv k1).up (View.le_trans hV1 hV2)
  have hq := (Raws.rats hu k4).up (View.le_trans hV1 hV2)
  obtain ⟨f1, f2⟩ := hAB hb
  refine XWP.seq ?_
  by_cases n2 : Q.length = 0
  · have b2 : decide ((Q.length : Int) = 0) = true := decide_eq_true (by omega)
    first | refine XWP.reg (by kernel_rfl) fun K hK => ?_ | refine XWP.seq (XWP.reg (by kernel_rfl) fun K hK => ?_) | refine XWP.reg1 (by kernel_rfl) fun K hK => ?_
    simp only [XA, XB, gateX, Nat.reduceAdd, Nat.reduceLeDiff, Nat.reduceSub, Nat.reduceMul, ↓reduceIte, Int.reduceToNat, Int.reduceLE, beq_self_eq_true, b2]
    refine hK _ ?_
    first | refine XWP.cond (t := true) rfl (fun _ => ?_) (fun h => by cases h) | refine XWP.seq (XWP.cond (t := true) rfl (fun _ => ?_) (fun h => by cases h))
    first | refine XWP.reg (by kernel_rfl) fun K hK => ?_ | refine XWP.seq (XWP.reg (by kernel_rfl) fun K hK => ?_) | refine XWP.reg1 (by kernel_rfl) fun K hK => ?_
    simp only [XA, XB, gateX, Nat.reduceAdd, Nat.reduceLeDiff, Nat.reduceSub, Nat.reduceMul, ↓reduceIte, Int.reduceToNat, Int.reduceLE, beq_self_eq_true]
    refine hK _ (XWP.ret ?_)
    try simp only [thenX_ret, inBlockX_ret]
    refine ret_go _ rfl ?_
    exact ⟨fun h => (by rw [hb] at h; cases h), fun _ _ => rfl, fun _ h => absurd n2 h⟩
  have b2 : decide ((Q.length : Int) = 0) = false := decide_eq_false (by omega)
  first | refine XWP.reg (by kernel_rfl) fun K hK => ?_ | refine XWP.seq (XWP.reg (by kernel_rfl) fun K hK => ?_) | refine XWP.reg1 (by kernel_rfl) fun K hK => ?_
  simp only [XA, XB, gateX, Nat.reduceAdd, Nat.reduceLeDiff, Nat.reduceSub, Nat.reduceMul, ↓reduceIte, Int.reduceToNat, Int.reduceLE, beq_self_eq_true, b2]
  refine hK _ ?_
  first | refine XWP.cond (t := false) rfl (fun h => by cases h) (fun _ => ?_) | refine XWP.seq (XWP.cond (t := false) rfl (fun h => by cases h) (fun _ => ?_))
  refine XWP.skip ?_
  have hl := k5 (by rw [qs_len]; omega)
  first | refine XWP.reg (by kernel_rfl) fun K hK => ?_ | refine XWP.seq (XWP.reg (by kernel_rfl) fun K hK => ?_) | refine XWP.reg1 (by kernel_rfl) fun K hK => ?_
  simp only [XA, XB, gateX, Nat.reduceAdd, Nat.reduceLeDiff, Nat.reduceSub, Nat.reduceMul, ↓reduceIte, Int.reduceToNat, Int.reduceLE, beq_self_eq_true]
  refine call_go (by kernel_rfl) rfl (cdiv_c _ _ _ (qs P) (qs Q) A B hp hq f1 f2 (by rw [qs_len]; omega) hl (by rw [qs_len, qs_len]; exact hfit) (by rw [qs_len]; omega) (by rw [qs_len]; omega)) fun v4 V4 hV4 h4 => ?_
  obtain ⟨wq, wr, rfl, h5, h6, h7⟩ := h4
  simp only [XA, XB, gateX, Nat.reduceAdd, Nat.reduceLeDiff, Nat.reduceSub, Nat.reduceMul, ↓reduceIte, Int.reduceToNat, Int.reduceLE, beq_self_eq_true]
  refine hK _ ?_
  first | refine XWP.reg (by kernel_rfl) fun K hK => ?_ | refine XWP.seq (XWP.reg (by kernel_rfl) fun K hK => ?_) | refine XWP.reg1 (by kernel_rfl) fun K hK => ?_
  simp only [XA, XB, gateX, Nat.reduceAdd, Nat.reduceLeDiff, Nat.reduceSub, Nat.reduceMul, ↓reduceIte, Int.reduceToNat, Int.reduceLE, beq_self_eq_true]
  refine hK _ (XWP.ret ?_)
  try simp only [thenX_ret, inBlockX_ret]
  refine ret_go _ rfl ?_
  rw [qs_len, qs_len] at h7
  exact ⟨fun h => (by rw [hb] at h; cases h), fun _ h => absurd h n2, fun _ _ => ⟨_, _, rfl, h5, h6, h7⟩⟩
/-- enough for Common -/
def comFit (a b M : Nat) : Prop := gb M b (max a b + b) ≤ 17592186044416
theorem cCommon_c (V : View) (v u : Value) (P Q : List Raw) (hv : Raws V v P) (hu : Raws V u Q) (fP : fitR P) (fQ : fitR Q) (lP : P.length ≤ 500) (lQ : Q.length ≤ 500) (M : Nat) (hAB : bad2 P Q = false → CB M (qs P) ∧ CB M (qs Q)) (hfit : comFit P.length Q.length M) (hM : 2 * (M + 1) ≤ 17592186044416) :
    Spec Try.prog 23 [v, u] V fun v' V' => (bad2 P Q = true → v' = .tuple #[.slice none 0 0, .int .i64 1]) ∧ (bad2 P Q = false → P.length = 0 ∧ Q.length = 0 → v' = .tuple #[.slice none 0 0, .int .i64 31]) ∧ (bad2 P Q = false → ¬ (P.length = 0 ∧ Q.length = 0) → ∃ w, v' = .tuple #[w, .int .i64 0] ∧ Rats V' w (comP (qs P) (qs Q)) ∧ CB (gb M Q.length (max P.length Q.length + Q.length)) (comP (qs P) (qs Q))) := by
  obtain ⟨A1, c1, rfl, hc1, hm1⟩ := hv.form
  obtain ⟨A2, c2, rfl, hc2, hm2⟩ := hu.form
  refine (Spec.enter Try.func23 rfl fun Γ => ?_)
  simp only [Try.ntmps23, List.map_cons, List.map_nil, List.length_cons, List.length_nil, Nat.reduceAdd, Nat.reduceSub, List.replicate_succ, List.replicate_zero, List.cons_append, List.nil_append]
  first | refine XWP.reg (by kernel_rfl) fun K hK => ?_ | refine XWP.seq (XWP.reg (by kernel_rfl) fun K hK => ?_) | refine XWP.reg1 (by kernel_rfl) fun K hK => ?_
  simp only [XA, XB, gateX, Nat.reduceAdd, Nat.reduceLeDiff, Nat.reduceSub, Nat.reduceMul, ↓reduceIte, Int.reduceToNat, Int.reduceLE, beq_self_eq_true]
  refine hK _ ?_
  refine XWP.seq ?_
  first | refine XWP.reg (by kernel_rfl) fun K hK => ?_ | refine XWP.seq (XWP.reg (by kernel_rfl) fun K hK => ?_) | refine XWP.reg1 (by kernel_rfl) fun K hK => ?_
  simp only [XA, XB, gateX, Nat.reduceAdd, Nat.reduceLeDiff, Nat.reduceSub, Nat.reduceMul, ↓reduceIte, Int.reduceToNat, Int.reduceLE, beq_self_eq_true]
  refine call_go (by kernel_rfl) rfl (cright_c _ _ _ hv fP (by omega)) fun v1 V1 hV1 h1 => ?_
  subst h1
  cases e1 : rightP P
  · simp only [XA, XB, gateX, Nat.reduceAdd, Nat.reduceLeDiff, Nat.reduceSub, Nat.reduceMul, ↓reduceIte, Int.reduceToNat, Int.reduceLE, beq_self_eq_true]
    refine hK _ ?_
    first | refine XWP.cond (t := true) rfl (fun _ => ?_) (fun h => by cases h) | refine XWP.seq (XWP.cond (t := true) rfl (fun _ => ?_) (fun h => by cases h))
    first | refine XWP.reg (by kernel_rfl) fun K hK => ?_ | refine XWP.seq (XWP.reg (by kernel_rfl) fun K hK => ?_) | refine XWP.reg1 (by kernel_rfl) fun K hK => ?_
    simp only [XA, XB, gateX, Nat.reduceAdd, Nat.reduceLeDiff, Nat.reduceSub, Nat.reduceMul, ↓reduceIte, Int.reduceToNat, Int.reduceLE, beq_self_eq_true]
    refine hK _ (XWP.ret ?_)
    try simp only [thenX_ret, inBlockX_ret]
    refine ret_go _ rfl ?_
    have : bad2 P Q = true := by unfold bad2; rw [e1]; rfl
    exact ⟨fun _ => rfl, fun h => (by rw [this] at h; cases h), fun h => by rw [this] at h; cases h⟩
  simp only [XA, XB, gateX, Nat.reduceAdd, Nat.reduceLeDiff, Nat.reduceSub, Nat.reduceMul, ↓reduceIte, Int.reduceToNat, Int.reduceLE, beq_self_eq_true]
  refine call_go (by kernel_rfl) rfl (cright_c _ _ _ (hu.up hV1) fQ (by omega)) fun v2 V2 hV2 h2 => ?_
  subst h2
  cases e2 : rightP Q
  · simp only [XA, XB, gateX, Nat.reduceAdd, Nat.reduceLeDiff, Nat.reduceSub, Nat.reduceMul, ↓reduceIte, Int.reduceToNat, Int.reduceLE, beq_self_eq_true]
    refine hK _ ?_
    first | refine XWP.cond (t := true) rfl (fun _ => ?_) (fun h => by cases h) | refine XWP.seq (XWP.cond (t := true) rfl (fun _ => ?_) (fun h => by cases h))
    first | refine XWP.reg (by kernel_rfl) fun K hK => ?_ | refine XWP.seq (XWP.reg (by kernel_rfl) fun K hK => ?_) | refine XWP.reg1 (by kernel_rfl) fun K hK => ?_
    simp only [XA, XB, gateX, Nat.reduceAdd, Nat.reduceLeDiff, Nat.reduceSub, Nat.reduceMul, ↓reduceIte, Int.reduceToNat, Int.reduceLE, beq_self_eq_true]
    refine hK _ (XWP.ret ?_)
    try simp only [thenX_ret, inBlockX_ret]
    refine ret_go _ rfl ?_
    have : bad2 P Q = true := by unfold bad2; rw [e1, e2]; rfl
    exact ⟨fun _ => rfl, fun h => (by rw [this] at h; cases h), fun h => by rw [this] at h; cases h⟩
  have hb : bad2 P Q = false := by unfold bad2; rw [e1, e2]; rfl
  simp only [XA, XB, gateX, Nat.reduceAdd, Nat.reduceLeDiff, Nat.reduceSub, Nat.reduceMul, ↓reduceIte, Int.reduceToNat, Int.reduceLE, beq_self_eq_true]
  refine hK _ ?_
  first | refine XWP.cond (t := false) rfl (fun h => by cases h) (fun _ => ?_) | refine XWP.seq (XWP.cond (t := false) rfl (fun h => by cases h) (fun _ => ?_))
  refine XWP.skip ?_
  obtain ⟨k1, k2, k3⟩ := rightP_parts e1
  obtain ⟨k4, k5, k6⟩ := rightP_parts e2
  have hp := (Raws.rats hv k1).up (View.le_trans hV1 hV2)
  have hq := (Raws.rats hu k4).up (View.le_trans hV1 hV2)
  obtain ⟨f1, f2⟩ := hAB hb
  refine XWP.cut (fun s => StIs (fun τ => [.v (.slice A1 P.length c1), .v (.slice A2 Q.length c2), τ 2, τ 3, τ 4, τ 5, τ 6, τ 7, τ 8, τ 9, τ 10, τ 11, τ 12, τ 13, τ 14, τ 15, τ 16, τ 17, τ 18, τ 19, τ 20, τ 21, τ 22, τ 23, τ 24, τ 25, τ 26, τ 27, τ 28, τ 29, τ 30, τ 31, τ 32, τ 33, τ 34, τ 35, τ 36, τ 37]) [] (fun _ => none) V2 s ∧ ¬ (P.length = 0 ∧ Q.length = 0)) ?_ ?_
  · first | refine XWP.reg (by kernel_rfl) fun K hK => ?_ | refine XWP.seq (XWP.reg (by kernel_rfl) fun K hK => ?_) | refine XWP.reg1 (by kernel_rfl) fun K hK => ?_
    by_cases n1 : P.length = 0
    · have b1 : decide ((P.length : Int) = 0) = true := decide_eq_true (by omega)
      by_cases n2 : Q.length = 0
      · have b2 : decide ((Q.length : Int) = 0) = true := decide_eq_true (by omega)
        simp only [XA, XB, gateX, Nat.reduceAdd, Nat.reduceLeDiff, Nat.reduceSub, Nat.reduceMul, ↓reduceIte, Int.reduceToNat, Int.reduceLE, beq_self_eq_true, b1, b2]
        refine hK _ ?_
        first | refine XWP.cond (t := true) rfl (fun _ => ?_) (fun h => by cases h) | refine XWP.seq (XWP.cond (t := true) rfl (fun _ => ?_) (fun h => by cases h))
        first | refine XWP.reg (by kernel_rfl) fun K hK => ?_ | refine XWP.seq (XWP.reg (by kernel_rfl) fun K hK => ?_) | refine XWP.reg1 (by kernel_rfl) fun K hK => ?_
        simp only [XA, XB, gateX, Nat.reduceAdd, Nat.reduceLeDiff, Nat.reduceSub, Nat.reduceMul, ↓reduceIte, Int.reduceToNat, Int.reduceLE, beq_self_eq_true]
        refine hK _ (XWP.ret ?_)
        try simp only [thenX_ret, inBlockX_ret]
        refine ret_go _ rfl ?_
        exact ⟨fun h => (by rw [hb] at h; cases h), fun _ _ => rfl, fun _ h => absurd ⟨n1, n2⟩ h⟩
      · have b2 : decide ((Q.length : Int) = 0) = false := decide_eq_false (by omega)
        simp only [XA, XB, gateX, Nat.reduceAdd, Nat.reduceLeDiff, Nat.reduceSub, Nat.reduceMul, ↓reduceIte, Int.reduceToNat, Int.reduceLE, beq_self_eq_true, b1, b2]
        refine hK _ ?_
        first | refine XWP.cond (t := false) rfl (fun h => by cases h) (fun _ => ?_) | refine XWP.seq (XWP.cond (t := false) rfl (fun h => by cases h) (fun _ => ?_))
        refine XWP.skip ?_
        exact ⟨StIs.of (by exact rfl), fun h => n2 h.2⟩
    · have b1 : decide ((P.length : Int) = 0) = false := decide_eq_false (by omega)
      simp only [XA, XB, gateX, Nat.reduceAdd, Nat.reduceLeDiff, Nat.reduceSub, Nat.reduceMul, ↓reduceIte, Int.reduceToNat, Int.reduceLE, beq_self_eq_true, b1]
      refine hK _ ?_
      first | refine XWP.cond (t := false) rfl (fun h => by cases h) (fun _ => ?_) | refine XWP.seq (XWP.cond (t := false) rfl (fun h => by cases h) (fun _ => ?_))
      refine XWP.skip ?_
      exact ⟨StIs.of (by exact rfl), fun h => n1 h.1⟩
  rintro s ⟨hs, hne⟩
  obtain ⟨z, rfl⟩ := hs.out
  try dsimp only
  have hlP : (qs P).length = P.length := qs_len P
  have hlQ : (qs Q).length = Q.length := qs_len Q
  generalize qs P = p0 at *
  generalize qs Q = q0 at *
  generalize hmx : max P.length Q.length = mx at *
  refine XWP.cut (fun s => ∃ (V4 : View) (w : Value) (N r s' : Nat), StIs (fun τ => [.v w, τ 1, τ 2, τ 3, τ 4, τ 5, τ 6, τ 7, τ 8, τ 9, τ 10, τ 11, τ 12, τ 13, τ 14, τ 15, τ 16, τ 17, τ 18, τ 19, τ 20, τ 21, τ 22, τ 23, τ 24, τ 25, τ 26, τ 27, τ 28, τ 29, τ 30, τ 31, τ 32, τ 33, τ 34, τ 35, τ 36, τ 37]) [] (fun _ => none) V4 s ∧ Rats V4 w (comF (q0.length + 1) p0 q0) ∧ CB N (comF (q0.length + 1) p0 q0) ∧ PolQ (comF (q0.length + 1) p0 q0) ∧ 0 < (comF (q0.length + 1) p0 q0).length ∧ (comF (q0.length + 1) p0 q0).length ≤ 1000 ∧ 2 * N + 2 ≤ gb M Q.length (mx + Q.length)) ?_ ?_
  · first | refine XWP.block ?_ | refine XWP.seq (XWP.block ?_)
    refine XWP.loop (fun n s => ∃ (V4 : View) (wp wq : Value) (p q : List Rat) (N r s' : Nat), StIs (fun τ => [.v wp, .v wq, τ 2, τ 3, τ 4, τ 5, τ 6, τ 7, τ 8, τ 9, τ 10, τ 11, τ 12, τ 13, τ 14, τ 15, τ 16, τ 17, τ 18, τ 19, τ 20, τ 21, τ 22, τ 23, τ 24, τ 25, τ 26, τ 27, τ 28, τ 29, τ 30, τ 31, τ 32, τ 33, τ 34, τ 35, τ 36, τ 37]) [] (fun _ => none) V4 s ∧ n = q.length ∧ Rats V4 wp p ∧ Rats V4 wq q ∧ PolQ p ∧ PolQ q ∧ ¬ (p.length = 0 ∧ q.length = 0) ∧ CB N p ∧ CB N q ∧ N + 1 ≤ gb M r s' ∧ r + q.length ≤ Q.length ∧ s' + p.length ≤ mx + r ∧ (r = 0 ∧ s' = 0 ∧ p.length = P.length ∧ q.length = Q.length ∨ q.length < p.length) ∧ p.length ≤ 1000 ∧ comF (q.length + 1) p q = comF (q0.length + 1) p0 q0) q0.length ⟨V2, _, _, p0, q0, M, 0, 0, StIs.of (by exact rfl), rfl, hp, hq, k2, k5, by rw [hlP, hlQ]; exact hne, f1, f2, by rw [gb_zero]; omega, by omega, by omega, .inl ⟨rfl, rfl, hlP, hlQ⟩, by omega, rfl⟩ ?_
    clear hs z
    rintro n s ⟨V4, wp, wq, p, q, N, r, s', hs, hn, hwp, hwq, hpp, hqq, hne', hNp, hNq, hgb, hr, hs', hor, hpl, hcom⟩
    obtain ⟨z, rfl⟩ := hs.out
    try dsimp only
    obtain ⟨A5, c5, rfl, _, _⟩ := hwq.form
    refine XWP.seq ?_
    by_cases n2 : q.length = 0
    · have b2 : decide ((0 : Int) < (q.length : Int)) = false := decide_eq_false (by omega)
      first | refine XWP.reg (by kernel_rfl) fun K hK => ?_ | refine XWP.seq (XWP.reg (by kernel_rfl) fun K hK => ?_) | refine XWP.reg1 (by kernel_rfl) fun K hK => ?_
      simp only [XA, XB, gateX, Nat.reduceAdd, Nat.reduceLeDiff, Nat.reduceSub, Nat.reduceMul, ↓reduceIte, Int.reduceToNat, Int.reduceLE, beq_self_eq_true, b2]
      refine hK _ ?_
      first | refine XWP.cond (t := false) rfl (fun h => by cases h) (fun _ => ?_) | refine XWP.seq (XWP.cond (t := false) rfl (fun h => by cases h) (fun _ => ?_))
      refine XWP.exit ?_
      rw [comF_end (by omega)] at hcom
      subst hcom
      refine ⟨V4, wp, N, r, s', StIs.of (by exact rfl), hwp, hNp, hpp, by omega, hpl, ?_⟩
      rcases hor with ⟨h1, h2, h3, h4⟩ | h
      · subst h1; subst h2
        have h5 : gb M 0 (0 + 1) ≤ gb M Q.length (mx + Q.length) := gb_mono (by omega) (by omega)
        have h6 : gb M 0 (0 + 1) = 2 * (M + 1) := by simp [gb]
        rw [gb_zero] at hgb; omega
      · have h1 : gb M r (s' + 1) ≤ gb M Q.length (mx + Q.length) := gb_mono (by omega) (by omega)
        have h2 : gb M r (s' + 1) = 2 * gb M r s' := by
          unfold gb
          rw [Nat.pow_succ, Nat.mul_comm (2 ^ s') 2, Nat.mul_assoc 2, Nat.mul_left_comm]
        unfold comFit at hfit
        rw [hmx] at hfit
        omega
    · have b2 : decide ((0 : Int) < (q.length : Int)) = true := decide_eq_true (by omega)
      first | refine XWP.reg (by kernel_rfl) fun K hK => ?_ | refine XWP.seq (XWP.reg (by kernel_rfl) fun K hK => ?_) | refine XWP.reg1 (by kernel_rfl) fun K hK => ?_
      simp only [XA, XB, gateX, Nat.reduceAdd, Nat.reduceLeDiff, Nat.reduceSub, Nat.reduceMul, ↓reduceIte, Int.reduceToNat, Int.reduceLE, beq_self_eq_true, b2]
      refine hK _ ?_
      first | refine XWP.cond (t := true) rfl (fun _ => ?_) (fun h => by cases h) | refine XWP.seq (XWP.cond (t := true) rfl (fun _ => ?_) (fun h => by cases h))
      refine XWP.skip ?_
      first | refine XWP.block ?_ | refine XWP.seq (XWP.block ?_)
      have hk := gb_step (k := p.length - q.length + 1) hgb
      have hgm : gb M (r + 1) (s' + (p.length - q.length + 1)) ≤ gb M Q.length (mx + Q.length) := gb_mono (by omega) (by
        rcases hor with ⟨h1, h2, h3, h4⟩ | h <;> omega)
      unfold comFit at hfit
      rw [hmx] at hfit
      have hA : 5 * N + 4 ≤ 2 ^ (p.length - q.length + 1) * (5 * N + 4) := Nat.le_mul_of_pos_left _ (two_pos _)
      have hsl := scaledP_len hqq
      have hsc := scaledP_CB hNq
      have e5 : N + 2 * (2 * N + 1) + 2 = 5 * N + 4 := by omega
      first | refine XWP.reg (by kernel_rfl) fun K hK => ?_ | refine XWP.seq (XWP.reg (by kernel_rfl) fun K hK => ?_) | refine XWP.reg1 (by kernel_rfl) fun K hK => ?_
      simp only [XA, XB, gateX, Nat.reduceAdd, Nat.reduceLeDiff, Nat.reduceSub, Nat.reduceMul, ↓reduceIte, Int.reduceToNat, Int.reduceLE, beq_self_eq_true]
      refine call_go (by kernel_rfl) rfl (cscaled_c _ _ q N hwq hNq (by omega) (hqq (by omega)) (by omega) (by omega)) fun v5 V5 hV5 h5 => ?_
      simp only [XA, XB, gateX, Nat.reduceAdd, Nat.reduceLeDiff, Nat.reduceSub, Nat.reduceMul, ↓reduceIte, Int.reduceToNat, Int.reduceLE, beq_self_eq_true]
      refine call_go (by kernel_rfl) rfl (cdiv_c _ _ _ p (scaledP q) N (2 * N + 1) (hwp.up hV5) h5 hNp hsc (by omega) (by rw [scaledP_last hqq (by omega)]; exact one_ne) (by rw [hsl, e5]; omega) (by omega) (by omega)) fun v6 V6 hV6 h6 => ?_
      obtain ⟨wd, wr, rfl, h7, h8, h9⟩ := h6
      rw [hsl, e5] at h9
      simp only [XA, XB, gateX, Nat.reduceAdd, Nat.reduceLeDiff, Nat.reduceSub, Nat.reduceMul, ↓reduceIte, Int.reduceToNat, Int.reduceLE, beq_self_eq_true]
      refine hK _ ?_
      obtain ⟨hl1, hl2⟩ := com_less (p := p) hqq (by omega)
      first | refine XWP.reg (by kernel_rfl) fun K hK => ?_ | refine XWP.seq (XWP.reg (by kernel_rfl) fun K hK => ?_) | refine XWP.reg1 (by kernel_rfl) fun K hK => ?_
      simp only [XA, XB, gateX, Nat.reduceAdd, Nat.reduceLeDiff, Nat.reduceSub, Nat.reduceMul, ↓reduceIte, Int.reduceToNat, Int.reduceLE, beq_self_eq_true]
      refine hK _ ⟨_, by rw [hn]; exact hl1, V6, _, _, q, _, 2 ^ (p.length - q.length + 1) * (5 * N + 4), r + 1, s' + (p.length - q.length + 1), StIs.of (by exact rfl), rfl, (hwq.up hV5).up hV6, h8, hqq, hl2, fun h => by omega, hNq.mono (by omega), h9, hk, by omega, ?_, .inr hl1, by omega, ?_⟩
      · rcases hor with ⟨h1, h2, h3, h4⟩ | h <;> omega
      · rw [← comF_step hqq (by omega)]; exact hcom
  rintro s ⟨V4, w, N, r, s', hs, hw, hN, hpol, hpos, hl1000, hN2⟩
  obtain ⟨z, rfl⟩ := hs.out
  try dsimp only
  have hN3 : 2 * N + 2 ≤ 17592186044416 := by unfold comFit at hfit; rw [hmx] at hfit; omega
  first | refine XWP.reg (by kernel_rfl) fun K hK => ?_ | refine XWP.seq (XWP.reg (by kernel_rfl) fun K hK => ?_) | refine XWP.reg1 (by kernel_rfl) fun K hK => ?_
  simp only [XA, XB, gateX, Nat.reduceAdd, Nat.reduceLeDiff, Nat.reduceSub, Nat.reduceMul, ↓reduceIte, Int.reduceToNat, Int.reduceLE, beq_self_eq_true]
  refine call_go (by kernel_rfl) rfl (cscaled_c _ _ _ N hw hN hpos (hpol hpos) hN3 (by omega)) fun v5 V5 hV5 h5 => ?_
  simp only [XA, XB, gateX, Nat.reduceAdd, Nat.reduceLeDiff, Nat.reduceSub, Nat.reduceMul, ↓reduceIte, Int.reduceToNat, Int.reduceLE, beq_self_eq_true]
  refine hK _ (XWP.ret ?_)
  try simp only [thenX_ret, inBlockX_ret]
  refine ret_go _ rfl ?_
  exact ⟨fun h => (by rw [hb] at h; cases h), fun _ h => absurd h hne, fun _ _ => ⟨_, rfl, h5, (scaledP_CB hN).mono (by omega)⟩⟩
end Go.Proofs.Ythoboehbadmlmaa
end
section
namespace Go.Proofs.Ythoboehbadmlmaa
open Go Go.RowKit
set_option linter.unusedSimpArgs false
set_option linter.unusedVariables false
attribute [local irreducible] XWP Spec SpecO XPub XCall seqX clX apX stX ldX iaX slX
theorem dvalid_c (V : View) (v : Value) (l : List Raw) (h : Raws V v l) (f : fitR l) (ll : l.length ≤ 1000000) : Spec Try.prog 59 [v] V fun v' V' => v' = .bool (okR l) := by
  obtain ⟨A, c, rfl, hc, hm⟩ := h.form
  refine (Spec.enter Try.func59 rfl fun Γ => ?_)
  simp only [Try.ntmps59, List.map_cons, List.map_nil, List.length_cons, List.length_nil, Nat.reduceAdd, Nat.reduceSub, List.replicate_succ, List.replicate_zero, List.cons_append, List.nil_append]
  first | refine XWP.reg (by kernel_rfl) fun K hK => ?_ | refine XWP.seq (XWP.reg (by kernel_rfl) fun K hK => ?_) | refine XWP.reg1 (by kernel_rfl) fun K hK => ?_
  simp only [XA, XB, gateX, Nat.reduceAdd, Nat.reduceLeDiff, Nat.reduceSub, Nat.reduceMul, ↓reduceIte, Int.reduceToNat, Int.reduceLE, beq_self_eq_true]
  refine hK _ ?_
  refine XWP.cutD 0 (fun s => ∃ V2, StIs (fun τ => [τ 0, τ 1, τ 2, τ 3, τ 4, τ 5, τ 6, τ 7, τ 8, τ 9, τ 10, τ 11, τ 12, τ 13, τ 14]) [] (fun _ => none) V2 s ∧ okR l = true) ?_ ?_
  · first | refine XWP.reg (by kernel_rfl) fun K hK => ?_ | refine XWP.seq (XWP.reg (by kernel_rfl) fun K hK => ?_) | refine XWP.reg1 (by kernel_rfl) fun K hK => ?_
    simp only [XA, XB, gateX, Nat.reduceAdd, Nat.reduceLeDiff, Nat.reduceSub, Nat.reduceMul, ↓reduceIte, Int.reduceToNat, Int.reduceLE, beq_self_eq_true]
    refine hK _ ?_
    clear hK
    first | refine XWP.block ?_ | refine XWP.seq (XWP.block ?_)
    refine XWP.loopD 0 (fun n s => ∃ (k : Nat) (V2 : View), StIs (fun τ => [.v (.slice A l.length c), τ 1, τ 2, τ 3, τ 4, .v (.slice A l.length c), .v (.int .i64 (l.length : Int)), .v (.int .i64 (k : Int)), τ 8, τ 9, τ 10, τ 11, τ 12, τ 13, τ 14]) [] (fun _ => none) V2 s ∧ V.le V2 ∧ n + k = l.length ∧ okR (l.take k) = true) l.length ⟨0, V, StIs.of (by exact rfl), View.le_refl _, rfl, by simp [okR]⟩ ?_
    rintro n s ⟨k, V2, hs, hV2, hn, hk⟩
    obtain ⟨u, rfl⟩ := hs.out
    try dsimp only
    by_cases hlt : k < l.length
    · have b1 : decide ((k : Int) < (l.length : Int)) = true := decide_eq_true (by omega)
      first | refine XWP.reg (by kernel_rfl) fun K hK => ?_ | refine XWP.seq (XWP.reg (by kernel_rfl) fun K hK => ?_) | refine XWP.reg1 (by kernel_rfl) fun K hK => ?_
      simp only [XA, XB, gateX, Nat.reduceAdd, Nat.reduceLeDiff, Nat.reduceSub, Nat.reduceMul, ↓reduceIte, Int.reduceToNat, Int.reduceLE, beq_self_eq_true, b1]
      refine hK _ ?_
      first | refine XWP.cond (t := true) rfl (fun _ => ?_) (fun h => by cases h) | refine XWP.seq (XWP.cond (t := true) rfl (fun _ => ?_) (fun h => by cases h))
      refine XWP.skip ?_
      refine XWP.seq ?_
      first | refine XWP.block ?_ | refine XWP.seq (XWP.block ?_)
      first | refine XWP.reg (by kernel_rfl) fun K hK => ?_ | refine XWP.seq (XWP.reg (by kernel_rfl) fun K hK => ?_) | refine XWP.reg1 (by kernel_rfl) fun K hK => ?_
      have hv2 := Raws.up h hV2
      obtain ⟨b, o, rfl⟩ := SlAt.addr hv2 (by omega)
      obtain ⟨x, hx, ⟨m3, n3, d3, rfl, p1, p2, p3⟩, hld⟩ := SlAt.load hv2 k hlt
      simp only [XA, XB, gateX, Nat.reduceAdd, Nat.reduceLeDiff, Nat.reduceSub, Nat.reduceMul, ↓reduceIte, Int.reduceToNat, Int.reduceLE, beq_self_eq_true]
      refine ⟨by omega, by omega, ld_mem (hld _) ?_⟩
      simp only [XA, XB, gateX, Nat.reduceAdd, Nat.reduceLeDiff, Nat.reduceSub, Nat.reduceMul, ↓reduceIte, Int.reduceToNat, Int.reduceLE, beq_self_eq_true]
      refine st_rat rfl rfl p1 p2 p3 ?_
      simp only [XA, XB, gateX, Nat.reduceAdd, Nat.reduceLeDiff, Nat.reduceSub, Nat.reduceMul, ↓reduceIte, Int.reduceToNat, Int.reduceLE, beq_self_eq_true]
      refine hK _ ?_
      have ff := f _ (List.getElem_mem hlt)
      first | refine XWP.reg (by kernel_rfl) fun K hK => ?_ | refine XWP.seq (XWP.reg (by kernel_rfl) fun K hK => ?_) | refine XWP.reg1 (by kernel_rfl) fun K hK => ?_
      simp only [XA, XB, gateX, Nat.reduceAdd, Nat.reduceLeDiff, Nat.reduceSub, Nat.reduceMul, ↓reduceIte, Int.reduceToNat, Int.reduceLE, beq_self_eq_true]
      refine call_go (by kernel_rfl) rfl (pright_c _ _ _ _ _ hx ff.1 ff.2) fun v3 V3 hV3 h3 => ?_
      subst h3
      have et : l.take (k + 1) = l.take k ++ [l[k]] := by rw [List.take_succ_eq_append_getElem hlt]
      cases hr : rawOk l[k].m l[k].nd l[k].dd
      · simp only [XA, XB, gateX, Nat.reduceAdd, Nat.reduceLeDiff, Nat.reduceSub, Nat.reduceMul, ↓reduceIte, Int.reduceToNat, Int.reduceLE, beq_self_eq_true]
        refine hK _ ?_
        first | refine XWP.cond (t := true) rfl (fun _ => ?_) (fun h => by cases h) | refine XWP.seq (XWP.cond (t := true) rfl (fun _ => ?_) (fun h => by cases h))
        first | refine XWP.reg (by kernel_rfl) fun K hK => ?_ | refine XWP.seq (XWP.reg (by kernel_rfl) fun K hK => ?_) | refine XWP.reg1 (by kernel_rfl) fun K hK => ?_
        simp only [XA, XB, gateX, Nat.reduceAdd, Nat.reduceLeDiff, Nat.reduceSub, Nat.reduceMul, ↓reduceIte, Int.reduceToNat, Int.reduceLE, beq_self_eq_true]
        refine hK _ (XWP.ret ?_)
        try simp only [thenX_ret, inBlockX_ret]
        refine ret_go _ rfl ?_
        have : okR l = false := by
          unfold okR
          rw [List.all_eq_false]
          exact ⟨l[k], List.getElem_mem hlt, by unfold Raw.ok; rw [hr]; simp⟩
        rw [this]; rfl
      · simp only [XA, XB, gateX, Nat.reduceAdd, Nat.reduceLeDiff, Nat.reduceSub, Nat.reduceMul, ↓reduceIte, Int.reduceToNat, Int.reduceLE, beq_self_eq_true]
        refine hK _ ?_
        first | refine XWP.cond (t := false) rfl (fun h => by cases h) (fun _ => ?_) | refine XWP.seq (XWP.cond (t := false) rfl (fun h => by cases h) (fun _ => ?_))
        refine XWP.skip ?_
        first | refine XWP.reg (by kernel_rfl) fun K hK => ?_ | refine XWP.seq (XWP.reg (by kernel_rfl) fun K hK => ?_) | refine XWP.reg1 (by kernel_rfl) fun K hK => ?_
        simp only [XA, XB, gateX, Nat.reduceAdd, Nat.reduceLeDiff, Nat.reduceSub, Nat.reduceMul, ↓reduceIte, Int.reduceToNat, Int.reduceLE, beq_self_eq_true, i64_succ k (by omega)]
        refine hK _ ⟨n - 1, by omega, fun f => ⟨k + 1, V3, StIs.of (by exact rfl), View.le_trans hV2 hV3, by omega, ?_⟩⟩
        unfold okR at hk ⊢
        rw [et, List.all_append, hk]
        simp [Raw.ok, hr]
    · have b1 : decide ((k : Int) < (l.length : Int)) = false := decide_eq_false (by omega)
      first | refine XWP.reg (by kernel_rfl) fun K hK => ?_ | refine XWP.seq (XWP.reg (by kernel_rfl) fun K hK => ?_) | refine XWP.reg1 (by kernel_rfl) fun K hK => ?_
      simp only [XA, XB, gateX, Nat.reduceAdd, Nat.reduceLeDiff, Nat.reduceSub, Nat.reduceMul, ↓reduceIte, Int.reduceToNat, Int.reduceLE, beq_self_eq_true, b1]
      refine hK _ ?_
      first | refine XWP.cond (t := false) rfl (fun h => by cases h) (fun _ => ?_) | refine XWP.seq (XWP.cond (t := false) rfl (fun h => by cases h) (fun _ => ?_))
      refine XWP.exit ?_
      rw [List.take_of_length_le (by omega)] at hk
      exact fun f => ⟨V2, StIs.of (by exact rfl), hk⟩
  rintro s ⟨V2, hs, hk⟩
  obtain ⟨u, rfl⟩ := hs.out
  try dsimp only
  first | refine XWP.reg (by kernel_rfl) fun K hK => ?_ | refine XWP.seq (XWP.reg (by kernel_rfl) fun K hK => ?_) | refine XWP.reg1 (by kernel_rfl) fun K hK => ?_
  simp only [XA, XB, gateX, Nat.reduceAdd, Nat.reduceLeDiff, Nat.reduceSub, Nat.reduceMul, ↓reduceIte, Int.reduceToNat, Int.reduceLE, beq_self_eq_true]
  refine hK _ (XWP.ret ?_)
  try simp only [thenX_ret, inBlockX_ret]
  refine ret_go _ rfl ?_
  rw [hk]; rfl
/-- small enough for every operation -/
def qfR (l : List Raw) : Prop := okR l = true → ∀ x ∈ qs l, QF x
theorem dright_c (V : View) (v : Value) (l : List Raw) (h : Raws V v l) (f : fitR l) (ll : l.length ≤ 1000000) (hq : qfR l) : Spec Try.prog 33 [v] V fun v' V' => v' = .bool (rightP l) := by
  obtain ⟨A, c, rfl, hc, hm⟩ := h.form
  refine (Spec.enter Try.func33 rfl fun Γ => ?_)
  simp only [Try.ntmps33, List.map_cons, List.map_nil, List.length_cons, List.length_nil, Nat.reduceAdd, Nat.reduceSub, List.replicate_succ, List.replicate_zero, List.cons_append, List.nil_append]
  first | refine XWP.reg (by kernel_rfl) fun K hK => ?_ | refine XWP.seq (XWP.reg (by kernel_rfl) fun K hK => ?_) | refine XWP.reg1 (by kernel_rfl) fun K hK => ?_
  simp only [XA, XB, gateX, Nat.reduceAdd, Nat.reduceLeDiff, Nat.reduceSub, Nat.reduceMul, ↓reduceIte, Int.reduceToNat, Int.reduceLE, beq_self_eq_true]
  refine hK _ ?_
  first | refine XWP.reg (by kernel_rfl) fun K hK => ?_ | refine XWP.seq (XWP.reg (by kernel_rfl) fun K hK => ?_) | refine XWP.reg1 (by kernel_rfl) fun K hK => ?_
  by_cases h1 : l.length ≤ 1000
  · have b1 : decide ((l.length : Int) ≤ 1000) = true := decide_eq_true (by omega)
    simp only [XA, XB, gateX, Nat.reduceAdd, Nat.reduceLeDiff, Nat.reduceSub, Nat.reduceMul, ↓reduceIte, Int.reduceToNat, Int.reduceLE, beq_self_eq_true, b1]
    refine call_go (by kernel_rfl) rfl (dvalid_c _ _ _ h f ll) fun v1 V1 hV1 h1' => ?_
    subst h1'
    cases hk : okR l
    · simp only [XA, XB, gateX, Nat.reduceAdd, Nat.reduceLeDiff, Nat.reduceSub, Nat.reduceMul, ↓reduceIte, Int.reduceToNat, Int.reduceLE, beq_self_eq_true]
      refine hK _ (XWP.ret ?_)
      try simp only [thenX_ret, inBlockX_ret]
      refine ret_go _ rfl ?_
      unfold rightP; rw [hk, decide_eq_true h1]; rfl
    by_cases h0 : l.length = 0
    · have b2 : decide ((l.length : Int) = 0) = true := decide_eq_true (by omega)
      simp only [XA, XB, gateX, Nat.reduceAdd, Nat.reduceLeDiff, Nat.reduceSub, Nat.reduceMul, ↓reduceIte, Int.reduceToNat, Int.reduceLE, beq_self_eq_true, b2]
      refine hK _ (XWP.ret ?_)
      try simp only [thenX_ret, inBlockX_ret]
      refine ret_go _ rfl ?_
      unfold rightP polB; rw [hk, decide_eq_true h1, decide_eq_true (p := (qs l).length = 0) (by rw [qs_len]; exact h0)]; rfl
    · have b2 : decide ((l.length : Int) = 0) = false := decide_eq_false (by omega)
      have w1 := i64_pred l.length (by omega) (by omega)
      have hr := (Raws.rats h hk).up hV1
      obtain ⟨b, o, rfl⟩ := h.addr (by omega)
      obtain ⟨m3, n3, d3, hx, ⟨p1, p2, p3⟩, hld⟩ := Rats.get hr (l.length - 1) (by rw [qs_len]; omega)
      simp only [XA, XB, gateX, Nat.reduceAdd, Nat.reduceLeDiff, Nat.reduceSub, Nat.reduceMul, ↓reduceIte, Int.reduceToNat, Int.reduceLE, beq_self_eq_true, b2, w1]
      refine ⟨by omega, by omega, ld_mem (hld _) ?_⟩
      simp only [XA, XB, gateX, Nat.reduceAdd, Nat.reduceLeDiff, Nat.reduceSub, Nat.reduceMul, ↓reduceIte, Int.reduceToNat, Int.reduceLE, beq_self_eq_true]
      refine call_go (by kernel_rfl) rfl (psign_c _ _ _ (hx.toV (hq hk _ (cf_mem (by rw [qs_len]; omega))))) fun v2 V2 hV2 h2 => ?_
      subst h2
      simp only [XA, XB, gateX, Nat.reduceAdd, Nat.reduceLeDiff, Nat.reduceSub, Nat.reduceMul, ↓reduceIte, Int.reduceToNat, Int.reduceLE, beq_self_eq_true, sgI_zero]
      refine hK _ (XWP.ret ?_)
      try simp only [thenX_ret, inBlockX_ret]
      refine ret_go _ rfl ?_
      unfold rightP polB; rw [hk, decide_eq_true h1, qs_len, decide_eq_false (p := l.length = 0) h0]; rfl
  · have b1 : decide ((l.length : Int) ≤ 1000) = false := decide_eq_false (by omega)
    simp only [XA, XB, gateX, Nat.reduceAdd, Nat.reduceLeDiff, Nat.reduceSub, Nat.reduceMul, ↓reduceIte, Int.reduceToNat, Int.reduceLE, beq_self_eq_true, b1]
    refine hK _ (XWP.ret ?_)
    try simp only [thenX_ret, inBlockX_ret]
    refine ret_go _ rfl ?_
    unfold rightP; rw [decide_eq_false h1]; rfl
theorem dcut_c (V : View) (v : Value) (l : List Rat) (h : Rats V v l) (hq : ∀ x ∈ l, QF x) (ll : l.length ≤ 1000000) : Spec Try.prog 92 [v] V fun v' V' => Rats V' v' (trimQ l) := by
  obtain ⟨A, c, rfl, hc, hm⟩ := h.form
  refine (Spec.enter Try.func92 rfl fun Γ => ?_)
  simp only [Try.ntmps92, List.map_cons, List.map_nil, List.length_cons, List.length_nil, Nat.reduceAdd, Nat.reduceSub, List.replicate_succ, List.replicate_zero, List.cons_append, List.nil_append]
  first | refine XWP.reg (by kernel_rfl) fun K hK => ?_ | refine XWP.seq (XWP.reg (by kernel_rfl) fun K hK => ?_) | refine XWP.reg1 (by kernel_rfl) fun K hK => ?_
  simp only [XA, XB, gateX, Nat.reduceAdd, Nat.reduceLeDiff, Nat.reduceSub, Nat.reduceMul, ↓reduceIte, Int.reduceToNat, Int.reduceLE, beq_self_eq_true]
  refine hK _ ?_
  first | refine XWP.reg (by kernel_rfl) fun K hK => ?_ | refine XWP.seq (XWP.reg (by kernel_rfl) fun K hK => ?_) | refine XWP.reg1 (by kernel_rfl) fun K hK => ?_
  simp only [XA, XB, gateX, Nat.reduceAdd, Nat.reduceLeDiff, Nat.reduceSub, Nat.reduceMul, ↓reduceIte, Int.reduceToNat, Int.reduceLE, beq_self_eq_true]
  refine hK _ ?_
  clear hK
  refine XWP.cut (fun s => ∃ (k : Nat) (V2 : View), StIs (fun τ => [.v (.slice A l.length c), τ 1, τ 2, .v (.int .i64 (k : Int)), τ 4, τ 5, τ 6, τ 7, τ 8, τ 9, τ 10, τ 11, τ 12, τ 13, τ 14, τ 15, τ 16, τ 17, τ 18, τ 19, τ 20, τ 21, τ 22, τ 23]) [] (fun _ => none) V2 s ∧ V.le V2 ∧ k ≤ l.length ∧ l.take k = trimQ l) ?_ ?_
  · first | refine XWP.block ?_ | refine XWP.seq (XWP.block ?_)
    refine XWP.loop (fun k s => ∃ (V2 : View), StIs (fun τ => [.v (.slice A l.length c), τ 1, τ 2, .v (.int .i64 (k : Int)), τ 4, τ 5, τ 6, τ 7, τ 8, τ 9, τ 10, τ 11, τ 12, τ 13, τ 14, τ 15, τ 16, τ 17, τ 18, τ 19, τ 20, τ 21, τ 22, τ 23]) [] (fun _ => none) V2 s ∧ V.le V2 ∧ k ≤ l.length ∧ trimQ (l.take k) = trimQ l) l.length ⟨V, StIs.of (by exact rfl), View.le_refl _, Nat.le_refl _, by simp⟩ ?_
    rintro k s ⟨V2, hs, hV2, hk, ht⟩
    obtain ⟨u, rfl⟩ := hs.out
    try dsimp only
    refine XWP.seq ?_
    by_cases h0 : k = 0
    · subst h0
      have b1 : decide ((0 : Int) < ((0 : Nat) : Int)) = false := decide_eq_false (by omega)
      first | refine XWP.reg (by kernel_rfl) fun K hK => ?_ | refine XWP.seq (XWP.reg (by kernel_rfl) fun K hK => ?_) | refine XWP.reg1 (by kernel_rfl) fun K hK => ?_
      simp only [XA, XB, gateX, Nat.reduceAdd, Nat.reduceLeDiff, Nat.reduceSub, Nat.reduceMul, ↓reduceIte, Int.reduceToNat, Int.reduceLE, beq_self_eq_true, b1]
      refine hK _ ?_
      first | refine XWP.cond (t := false) rfl (fun h => by cases h) (fun _ => ?_) | refine XWP.seq (XWP.cond (t := false) rfl (fun h => by cases h) (fun _ => ?_))
      refine XWP.exit ?_
      exact ⟨0, V2, StIs.of (by exact rfl), hV2, hk, ht⟩
    · have b1 : decide ((0 : Int) < (k : Int)) = true := decide_eq_true (by omega)
      obtain ⟨b, o, rfl⟩ := h.addr (by omega)
      obtain ⟨m, n, d, hx, ⟨o1, o2, o3⟩, hld⟩ := Rats.get (h.up hV2) (k - 1) (by omega)
      have w1 := i64_pred k (by omega) (by omega)
      have ek : l.take k = l.take (k - 1) ++ [cf l (k - 1)] := by rw [← takeQ_snoc (by omega)]; congr 1; omega
      first | refine XWP.reg (by kernel_rfl) fun K hK => ?_ | refine XWP.seq (XWP.reg (by kernel_rfl) fun K hK => ?_) | refine XWP.reg1 (by kernel_rfl) fun K hK => ?_
      simp only [XA, XB, gateX, Nat.reduceAdd, Nat.reduceLeDiff, Nat.reduceSub, Nat.reduceMul, ↓reduceIte, Int.reduceToNat, Int.reduceLE, beq_self_eq_true, b1, w1]
      refine ⟨by omega, by omega, ld_mem (hld _) ?_⟩
      simp only [XA, XB, gateX, Nat.reduceAdd, Nat.reduceLeDiff, Nat.reduceSub, Nat.reduceMul, ↓reduceIte, Int.reduceToNat, Int.reduceLE, beq_self_eq_true]
      refine call_go (by kernel_rfl) rfl (psign_c _ _ _ (hx.toV (hq _ (cf_mem (by omega))))) fun v3 V3 hV3 h3 => ?_
      subst h3
      by_cases hz : cf l (k - 1) = 0
      · have b2 : decide (cf l (k - 1) = 0) = true := decide_eq_true hz
        simp only [XA, XB, gateX, Nat.reduceAdd, Nat.reduceLeDiff, Nat.reduceSub, Nat.reduceMul, ↓reduceIte, Int.reduceToNat, Int.reduceLE, beq_self_eq_true, sgI_zero, b2]
        refine hK _ ?_
        first | refine XWP.cond (t := true) rfl (fun _ => ?_) (fun h => by cases h) | refine XWP.seq (XWP.cond (t := true) rfl (fun _ => ?_) (fun h => by cases h))
        refine XWP.skip ?_
        first | refine XWP.block ?_ | refine XWP.seq (XWP.block ?_)
        first | refine XWP.reg (by kernel_rfl) fun K hK => ?_ | refine XWP.seq (XWP.reg (by kernel_rfl) fun K hK => ?_) | refine XWP.reg1 (by kernel_rfl) fun K hK => ?_
        simp only [XA, XB, gateX, Nat.reduceAdd, Nat.reduceLeDiff, Nat.reduceSub, Nat.reduceMul, ↓reduceIte, Int.reduceToNat, Int.reduceLE, beq_self_eq_true, w1]
        refine hK _ ⟨k - 1, by omega, V3, StIs.of (by exact rfl), View.le_trans hV2 hV3, by omega, ?_⟩
        rw [← ht, ek, hz, trimQ_snoc_zero]
      · have b2 : decide (cf l (k - 1) = 0) = false := decide_eq_false hz
        simp only [XA, XB, gateX, Nat.reduceAdd, Nat.reduceLeDiff, Nat.reduceSub, Nat.reduceMul, ↓reduceIte, Int.reduceToNat, Int.reduceLE, beq_self_eq_true, sgI_zero, b2]
        refine hK _ ?_
        first | refine XWP.cond (t := false) rfl (fun h => by cases h) (fun _ => ?_) | refine XWP.seq (XWP.cond (t := false) rfl (fun h => by cases h) (fun _ => ?_))
        refine XWP.exit ?_
        refine ⟨k, V3, StIs.of (by exact rfl), View.le_trans hV2 hV3, hk, ?_⟩
        rw [← ht, ek, trimQ_snoc _ _ hz]
  rintro s ⟨k, V2, hs, hV2, hk, ht⟩
  obtain ⟨u, rfl⟩ := hs.out
  try dsimp only
  obtain ⟨cells, hrow, hsrc⟩ := SlAt.src (SlAt.take (h.up hV2) hk)
  have hkl : (l.take k).length = k := by simp [Nat.min_eq_left hk]
  rw [hkl] at hsrc
  first | refine XWP.reg (by kernel_rfl) fun K hK => ?_ | refine XWP.seq (XWP.reg (by kernel_rfl) fun K hK => ?_) | refine XWP.reg1 (by kernel_rfl) fun K hK => ?_
  refine bs_go (by kernel_rfl) #[] (by simp) (bs_zero elemT_40 zeroT_34) fun b hb1 hb2 => ?_
  simp only [XA, XB, gateX, Nat.reduceAdd, Nat.reduceLeDiff, Nat.reduceSub, Nat.reduceMul, ↓reduceIte, Int.reduceToNat, Int.reduceLE, beq_self_eq_true]
  refine ⟨by omega, by omega, by omega, ?_⟩
  refine ap_go elemT_40 (by kernel_rfl) zeroT_34 rfl (by omega) (n := 0) (xs := []) (own3 (by simp [upd]) rfl (Nat.le_refl _) (by omega)) (hsrc _) (by omega) (by omega) fun v' H' hres => ?_
  simp only [XA, XB, gateX, Nat.reduceAdd, Nat.reduceLeDiff, Nat.reduceSub, Nat.reduceMul, ↓reduceIte, Int.reduceToNat, Int.reduceLE, beq_self_eq_true]
  refine hK _ (XWP.ret ?_)
  try simp only [thenX_ret, inBlockX_ret]
  obtain ⟨hown, _, _⟩ := hres
  simp only [List.nil_append, Nat.zero_add] at hown
  rw [← ht]
  rcases own_parts hown with ⟨rfl, hn, _⟩ | ⟨g, cap, rfl, hg, hle, hcap, _⟩
  · refine ret_go _ rfl ?_
    have : k = 0 := hn
    subst this
    rw [List.take_zero]; exact SlAt.nil _
  · refine ret_pub g _ hg fun o ho hle' => ret_go _ rfl ?_
    exact hrow.pub ratE_ok ho hle' hkl hle (by unfold maxLen at hcap; omega)
def cfZ (l : List Rat) (i : Int) : Rat := if i < 0 then 0 else cf l i.toNat
theorem cfZ_nat (l : List Rat) (i : Nat) : cfZ l (i : Int) = cf l i := by unfold cfZ; rw [if_neg (by omega)]; rfl
theorem dat_c (V : View) (v : Value) (l : List Rat) (i : Int) (h : Rats V v l) (hi : i ≤ 4611686018427387904) : Spec Try.prog 94 [v, .int .i64 i] V fun v' V' => RatC V' v' (cfZ l i) := by
  obtain ⟨A, c, rfl, hc, hm⟩ := h.form
  refine (Spec.enter Try.func94 rfl fun Γ => ?_)
  simp only [Try.ntmps94, List.map_cons, List.map_nil, List.length_cons, List.length_nil, Nat.reduceAdd, Nat.reduceSub, List.replicate_succ, List.replicate_zero, List.cons_append, List.nil_append]
  first | refine XWP.reg (by kernel_rfl) fun K hK => ?_ | refine XWP.seq (XWP.reg (by kernel_rfl) fun K hK => ?_) | refine XWP.reg1 (by kernel_rfl) fun K hK => ?_
  simp only [XA, XB, gateX, Nat.reduceAdd, Nat.reduceLeDiff, Nat.reduceSub, Nat.reduceMul, ↓reduceIte, Int.reduceToNat, Int.reduceLE, beq_self_eq_true]
  refine hK _ ?_
  refine XWP.seq ?_
  by_cases h0 : i < 0
  · have b1 : decide (i < 0) = true := decide_eq_true h0
    first | refine XWP.reg (by kernel_rfl) fun K hK => ?_ | refine XWP.seq (XWP.reg (by kernel_rfl) fun K hK => ?_) | refine XWP.reg1 (by kernel_rfl) fun K hK => ?_
    simp only [XA, XB, gateX, Nat.reduceAdd, Nat.reduceLeDiff, Nat.reduceSub, Nat.reduceMul, ↓reduceIte, Int.reduceToNat, Int.reduceLE, beq_self_eq_true, b1]
    refine hK _ ?_
    first | refine XWP.cond (t := true) rfl (fun _ => ?_) (fun h => by cases h) | refine XWP.seq (XWP.cond (t := true) rfl (fun _ => ?_) (fun h => by cases h))
    first | refine XWP.reg (by kernel_rfl) fun K hK => ?_ | refine XWP.seq (XWP.reg (by kernel_rfl) fun K hK => ?_) | refine XWP.reg1 (by kernel_rfl) fun K hK => ?_
    simp only [XA, XB, gateX, Nat.reduceAdd, Nat.reduceLeDiff, Nat.reduceSub, Nat.reduceMul, ↓reduceIte, Int.reduceToNat, Int.reduceLE, beq_self_eq_true]
    refine call_go (by kernel_rfl) rfl (pzero_c _) fun v1 V1 hV1 h1 => ?_
    obtain ⟨x, y, rfl, hx, hy⟩ := h1
    simp only [XA, XB, gateX, Nat.reduceAdd, Nat.reduceLeDiff, Nat.reduceSub, Nat.reduceMul, ↓reduceIte, Int.reduceToNat, Int.reduceLE, beq_self_eq_true]
    refine st_rat rfl rfl rfl hx.one hy.one ?_
    simp only [XA, XB, gateX, Nat.reduceAdd, Nat.reduceLeDiff, Nat.reduceSub, Nat.reduceMul, ↓reduceIte, Int.reduceToNat, Int.reduceLE, beq_self_eq_true]
    refine hK _ (XWP.ret ?_)
    try simp only [thenX_ret, inBlockX_ret]
    refine ret_rat1 rfl rfl rfl ?_
    unfold cfZ; rw [if_pos h0]
    exact ⟨_, _, rfl, hx, hy⟩
  have b1 : decide (i < 0) = false := decide_eq_false h0
  obtain ⟨k, rfl⟩ := Int.eq_ofNat_of_zero_le (show 0 ≤ i by omega)
  rw [cfZ_nat]
  by_cases hlt : k < l.length
  · have b2 : decide ((l.length : Int) ≤ (k : Int)) = false := decide_eq_false (by omega)
    obtain ⟨b, o, rfl⟩ := h.addr (by omega)
    obtain ⟨m, n, d, hx, ⟨o1, o2, o3⟩, hld⟩ := Rats.get h k hlt
    first | refine XWP.reg (by kernel_rfl) fun K hK => ?_ | refine XWP.seq (XWP.reg (by kernel_rfl) fun K hK => ?_) | refine XWP.reg1 (by kernel_rfl) fun K hK => ?_
    simp only [XA, XB, gateX, Nat.reduceAdd, Nat.reduceLeDiff, Nat.reduceSub, Nat.reduceMul, ↓reduceIte, Int.reduceToNat, Int.reduceLE, beq_self_eq_true, b1, b2]
    refine hK _ ?_
    first | refine XWP.cond (t := false) rfl (fun h => by cases h) (fun _ => ?_) | refine XWP.seq (XWP.cond (t := false) rfl (fun h => by cases h) (fun _ => ?_))
    refine XWP.skip ?_
    first | refine XWP.reg (by kernel_rfl) fun K hK => ?_ | refine XWP.seq (XWP.reg (by kernel_rfl) fun K hK => ?_) | refine XWP.reg1 (by kernel_rfl) fun K hK => ?_
    simp only [XA, XB, gateX, Nat.reduceAdd, Nat.reduceLeDiff, Nat.reduceSub, Nat.reduceMul, ↓reduceIte, Int.reduceToNat, Int.reduceLE, beq_self_eq_true]
    refine ⟨by omega, by omega, ld_mem (hld _) ?_⟩
    simp only [XA, XB, gateX, Nat.reduceAdd, Nat.reduceLeDiff, Nat.reduceSub, Nat.reduceMul, ↓reduceIte, Int.reduceToNat, Int.reduceLE, beq_self_eq_true]
    refine st_rat rfl rfl o1 o2 o3 ?_
    simp only [XA, XB, gateX, Nat.reduceAdd, Nat.reduceLeDiff, Nat.reduceSub, Nat.reduceMul, ↓reduceIte, Int.reduceToNat, Int.reduceLE, beq_self_eq_true]
    refine hK _ (XWP.ret ?_)
    try simp only [thenX_ret, inBlockX_ret]
    exact ret_rat1 rfl rfl rfl hx
  · have b2 : decide ((l.length : Int) ≤ (k : Int)) = true := decide_eq_true (by omega)
    first | refine XWP.reg (by kernel_rfl) fun K hK => ?_ | refine XWP.seq (XWP.reg (by kernel_rfl) fun K hK => ?_) | refine XWP.reg1 (by kernel_rfl) fun K hK => ?_
    simp only [XA, XB, gateX, Nat.reduceAdd, Nat.reduceLeDiff, Nat.reduceSub, Nat.reduceMul, ↓reduceIte, Int.reduceToNat, Int.reduceLE, beq_self_eq_true, b1, b2]
    refine hK _ ?_
    first | refine XWP.cond (t := true) rfl (fun _ => ?_) (fun h => by cases h) | refine XWP.seq (XWP.cond (t := true) rfl (fun _ => ?_) (fun h => by cases h))
    first | refine XWP.reg (by kernel_rfl) fun K hK => ?_ | refine XWP.seq (XWP.reg (by kernel_rfl) fun K hK => ?_) | refine XWP.reg1 (by kernel_rfl) fun K hK => ?_
    simp only [XA, XB, gateX, Nat.reduceAdd, Nat.reduceLeDiff, Nat.reduceSub, Nat.reduceMul, ↓reduceIte, Int.reduceToNat, Int.reduceLE, beq_self_eq_true]
    refine call_go (by kernel_rfl) rfl (pzero_c _) fun v1 V1 hV1 h1 => ?_
    obtain ⟨x, y, rfl, hx, hy⟩ := h1
    simp only [XA, XB, gateX, Nat.reduceAdd, Nat.reduceLeDiff, Nat.reduceSub, Nat.reduceMul, ↓reduceIte, Int.reduceToNat, Int.reduceLE, beq_self_eq_true]
    refine st_rat rfl rfl rfl hx.one hy.one ?_
    simp only [XA, XB, gateX, Nat.reduceAdd, Nat.reduceLeDiff, Nat.reduceSub, Nat.reduceMul, ↓reduceIte, Int.reduceToNat, Int.reduceLE, beq_self_eq_true]
    refine hK _ (XWP.ret ?_)
    try simp only [thenX_ret, inBlockX_ret]
    refine ret_rat1 rfl rfl rfl ?_
    rw [cf_none (by omega)]
    exact ⟨_, _, rfl, hx, hy⟩
end Go.Proofs.Ythoboehbadmlmaa
end
section
namespace Go.Proofs.Ythoboehbadmlmaa
set_option linter.unusedVariables false
def prodP (p q : List Rat) : List Rat := trimQ (mk (p.length + q.length - 1) fun i => offS q p i (i + 1))
def partF (q : List Rat) : Nat → List Rat → List Rat → List Rat × List Rat
  | 0, quo, rest => (quo, rest)
  | n + 1, quo, rest => if q.length ≤ rest.length then partF q n (pAdd quo [1] (topQ rest q) (rest.length - q.length)) (pAdd rest q (-topQ rest q) (rest.length - q.length)) else (quo, rest)
def partP (p q : List Rat) : List Rat × List Rat := partF q ((trimQ p).length + 1) [] (trimQ p)
theorem partF_fuel {q : List Rat} (hq : 0 < q.length) (hl : cf q (q.length - 1) ≠ 0) : ∀ (n m : Nat) (quo rest : List Rat), rest.length < n → rest.length < m → partF q n quo rest = partF q m quo rest := by
  intro n
  induction n with
  | zero => intro m quo rest h; omega
  | succ n ih =>
    intro m quo rest h1 h2
    obtain ⟨m, rfl⟩ : ∃ k, m = k + 1 := ⟨m - 1, by omega⟩
    rw [partF, partF]
    split
    · rename_i h
      have := div_less hq hl h
      exact ih m _ _ (by omega) (by omega)
    · rfl
theorem partF_step {q : List Rat} (hq : 0 < q.length) (hl : cf q (q.length - 1) ≠ 0) {quo rest : List Rat} (h : q.length ≤ rest.length) : partF q (rest.length + 1) quo rest = partF q ((pAdd rest q (-topQ rest q) (rest.length - q.length)).length + 1) (pAdd quo [1] (topQ rest q) (rest.length - q.length)) (pAdd rest q (-topQ rest q) (rest.length - q.length)) := by
  have h1 := div_less hq hl h
  rw [partF, if_pos h]
  exact partF_fuel hq hl _ _ _ _ (by omega) (by omega)
theorem partF_end {q quo rest : List Rat} (h : ¬ q.length ≤ rest.length) : partF q (rest.length + 1) quo rest = (quo, rest) := by rw [partF, if_neg h]
theorem partF_rest {q : List Rat} (hq : 0 < q.length) (hl : cf q (q.length - 1) ≠ 0) : ∀ (n : Nat) (quo rest : List Rat), rest.length < n → PolQ rest → (partF q n quo rest).2.length < q.length ∧ PolQ (partF q n quo rest).2 := by
  intro n
  induction n with
  | zero => intro quo rest h; omega
  | succ n ih =>
    intro quo rest h hp
    rw [partF]
    split
    · rename_i hle
      have := div_less hq hl hle
      exact ih _ _ (by omega) (pAdd_pol _ _ _ _)
    · rename_i hle
      exact ⟨Nat.lt_of_not_le hle, hp⟩
theorem partP_rest {p q : List Rat} (hq : PolQ q) (h0 : 0 < q.length) : (partP p q).2.length < q.length ∧ PolQ (partP p q).2 :=
  partF_rest h0 (hq h0) _ _ _ (by omega) (trimQ_pol _)
def comR : Nat → List Rat → List Rat → List Rat
  | 0, p, _ => p
  | n + 1, p, q => if 0 < q.length then comR n q (partP p q).2 else p
def comRP (p q : List Rat) : List Rat := scaledP (comR (q.length + 1) p q)
theorem comR_fuel : ∀ (n m : Nat) (p q : List Rat), PolQ q → q.length < n → q.length < m → comR n p q = comR m p q := by
  intro n
  induction n with
  | zero => intro m p q _ h; omega
  | succ n ih =>
    intro m p q hq h1 h2
    obtain ⟨m, rfl⟩ : ∃ k, m = k + 1 := ⟨m - 1, by omega⟩
    rw [comR, comR]
    split
    · rename_i h0
      obtain ⟨h3, h4⟩ := partP_rest (p := p) hq h0
      exact ih m _ _ h4 (by omega) (by omega)
    · rfl
theorem comR_step {p q : List Rat} (hq : PolQ q) (h0 : 0 < q.length) : comR (q.length + 1) p q = comR ((partP p q).2.length + 1) q (partP p q).2 := by
  obtain ⟨h3, h4⟩ := partP_rest (p := p) hq h0
  rw [comR, if_pos h0]
  exact comR_fuel _ _ _ _ h4 (by omega) (by omega)
theorem comR_end {p q : List Rat} (h : ¬ 0 < q.length) : comR (q.length + 1) p q = p := by rw [comR, if_neg h]
theorem mk_succ (n : Nat) (f : Nat → Rat) : mk (n + 1) f = mk n f ++ [f n] := by unfold mk; rw [List.range_succ, List.map_append]; rfl
theorem CB_mk {B : Nat} {D : Nat} (hD : 0 < D) (h2 : D ≤ 2 ^ B) (n : Nat) {f : Nat → Rat} (h : ∀ i, i < n → Over D B (f i)) : CB B (mk n f) := ⟨D, hD, h2, fun i => by
  rw [cf_mk]
  split
  · rename_i hi; exact h i hi
  · exact Over.zero _ _⟩
end Go.Proofs.Ythoboehbadmlmaa
end
section
namespace Go.Proofs.Ythoboehbadmlmaa
open Go Go.RowKit
set_option linter.unusedSimpArgs false
set_option linter.unusedVariables false
attribute [local irreducible] XWP Spec SpecO XPub XCall seqX clX apX stX ldX iaX slX
theorem src3 {H : Heap} {V : View} {b e tot : Nat} {m n d : Value} (hr : H b = some ⟨e, [m, n, d], tot⟩) (h1 : isOne m = true) (h2 : isOne n = true) (h3 : isOne d = true) : Src H V 3 (.slice (some ⟨b, 0, none⟩) 1 1) 1 [m, n, d] :=
  RowAt.src (E := optE ratE) (xs := [none]) (RowAt.snoc (RowAt.nil V) (x := none) h1 h2 h3 trivial) hr rfl
theorem cfZ_sub (q : List Rat) (k up : Nat) : cfZ q ((k : Int) - (up : Int)) = if up ≤ k then cf q (k - up) else 0 := by
  unfold cfZ
  by_cases h : up ≤ k
  · rw [if_neg (by omega), if_pos h]; congr 1; omega
  · rw [if_pos (by omega), if_neg h]
theorem dsum_c (V : View) (v u w : Value) (p q : List Rat) (c : Rat) (up A B C : Nat) (hv : Rats V v p) (hu : Rats V u q) (hw : RatC V w c) (hp : CB A p) (hq : CB B q) (hc : QB C c) (hABC : A + B + C + 2 ≤ 17592186044416) (lp : p.length ≤ 1000000) (lq : q.length + up ≤ 1000000) :
    Spec Try.prog 76 [v, u, w, .int .i64 (up : Int)] V fun v' V' => Rats V' v' (pAdd p q c up) := by
  obtain ⟨A1, c1, rfl, hc1, hm1⟩ := hv.form
  obtain ⟨A2, c2, rfl, hc2, hm2⟩ := hu.form
  obtain ⟨xw, yw, rfl, ow1, ow2⟩ := hw.form
  obtain ⟨N, hN⟩ : ∃ N, N = max p.length (q.length + up) := ⟨_, rfl⟩
  refine (Spec.enter Try.func76 rfl fun Γ => ?_)
  simp only [Try.ntmps76, List.map_cons, List.map_nil, List.length_cons, List.length_nil, Nat.reduceAdd, Nat.reduceSub, List.replicate_succ, List.replicate_zero, List.cons_append, List.nil_append]
  first | refine XWP.reg (by kernel_rfl) fun K hK => ?_ | refine XWP.seq (XWP.reg (by kernel_rfl) fun K hK => ?_) | refine XWP.reg1 (by kernel_rfl) fun K hK => ?_
  simp only [XA, XB, gateX, Nat.reduceAdd, Nat.reduceLeDiff, Nat.reduceSub, Nat.reduceMul, ↓reduceIte, Int.reduceToNat, Int.reduceLE, beq_self_eq_true]
  refine hK _ ?_
  first | refine XWP.reg (by kernel_rfl) fun K hK => ?_ | refine XWP.seq (XWP.reg (by kernel_rfl) fun K hK => ?_) | refine XWP.reg1 (by kernel_rfl) fun K hK => ?_
  simp only [XA, XB, gateX, Nat.reduceAdd, Nat.reduceLeDiff, Nat.reduceSub, Nat.reduceMul, ↓reduceIte, Int.reduceToNat, Int.reduceLE, beq_self_eq_true]
  refine hK _ ?_
  clear hK
  refine XWP.cut (fun s => ∃ (V2 : View) (H5 : Heap) (cells : List Value) (wo : Value), StIs (fun τ => [τ 0, τ 1, τ 2, τ 3, τ 4, τ 5, τ 6, τ 7, τ 8, .v wo, τ 10, τ 11, τ 12, τ 13, τ 14, τ 15, τ 16, τ 17, τ 18, τ 19, τ 20, τ 21, τ 22, τ 23, τ 24, τ 25, τ 26, τ 27, τ 28, τ 29, τ 30, τ 31, τ 32, τ 33, τ 34, τ 35, τ 36, τ 37]) [[.bool (ng c), xw, yw]] H5 V2 s ∧ Own H5 34 3 wo N cells ∧ RowAt ratE V2 cells (mk N (pAt p q c up))) ?_ ?_
  · first | refine XWP.reg (by kernel_rfl) fun K hK => ?_ | refine XWP.seq (XWP.reg (by kernel_rfl) fun K hK => ?_) | refine XWP.reg1 (by kernel_rfl) fun K hK => ?_
    simp only [XA, XB, gateX, Nat.reduceAdd, Nat.reduceLeDiff, Nat.reduceSub, Nat.reduceMul, ↓reduceIte, Int.reduceToNat, Int.reduceLE, beq_self_eq_true]
    refine hK _ ?_
    clear hK
    first | refine XWP.block ?_ | refine XWP.seq (XWP.block ?_)
    refine XWP.loop (fun n s => ∃ (k : Nat) (V2 : View) (H5 : Heap) (cells : List Value) (wo : Value), StIs (fun τ => [.v (.slice A1 p.length c1), .v (.slice A2 q.length c2), τ 2, .v (.int .i64 (up : Int)), τ 4, τ 5, .p 0 0, τ 7, τ 8, .v wo, .v (.int .i64 (k : Int)), τ 11, τ 12, τ 13, τ 14, τ 15, τ 16, τ 17, τ 18, τ 19, τ 20, τ 21, τ 22, τ 23, τ 24, τ 25, τ 26, τ 27, τ 28, τ 29, τ 30, τ 31, τ 32, τ 33, τ 34, τ 35, τ 36, τ 37]) [[.bool (ng c), xw, yw]] H5 V2 s ∧ V.le V2 ∧ n + k = N ∧ Own H5 34 3 wo k cells ∧ RowAt ratE V2 cells (mk k (pAt p q c up))) N ⟨0, V, _, [], _, StIs.of (by exact rfl), View.le_refl _, rfl, own_nil, RowAt.nil V⟩ ?_
    rintro n s ⟨k, V2, H5, cells, wo, hs, hV2, hn, hown, hrow⟩
    obtain ⟨z, rfl⟩ := hs.out
    try dsimp only
    refine XWP.seq ?_
    have w0 := i64_add q.length up (by omega)
    by_cases hk : k < N
    · have b1 : decide ((k : Int) < ((max p.length (q.length + up) : Nat) : Int)) = true := decide_eq_true (by omega)
      first | refine XWP.reg (by kernel_rfl) fun K hK => ?_ | refine XWP.seq (XWP.reg (by kernel_rfl) fun K hK => ?_) | refine XWP.reg1 (by kernel_rfl) fun K hK => ?_
      simp only [XA, XB, gateX, Nat.reduceAdd, Nat.reduceLeDiff, Nat.reduceSub, Nat.reduceMul, ↓reduceIte, Int.reduceToNat, Int.reduceLE, beq_self_eq_true, w0, max_nat, b1]
      refine hK _ ?_
      first | refine XWP.cond (t := true) rfl (fun _ => ?_) (fun h => by cases h) | refine XWP.seq (XWP.cond (t := true) rfl (fun _ => ?_) (fun h => by cases h))
      refine XWP.skip ?_
      refine XWP.seq ?_
      first | refine XWP.block ?_ | refine XWP.seq (XWP.block ?_)
      (first | refine XWP.drw [0, 1, 2, 4, 5, 6, 7, 8, 3, 9, 10, 11, 12, 13, 14] (by kernel_rfl) (by kernel_rfl) (by kernel_rfl) fun K hK => ?_ | refine XWP.seq (XWP.drw [0, 1, 2, 4, 5, 6, 7, 8, 3, 9, 10, 11, 12, 13, 14] (by kernel_rfl) (by kernel_rfl) (by kernel_rfl) fun K hK => ?_) | refine XWP.drw1 [0, 1, 2, 4, 5, 6, 7, 8, 3, 9, 10, 11, 12, 13, 14] (by kernel_rfl) (by kernel_rfl) (by kernel_rfl) fun K hK => ?_) <;> dsimp only [pickOps, List.getElem?_cons_zero, List.getElem?_cons_succ]
      have w1 : IntKind.i64.wrap ((k : Int) - (up : Int)) = (k : Int) - (up : Int) := wrap_id (by omega) (by omega)
      simp only [XA, XB, gateX, Nat.reduceAdd, Nat.reduceLeDiff, Nat.reduceSub, Nat.reduceMul, ↓reduceIte, Int.reduceToNat, Int.reduceLE, beq_self_eq_true, w1]
      refine call_go (by kernel_rfl) rfl (dat_c _ _ _ (k : Int) (Rats.up hv hV2) (by omega)) fun v3 V3 hV3 h3 => ?_
      rw [cfZ_nat] at h3
      simp only [XA, XB, gateX, Nat.reduceAdd, Nat.reduceLeDiff, Nat.reduceSub, Nat.reduceMul, ↓reduceIte, Int.reduceToNat, Int.reduceLE, beq_self_eq_true]
      refine call_go (by kernel_rfl) rfl (dat_c _ _ _ _ ((Rats.up hu hV2).up hV3) (by omega)) fun v4 V4 hV4 h4 => ?_
      have f1 := hp.at k
      have f2 : QB B (cfZ q ((k : Int) - (up : Int))) := by
        rw [cfZ_sub]; split
        · exact hq.at _
        · exact QB_zero B
      have f3 := hc.mul f2
      simp only [XA, XB, gateX, Nat.reduceAdd, Nat.reduceLeDiff, Nat.reduceSub, Nat.reduceMul, ↓reduceIte, Int.reduceToNat, Int.reduceLE, beq_self_eq_true]
      refine call_go (by kernel_rfl) rfl (pmul_c _ _ _ _ _ ((RatC.mono hw (View.le_trans hV2 (View.le_trans hV3 hV4))).toV (QF.of hc (by omega))) (h4.toV (QF.of f2 (by omega))) (QF.of hc (by omega)) (QF.of f2 (by omega))) fun v5 V5 hV5 h5 => ?_
      simp only [XA, XB, gateX, Nat.reduceAdd, Nat.reduceLeDiff, Nat.reduceSub, Nat.reduceMul, ↓reduceIte, Int.reduceToNat, Int.reduceLE, beq_self_eq_true]
      refine call_go (by kernel_rfl) rfl (padd_c _ _ _ _ _ (((h3.mono hV4).mono hV5).toV (QF.of f1 (by omega))) (h5.toV (QF.of f3 (by omega))) (QF.of f1 (by omega)) (QF.of f3 (by omega))) fun v6 V6 hV6 h6 => ?_
      obtain ⟨x6, y6, rfl, o6, o7⟩ := h6.form
      have e : cf p k + c * cfZ q ((k : Int) - (up : Int)) = pAt p q c up k := by
        unfold pAt; rw [cfZ_sub, Rat.mul_comm c]; split
        · rfl
        · rw [Rat.zero_mul]
      rw [e] at h6
      simp only [XA, XB, gateX, Nat.reduceAdd, Nat.reduceLeDiff, Nat.reduceSub, Nat.reduceMul, ↓reduceIte, Int.reduceToNat, Int.reduceLE, beq_self_eq_true]
      refine bs_go (by kernel_rfl) #[(0, .agg #[.bool (ng (cf p k + c * cfZ q ((k : Int) - (up : Int)))), x6, y6])] (by simp [ev_tmp, SV.val]) (bs_rat elemT_40) fun b3 hb3 hb4 => ?_
      simp only [XA, XB, gateX, Nat.reduceAdd, Nat.reduceLeDiff, Nat.reduceSub, Nat.reduceMul, ↓reduceIte, Int.reduceToNat, Int.reduceLE, beq_self_eq_true]
      refine ap_go elemT_40 (by kernel_rfl) zeroT_34 rfl (by omega) (own_upd hown hb3) (src3 (upd_at _ _ _) rfl o6 o7) (by omega) (by omega) fun v' H' hres => ?_
      simp only [XA, XB, gateX, Nat.reduceAdd, Nat.reduceLeDiff, Nat.reduceSub, Nat.reduceMul, ↓reduceIte, Int.reduceToNat, Int.reduceLE, beq_self_eq_true]
      refine hK _ ?_
      first | refine XWP.reg (by kernel_rfl) fun K hK => ?_ | refine XWP.seq (XWP.reg (by kernel_rfl) fun K hK => ?_) | refine XWP.reg1 (by kernel_rfl) fun K hK => ?_
      simp only [XA, XB, gateX, Nat.reduceAdd, Nat.reduceLeDiff, Nat.reduceSub, Nat.reduceMul, ↓reduceIte, Int.reduceToNat, Int.reduceLE, beq_self_eq_true, i64_succ k (by omega)]
      have hrow' := (hrow.mono ratE_ok (View.le_trans hV3 (View.le_trans hV4 (View.le_trans hV5 hV6)))).snoc (x := pAt p q c up k) (show isOne (.bool (ng (cf p k + c * cfZ q ((k : Int) - (up : Int))))) = true from rfl) o6 o7 (by rw [e]; exact h6)
      rw [← mk_succ] at hrow'
      exact hK _ ⟨n - 1, by omega, k + 1, V6, _, _, _, StIs.of (by exact rfl), View.le_trans hV2 (View.le_trans hV3 (View.le_trans hV4 (View.le_trans hV5 hV6))), by omega, hres.1, hrow'⟩
    · have b1 : decide ((k : Int) < ((max p.length (q.length + up) : Nat) : Int)) = false := decide_eq_false (by omega)
      obtain rfl : k = N := by omega
      first | refine XWP.reg (by kernel_rfl) fun K hK => ?_ | refine XWP.seq (XWP.reg (by kernel_rfl) fun K hK => ?_) | refine XWP.reg1 (by kernel_rfl) fun K hK => ?_
      simp only [XA, XB, gateX, Nat.reduceAdd, Nat.reduceLeDiff, Nat.reduceSub, Nat.reduceMul, ↓reduceIte, Int.reduceToNat, Int.reduceLE, beq_self_eq_true, w0, max_nat, b1]
      refine hK _ ?_
      first | refine XWP.cond (t := false) rfl (fun h => by cases h) (fun _ => ?_) | refine XWP.seq (XWP.cond (t := false) rfl (fun h => by cases h) (fun _ => ?_))
      refine XWP.exit ?_
      exact ⟨V2, H5, cells, wo, StIs.of (by exact rfl), hown, hrow⟩
  rintro s ⟨V2, H5, cells, wo, hs, hown, hrow⟩
  obtain ⟨z, rfl⟩ := hs.out
  try dsimp only
  have hQ : ∀ x ∈ mk N (pAt p q c up), QF x := fun x hx => by
    obtain ⟨i, hi, rfl⟩ := List.mem_iff_getElem.1 hx
    rw [cf_get hi]
    have := (CB.padd hp hq hc up).at i
    rw [cf_pAdd] at this
    have h2 : cf (mk N (pAt p q c up)) i = pAt p q c up i := by
      rw [cf_mk, if_pos (by rw [mk_len] at hi; exact hi)]
    rw [h2]; exact QF.of this (by omega)
  first | refine XWP.reg (by kernel_rfl) fun K hK => ?_ | refine XWP.seq (XWP.reg (by kernel_rfl) fun K hK => ?_) | refine XWP.reg1 (by kernel_rfl) fun K hK => ?_
  simp only [XA, XB, gateX, Nat.reduceAdd, Nat.reduceLeDiff, Nat.reduceSub, Nat.reduceMul, ↓reduceIte, Int.reduceToNat, Int.reduceLE, beq_self_eq_true]
  rcases own_parts hown with ⟨rfl, hk0, rfl⟩ | ⟨g, cap, rfl, hg, hle, hcap, hlen⟩
  · refine call_go (by kernel_rfl) rfl (dcut_c _ _ [] (SlAt.nil _) (by simp) (by simp)) fun v3 V3 hV3 h3 => ?_
    simp only [XA, XB, gateX, Nat.reduceAdd, Nat.reduceLeDiff, Nat.reduceSub, Nat.reduceMul, ↓reduceIte, Int.reduceToNat, Int.reduceLE, beq_self_eq_true]
    refine hK _ (XWP.ret ?_)
    try simp only [thenX_ret, inBlockX_ret]
    refine ret_go _ rfl ?_
    unfold pAdd
    rw [← hN, hk0]
    exact h3
  · refine call_pub g _ hg (fun o ho hle' => ?_) (by kernel_rfl) rfl
    refine call_go (by kernel_rfl) rfl (dcut_c _ _ _ (hrow.pub ratE_ok ho hle' (mk_len _ _) hle (by unfold maxLen at hcap; omega)) hQ (by rw [mk_len]; omega)) fun v3 V3 hV3 h3 => ?_
    simp only [XA, XB, gateX, Nat.reduceAdd, Nat.reduceLeDiff, Nat.reduceSub, Nat.reduceMul, ↓reduceIte, Int.reduceToNat, Int.reduceLE, beq_self_eq_true]
    refine hK _ (XWP.ret ?_)
    try simp only [thenX_ret, inBlockX_ret]
    refine ret_go _ rfl ?_
    unfold pAdd
    rw [← hN]
    exact h3
end Go.Proofs.Ythoboehbadmlmaa
end
section
namespace Go.Proofs.Ythoboehbadmlmaa
open Go Go.RowKit
set_option linter.unusedSimpArgs false
set_option linter.unusedVariables false
attribute [local irreducible] XWP Spec SpecO XPub XCall seqX clX apX stX ldX iaX slX
theorem dprod_c (V : View) (v u : Value) (p q : List Rat) (A B e : Nat) (hv : Rats V v p) (hu : Rats V u q) (hp : CB A p) (hq : CB B q) (h0 : 1 ≤ p.length + q.length) (he : p.length + q.length ≤ 2 ^ e) (hABe : A + B + e + 2 ≤ 17592186044416) (ll : p.length + q.length ≤ 1000000) :
    Spec Try.prog 78 [v, u] V fun v' V' => Rats V' v' (prodP p q) := by
  obtain ⟨A1, c1, rfl, hc1, hm1⟩ := hv.form
  obtain ⟨A2, c2, rfl, hc2, hm2⟩ := hu.form
  obtain ⟨N, hN⟩ : ∃ N, N = p.length + q.length - 1 := ⟨_, rfl⟩
  have hS : ∀ i k, k ≤ p.length + q.length → QB (A + B + e) (offS q p i k) := fun i k hk => (CB.offs hq hp i k e (by omega)).mono (by omega)
  refine (Spec.enter Try.func78 rfl fun Γ => ?_)
  simp only [Try.ntmps78, List.map_cons, List.map_nil, List.length_cons, List.length_nil, Nat.reduceAdd, Nat.reduceSub, List.replicate_succ, List.replicate_zero, List.cons_append, List.nil_append]
  first | refine XWP.reg (by kernel_rfl) fun K hK => ?_ | refine XWP.seq (XWP.reg (by kernel_rfl) fun K hK => ?_) | refine XWP.reg1 (by kernel_rfl) fun K hK => ?_
  simp only [XA, XB, gateX, Nat.reduceAdd, Nat.reduceLeDiff, Nat.reduceSub, Nat.reduceMul, ↓reduceIte, Int.reduceToNat, Int.reduceLE, beq_self_eq_true]
  refine hK _ ?_
  first | refine XWP.reg (by kernel_rfl) fun K hK => ?_ | refine XWP.seq (XWP.reg (by kernel_rfl) fun K hK => ?_) | refine XWP.reg1 (by kernel_rfl) fun K hK => ?_
  simp only [XA, XB, gateX, Nat.reduceAdd, Nat.reduceLeDiff, Nat.reduceSub, Nat.reduceMul, ↓reduceIte, Int.reduceToNat, Int.reduceLE, beq_self_eq_true]
  refine hK _ ?_
  clear hK
  refine XWP.cutD 0 (fun s => ∃ (V2 : View) (H5 : Heap) (cells : List Value) (wo : Value), StIs (fun τ => [τ 0, τ 1, τ 2, τ 3, τ 4, .v wo, τ 6, τ 7, τ 8, τ 9, τ 10, τ 11, τ 12, τ 13, τ 14, τ 15, τ 16, τ 17, τ 18, τ 19, τ 20, τ 21, τ 22, τ 23, τ 24, τ 25, τ 26, τ 27, τ 28, τ 29, τ 30, τ 31, τ 32, τ 33, τ 34, τ 35, τ 36, τ 37, τ 38, τ 39, τ 40, τ 41]) [] H5 V2 s ∧ Own H5 34 3 wo N cells ∧ RowAt ratE V2 cells (mk N fun i => offS q p i (i + 1))) ?_ ?_
  · first | refine XWP.reg (by kernel_rfl) fun K hK => ?_ | refine XWP.seq (XWP.reg (by kernel_rfl) fun K hK => ?_) | refine XWP.reg1 (by kernel_rfl) fun K hK => ?_
    simp only [XA, XB, gateX, Nat.reduceAdd, Nat.reduceLeDiff, Nat.reduceSub, Nat.reduceMul, ↓reduceIte, Int.reduceToNat, Int.reduceLE, beq_self_eq_true]
    refine hK _ ?_
    clear hK
    first | refine XWP.block ?_ | refine XWP.seq (XWP.block ?_)
    refine XWP.loopD 0 (fun n s => ∃ (i : Nat) (V2 : View) (H5 : Heap) (cells : List Value) (wo : Value), StIs (fun τ => [.v (.slice A1 p.length c1), .v (.slice A2 q.length c2), τ 2, τ 3, τ 4, .v wo, .v (.int .i64 (i : Int)), τ 7, τ 8, τ 9, τ 10, τ 11, τ 12, τ 13, τ 14, τ 15, τ 16, τ 17, τ 18, τ 19, τ 20, τ 21, τ 22, τ 23, τ 24, τ 25, τ 26, τ 27, τ 28, τ 29, τ 30, τ 31, τ 32, τ 33, τ 34, τ 35, τ 36, τ 37, τ 38, τ 39, τ 40, τ 41]) [] H5 V2 s ∧ V.le V2 ∧ n + i = N ∧ Own H5 34 3 wo i cells ∧ RowAt ratE V2 cells (mk i fun i => offS q p i (i + 1))) N ⟨0, V, _, [], _, StIs.of (by exact rfl), View.le_refl _, rfl, own_nil, RowAt.nil V⟩ ?_
    rintro n s ⟨i, V2, H5, cells, wo, hs, hV2, hn, hown, hrow⟩
    obtain ⟨z, rfl⟩ := hs.out
    try dsimp only
    refine XWP.seq ?_
    have w0 := i64_add p.length q.length (by omega)
    have w1 := i64_pred (p.length + q.length) h0 (by omega)
    by_cases hi : i < N
    · have b1 : decide ((i : Int) < ((p.length + q.length - 1 : Nat) : Int)) = true := decide_eq_true (by omega)
      first | refine XWP.reg (by kernel_rfl) fun K hK => ?_ | refine XWP.seq (XWP.reg (by kernel_rfl) fun K hK => ?_) | refine XWP.reg1 (by kernel_rfl) fun K hK => ?_
      simp only [XA, XB, gateX, Nat.reduceAdd, Nat.reduceLeDiff, Nat.reduceSub, Nat.reduceMul, ↓reduceIte, Int.reduceToNat, Int.reduceLE, beq_self_eq_true, w0, w1, b1]
      refine hK _ ?_
      first | refine XWP.cond (t := true) rfl (fun _ => ?_) (fun h => by cases h) | refine XWP.seq (XWP.cond (t := true) rfl (fun _ => ?_) (fun h => by cases h))
      refine XWP.skip ?_
      refine XWP.seq ?_
      first | refine XWP.block ?_ | refine XWP.seq (XWP.block ?_)
      first | refine XWP.reg (by kernel_rfl) fun K hK => ?_ | refine XWP.seq (XWP.reg (by kernel_rfl) fun K hK => ?_) | refine XWP.reg1 (by kernel_rfl) fun K hK => ?_
      simp only [XA, XB, gateX, Nat.reduceAdd, Nat.reduceLeDiff, Nat.reduceSub, Nat.reduceMul, ↓reduceIte, Int.reduceToNat, Int.reduceLE, beq_self_eq_true]
      refine call_go (by kernel_rfl) rfl (pzero_c _) fun v3 V3 hV3 h3 => ?_
      obtain ⟨x3, y3, rfl, o1, o2⟩ := h3.form
      simp only [XA, XB, gateX, Nat.reduceAdd, Nat.reduceLeDiff, Nat.reduceSub, Nat.reduceMul, ↓reduceIte, Int.reduceToNat, Int.reduceLE, beq_self_eq_true]
      refine st_rat rfl rfl rfl o1 o2 ?_
      simp only [XA, XB, gateX, Nat.reduceAdd, Nat.reduceLeDiff, Nat.reduceSub, Nat.reduceMul, ↓reduceIte, Int.reduceToNat, Int.reduceLE, beq_self_eq_true]
      refine hK _ ?_
      clear hK
      have hrow := hrow.mono ratE_ok hV3
      have hV3 := View.le_trans hV2 hV3
      refine XWP.cut (fun s => ∃ (V4 : View) (x y : Value), StIs (fun τ => [.v (.slice A1 p.length c1), .v (.slice A2 q.length c2), τ 2, τ 3, τ 4, .v wo, .v (.int .i64 (i : Int)), .p 0 0, τ 8, τ 9, τ 10, τ 11, τ 12, τ 13, τ 14, τ 15, τ 16, τ 17, τ 18, τ 19, τ 20, τ 21, τ 22, τ 23, τ 24, τ 25, τ 26, τ 27, τ 28, τ 29, τ 30, τ 31, τ 32, τ 33, τ 34, τ 35, τ 36, τ 37, τ 38, τ 39, τ 40, τ 41]) [[.bool (ng (offS q p i (i + 1))), x, y]] H5 V4 s ∧ V.le V4 ∧ RowAt ratE V4 cells (mk i fun i => offS q p i (i + 1)) ∧ RatC V4 (.agg #[.bool (ng (offS q p i (i + 1))), x, y]) (offS q p i (i + 1)) ∧ isOne x = true ∧ isOne y = true) ?_ ?_
      · first | refine XWP.reg (by kernel_rfl) fun K hK => ?_ | refine XWP.seq (XWP.reg (by kernel_rfl) fun K hK => ?_) | refine XWP.reg1 (by kernel_rfl) fun K hK => ?_
        simp only [XA, XB, gateX, Nat.reduceAdd, Nat.reduceLeDiff, Nat.reduceSub, Nat.reduceMul, ↓reduceIte, Int.reduceToNat, Int.reduceLE, beq_self_eq_true]
        refine hK _ ?_
        clear hK
        first | refine XWP.block ?_ | refine XWP.seq (XWP.block ?_)
        refine XWP.loop (fun n s => ∃ (k : Nat) (V4 : View) (x y : Value), StIs (fun τ => [.v (.slice A1 p.length c1), .v (.slice A2 q.length c2), τ 2, τ 3, τ 4, .v wo, .v (.int .i64 (i : Int)), .p 0 0, .v (.int .i64 (k : Int)), τ 9, τ 10, τ 11, τ 12, τ 13, τ 14, τ 15, τ 16, τ 17, τ 18, τ 19, τ 20, τ 21, τ 22, τ 23, τ 24, τ 25, τ 26, τ 27, τ 28, τ 29, τ 30, τ 31, τ 32, τ 33, τ 34, τ 35, τ 36, τ 37, τ 38, τ 39, τ 40, τ 41]) [[.bool (ng (offS q p i k)), x, y]] H5 V4 s ∧ V.le V4 ∧ n + k = i + 1 ∧ RowAt ratE V4 cells (mk i fun i => offS q p i (i + 1)) ∧ RatC V4 (.agg #[.bool (ng (offS q p i k)), x, y]) (offS q p i k) ∧ isOne x = true ∧ isOne y = true) (i + 1) ⟨0, V3, x3, y3, StIs.of (by exact rfl), hV3, rfl, hrow, h3, o1, o2⟩ ?_
        clear h3 o1 o2 hrow
        rintro n' s ⟨k, V4, x, y, hs, hV4, hn', hrow, h3, o1, o2⟩
        obtain ⟨z, rfl⟩ := hs.out
        try dsimp only
        refine XWP.seq ?_
        by_cases hk : k ≤ i
        · have b2 : decide ((k : Int) ≤ (i : Int)) = true := decide_eq_true (by omega)
          first | refine XWP.reg (by kernel_rfl) fun K hK => ?_ | refine XWP.seq (XWP.reg (by kernel_rfl) fun K hK => ?_) | refine XWP.reg1 (by kernel_rfl) fun K hK => ?_
          simp only [XA, XB, gateX, Nat.reduceAdd, Nat.reduceLeDiff, Nat.reduceSub, Nat.reduceMul, ↓reduceIte, Int.reduceToNat, Int.reduceLE, beq_self_eq_true, b2]
          refine hK _ ?_
          first | refine XWP.cond (t := true) rfl (fun _ => ?_) (fun h => by cases h) | refine XWP.seq (XWP.cond (t := true) rfl (fun _ => ?_) (fun h => by cases h))
          refine XWP.skip ?_
          refine XWP.seq ?_
          first | refine XWP.block ?_ | refine XWP.seq (XWP.block ?_)
          (first | refine XWP.drw [0, 1, 2, 4, 5, 6, 7, 3, 8, 9, 10, 11] (by kernel_rfl) (by kernel_rfl) (by kernel_rfl) fun K hK => ?_ | refine XWP.seq (XWP.drw [0, 1, 2, 4, 5, 6, 7, 3, 8, 9, 10, 11] (by kernel_rfl) (by kernel_rfl) (by kernel_rfl) fun K hK => ?_) | refine XWP.drw1 [0, 1, 2, 4, 5, 6, 7, 3, 8, 9, 10, 11] (by kernel_rfl) (by kernel_rfl) (by kernel_rfl) fun K hK => ?_) <;> dsimp only [pickOps, List.getElem?_cons_zero, List.getElem?_cons_succ]
          have w2 := i64_sub i k hk (by omega)
          simp only [XA, XB, gateX, Nat.reduceAdd, Nat.reduceLeDiff, Nat.reduceSub, Nat.reduceMul, ↓reduceIte, Int.reduceToNat, Int.reduceLE, beq_self_eq_true, w2]
          refine call_go (by kernel_rfl) rfl (dat_c _ _ _ (k : Int) (Rats.up hv hV4) (by omega)) fun v5 V5 hV5 h5 => ?_
          rw [cfZ_nat] at h5
          simp only [XA, XB, gateX, Nat.reduceAdd, Nat.reduceLeDiff, Nat.reduceSub, Nat.reduceMul, ↓reduceIte, Int.reduceToNat, Int.reduceLE, beq_self_eq_true]
          refine call_go (by kernel_rfl) rfl (dat_c _ _ _ ((i - k : Nat) : Int) ((Rats.up hu hV4).up hV5) (by omega)) fun v6 V6 hV6 h6 => ?_
          rw [cfZ_nat] at h6
          simp only [XA, XB, gateX, Nat.reduceAdd, Nat.reduceLeDiff, Nat.reduceSub, Nat.reduceMul, ↓reduceIte, Int.reduceToNat, Int.reduceLE, beq_self_eq_true]
          refine call_go (by kernel_rfl) rfl (pmul_c _ _ _ _ _ ((h5.mono hV6).toV (QF.of (hp.at _) (by omega))) (h6.toV (QF.of (hq.at _) (by omega))) (QF.of (hp.at _) (by omega)) (QF.of (hq.at _) (by omega))) fun v7 V7 hV7 h7 => ?_
          have hm := (hp.at k).mul (hq.at (i - k))
          have ho := hS i k (by omega)
          simp only [XA, XB, gateX, Nat.reduceAdd, Nat.reduceLeDiff, Nat.reduceSub, Nat.reduceMul, ↓reduceIte, Int.reduceToNat, Int.reduceLE, beq_self_eq_true]
          refine call_go (by kernel_rfl) rfl (padd_c _ _ _ _ _ ((h3.mono (View.le_trans hV5 (View.le_trans hV6 hV7))).toV (QF.of ho (by omega))) (h7.toV (QF.of hm (by omega))) (QF.of ho (by omega)) (QF.of hm (by omega))) fun v8 V8 hV8 h8 => ?_
          obtain ⟨x8, y8, rfl, o3, o4⟩ := h8.form
          simp only [XA, XB, gateX, Nat.reduceAdd, Nat.reduceLeDiff, Nat.reduceSub, Nat.reduceMul, ↓reduceIte, Int.reduceToNat, Int.reduceLE, beq_self_eq_true]
          refine st_rat rfl rfl rfl o3 o4 ?_
          simp only [XA, XB, gateX, Nat.reduceAdd, Nat.reduceLeDiff, Nat.reduceSub, Nat.reduceMul, ↓reduceIte, Int.reduceToNat, Int.reduceLE, beq_self_eq_true]
          refine hK _ ?_
          first | refine XWP.reg (by kernel_rfl) fun K hK => ?_ | refine XWP.seq (XWP.reg (by kernel_rfl) fun K hK => ?_) | refine XWP.reg1 (by kernel_rfl) fun K hK => ?_
          simp only [XA, XB, gateX, Nat.reduceAdd, Nat.reduceLeDiff, Nat.reduceSub, Nat.reduceMul, ↓reduceIte, Int.reduceToNat, Int.reduceLE, beq_self_eq_true, i64_succ k (by omega)]
          exact hK _ ⟨n' - 1, by omega, k + 1, V8, x8, y8, StIs.of (by exact rfl), View.le_trans hV4 (View.le_trans hV5 (View.le_trans hV6 (View.le_trans hV7 hV8))), by omega, hrow.mono ratE_ok (View.le_trans hV5 (View.le_trans hV6 (View.le_trans hV7 hV8))), h8, o3, o4⟩
        · have b2 : decide ((k : Int) ≤ (i : Int)) = false := decide_eq_false (by omega)
          obtain rfl : k = i + 1 := by omega
          first | refine XWP.reg (by kernel_rfl) fun K hK => ?_ | refine XWP.seq (XWP.reg (by kernel_rfl) fun K hK => ?_) | refine XWP.reg1 (by kernel_rfl) fun K hK => ?_
          simp only [XA, XB, gateX, Nat.reduceAdd, Nat.reduceLeDiff, Nat.reduceSub, Nat.reduceMul, ↓reduceIte, Int.reduceToNat, Int.reduceLE, beq_self_eq_true, b2]
          refine hK _ ?_
          first | refine XWP.cond (t := false) rfl (fun h => by cases h) (fun _ => ?_) | refine XWP.seq (XWP.cond (t := false) rfl (fun h => by cases h) (fun _ => ?_))
          refine XWP.exit ?_
          exact ⟨V4, x, y, StIs.of (by exact rfl), hV4, hrow, h3, o1, o2⟩
      clear h3 o1 o2 hrow
      rintro s ⟨V4, x, y, hs, hV4, hrow, h3, o1, o2⟩
      obtain ⟨z, rfl⟩ := hs.out
      try dsimp only
      first | refine XWP.reg (by kernel_rfl) fun K hK => ?_ | refine XWP.seq (XWP.reg (by kernel_rfl) fun K hK => ?_) | refine XWP.reg1 (by kernel_rfl) fun K hK => ?_
      simp only [XA, XB, gateX, Nat.reduceAdd, Nat.reduceLeDiff, Nat.reduceSub, Nat.reduceMul, ↓reduceIte, Int.reduceToNat, Int.reduceLE, beq_self_eq_true]
      refine bs_go (by kernel_rfl) #[(0, .agg #[.bool (ng (offS q p i (i + 1))), x, y])] (by simp [ev_tmp, SV.val]) (bs_rat elemT_40) fun b3 hb3 hb4 => ?_
      simp only [XA, XB, gateX, Nat.reduceAdd, Nat.reduceLeDiff, Nat.reduceSub, Nat.reduceMul, ↓reduceIte, Int.reduceToNat, Int.reduceLE, beq_self_eq_true]
      refine ap_go elemT_40 (by kernel_rfl) zeroT_34 rfl (by omega) (own_upd hown hb3) (src3 (upd_at _ _ _) rfl o1 o2) (by omega) (by omega) fun v' H' hres => ?_
      simp only [XA, XB, gateX, Nat.reduceAdd, Nat.reduceLeDiff, Nat.reduceSub, Nat.reduceMul, ↓reduceIte, Int.reduceToNat, Int.reduceLE, beq_self_eq_true]
      refine hK _ ?_
      first | refine XWP.reg (by kernel_rfl) fun K hK => ?_ | refine XWP.seq (XWP.reg (by kernel_rfl) fun K hK => ?_) | refine XWP.reg1 (by kernel_rfl) fun K hK => ?_
      simp only [XA, XB, gateX, Nat.reduceAdd, Nat.reduceLeDiff, Nat.reduceSub, Nat.reduceMul, ↓reduceIte, Int.reduceToNat, Int.reduceLE, beq_self_eq_true, i64_succ i (by omega)]
      have hrow' := hrow.snoc (x := offS q p i (i + 1)) (show isOne (.bool (ng (offS q p i (i + 1)))) = true from rfl) o1 o2 h3
      have em := mk_succ i fun i => offS q p i (i + 1)
      rw [← em] at hrow'
      exact hK _ ⟨n - 1, by omega, fun f => ⟨i + 1, V4, _, _, _, StIs.of (by exact rfl), hV4, by omega, hres.1, hrow'⟩⟩
    · have b1 : decide ((i : Int) < ((p.length + q.length - 1 : Nat) : Int)) = false := decide_eq_false (by omega)
      obtain rfl : i = N := by omega
      first | refine XWP.reg (by kernel_rfl) fun K hK => ?_ | refine XWP.seq (XWP.reg (by kernel_rfl) fun K hK => ?_) | refine XWP.reg1 (by kernel_rfl) fun K hK => ?_
      simp only [XA, XB, gateX, Nat.reduceAdd, Nat.reduceLeDiff, Nat.reduceSub, Nat.reduceMul, ↓reduceIte, Int.reduceToNat, Int.reduceLE, beq_self_eq_true, w0, w1, b1]
      refine hK _ ?_
      first | refine XWP.cond (t := false) rfl (fun h => by cases h) (fun _ => ?_) | refine XWP.seq (XWP.cond (t := false) rfl (fun h => by cases h) (fun _ => ?_))
      refine XWP.exit ?_
      exact fun f => ⟨V2, H5, cells, wo, StIs.of (by exact rfl), hown, hrow⟩
  rintro s ⟨V2, H5, cells, wo, hs, hown, hrow⟩
  obtain ⟨z, rfl⟩ := hs.out
  try dsimp only
  have hQ : ∀ x ∈ mk N (fun i => offS q p i (i + 1)), QF x := fun x hx => by
    obtain ⟨i, hi, rfl⟩ := List.mem_iff_getElem.1 hx
    rw [mk_len] at hi
    rw [cf_get (by rw [mk_len]; exact hi), cf_mk, if_pos hi]
    exact QF.of (hS i (i + 1) (by omega)) (by omega)
  first | refine XWP.reg (by kernel_rfl) fun K hK => ?_ | refine XWP.seq (XWP.reg (by kernel_rfl) fun K hK => ?_) | refine XWP.reg1 (by kernel_rfl) fun K hK => ?_
  simp only [XA, XB, gateX, Nat.reduceAdd, Nat.reduceLeDiff, Nat.reduceSub, Nat.reduceMul, ↓reduceIte, Int.reduceToNat, Int.reduceLE, beq_self_eq_true]
  rcases own_parts hown with ⟨rfl, hk0, rfl⟩ | ⟨g, cap, rfl, hg, hle, hcap, hlen⟩
  · refine call_go (by kernel_rfl) rfl (dcut_c _ _ [] (SlAt.nil _) (by simp) (by simp)) fun v3 V3 hV3 h3 => ?_
    simp only [XA, XB, gateX, Nat.reduceAdd, Nat.reduceLeDiff, Nat.reduceSub, Nat.reduceMul, ↓reduceIte, Int.reduceToNat, Int.reduceLE, beq_self_eq_true]
    refine hK _ (XWP.ret ?_)
    try simp only [thenX_ret, inBlockX_ret]
    refine ret_go _ rfl ?_
    unfold prodP
    rw [← hN, hk0]
    exact h3
  · refine call_pub g _ hg (fun o ho hle' => ?_) (by kernel_rfl) rfl
    refine call_go (by kernel_rfl) rfl (dcut_c _ _ _ (hrow.pub ratE_ok ho hle' (mk_len _ _) hle (by unfold maxLen at hcap; omega)) hQ (by rw [mk_len]; omega)) fun v3 V3 hV3 h3 => ?_
    simp only [XA, XB, gateX, Nat.reduceAdd, Nat.reduceLeDiff, Nat.reduceSub, Nat.reduceMul, ↓reduceIte, Int.reduceToNat, Int.reduceLE, beq_self_eq_true]
    refine hK _ (XWP.ret ?_)
    try simp only [thenX_ret, inBlockX_ret]
    refine ret_go _ rfl ?_
    unfold prodP
    rw [← hN]
    exact h3
end Go.Proofs.Ythoboehbadmlmaa
end
section
namespace Go.Proofs.Ythoboehbadmlmaa
open Go Go.RowKit
set_option linter.unusedSimpArgs false
set_option linter.unusedVariables false
attribute [local irreducible] XWP Spec SpecO XPub XCall seqX clX apX stX ldX iaX slX
theorem upd_pub (b : Nat) (r : Option Row) : upd (upd (fun _ => none) b r) b none = fun _ => none := by
  funext k; unfold upd; split <;> rfl
theorem dpart_c (V : View) (v u : Value) (p q : List Rat) (A B : Nat) (hv : Rats V v p) (hu : Rats V u q) (hp : CB A p) (hq : CB B q) (h0 : 0 < q.length) (hl : cf q (q.length - 1) ≠ 0) (hfit : 2 ^ (p.length - q.length + 1) * (A + 2 * B + 2) ≤ 17592186044416) (lp : p.length ≤ 100000) (lq : q.length ≤ 100000) :
    Spec Try.prog 73 [v, u] V fun v' V' => ∃ wq wr, v' = .tuple #[wq, wr] ∧ Rats V' wq (partP p q).1 ∧ Rats V' wr (partP p q).2 ∧ CB (2 ^ (p.length - q.length + 1) * (A + 2 * B + 2)) (partP p q).2 ∧ CB (2 ^ (p.length - q.length + 1) * (A + 2 * B + 2)) (partP p q).1 := by
  obtain ⟨A1, c1, rfl, hc1, hm1⟩ := hv.form
  obtain ⟨A2, c2, rfl, hc2, hm2⟩ := hu.form
  have hC0 : A + 2 * B + 2 ≤ 2 ^ (p.length - q.length + 1) * (A + 2 * B + 2) := Nat.le_mul_of_pos_left _ (two_pos _)
  refine (Spec.enter Try.func73 rfl fun Γ => ?_)
  simp only [Try.ntmps73, List.map_cons, List.map_nil, List.length_cons, List.length_nil, Nat.reduceAdd, Nat.reduceSub, List.replicate_succ, List.replicate_zero, List.cons_append, List.nil_append]
  first | refine XWP.reg (by kernel_rfl) fun K hK => ?_ | refine XWP.seq (XWP.reg (by kernel_rfl) fun K hK => ?_) | refine XWP.reg1 (by kernel_rfl) fun K hK => ?_
  simp only [XA, XB, gateX, Nat.reduceAdd, Nat.reduceLeDiff, Nat.reduceSub, Nat.reduceMul, ↓reduceIte, Int.reduceToNat, Int.reduceLE, beq_self_eq_true]
  refine hK _ ?_
  first | refine XWP.reg (by kernel_rfl) fun K hK => ?_ | refine XWP.seq (XWP.reg (by kernel_rfl) fun K hK => ?_) | refine XWP.reg1 (by kernel_rfl) fun K hK => ?_
  simp only [XA, XB, gateX, Nat.reduceAdd, Nat.reduceLeDiff, Nat.reduceSub, Nat.reduceMul, ↓reduceIte, Int.reduceToNat, Int.reduceLE, beq_self_eq_true]
  refine hK _ ?_
  first | refine XWP.reg (by kernel_rfl) fun K hK => ?_ | refine XWP.seq (XWP.reg (by kernel_rfl) fun K hK => ?_) | refine XWP.reg1 (by kernel_rfl) fun K hK => ?_
  simp only [XA, XB, gateX, Nat.reduceAdd, Nat.reduceLeDiff, Nat.reduceSub, Nat.reduceMul, ↓reduceIte, Int.reduceToNat, Int.reduceLE, beq_self_eq_true]
  refine call_go (by kernel_rfl) rfl (dcut_c _ _ _ hv (hp.qf (by omega)) (by omega)) fun v2 V2 hV2 h2 => ?_
  simp only [XA, XB, gateX, Nat.reduceAdd, Nat.reduceLeDiff, Nat.reduceSub, Nat.reduceMul, ↓reduceIte, Int.reduceToNat, Int.reduceLE, beq_self_eq_true]
  refine hK _ ?_
  clear hK
  obtain ⟨r, hr⟩ : ∃ r, r = trimQ p := ⟨_, rfl⟩
  have hr0 : CB A r := by rw [hr]; exact hp.trim
  have hrl : r.length ≤ p.length := by rw [hr]; exact trimQ_len p
  rw [← hr] at h2
  have hpart : partP p q = partF q (r.length + 1) [] r := by rw [hr]; rfl
  rw [hpart]
  obtain ⟨fin, hfin⟩ : ∃ fin, fin = partF q (r.length + 1) [] r := ⟨_, rfl⟩
  rw [← hfin]
  have hpow : 2 ^ (r.length - q.length + 1) * (A + 2 * B + 2) ≤ 2 ^ (p.length - q.length + 1) * (A + 2 * B + 2) := Nat.mul_le_mul_right _ (two_mono (by omega))
  refine XWP.cutD 0 (fun s => ∃ (V4 : View) (wr wo : Value), StIs (fun τ => [τ 0, τ 1, τ 2, τ 3, τ 4, τ 5, .v wo, .v wr, τ 8, τ 9, τ 10, τ 11, τ 12, τ 13, τ 14, τ 15, τ 16, τ 17, τ 18, τ 19, τ 20, τ 21, τ 22, τ 23, τ 24, τ 25, τ 26, τ 27, τ 28, τ 29, τ 30, τ 31, τ 32, τ 33, τ 34, τ 35, τ 36, τ 37, τ 38, τ 39, τ 40, τ 41, τ 42, τ 43, τ 44, τ 45, τ 46, τ 47, τ 48, τ 49, τ 50, τ 51, τ 52]) [] (fun _ => none) V4 s ∧ Rats V4 wr fin.2 ∧ Rats V4 wo fin.1 ∧ CB (2 ^ (p.length - q.length + 1) * (A + 2 * B + 2)) fin.2 ∧ CB (2 ^ (p.length - q.length + 1) * (A + 2 * B + 2)) fin.1) ?_ ?_
  · first | refine XWP.block ?_ | refine XWP.seq (XWP.block ?_)
    refine XWP.loopD 0 (fun n s => ∃ (V4 : View) (wr wo : Value) (rest quo : List Rat) (b : Nat), StIs (fun τ => [τ 0, .v (.slice A2 q.length c2), τ 2, τ 3, τ 4, τ 5, .v wo, .v wr, τ 8, τ 9, τ 10, τ 11, τ 12, τ 13, τ 14, τ 15, τ 16, τ 17, τ 18, τ 19, τ 20, τ 21, τ 22, τ 23, τ 24, τ 25, τ 26, τ 27, τ 28, τ 29, τ 30, τ 31, τ 32, τ 33, τ 34, τ 35, τ 36, τ 37, τ 38, τ 39, τ 40, τ 41, τ 42, τ 43, τ 44, τ 45, τ 46, τ 47, τ 48, τ 49, τ 50, τ 51, τ 52]) [] (fun _ => none) V4 s ∧ V2.le V4 ∧ n = rest.length ∧ Rats V4 wr rest ∧ Rats V4 wo quo ∧ CB b quo ∧ quo.length ≤ 100001 ∧ rest.length ≤ r.length ∧ CB b rest ∧ b + 2 * B + 1 ≤ 2 ^ (r.length - rest.length) * (A + 2 * B + 2) ∧ b + 2 * B + 1 ≤ 2 ^ (r.length - q.length + 1) * (A + 2 * B + 2) ∧ partF q (rest.length + 1) quo rest = fin) r.length ⟨V2, v2, _, r, [], A, StIs.of (by exact rfl), View.le_refl _, rfl, h2, SlAt.nil _, CB_nil _, by simp, Nat.le_refl _, hr0, by rw [Nat.sub_self]; omega, by have := Nat.le_mul_of_pos_left (A + 2 * B + 2) (two_pos (r.length - q.length + 1)); omega, hfin.symm⟩ ?_
    rintro n s ⟨V4, wr, wo, rest, quo, b, hs, hV4, hn, hwr, hwo, hbq, hlq, hlr, hb, hb1, hb2, hd⟩
    obtain ⟨z, rfl⟩ := hs.out
    try dsimp only
    obtain ⟨A5, c5, rfl, hc5, hm5⟩ := hwr.form
    refine XWP.seq ?_
    by_cases hle : q.length ≤ rest.length
    · have b1 : decide (q.length ≤ rest.length) = true := decide_eq_true hle
      first | refine XWP.reg (by kernel_rfl) fun K hK => ?_ | refine XWP.seq (XWP.reg (by kernel_rfl) fun K hK => ?_) | refine XWP.reg1 (by kernel_rfl) fun K hK => ?_
      simp only [XA, XB, gateX, Nat.reduceAdd, Nat.reduceLeDiff, Nat.reduceSub, Nat.reduceMul, ↓reduceIte, Int.reduceToNat, Int.reduceLE, beq_self_eq_true, len_geq, b1]
      refine hK _ ?_
      first | refine XWP.cond (t := true) rfl (fun _ => ?_) (fun h => by cases h) | refine XWP.seq (XWP.cond (t := true) rfl (fun _ => ?_) (fun h => by cases h))
      refine XWP.skip ?_
      first | refine XWP.block ?_ | refine XWP.seq (XWP.block ?_)
      have hu4 := (hu.up hV2).up hV4
      have hlr0 : q.length ≤ r.length := by omega
      have hfb : 2 * (b + 2 * B + 1) ≤ 2 ^ (r.length - rest.length + 1) * (A + 2 * B + 2) := by rw [Nat.pow_succ, Nat.mul_comm (2 ^ (r.length - rest.length)), Nat.mul_assoc]; omega
      have hfc : 2 ^ (r.length - rest.length + 1) * (A + 2 * B + 2) ≤ 2 ^ (r.length - q.length + 1) * (A + 2 * B + 2) := Nat.mul_le_mul_right _ (two_mono (by omega))
      have hQx : QB (b + B) (topQ rest q) := (hb.at _).div (hq.at _)
      refine XWP.cut (fun s => ∃ (V5 : View) (x y : Value), StIs (fun τ => [τ 0, .v (.slice A2 q.length c2), τ 2, τ 3, τ 4, τ 5, .v wo, .v (.slice A5 rest.length c5), .p 0 0, τ 9, τ 10, τ 11, τ 12, τ 13, τ 14, τ 15, τ 16, τ 17, τ 18, τ 19, τ 20, τ 21, τ 22, τ 23, τ 24, τ 25, τ 26, τ 27, τ 28, τ 29, τ 30, τ 31, τ 32, τ 33, τ 34, τ 35, τ 36, τ 37, τ 38, τ 39, τ 40, τ 41, τ 42, τ 43, τ 44, τ 45, τ 46, τ 47, τ 48, τ 49, τ 50, τ 51, τ 52]) [[.bool (ng (topQ rest q)), x, y]] (fun _ => none) V5 s ∧ V4.le V5 ∧ RatC V5 (.agg #[.bool (ng (topQ rest q)), x, y]) (topQ rest q) ∧ isOne x = true ∧ isOne y = true) ?_ ?_
      · (first | refine XWP.drwT (.lin [0, 1, 2, 3, 4, 5, 6, 7, 8, 9, 10, 11] (.two (.lin [12, 13, 14, 15, 16, 17, 18] .nil) (.lin [16, 12, 13, 14, 15, 17, 18] .nil))) (by kernel_rfl) (by kernel_rfl) (by kernel_rfl) fun K hK => ?_ | refine XWP.seq (XWP.drwT (.lin [0, 1, 2, 3, 4, 5, 6, 7, 8, 9, 10, 11] (.two (.lin [12, 13, 14, 15, 16, 17, 18] .nil) (.lin [16, 12, 13, 14, 15, 17, 18] .nil))) (by kernel_rfl) (by kernel_rfl) (by kernel_rfl) fun K hK => ?_) | refine XWP.drwT1 (.lin [0, 1, 2, 3, 4, 5, 6, 7, 8, 9, 10, 11] (.two (.lin [12, 13, 14, 15, 16, 17, 18] .nil) (.lin [16, 12, 13, 14, 15, 17, 18] .nil))) (by kernel_rfl) (by kernel_rfl) (by kernel_rfl) fun K hK => ?_)
        obtain ⟨b5, o5, rfl⟩ := SlAt.addr hwr (by omega)
        obtain ⟨b6, o6, rfl⟩ := SlAt.addr hu4 (by omega)
        obtain ⟨m3, n3, d3, hx3, ⟨p1, p2, p3⟩, hld3⟩ := Rats.get hwr (rest.length - 1) (by omega)
        obtain ⟨m4, n4, d4, hx4, ⟨r1, r2, r3⟩, hld4⟩ := Rats.get hu4 (q.length - 1) (by omega)
        have w1 := i64_pred rest.length (by omega) (by omega)
        have w2 := i64_pred q.length (by omega) (by omega)
        simp only [XA, XB, gateX, Nat.reduceAdd, Nat.reduceLeDiff, Nat.reduceSub, Nat.reduceMul, ↓reduceIte, Int.reduceToNat, Int.reduceLE, beq_self_eq_true, w1]
        refine ⟨by omega, by omega, ld_mem (hld3 _) ?_⟩
        simp only [XA, XB, gateX, Nat.reduceAdd, Nat.reduceLeDiff, Nat.reduceSub, Nat.reduceMul, ↓reduceIte, Int.reduceToNat, Int.reduceLE, beq_self_eq_true, w2]
        refine ⟨by omega, by omega, ld_mem (hld4 _) ?_⟩
        simp only [XA, XB, gateX, Nat.reduceAdd, Nat.reduceLeDiff, Nat.reduceSub, Nat.reduceMul, ↓reduceIte, Int.reduceToNat, Int.reduceLE, beq_self_eq_true]
        refine And.intro ?_ ?_
        all_goals refine call_go (by kernel_rfl) rfl (pdiv_c _ _ _ _ _ (hx3.toV (QF.of (hb.at _) (by omega))) (hx4.toV (QF.of (hq.at _) (by omega))) (QF.of (hb.at _) (by omega)) (QF.of (hq.at _) (by omega))) fun v6 V6 hV6 h6 => ?_
        all_goals obtain ⟨x7, rfl, hx7⟩ := h6.2 hl
        all_goals obtain ⟨x, y, rfl, ox, oy⟩ := hx7.form
        all_goals simp only [XA, XB, gateX, Nat.reduceAdd, Nat.reduceLeDiff, Nat.reduceSub, Nat.reduceMul, ↓reduceIte, Int.reduceToNat, Int.reduceLE, beq_self_eq_true]
        all_goals refine st_rat rfl rfl rfl ox oy ?_
        all_goals simp only [XA, XB, gateX, Nat.reduceAdd, Nat.reduceLeDiff, Nat.reduceSub, Nat.reduceMul, ↓reduceIte, Int.reduceToNat, Int.reduceLE, beq_self_eq_true]
        all_goals exact hK _ ⟨V6, x, y, StIs.of (by exact rfl), hV6, hx7, ox, oy⟩
      rintro s ⟨V5, x, y, hs, hV5, hx, ox, oy⟩
      obtain ⟨z, rfl⟩ := hs.out
      try dsimp only
      have w3 := i64_sub rest.length q.length (by omega) (by omega)
      first | refine XWP.reg (by kernel_rfl) fun K hK => ?_ | refine XWP.seq (XWP.reg (by kernel_rfl) fun K hK => ?_) | refine XWP.reg1 (by kernel_rfl) fun K hK => ?_
      simp only [XA, XB, gateX, Nat.reduceAdd, Nat.reduceLeDiff, Nat.reduceSub, Nat.reduceMul, ↓reduceIte, Int.reduceToNat, Int.reduceLE, beq_self_eq_true, w3]
      refine hK _ ?_
      (first | refine XWP.drw [0, 3, 4, 1, 2, 5, 6] (by kernel_rfl) (by kernel_rfl) (by kernel_rfl) fun K hK => ?_ | refine XWP.seq (XWP.drw [0, 3, 4, 1, 2, 5, 6] (by kernel_rfl) (by kernel_rfl) (by kernel_rfl) fun K hK => ?_) | refine XWP.drw1 [0, 3, 4, 1, 2, 5, 6] (by kernel_rfl) (by kernel_rfl) (by kernel_rfl) fun K hK => ?_) <;> dsimp only [pickOps, List.getElem?_cons_zero, List.getElem?_cons_succ]
      simp only [XA, XB, gateX, Nat.reduceAdd, Nat.reduceLeDiff, Nat.reduceSub, Nat.reduceMul, ↓reduceIte, Int.reduceToNat, Int.reduceLE, beq_self_eq_true]
      refine call_go (by kernel_rfl) rfl (pone_c _) fun v6 V6 hV6 h6 => ?_
      obtain ⟨x6, y6, rfl, o6, o7⟩ := h6.form
      simp only [XA, XB, gateX, Nat.reduceAdd, Nat.reduceLeDiff, Nat.reduceSub, Nat.reduceMul, ↓reduceIte, Int.reduceToNat, Int.reduceLE, beq_self_eq_true]
      refine bs_go (by kernel_rfl) #[(0, .agg #[.bool (ng 1), x6, y6])] (by simp [ev_tmp, SV.val]) (bs_rat elemT_40) fun b3 hb3 hb4 => ?_
      simp only [XA, XB, gateX, Nat.reduceAdd, Nat.reduceLeDiff, Nat.reduceSub, Nat.reduceMul, ↓reduceIte, Int.reduceToNat, Int.reduceLE, beq_self_eq_true]
      refine call_pub b3 ⟨34, [.bool (ng 1), x6, y6], 3⟩ (by simp only [upd_at]) (fun o ho hle' => ?_) (by kernel_rfl) rfl
      have hone := (RowAt.snoc (RowAt.nil (E := ratE) V6) (x := 1) (show isOne (.bool (ng 1)) = true from rfl) o6 o7 h6).pub ratE_ok ho hle' (n := 1) (c := 1) rfl (Nat.le_refl _) (by omega)
      have hV6' := View.le_trans hV6 hle'
      refine call_go (by kernel_rfl) rfl (dsum_c _ _ _ _ quo [1] (topQ rest q) (rest.length - q.length) b 0 (b + B) ((hwo.up hV5).up hV6') hone (hx.mono hV6') hbq (CB_one (QB_one 0)) hQx (by omega) (by omega) (by simp only [List.length_cons, List.length_nil]; omega)) fun v7 V7 hV7 h7 => ?_
      simp only [XA, XB, gateX, Nat.reduceAdd, Nat.reduceLeDiff, Nat.reduceSub, Nat.reduceMul, ↓reduceIte, Int.reduceToNat, Int.reduceLE, beq_self_eq_true, upd_pub]
      refine hK _ ?_
      first | refine XWP.reg (by kernel_rfl) fun K hK => ?_ | refine XWP.seq (XWP.reg (by kernel_rfl) fun K hK => ?_) | refine XWP.reg1 (by kernel_rfl) fun K hK => ?_
      simp only [XA, XB, gateX, Nat.reduceAdd, Nat.reduceLeDiff, Nat.reduceSub, Nat.reduceMul, ↓reduceIte, Int.reduceToNat, Int.reduceLE, beq_self_eq_true]
      have hV7' := View.le_trans hV6' hV7
      refine call_go (by kernel_rfl) rfl (pneg_c _ _ _ ((hx.mono hV7').toV (QF.of hQx (by omega)))) fun v8 V8 hV8 h8 => ?_
      simp only [XA, XB, gateX, Nat.reduceAdd, Nat.reduceLeDiff, Nat.reduceSub, Nat.reduceMul, ↓reduceIte, Int.reduceToNat, Int.reduceLE, beq_self_eq_true]
      refine call_go (by kernel_rfl) rfl (dsum_c _ _ _ _ rest q (-topQ rest q) (rest.length - q.length) b B (b + B) (((hwr.up hV5).up hV7').up hV8) (((hu4.up hV5).up hV7').up hV8) h8 hb hq hQx.neg (by omega) (by omega) (by omega)) fun v9 V9 hV9 h9 => ?_
      simp only [XA, XB, gateX, Nat.reduceAdd, Nat.reduceLeDiff, Nat.reduceSub, Nat.reduceMul, ↓reduceIte, Int.reduceToNat, Int.reduceLE, beq_self_eq_true]
      have hlt := div_less h0 hl hle
      have hCB := CB.padd hb hq hQx.neg (rest.length - q.length)
      have hCq := (CB.padd hbq (CB_one (QB_one 0)) hQx (rest.length - q.length)).mono (show b + 0 + (b + B) + 1 ≤ b + B + (b + B) + 1 by omega)
      have hlq2 := pAdd_len quo [1] (topQ rest q) (rest.length - q.length)
      simp only [List.length_cons, List.length_nil] at hlq2
      refine hK _ ⟨_, by rw [hn]; exact hlt, fun f => ⟨V9, v9, v7, _, _, _, StIs.of (by exact rfl), View.le_trans hV4 (View.le_trans hV5 (View.le_trans hV7' (View.le_trans hV8 hV9))), rfl, h9, (h7.up hV8).up hV9, hCq, by omega, by omega, hCB, ?_, ?_, by rw [← partF_step h0 hl hle]; exact hd⟩⟩
      · have : 2 ^ (r.length - rest.length + 1) * (A + 2 * B + 2) ≤ 2 ^ (r.length - (pAdd rest q (-topQ rest q) (rest.length - q.length)).length) * (A + 2 * B + 2) := Nat.mul_le_mul_right _ (two_mono (by omega))
        omega
      · omega
    · have b1 : decide (q.length ≤ rest.length) = false := decide_eq_false hle
      first | refine XWP.reg (by kernel_rfl) fun K hK => ?_ | refine XWP.seq (XWP.reg (by kernel_rfl) fun K hK => ?_) | refine XWP.reg1 (by kernel_rfl) fun K hK => ?_
      simp only [XA, XB, gateX, Nat.reduceAdd, Nat.reduceLeDiff, Nat.reduceSub, Nat.reduceMul, ↓reduceIte, Int.reduceToNat, Int.reduceLE, beq_self_eq_true, len_geq, b1]
      refine hK _ ?_
      first | refine XWP.cond (t := false) rfl (fun h => by cases h) (fun _ => ?_) | refine XWP.seq (XWP.cond (t := false) rfl (fun h => by cases h) (fun _ => ?_))
      refine XWP.exit ?_
      rw [partF_end hle] at hd
      subst hd
      exact fun f => ⟨V4, _, _, StIs.of (by exact rfl), hwr, hwo, hb.mono (by omega), hbq.mono (by omega)⟩
  rintro s ⟨V4, wr, wo, hs, hwr, hwo, hCB, hCq⟩
  obtain ⟨z, rfl⟩ := hs.out
  try dsimp only
  first | refine XWP.reg (by kernel_rfl) fun K hK => ?_ | refine XWP.seq (XWP.reg (by kernel_rfl) fun K hK => ?_) | refine XWP.reg1 (by kernel_rfl) fun K hK => ?_
  simp only [XA, XB, gateX, Nat.reduceAdd, Nat.reduceLeDiff, Nat.reduceSub, Nat.reduceMul, ↓reduceIte, Int.reduceToNat, Int.reduceLE, beq_self_eq_true]
  refine hK _ (XWP.ret ?_)
  try simp only [thenX_ret, inBlockX_ret]
  refine ret_go _ rfl ?_
  exact ⟨_, _, rfl, hwo, hwr, hCB, hCq⟩
theorem dcommon_c (V : View) (v u : Value) (p0 q0 : List Rat) (M : Nat) (hp : Rats V v p0) (hq : Rats V u q0) (k2 : PolQ p0) (k5 : PolQ q0) (f1 : CB M p0) (f2 : CB M q0) (lP : p0.length ≤ 500) (lQ : q0.length ≤ 500) (hfit : comFit p0.length q0.length M) (hM : 2 * (M + 1) ≤ 17592186044416) (hne : ¬ (p0.length = 0 ∧ q0.length = 0)) :
    Spec Try.prog 75 [v, u] V fun v' V' => Rats V' v' (comRP p0 q0) ∧ CB 17592186044416 (comRP p0 q0) := by
  refine (Spec.enter Try.func75 rfl fun Γ => ?_)
  simp only [Try.ntmps75, List.map_cons, List.map_nil, List.length_cons, List.length_nil, Nat.reduceAdd, Nat.reduceSub, List.replicate_succ, List.replicate_zero, List.cons_append, List.nil_append]
  first | refine XWP.reg (by kernel_rfl) fun K hK => ?_ | refine XWP.seq (XWP.reg (by kernel_rfl) fun K hK => ?_) | refine XWP.reg1 (by kernel_rfl) fun K hK => ?_
  simp only [XA, XB, gateX, Nat.reduceAdd, Nat.reduceLeDiff, Nat.reduceSub, Nat.reduceMul, ↓reduceIte, Int.reduceToNat, Int.reduceLE, beq_self_eq_true]
  refine hK _ ?_
  clear hK
  generalize hmx : max p0.length q0.length = mx at *
  refine XWP.cut (fun s => ∃ (V4 : View) (w : Value) (N : Nat), StIs (fun τ => [.v w, τ 1, τ 2, τ 3, τ 4, τ 5, τ 6, τ 7, τ 8, τ 9, τ 10, τ 11, τ 12, τ 13, τ 14, τ 15, τ 16, τ 17, τ 18, τ 19, τ 20, τ 21, τ 22, τ 23, τ 24, τ 25, τ 26, τ 27, τ 28, τ 29, τ 30, τ 31, τ 32, τ 33]) [] (fun _ => none) V4 s ∧ Rats V4 w (comR (q0.length + 1) p0 q0) ∧ CB N (comR (q0.length + 1) p0 q0) ∧ PolQ (comR (q0.length + 1) p0 q0) ∧ 0 < (comR (q0.length + 1) p0 q0).length ∧ (comR (q0.length + 1) p0 q0).length ≤ 1000 ∧ 2 * N + 2 ≤ 17592186044416) ?_ ?_
  · first | refine XWP.block ?_ | refine XWP.seq (XWP.block ?_)
    refine XWP.loop (fun n s => ∃ (V4 : View) (wp wq : Value) (p q : List Rat) (N r s' : Nat), StIs (fun τ => [.v wp, .v wq, τ 2, τ 3, τ 4, τ 5, τ 6, τ 7, τ 8, τ 9, τ 10, τ 11, τ 12, τ 13, τ 14, τ 15, τ 16, τ 17, τ 18, τ 19, τ 20, τ 21, τ 22, τ 23, τ 24, τ 25, τ 26, τ 27, τ 28, τ 29, τ 30, τ 31, τ 32, τ 33]) [] (fun _ => none) V4 s ∧ n = q.length ∧ Rats V4 wp p ∧ Rats V4 wq q ∧ PolQ p ∧ PolQ q ∧ ¬ (p.length = 0 ∧ q.length = 0) ∧ CB N p ∧ CB N q ∧ N + 1 ≤ gb M r s' ∧ r + q.length ≤ q0.length ∧ s' + p.length ≤ mx + r ∧ (r = 0 ∧ s' = 0 ∧ p.length = p0.length ∧ q.length = q0.length ∨ q.length < p.length) ∧ p.length ≤ 1000 ∧ comR (q.length + 1) p q = comR (q0.length + 1) p0 q0) q0.length ⟨V, _, _, p0, q0, M, 0, 0, StIs.of (by exact rfl), rfl, hp, hq, k2, k5, hne, f1, f2, by rw [gb_zero]; omega, by omega, by omega, .inl ⟨rfl, rfl, rfl, rfl⟩, by omega, rfl⟩ ?_
    rintro n s ⟨V4, wp, wq, p, q, N, r, s', hs, hn, hwp, hwq, hpp, hqq, hne', hNp, hNq, hgb, hr, hs', hor, hpl, hcom⟩
    obtain ⟨z, rfl⟩ := hs.out
    try dsimp only
    obtain ⟨A5, c5, rfl, _, _⟩ := hwq.form
    refine XWP.seq ?_
    by_cases n2 : q.length = 0
    · have b2 : decide ((0 : Int) < (q.length : Int)) = false := decide_eq_false (by omega)
      first | refine XWP.reg (by kernel_rfl) fun K hK => ?_ | refine XWP.seq (XWP.reg (by kernel_rfl) fun K hK => ?_) | refine XWP.reg1 (by kernel_rfl) fun K hK => ?_
      simp only [XA, XB, gateX, Nat.reduceAdd, Nat.reduceLeDiff, Nat.reduceSub, Nat.reduceMul, ↓reduceIte, Int.reduceToNat, Int.reduceLE, beq_self_eq_true, b2]
      refine hK _ ?_
      first | refine XWP.cond (t := false) rfl (fun h => by cases h) (fun _ => ?_) | refine XWP.seq (XWP.cond (t := false) rfl (fun h => by cases h) (fun _ => ?_))
      refine XWP.exit ?_
      rw [comR_end (by omega)] at hcom
      subst hcom
      refine ⟨V4, wp, N, StIs.of (by exact rfl), hwp, hNp, hpp, by omega, hpl, ?_⟩
      rcases hor with ⟨h1, h2, h3, h4⟩ | h
      · subst h1; subst h2
        rw [gb_zero] at hgb; omega
      · have h1 : gb M r (s' + 1) ≤ gb M q0.length (mx + q0.length) := gb_mono (by omega) (by omega)
        have h2 : gb M r (s' + 1) = 2 * gb M r s' := by
          unfold gb
          rw [Nat.pow_succ, Nat.mul_comm (2 ^ s') 2, Nat.mul_assoc 2, Nat.mul_left_comm]
        unfold comFit at hfit
        rw [hmx] at hfit
        omega
    · have b2 : decide ((0 : Int) < (q.length : Int)) = true := decide_eq_true (by omega)
      first | refine XWP.reg (by kernel_rfl) fun K hK => ?_ | refine XWP.seq (XWP.reg (by kernel_rfl) fun K hK => ?_) | refine XWP.reg1 (by kernel_rfl) fun K hK => ?_
      simp only [XA, XB, gateX, Nat.reduceAdd, Nat.reduceLeDiff, Nat.reduceSub, Nat.reduceMul, ↓reduceIte, Int.reduceToNat, Int.reduceLE, beq_self_eq_true, b2]
      refine hK _ ?_
      first | refine XWP.cond (t := true) rfl (fun _ => ?_) (fun h => by cases h) | refine XWP.seq (XWP.cond (t := true) rfl (fun _ => ?_) (fun h => by cases h))
      refine XWP.skip ?_
      first | refine XWP.block ?_ | refine XWP.seq (XWP.block ?_)
      have hk := gb_step (k := p.length - q.length + 1) hgb
      have hgm : gb M (r + 1) (s' + (p.length - q.length + 1)) ≤ gb M q0.length (mx + q0.length) := gb_mono (by omega) (by
        rcases hor with ⟨h1, h2, h3, h4⟩ | h <;> omega)
      unfold comFit at hfit
      rw [hmx] at hfit
      have hA : 5 * N + 4 ≤ 2 ^ (p.length - q.length + 1) * (5 * N + 4) := Nat.le_mul_of_pos_left _ (two_pos _)
      have hB : 2 ^ (p.length - q.length + 1) * (N + 2 * N + 2) ≤ 2 ^ (p.length - q.length + 1) * (5 * N + 4) := Nat.mul_le_mul_left _ (by omega)
      first | refine XWP.reg (by kernel_rfl) fun K hK => ?_ | refine XWP.seq (XWP.reg (by kernel_rfl) fun K hK => ?_) | refine XWP.reg1 (by kernel_rfl) fun K hK => ?_
      simp only [XA, XB, gateX, Nat.reduceAdd, Nat.reduceLeDiff, Nat.reduceSub, Nat.reduceMul, ↓reduceIte, Int.reduceToNat, Int.reduceLE, beq_self_eq_true]
      refine call_go (by kernel_rfl) rfl (dpart_c _ _ _ p q N N hwp hwq hNp hNq (by omega) (hqq (by omega)) (by omega) (by omega) (by omega)) fun v6 V6 hV6 h6 => ?_
      obtain ⟨wd, wr, rfl, h7, h8, h9, _⟩ := h6
      simp only [XA, XB, gateX, Nat.reduceAdd, Nat.reduceLeDiff, Nat.reduceSub, Nat.reduceMul, ↓reduceIte, Int.reduceToNat, Int.reduceLE, beq_self_eq_true]
      refine hK _ ?_
      obtain ⟨hl1, hl2⟩ := partP_rest (p := p) hqq (by omega)
      first | refine XWP.reg (by kernel_rfl) fun K hK => ?_ | refine XWP.seq (XWP.reg (by kernel_rfl) fun K hK => ?_) | refine XWP.reg1 (by kernel_rfl) fun K hK => ?_
      simp only [XA, XB, gateX, Nat.reduceAdd, Nat.reduceLeDiff, Nat.reduceSub, Nat.reduceMul, ↓reduceIte, Int.reduceToNat, Int.reduceLE, beq_self_eq_true]
      refine hK _ ⟨_, by rw [hn]; exact hl1, V6, _, _, q, _, 2 ^ (p.length - q.length + 1) * (5 * N + 4), r + 1, s' + (p.length - q.length + 1), StIs.of (by exact rfl), rfl, hwq.up hV6, h8, hqq, hl2, fun h => by omega, hNq.mono (by omega), h9.mono hB, hk, by omega, ?_, .inr hl1, by omega, ?_⟩
      · rcases hor with ⟨h1, h2, h3, h4⟩ | h <;> omega
      · rw [← comR_step hqq (by omega)]; exact hcom
  rintro s ⟨V4, w, N, hs, hw, hN, hpol, hpos, hl1000, hN2⟩
  obtain ⟨z, rfl⟩ := hs.out
  try dsimp only
  unfold comRP
  generalize comR (q0.length + 1) p0 q0 = p at *
  obtain ⟨A1, c1, rfl, hc1, hm1⟩ := hw.form
  refine XWP.cut (fun s => ∃ (V2 : View) (m x y : Value), StIs (fun τ => [.v (.slice A1 p.length c1), τ 1, τ 2, τ 3, τ 4, τ 5, τ 6, .p 0 0, τ 8, τ 9, τ 10, τ 11, τ 12, τ 13, τ 14, τ 15, τ 16, τ 17, τ 18, τ 19, τ 20, τ 21, τ 22, τ 23, τ 24, τ 25, τ 26, τ 27, τ 28, τ 29, τ 30, τ 31, τ 32, τ 33]) [[m, x, y]] (fun _ => none) V2 s ∧ V4.le V2 ∧ RatC V2 (.agg #[m, x, y]) (1 / cf p (p.length - 1))) ?_ ?_
  · (first | refine XWP.drwT (.lin [1, 2, 3, 4, 5, 6] (.two (.lin [0] (.two (.lin [7, 8, 9, 10, 11, 12, 13] .nil) (.lin [11, 7, 8, 9, 10, 12, 13] .nil))) (.lin [11, 0, 7, 8, 9, 10, 12, 13] .nil))) (by kernel_rfl) (by kernel_rfl) (by kernel_rfl) fun K hK => ?_ | refine XWP.seq (XWP.drwT (.lin [1, 2, 3, 4, 5, 6] (.two (.lin [0] (.two (.lin [7, 8, 9, 10, 11, 12, 13] .nil) (.lin [11, 7, 8, 9, 10, 12, 13] .nil))) (.lin [11, 0, 7, 8, 9, 10, 12, 13] .nil))) (by kernel_rfl) (by kernel_rfl) (by kernel_rfl) fun K hK => ?_) | refine XWP.drwT1 (.lin [1, 2, 3, 4, 5, 6] (.two (.lin [0] (.two (.lin [7, 8, 9, 10, 11, 12, 13] .nil) (.lin [11, 7, 8, 9, 10, 12, 13] .nil))) (.lin [11, 0, 7, 8, 9, 10, 12, 13] .nil))) (by kernel_rfl) (by kernel_rfl) (by kernel_rfl) fun K hK => ?_)
    obtain ⟨b, o, rfl⟩ := SlAt.addr hw (by omega)
    obtain ⟨m3, n3, d3, hx3, ⟨p1, p2, p3⟩, hld3⟩ := Rats.get hw (p.length - 1) (by omega)
    have w1 := i64_pred p.length (by omega) (by omega)
    simp only [XA, XB, gateX, Nat.reduceAdd, Nat.reduceLeDiff, Nat.reduceSub, Nat.reduceMul, ↓reduceIte, Int.reduceToNat, Int.reduceLE, beq_self_eq_true, w1]
    refine ⟨by omega, by omega, ld_mem (hld3 _) ?_⟩
    simp only [XA, XB, gateX, Nat.reduceAdd, Nat.reduceLeDiff, Nat.reduceSub, Nat.reduceMul, ↓reduceIte, Int.reduceToNat, Int.reduceLE, beq_self_eq_true]
    refine And.intro ?_ ?_
    all_goals refine call_go (by kernel_rfl) rfl (pone_c _) fun v1 V1 hV1 h1 => ?_
    all_goals simp only [XA, XB, gateX, Nat.reduceAdd, Nat.reduceLeDiff, Nat.reduceSub, Nat.reduceMul, ↓reduceIte, Int.reduceToNat, Int.reduceLE, beq_self_eq_true]
    all_goals try refine And.intro ?_ ?_
    all_goals refine call_go (by kernel_rfl) rfl (pdiv_c _ _ _ _ _ (h1.toV QF_one) ((hx3.mono hV1).toV (QF.of (hN.at _) (by omega))) QF_one (QF.of (hN.at _) (by omega))) fun v2 V2 hV2 h2 => ?_
    all_goals obtain ⟨r, rfl, hr⟩ := h2.2 (hpol hpos)
    all_goals obtain ⟨x, y, rfl, ox, oy⟩ := hr.form
    all_goals simp only [XA, XB, gateX, Nat.reduceAdd, Nat.reduceLeDiff, Nat.reduceSub, Nat.reduceMul, ↓reduceIte, Int.reduceToNat, Int.reduceLE, beq_self_eq_true]
    all_goals refine st_rat rfl rfl rfl ox oy ?_
    all_goals simp only [XA, XB, gateX, Nat.reduceAdd, Nat.reduceLeDiff, Nat.reduceSub, Nat.reduceMul, ↓reduceIte, Int.reduceToNat, Int.reduceLE, beq_self_eq_true]
    all_goals exact hK _ ⟨V2, _, x, y, StIs.of (by exact rfl), View.le_trans hV1 hV2, hr⟩
  rintro s ⟨V2, m, x, y, hs, hV2, hr⟩
  obtain ⟨z, rfl⟩ := hs.out
  try dsimp only
  have hq : QB N (1 / cf p (p.length - 1)) := by
    have := (QB_one 0).div (hN.at (p.length - 1))
    rw [Nat.zero_add] at this; exact this
  first | refine XWP.reg (by kernel_rfl) fun K hK => ?_ | refine XWP.seq (XWP.reg (by kernel_rfl) fun K hK => ?_) | refine XWP.reg1 (by kernel_rfl) fun K hK => ?_
  simp only [XA, XB, gateX, Nat.reduceAdd, Nat.reduceLeDiff, Nat.reduceSub, Nat.reduceMul, ↓reduceIte, Int.reduceToNat, Int.reduceLE, beq_self_eq_true]
  refine call_go (by kernel_rfl) rfl (dsum_c _ _ _ _ [] p _ 0 0 N N (SlAt.nil _) (hw.up hV2) hr (CB_nil _) hN hq (by omega) (by simp) (by omega)) fun v3 V3 hV3 h3 => ?_
  simp only [XA, XB, gateX, Nat.reduceAdd, Nat.reduceLeDiff, Nat.reduceSub, Nat.reduceMul, ↓reduceIte, Int.reduceToNat, Int.reduceLE, beq_self_eq_true]
  refine hK _ (XWP.ret ?_)
  try simp only [thenX_ret, inBlockX_ret]
  refine ret_go _ rfl ?_
  exact ⟨h3, (scaledP_CB hN).mono (by omega)⟩
end Go.Proofs.Ythoboehbadmlmaa
end
section
namespace Go.Proofs.Ythoboehbadmlmaa
set_option linter.unusedVariables false
structure BM where
  q : List Rat
  last : List Rat
  size : Nat
  ago : Nat
  was : Rat
  deriving DecidableEq
def bm0 : BM := ⟨[1], [1], 0, 1, 1⟩
def bmNext (l : List Rat) (s : BM) (i : Nat) : List Rat := pAdd s.q s.last (-(off l s.q i / s.was)) s.ago
def bmStep (l : List Rat) (s : BM) (i : Nat) : BM :=
  if off l s.q i = 0 then { s with ago := s.ago + 1 } else
  if 2 * s.size ≤ i then ⟨bmNext l s i, s.q, i + 1 - s.size, 1, off l s.q i⟩ else ⟨bmNext l s i, s.last, s.size, s.ago + 1, s.was⟩
def bmI (l : List Rat) : Nat → BM
  | 0 => bm0
  | i + 1 => bmStep l (bmI l i) i
def bmOut (s : BM) : List Rat := mk s.size fun j => -(cf s.q (j + 1))
theorem bm_len (l : List Rat) (i : Nat) : (bmI l i).q.length ≤ i + 1 ∧ (bmI l i).last.length + (bmI l i).ago ≤ i + 2 ∧ (bmI l i).size ≤ i ∧ (bmI l i).was ≠ 0 := by
  induction i with
  | zero => exact ⟨by simp [bmI, bm0], by simp [bmI, bm0], by simp [bmI, bm0], one_ne⟩
  | succ i ih =>
    obtain ⟨h1, h2, h3, h4⟩ := ih
    unfold bmI bmStep
    have h5 := pAdd_len (bmI l i).q (bmI l i).last (-(off l (bmI l i).q i / (bmI l i).was)) (bmI l i).ago
    split
    · exact ⟨by dsimp only; omega, by dsimp only; omega, by dsimp only; omega, h4⟩
    · rename_i hd
      split
      · exact ⟨by unfold bmNext; dsimp only; omega, by dsimp only; omega, by dsimp only; omega, hd⟩
      · exact ⟨by unfold bmNext; dsimp only; omega, by dsimp only; omega, by dsimp only; omega, h4⟩
/-- all numbers of a step are small enough -/
structure BMFit (l : List Rat) (s : BM) (i : Nat) : Prop where
  hq : ∀ x ∈ s.q, QF x
  sum : ∀ k, k < min s.q.length (i + 1) → QF (offS l s.q i k) ∧ QF (cf s.q k * cf l (i - k))
  d : QF (off l s.q i)
  was : QF s.was
  by_ : QF (off l s.q i / s.was)
  add : ∃ A B C, (∀ x ∈ s.q, QB A x) ∧ (∀ x ∈ s.last, QB B x) ∧ QB C (off l s.q i / s.was) ∧ A + B + C + 2 ≤ 17592186044416
def bb (B : Nat) : Nat → Nat
  | 0 => 0
  | i + 1 => 4 * bb B i + 2 * B + 1
theorem bb_mono (B : Nat) {i j : Nat} (h : i ≤ j) : bb B i ≤ bb B j := by
  induction j with
  | zero => have : i = 0 := by omega
            subst this; exact Nat.le_refl _
  | succ j ih =>
    rcases Nat.eq_or_lt_of_le h with h1 | h1
    · subst h1; exact Nat.le_refl _
    · have := ih (by omega)
      simp only [bb]; omega
theorem bm_CB {l : List Rat} {B e : Nat} (hl : CB B l) (N : Nat) (he : N ≤ 2 ^ e) (i : Nat) (hi : i ≤ N) : CB (bb (B + e) i) (bmI l i).q ∧ CB (bb (B + e) i) (bmI l i).last ∧ QB (bb (B + e) i + B + e) (bmI l i).was := by
  induction i with
  | zero => exact ⟨CB_one (QB_one 0), CB_one (QB_one 0), QB_one _⟩
  | succ i ih =>
    obtain ⟨h1, h2, h3⟩ := ih (by omega)
    have hm : bb (B + e) i ≤ bb (B + e) (i + 1) := bb_mono (B + e) (Nat.le_succ i)
    have hd : QB (B + bb (B + e) i + e) (off l (bmI l i).q i) := CB.offs hl h1 i _ e (by omega)
    have hby := hd.div h3
    have hn := (CB.padd h1 h2 hby.neg (bmI l i).ago).mono (show _ ≤ bb (B + e) (i + 1) by simp only [bb]; omega)
    rw [bmI]
    unfold bmStep
    split
    · exact ⟨h1.mono hm, h2.mono hm, h3.mono (by omega)⟩
    · split
      · exact ⟨hn, h1.mono hm, hd.mono (by omega)⟩
      · exact ⟨hn, h2.mono hm, h3.mono (by omega)⟩
theorem bm_fit {l : List Rat} {B e : Nat} (hl : CB B l) (he : l.length ≤ 2 ^ e) (hfit : bb (B + e) l.length + B + e + 2 ≤ 17592186044416) (i : Nat) (hi : i < l.length) : BMFit l (bmI l i) i := by
  obtain ⟨h1, h2, h3⟩ := bm_CB hl l.length he i (by omega)
  have hm := bb_mono (B + e) (show i + 1 ≤ l.length from hi)
  simp only [bb] at hm
  have hS : ∀ k, k ≤ i + 1 → QB (B + bb (B + e) i + e) (offS l (bmI l i).q i k) := fun k hk => CB.offs hl h1 i k e (by omega)
  have hd : QB (B + bb (B + e) i + e) (off l (bmI l i).q i) := hS _ (by omega)
  have hby := hd.div h3
  exact ⟨h1.qf (by omega), fun k hk => ⟨QF.of (hS k (by omega)) (by omega), QF.of ((h1.at k).mul (hl.at (i - k))) (by omega)⟩, QF.of hd (by omega), QF.of h3 (by omega), QF.of hby (by omega), ⟨_, _, _, h1.mem, h2.mem, hby, by omega⟩⟩
end Go.Proofs.Ythoboehbadmlmaa
end
