/- The recurrence package's Right, Add, Mul and Eval agree with the reference's, errors included. (part 12 of 12) -/
import Derived.OrdersHeld
import Derived.Below
import Derived.Tactics
import Derived.KernelRfl
import Derived.RangeFuncCalls
import Derived.RangeFuncFrom
import Derived.RangeFuncLeaves
import Derived.OrdersIn
import Derived.Laws.AppendOwn
import Derived.Laws.MakeOwn
import Derived.Laws.CopyRow
import Derived.Laws.Cells
import Derived.Laws.World
import Derived.Laws.Alloc2
import Derived.Laws.NewBlocks
import Derived.Maps.AppendAt
import Derived.Test.YthoboehbadmlmaaProg
import Init.Data.List.Lemmas
import Init.Omega
import Derived.WalkKit
import Derived.ProofKit
import Derived.OpenShut
import Derived.ChangeOld
import Derived.SizedLaws
import Derived.ChangeSlices
import Derived.ChangeArms
import Derived.Deep.Slices
import Derived.Test.YthoboehbadmlmaaRows
import Derived.ShutString
import Derived.Test.YthoboehbadmlmaaPO11
section
namespace Go.Proofs.Ythoboehbadmlmaa
open Go Go.RowKit
set_option linter.unusedSimpArgs false
set_option linter.unusedVariables false
attribute [local irreducible] XWP Spec SpecO XPub XCall seqX clX apX stX ldX iaX slX
def pwr (x : Rat) : Nat → Rat
  | 0 => 1
  | k + 1 => pwr x k * x
def evr (l : List Rat) (x : Rat) : Nat → Rat
  | 0 => 0
  | k + 1 => evr l x k + cf l k * pwr x k
theorem evr_Sm (l : List Rat) (x : Rat) (k : Nat) : evr l x k = Sm (fun j => cf l j * pwr x j) k := by
  induction k with
  | zero => rfl
  | succ k ih => rw [evr, ih]; rfl
theorem hor_evr (l : List Rat) (x : Rat) : hor l x l.length = evr l x l.length := by
  have key : ∀ r, r ≤ l.length → hor l x r = Sm (fun j => cf l (l.length - r + j) * pwr x j) r := by
    intro r
    induction r with
    | zero => intro _; rfl
    | succ r ih =>
      intro hr
      rw [hor, ih (by omega), Sm_front]
      have e1 : Sm (fun j => cf l (l.length - (r + 1) + (j + 1)) * pwr x (j + 1)) r = x * Sm (fun j => cf l (l.length - r + j) * pwr x j) r := by
        rw [← Sm_mul]
        refine Sm_congr _ fun j _ => ?_
        rw [show l.length - (r + 1) + (j + 1) = l.length - r + j by omega, pwr]; grind
      rw [e1, Nat.add_zero, show l.length - (r + 1) = l.length - 1 - r by omega, pwr]; grind
  rw [key _ (Nat.le_refl _), evr_Sm, Nat.sub_self]
  exact Sm_congr _ fun j _ => by rw [Nat.zero_add]
theorem pwr_QB {x : Rat} {B : Nat} (hx : QB B x) (k : Nat) : QB (k * B) (pwr x k) := by
  induction k with
  | zero => exact QB_one _
  | succ k ih => exact (ih.mul hx).mono (by rw [Nat.add_mul]; omega)
theorem evr_QB {l : List Rat} {x : Rat} {A B n : Nat} (hl : CB A l) (hx : QB B x) (k : Nat) (hk : k ≤ n) : QB (k * (A + n * B + 1)) (evr l x k) := by
  induction k with
  | zero => exact QB_zero _
  | succ k ih =>
    have h1 := Nat.mul_le_mul_right B (show k ≤ n by omega)
    exact ((ih (by omega)).add ((hl.at k).mul (pwr_QB hx k))).mono (by rw [Nat.add_mul]; omega)
theorem deval_c (V : View) (v u : Value) (l : List Rat) (x : Rat) (A B : Nat) (hv : Rats V v l) (hu : RatC V u x) (hA : CB A l) (hB : QB B x) (ll : l.length ≤ 1000) (hfit : (l.length + 2) * (A + (l.length + 1) * B + 1) ≤ 17592186044416) :
    Spec Try.prog 81 [v, u] V fun v' V' => RatC V' v' (evr l x l.length) := by
  obtain ⟨A1, c1, rfl, hc1, hm1⟩ := hv.form
  obtain ⟨ux, uy, rfl, o1, o2⟩ := hu.form
  have hp : ∀ k, k ≤ l.length + 1 → QB ((l.length + 1) * B) (pwr x k) := fun k hk => (pwr_QB hB k).mono (Nat.mul_le_mul_right _ hk)
  have he : ∀ k, k ≤ l.length + 1 → QB ((l.length + 1) * (A + (l.length + 1) * B + 1)) (evr l x k) := fun k hk => (evr_QB hA hB k hk).mono (Nat.mul_le_mul_right _ hk)
  have hf1 : (l.length + 1) * (A + (l.length + 1) * B + 1) + (A + (l.length + 1) * B + 1) ≤ 17592186044416 := by rw [show l.length + 2 = l.length + 1 + 1 by omega, Nat.add_mul (l.length + 1)] at hfit; omega
  have hfB : B ≤ (l.length + 1) * B := Nat.le_mul_of_pos_left B (by omega)
  refine (Spec.enter Try.func81 rfl fun Γ => ?_)
  simp only [Try.ntmps81, List.map_cons, List.map_nil, List.length_cons, List.length_nil, Nat.reduceAdd, Nat.reduceSub, List.replicate_succ, List.replicate_zero, List.cons_append, List.nil_append]
  first | refine XWP.reg (by kernel_rfl) fun K hK => ?_ | refine XWP.seq (XWP.reg (by kernel_rfl) fun K hK => ?_) | refine XWP.reg1 (by kernel_rfl) fun K hK => ?_
  simp only [XA, XB, gateX, Nat.reduceAdd, Nat.reduceLeDiff, Nat.reduceSub, Nat.reduceMul, ↓reduceIte, Int.reduceToNat, Int.reduceLE, beq_self_eq_true]
  refine hK _ ?_
  first | refine XWP.reg (by kernel_rfl) fun K hK => ?_ | refine XWP.seq (XWP.reg (by kernel_rfl) fun K hK => ?_) | refine XWP.reg1 (by kernel_rfl) fun K hK => ?_
  simp only [XA, XB, gateX, Nat.reduceAdd, Nat.reduceLeDiff, Nat.reduceSub, Nat.reduceMul, ↓reduceIte, Int.reduceToNat, Int.reduceLE, beq_self_eq_true]
  refine call_go (by kernel_rfl) rfl (pzero_c _) fun v1 V1 hV1 h1 => ?_
  obtain ⟨zx, zy, rfl, o3, o4⟩ := h1.form
  simp only [XA, XB, gateX, Nat.reduceAdd, Nat.reduceLeDiff, Nat.reduceSub, Nat.reduceMul, ↓reduceIte, Int.reduceToNat, Int.reduceLE, beq_self_eq_true]
  refine call_go (by kernel_rfl) rfl (pone_c _) fun v2 V2 hV2 h2 => ?_
  obtain ⟨wx, wy, rfl, o5, o6⟩ := h2.form
  have h1 := h1.mono hV2
  simp only [XA, XB, gateX, Nat.reduceAdd, Nat.reduceLeDiff, Nat.reduceSub, Nat.reduceMul, ↓reduceIte, Int.reduceToNat, Int.reduceLE, beq_self_eq_true]
  refine st_rat rfl rfl rfl o3 o4 ?_
  simp only [XA, XB, gateX, Nat.reduceAdd, Nat.reduceLeDiff, Nat.reduceSub, Nat.reduceMul, ↓reduceIte, Int.reduceToNat, Int.reduceLE, beq_self_eq_true]
  refine st_rat rfl rfl rfl o5 o6 ?_
  simp only [XA, XB, gateX, Nat.reduceAdd, Nat.reduceLeDiff, Nat.reduceSub, Nat.reduceMul, ↓reduceIte, Int.reduceToNat, Int.reduceLE, beq_self_eq_true]
  refine hK _ ?_
  have hV12 := View.le_trans hV1 hV2
  refine XWP.cutD 4 (fun s => ∃ (V5 : View) (m a b m' a' b' : Value), StIs (fun τ => [τ 0, τ 1, τ 2, .p 0 0, .p 1 0, .p 2 0, .p 3 0, τ 7, τ 8, τ 9, τ 10, τ 11, τ 12, τ 13, τ 14, τ 15, τ 16, τ 17, τ 18, τ 19, τ 20, τ 21, τ 22, τ 23, τ 24, τ 25, τ 26]) [[.bool (ng x), ux, uy], [.bool false, .slice none 0 0, .slice none 0 0], [m, a, b], [m', a', b']] (fun _ => none) V5 s ∧ RatC V5 (.agg #[m, a, b]) (evr l x l.length) ∧ isOne m = true ∧ isOne a = true ∧ isOne b = true) ?_ ?_
  · first | refine XWP.reg (by kernel_rfl) fun K hK => ?_ | refine XWP.seq (XWP.reg (by kernel_rfl) fun K hK => ?_) | refine XWP.reg1 (by kernel_rfl) fun K hK => ?_
    simp only [XA, XB, gateX, Nat.reduceAdd, Nat.reduceLeDiff, Nat.reduceSub, Nat.reduceMul, ↓reduceIte, Int.reduceToNat, Int.reduceLE, beq_self_eq_true]
    refine hK _ ?_
    clear hK
    first | refine XWP.block ?_ | refine XWP.seq (XWP.block ?_)
    refine XWP.loopD 4 (fun d s => ∃ (k : Nat) (V5 : View) (m a b m' a' b' : Value), StIs (fun τ => [τ 0, τ 1, τ 2, .p 0 0, .p 1 0, .p 2 0, .p 3 0, τ 7, τ 8, τ 9, τ 10, .v (.slice A1 l.length c1), .v (.int .i64 (l.length : Int)), .v (.int .i64 (k : Int)), τ 14, τ 15, τ 16, τ 17, τ 18, τ 19, τ 20, τ 21, τ 22, τ 23, τ 24, τ 25, τ 26]) [[.bool (ng x), ux, uy], [.bool false, .slice none 0 0, .slice none 0 0], [m, a, b], [m', a', b']] (fun _ => none) V5 s ∧ V2.le V5 ∧ d + k = l.length ∧ RatC V5 (.agg #[m, a, b]) (evr l x k) ∧ RatC V5 (.agg #[m', a', b']) (pwr x k) ∧ isOne m = true ∧ isOne a = true ∧ isOne b = true ∧ isOne m' = true ∧ isOne a' = true ∧ isOne b' = true) l.length ⟨0, V2, _, _, _, _, _, _, StIs.of (by exact rfl), View.le_refl _, by omega, h1, h2, rfl, o3, o4, rfl, o5, o6⟩ ?_
    rintro d s ⟨k, V5, m, a, b, m', a', b', hs, hV5, hd, h5, h6, q1, q2, q3, q4, q5, q6⟩
    obtain ⟨z, rfl⟩ := hs.out
    try dsimp only
    clear hs
    by_cases hk : k < l.length
    rotate_left
    · obtain rfl : k = l.length := by omega
      have b1 : decide ((l.length : Int) < (l.length : Int)) = false := decide_eq_false (by omega)
      first | refine XWP.reg (by kernel_rfl) fun K hK => ?_ | refine XWP.seq (XWP.reg (by kernel_rfl) fun K hK => ?_) | refine XWP.reg1 (by kernel_rfl) fun K hK => ?_
      simp only [XA, XB, gateX, Nat.reduceAdd, Nat.reduceLeDiff, Nat.reduceSub, Nat.reduceMul, ↓reduceIte, Int.reduceToNat, Int.reduceLE, beq_self_eq_true, b1]
      refine hK _ ?_
      first | refine XWP.cond (t := false) rfl (fun h => by cases h) (fun _ => ?_) | refine XWP.seq (XWP.cond (t := false) rfl (fun h => by cases h) (fun _ => ?_))
      refine XWP.exit ?_
      exact fun f => ⟨V5, m, a, b, m', a', b', StIs.of (by exact rfl), h5, q1, q2, q3⟩
    have b1 : decide ((k : Int) < (l.length : Int)) = true := decide_eq_true (by omega)
    first | refine XWP.reg (by kernel_rfl) fun K hK => ?_ | refine XWP.seq (XWP.reg (by kernel_rfl) fun K hK => ?_) | refine XWP.reg1 (by kernel_rfl) fun K hK => ?_
    simp only [XA, XB, gateX, Nat.reduceAdd, Nat.reduceLeDiff, Nat.reduceSub, Nat.reduceMul, ↓reduceIte, Int.reduceToNat, Int.reduceLE, beq_self_eq_true, b1]
    refine hK _ ?_
    first | refine XWP.cond (t := true) rfl (fun _ => ?_) (fun h => by cases h) | refine XWP.seq (XWP.cond (t := true) rfl (fun _ => ?_) (fun h => by cases h))
    refine XWP.skip ?_
    refine XWP.seq ?_
    first | refine XWP.block ?_ | refine XWP.seq (XWP.block ?_)
    have hv5 := hv.up (View.le_trans hV12 hV5)
    have hu5 := hu.mono (View.le_trans hV12 hV5)
    obtain ⟨b0, o0, rfl⟩ := SlAt.addr hv5 (by omega)
    obtain ⟨m3, n3, d3, hx3, ⟨p1, p2, p3⟩, hld3⟩ := Rats.get hv5 k (by omega)
    first | refine XWP.reg (by kernel_rfl) fun K hK => ?_ | refine XWP.seq (XWP.reg (by kernel_rfl) fun K hK => ?_) | refine XWP.reg1 (by kernel_rfl) fun K hK => ?_
    simp only [XA, XB, gateX, Nat.reduceAdd, Nat.reduceLeDiff, Nat.reduceSub, Nat.reduceMul, ↓reduceIte, Int.reduceToNat, Int.reduceLE, beq_self_eq_true]
    refine ⟨by omega, by omega, ld_mem (hld3 _) ?_⟩
    simp only [XA, XB, gateX, Nat.reduceAdd, Nat.reduceLeDiff, Nat.reduceSub, Nat.reduceMul, ↓reduceIte, Int.reduceToNat, Int.reduceLE, beq_self_eq_true]
    refine st_rat rfl rfl p1 p2 p3 ?_
    simp only [XA, XB, gateX, Nat.reduceAdd, Nat.reduceLeDiff, Nat.reduceSub, Nat.reduceMul, ↓reduceIte, Int.reduceToNat, Int.reduceLE, beq_self_eq_true]
    refine hK _ ?_
    have qc := hA.at k
    have qp := hp k (by omega)
    have qe := he k (by omega)
    have qm : QB (A + (l.length + 1) * B) (cf l k * pwr x k) := qc.mul qp
    (first | refine XWP.drw [0, 1, 2, 3, 4, 5] (by kernel_rfl) (by kernel_rfl) (by kernel_rfl) fun K hK => ?_ | refine XWP.seq (XWP.drw [0, 1, 2, 3, 4, 5] (by kernel_rfl) (by kernel_rfl) (by kernel_rfl) fun K hK => ?_) | refine XWP.drw1 [0, 1, 2, 3, 4, 5] (by kernel_rfl) (by kernel_rfl) (by kernel_rfl) fun K hK => ?_) <;> dsimp only [pickOps, List.getElem?_cons_zero, List.getElem?_cons_succ]
    simp only [XA, XB, gateX, Nat.reduceAdd, Nat.reduceLeDiff, Nat.reduceSub, Nat.reduceMul, ↓reduceIte, Int.reduceToNat, Int.reduceLE, beq_self_eq_true]
    refine call_go (by kernel_rfl) rfl (pmul_c _ _ _ _ _ (hx3.toV (qc.qf (by omega))) (h6.toV (qp.qf (by omega))) (qc.qf (by omega)) (qp.qf (by omega))) fun v7 V7 hV7 h7 => ?_
    simp only [XA, XB, gateX, Nat.reduceAdd, Nat.reduceLeDiff, Nat.reduceSub, Nat.reduceMul, ↓reduceIte, Int.reduceToNat, Int.reduceLE, beq_self_eq_true]
    refine call_go (by kernel_rfl) rfl (padd_c _ _ _ _ _ ((h5.mono hV7).toV (qe.qf (by omega))) (h7.toV (qm.qf (by omega))) (qe.qf (by omega)) (qm.qf (by omega))) fun v8 V8 hV8 h8 => ?_
    obtain ⟨x8, y8, rfl, o7, o8⟩ := h8.form
    simp only [XA, XB, gateX, Nat.reduceAdd, Nat.reduceLeDiff, Nat.reduceSub, Nat.reduceMul, ↓reduceIte, Int.reduceToNat, Int.reduceLE, beq_self_eq_true]
    refine st_rat rfl rfl rfl o7 o8 ?_
    simp only [XA, XB, gateX, Nat.reduceAdd, Nat.reduceLeDiff, Nat.reduceSub, Nat.reduceMul, ↓reduceIte, Int.reduceToNat, Int.reduceLE, beq_self_eq_true]
    refine hK _ ?_
    have h6 := (h6.mono hV7).mono hV8
    have hu8 := (hu5.mono hV7).mono hV8
    first | refine XWP.reg (by kernel_rfl) fun K hK => ?_ | refine XWP.seq (XWP.reg (by kernel_rfl) fun K hK => ?_) | refine XWP.reg1 (by kernel_rfl) fun K hK => ?_
    simp only [XA, XB, gateX, Nat.reduceAdd, Nat.reduceLeDiff, Nat.reduceSub, Nat.reduceMul, ↓reduceIte, Int.reduceToNat, Int.reduceLE, beq_self_eq_true]
    refine call_go (by kernel_rfl) rfl (pmul_c _ _ _ _ _ (h6.toV (qp.qf (by omega))) (hu8.toV (hB.qf (by omega))) (qp.qf (by omega)) (hB.qf (by omega))) fun v9 V9 hV9 h9 => ?_
    obtain ⟨x9, y9, rfl, o9, o10⟩ := h9.form
    simp only [XA, XB, gateX, Nat.reduceAdd, Nat.reduceLeDiff, Nat.reduceSub, Nat.reduceMul, ↓reduceIte, Int.reduceToNat, Int.reduceLE, beq_self_eq_true]
    refine st_rat rfl rfl rfl o9 o10 ?_
    simp only [XA, XB, gateX, Nat.reduceAdd, Nat.reduceLeDiff, Nat.reduceSub, Nat.reduceMul, ↓reduceIte, Int.reduceToNat, Int.reduceLE, beq_self_eq_true]
    refine hK _ ?_
    first | refine XWP.reg (by kernel_rfl) fun K hK => ?_ | refine XWP.seq (XWP.reg (by kernel_rfl) fun K hK => ?_) | refine XWP.reg1 (by kernel_rfl) fun K hK => ?_
    simp only [XA, XB, gateX, Nat.reduceAdd, Nat.reduceLeDiff, Nat.reduceSub, Nat.reduceMul, ↓reduceIte, Int.reduceToNat, Int.reduceLE, beq_self_eq_true, i64_succ k (by omega)]
    exact hK _ ⟨d - 1, by omega, fun f => ⟨k + 1, V9, _, _, _, _, _, _, StIs.of (by exact rfl), View.le_trans hV5 (View.le_trans hV7 (View.le_trans hV8 hV9)), by omega, h8.mono hV9, h9, rfl, o7, o8, rfl, o9, o10⟩⟩
  rintro s ⟨V5, m, a, b, m', a', b', hs, h5, q1, q2, q3⟩
  obtain ⟨z, rfl⟩ := hs.out
  try dsimp only
  clear hs
  first | refine XWP.reg (by kernel_rfl) fun K hK => ?_ | refine XWP.seq (XWP.reg (by kernel_rfl) fun K hK => ?_) | refine XWP.reg1 (by kernel_rfl) fun K hK => ?_
  simp only [XA, XB, gateX, Nat.reduceAdd, Nat.reduceLeDiff, Nat.reduceSub, Nat.reduceMul, ↓reduceIte, Int.reduceToNat, Int.reduceLE, beq_self_eq_true]
  refine st_rat rfl rfl q1 q2 q3 ?_
  simp only [XA, XB, gateX, Nat.reduceAdd, Nat.reduceLeDiff, Nat.reduceSub, Nat.reduceMul, ↓reduceIte, Int.reduceToNat, Int.reduceLE, beq_self_eq_true]
  refine hK _ (XWP.ret ?_)
  try simp only [thenX_ret, inBlockX_ret]
  exact ret_rat1 rfl rfl rfl h5
def evE (P : List Raw) (X : Raw) : Int := if rightP P = true ∧ X.ok = true then 0 else 1
def evQ (P : List Raw) (X : Raw) : Rat := if rightP P = true ∧ X.ok = true then evr (qs P) X.q P.length else 0
theorem cEval_c (V : View) (v u : Value) (P : List Raw) (X : Raw) (A B : Nat) (hv : Raws V v P) (hu : rawE V u X) (fP : fitR P) (fX : X.fit) (lP : P.length ≤ 1000) (hA : rightP P = true → CB A (qs P)) (hB : X.ok = true → QB B X.q) (hfit : (P.length + 2) * (A + (P.length + 1) * B + 1) ≤ 17592186044416) :
    Spec Try.prog 30 [v, u] V fun v' V' => ∃ w, v' = .tuple #[w, .int .i64 (evE P X)] ∧ RatV V' w (evQ P X) := by
  obtain ⟨A1, c1, rfl, hc1, hm1⟩ := hv.form
  have hu0 := hu
  obtain ⟨n1, d1, rfl, hn1, hd1⟩ := hu
  refine (Spec.enter Try.func30 rfl fun Γ => ?_)
  simp only [Try.ntmps30, List.map_cons, List.map_nil, List.length_cons, List.length_nil, Nat.reduceAdd, Nat.reduceSub, List.replicate_succ, List.replicate_zero, List.cons_append, List.nil_append]
  first | refine XWP.reg (by kernel_rfl) fun K hK => ?_ | refine XWP.seq (XWP.reg (by kernel_rfl) fun K hK => ?_) | refine XWP.reg1 (by kernel_rfl) fun K hK => ?_
  simp only [XA, XB, gateX, Nat.reduceAdd, Nat.reduceLeDiff, Nat.reduceSub, Nat.reduceMul, ↓reduceIte, Int.reduceToNat, Int.reduceLE, beq_self_eq_true]
  refine hK _ ?_
  refine XWP.seq ?_
  first | refine XWP.reg (by kernel_rfl) fun K hK => ?_ | refine XWP.seq (XWP.reg (by kernel_rfl) fun K hK => ?_) | refine XWP.reg1 (by kernel_rfl) fun K hK => ?_
  simp only [XA, XB, gateX, Nat.reduceAdd, Nat.reduceLeDiff, Nat.reduceSub, Nat.reduceMul, ↓reduceIte, Int.reduceToNat, Int.reduceLE, beq_self_eq_true]
  refine call_go (by kernel_rfl) rfl (cright_c _ _ _ hv fP (by omega)) fun v1 V1 hV1 h1 => ?_
  subst h1
  by_cases hk : rightP P = true ∧ X.ok = true
  rotate_left
  · have eE : evE P X = 1 := if_neg hk
    have eQ : evQ P X = 0 := if_neg hk
    cases e1 : rightP P
    · simp only [XA, XB, gateX, Nat.reduceAdd, Nat.reduceLeDiff, Nat.reduceSub, Nat.reduceMul, ↓reduceIte, Int.reduceToNat, Int.reduceLE, beq_self_eq_true]
      refine hK _ ?_
      first | refine XWP.cond (t := true) rfl (fun _ => ?_) (fun h => by cases h) | refine XWP.seq (XWP.cond (t := true) rfl (fun _ => ?_) (fun h => by cases h))
      first | refine XWP.reg (by kernel_rfl) fun K hK => ?_ | refine XWP.seq (XWP.reg (by kernel_rfl) fun K hK => ?_) | refine XWP.reg1 (by kernel_rfl) fun K hK => ?_
      simp only [XA, XB, gateX, Nat.reduceAdd, Nat.reduceLeDiff, Nat.reduceSub, Nat.reduceMul, ↓reduceIte, Int.reduceToNat, Int.reduceLE, beq_self_eq_true]
      refine bd_go (by kernel_rfl) #[] (by simp) bd_rat0 ?_
      simp only [XA, XB, gateX, Nat.reduceAdd, Nat.reduceLeDiff, Nat.reduceSub, Nat.reduceMul, ↓reduceIte, Int.reduceToNat, Int.reduceLE, beq_self_eq_true]
      refine st_rat rfl rfl rfl rfl rfl ?_
      simp only [XA, XB, gateX, Nat.reduceAdd, Nat.reduceLeDiff, Nat.reduceSub, Nat.reduceMul, ↓reduceIte, Int.reduceToNat, Int.reduceLE, beq_self_eq_true]
      refine hK _ (XWP.ret ?_)
      try simp only [thenX_ret, inBlockX_ret]
      exact ret_rat2 rfl rfl rfl rfl ⟨_, by rw [eE], by rw [eQ]; exact RatV.zero _⟩
    · have e2 : rawOk X.m X.nd X.dd = false := by
        cases h : rawOk X.m X.nd X.dd
        · rfl
        · exact absurd ⟨e1, h⟩ hk
      simp only [XA, XB, gateX, Nat.reduceAdd, Nat.reduceLeDiff, Nat.reduceSub, Nat.reduceMul, ↓reduceIte, Int.reduceToNat, Int.reduceLE, beq_self_eq_true]
      refine call_go (by kernel_rfl) rfl (qright_c _ _ _ _ _ (RawAt.mono hu0 hV1) fX.1 fX.2) fun v2 V2 hV2 h2 => ?_
      subst h2
      rw [e2]
      simp only [XA, XB, gateX, Nat.reduceAdd, Nat.reduceLeDiff, Nat.reduceSub, Nat.reduceMul, ↓reduceIte, Int.reduceToNat, Int.reduceLE, beq_self_eq_true]
      refine hK _ ?_
      first | refine XWP.cond (t := true) rfl (fun _ => ?_) (fun h => by cases h) | refine XWP.seq (XWP.cond (t := true) rfl (fun _ => ?_) (fun h => by cases h))
      first | refine XWP.reg (by kernel_rfl) fun K hK => ?_ | refine XWP.seq (XWP.reg (by kernel_rfl) fun K hK => ?_) | refine XWP.reg1 (by kernel_rfl) fun K hK => ?_
      simp only [XA, XB, gateX, Nat.reduceAdd, Nat.reduceLeDiff, Nat.reduceSub, Nat.reduceMul, ↓reduceIte, Int.reduceToNat, Int.reduceLE, beq_self_eq_true]
      refine bd_go (by kernel_rfl) #[] (by simp) bd_rat0 ?_
      simp only [XA, XB, gateX, Nat.reduceAdd, Nat.reduceLeDiff, Nat.reduceSub, Nat.reduceMul, ↓reduceIte, Int.reduceToNat, Int.reduceLE, beq_self_eq_true]
      refine st_rat rfl rfl rfl rfl rfl ?_
      simp only [XA, XB, gateX, Nat.reduceAdd, Nat.reduceLeDiff, Nat.reduceSub, Nat.reduceMul, ↓reduceIte, Int.reduceToNat, Int.reduceLE, beq_self_eq_true]
      refine hK _ (XWP.ret ?_)
      try simp only [thenX_ret, inBlockX_ret]
      exact ret_rat2 rfl rfl rfl rfl ⟨_, by rw [eE], by rw [eQ]; exact RatV.zero _⟩
  obtain ⟨e1, e2⟩ := hk
  have eE : evE P X = 0 := if_pos ⟨e1, e2⟩
  have eQ : evQ P X = evr (qs P) X.q P.length := if_pos ⟨e1, e2⟩
  rw [e1]
  simp only [XA, XB, gateX, Nat.reduceAdd, Nat.reduceLeDiff, Nat.reduceSub, Nat.reduceMul, ↓reduceIte, Int.reduceToNat, Int.reduceLE, beq_self_eq_true]
  refine call_go (by kernel_rfl) rfl (qright_c _ _ _ _ _ (RawAt.mono hu0 hV1) fX.1 fX.2) fun v2 V2 hV2 h2 => ?_
  subst h2
  have e2' : rawOk X.m X.nd X.dd = true := e2
  rw [e2']
  simp only [XA, XB, gateX, Nat.reduceAdd, Nat.reduceLeDiff, Nat.reduceSub, Nat.reduceMul, ↓reduceIte, Int.reduceToNat, Int.reduceLE, beq_self_eq_true]
  refine hK _ ?_
  first | refine XWP.cond (t := false) rfl (fun h => by cases h) (fun _ => ?_) | refine XWP.seq (XWP.cond (t := false) rfl (fun h => by cases h) (fun _ => ?_))
  refine XWP.skip ?_
  have hV12 := View.le_trans hV1 hV2
  have hr := (Raws.rats hv (rightP_parts e1).1).up hV12
  have hx : RatC V2 _ X.q := RawAt.rat (RawAt.mono hu0 hV12) e2'
  have el := qs_len P
  have hA := hA e1
  have hB := hB e2
  have hf1 : (P.length + 1) * (A + B + 1) ≤ 17592186044416 := Nat.le_trans (Nat.mul_le_mul (by omega) (by
    have := Nat.le_mul_of_pos_left B (show 0 < P.length + 1 by omega)
    omega)) hfit
  have hQ : QF (evr (qs P) X.q P.length) := by
    have := evr_QB (n := P.length) hA hB P.length (Nat.le_refl _)
    refine this.qf (Nat.le_trans (Nat.mul_le_mul (by omega) ?_) hfit)
    have := Nat.mul_le_mul_right B (show P.length ≤ P.length + 1 by omega)
    omega
  rw [← el] at hr
  first | refine XWP.reg (by kernel_rfl) fun K hK => ?_ | refine XWP.seq (XWP.reg (by kernel_rfl) fun K hK => ?_) | refine XWP.reg1 (by kernel_rfl) fun K hK => ?_
  simp only [XA, XB, gateX, Nat.reduceAdd, Nat.reduceLeDiff, Nat.reduceSub, Nat.reduceMul, ↓reduceIte, Int.reduceToNat, Int.reduceLE, beq_self_eq_true]
  refine call_go (by kernel_rfl) rfl (eval_c _ _ _ (qs P) X.q A B (by rw [← el]; exact hr) hx hA hB (by omega) (by rw [el]; exact hf1)) fun v3 V3 hV3 h3 => ?_
  rw [hor_evr, el] at h3
  obtain ⟨x3, y3, rfl, o3, o4⟩ := h3.form
  simp only [XA, XB, gateX, Nat.reduceAdd, Nat.reduceLeDiff, Nat.reduceSub, Nat.reduceMul, ↓reduceIte, Int.reduceToNat, Int.reduceLE, beq_self_eq_true]
  refine st_rat rfl rfl rfl o3 o4 ?_
  simp only [XA, XB, gateX, Nat.reduceAdd, Nat.reduceLeDiff, Nat.reduceSub, Nat.reduceMul, ↓reduceIte, Int.reduceToNat, Int.reduceLE, beq_self_eq_true]
  refine hK _ (XWP.ret ?_)
  try simp only [thenX_ret, inBlockX_ret]
  exact ret_rat2 rfl rfl rfl rfl ⟨_, by rw [eE], by rw [eQ]; exact h3.toV hQ⟩
theorem dEval_c (V : View) (v u : Value) (P : List Raw) (X : Raw) (A B : Nat) (hv : Raws V v P) (hu : rawE V u X) (fP : fitR P) (fX : X.fit) (qP : ∀ x ∈ qs P, QF x) (lP : P.length ≤ 1000) (hA : rightP P = true → CB A (qs P)) (hB : X.ok = true → QB B X.q) (hfit : (P.length + 2) * (A + (P.length + 1) * B + 1) ≤ 17592186044416) :
    Spec Try.prog 31 [v, u] V fun v' V' => ∃ w, v' = .tuple #[w, .int .i64 (evE P X)] ∧ RatV V' w (evQ P X) := by
  obtain ⟨A1, c1, rfl, hc1, hm1⟩ := hv.form
  have hu0 := hu
  obtain ⟨n1, d1, rfl, hn1, hd1⟩ := hu
  refine (Spec.enter Try.func31 rfl fun Γ => ?_)
  simp only [Try.ntmps31, List.map_cons, List.map_nil, List.length_cons, List.length_nil, Nat.reduceAdd, Nat.reduceSub, List.replicate_succ, List.replicate_zero, List.cons_append, List.nil_append]
  first | refine XWP.reg (by kernel_rfl) fun K hK => ?_ | refine XWP.seq (XWP.reg (by kernel_rfl) fun K hK => ?_) | refine XWP.reg1 (by kernel_rfl) fun K hK => ?_
  simp only [XA, XB, gateX, Nat.reduceAdd, Nat.reduceLeDiff, Nat.reduceSub, Nat.reduceMul, ↓reduceIte, Int.reduceToNat, Int.reduceLE, beq_self_eq_true]
  refine hK _ ?_
  refine XWP.seq ?_
  first | refine XWP.reg (by kernel_rfl) fun K hK => ?_ | refine XWP.seq (XWP.reg (by kernel_rfl) fun K hK => ?_) | refine XWP.reg1 (by kernel_rfl) fun K hK => ?_
  simp only [XA, XB, gateX, Nat.reduceAdd, Nat.reduceLeDiff, Nat.reduceSub, Nat.reduceMul, ↓reduceIte, Int.reduceToNat, Int.reduceLE, beq_self_eq_true]
  refine call_go (by kernel_rfl) rfl (dright_c _ _ _ hv fP (by omega) (fun _ => qP)) fun v1 V1 hV1 h1 => ?_
  subst h1
  by_cases hk : rightP P = true ∧ X.ok = true
  rotate_left
  · have eE : evE P X = 1 := if_neg hk
    have eQ : evQ P X = 0 := if_neg hk
    cases e1 : rightP P
    · simp only [XA, XB, gateX, Nat.reduceAdd, Nat.reduceLeDiff, Nat.reduceSub, Nat.reduceMul, ↓reduceIte, Int.reduceToNat, Int.reduceLE, beq_self_eq_true]
      refine hK _ ?_
      first | refine XWP.cond (t := true) rfl (fun _ => ?_) (fun h => by cases h) | refine XWP.seq (XWP.cond (t := true) rfl (fun _ => ?_) (fun h => by cases h))
      first | refine XWP.reg (by kernel_rfl) fun K hK => ?_ | refine XWP.seq (XWP.reg (by kernel_rfl) fun K hK => ?_) | refine XWP.reg1 (by kernel_rfl) fun K hK => ?_
      simp only [XA, XB, gateX, Nat.reduceAdd, Nat.reduceLeDiff, Nat.reduceSub, Nat.reduceMul, ↓reduceIte, Int.reduceToNat, Int.reduceLE, beq_self_eq_true]
      refine bd_go (by kernel_rfl) #[] (by simp) bd_rat0 ?_
      simp only [XA, XB, gateX, Nat.reduceAdd, Nat.reduceLeDiff, Nat.reduceSub, Nat.reduceMul, ↓reduceIte, Int.reduceToNat, Int.reduceLE, beq_self_eq_true]
      refine st_rat rfl rfl rfl rfl rfl ?_
      simp only [XA, XB, gateX, Nat.reduceAdd, Nat.reduceLeDiff, Nat.reduceSub, Nat.reduceMul, ↓reduceIte, Int.reduceToNat, Int.reduceLE, beq_self_eq_true]
      refine hK _ (XWP.ret ?_)
      try simp only [thenX_ret, inBlockX_ret]
      exact ret_rat2 rfl rfl rfl rfl ⟨_, by rw [eE], by rw [eQ]; exact RatV.zero _⟩
    · have e2 : rawOk X.m X.nd X.dd = false := by
        cases h : rawOk X.m X.nd X.dd
        · rfl
        · exact absurd ⟨e1, h⟩ hk
      simp only [XA, XB, gateX, Nat.reduceAdd, Nat.reduceLeDiff, Nat.reduceSub, Nat.reduceMul, ↓reduceIte, Int.reduceToNat, Int.reduceLE, beq_self_eq_true]
      refine call_go (by kernel_rfl) rfl (pright_c _ _ _ _ _ (RawAt.mono hu0 hV1) fX.1 fX.2) fun v2 V2 hV2 h2 => ?_
      subst h2
      rw [e2]
      simp only [XA, XB, gateX, Nat.reduceAdd, Nat.reduceLeDiff, Nat.reduceSub, Nat.reduceMul, ↓reduceIte, Int.reduceToNat, Int.reduceLE, beq_self_eq_true]
      refine hK _ ?_
      first | refine XWP.cond (t := true) rfl (fun _ => ?_) (fun h => by cases h) | refine XWP.seq (XWP.cond (t := true) rfl (fun _ => ?_) (fun h => by cases h))
      first | refine XWP.reg (by kernel_rfl) fun K hK => ?_ | refine XWP.seq (XWP.reg (by kernel_rfl) fun K hK => ?_) | refine XWP.reg1 (by kernel_rfl) fun K hK => ?_
      simp only [XA, XB, gateX, Nat.reduceAdd, Nat.reduceLeDiff, Nat.reduceSub, Nat.reduceMul, ↓reduceIte, Int.reduceToNat, Int.reduceLE, beq_self_eq_true]
      refine bd_go (by kernel_rfl) #[] (by simp) bd_rat0 ?_
      simp only [XA, XB, gateX, Nat.reduceAdd, Nat.reduceLeDiff, Nat.reduceSub, Nat.reduceMul, ↓reduceIte, Int.reduceToNat, Int.reduceLE, beq_self_eq_true]
      refine st_rat rfl rfl rfl rfl rfl ?_
      simp only [XA, XB, gateX, Nat.reduceAdd, Nat.reduceLeDiff, Nat.reduceSub, Nat.reduceMul, ↓reduceIte, Int.reduceToNat, Int.reduceLE, beq_self_eq_true]
      refine hK _ (XWP.ret ?_)
      try simp only [thenX_ret, inBlockX_ret]
      exact ret_rat2 rfl rfl rfl rfl ⟨_, by rw [eE], by rw [eQ]; exact RatV.zero _⟩
  obtain ⟨e1, e2⟩ := hk
  have eE : evE P X = 0 := if_pos ⟨e1, e2⟩
  have eQ : evQ P X = evr (qs P) X.q P.length := if_pos ⟨e1, e2⟩
  rw [e1]
  simp only [XA, XB, gateX, Nat.reduceAdd, Nat.reduceLeDiff, Nat.reduceSub, Nat.reduceMul, ↓reduceIte, Int.reduceToNat, Int.reduceLE, beq_self_eq_true]
  refine call_go (by kernel_rfl) rfl (pright_c _ _ _ _ _ (RawAt.mono hu0 hV1) fX.1 fX.2) fun v2 V2 hV2 h2 => ?_
  subst h2
  have e2' : rawOk X.m X.nd X.dd = true := e2
  rw [e2']
  simp only [XA, XB, gateX, Nat.reduceAdd, Nat.reduceLeDiff, Nat.reduceSub, Nat.reduceMul, ↓reduceIte, Int.reduceToNat, Int.reduceLE, beq_self_eq_true]
  refine hK _ ?_
  first | refine XWP.cond (t := false) rfl (fun h => by cases h) (fun _ => ?_) | refine XWP.seq (XWP.cond (t := false) rfl (fun h => by cases h) (fun _ => ?_))
  refine XWP.skip ?_
  have hV12 := View.le_trans hV1 hV2
  have hr := (Raws.rats hv (rightP_parts e1).1).up hV12
  have hx : RatC V2 _ X.q := RawAt.rat (RawAt.mono hu0 hV12) e2'
  have el := qs_len P
  have hA := hA e1
  have hB := hB e2
  have hQ : QF (evr (qs P) X.q P.length) := by
    have := evr_QB (n := P.length) hA hB P.length (Nat.le_refl _)
    refine this.qf (Nat.le_trans (Nat.mul_le_mul (by omega) ?_) hfit)
    have := Nat.mul_le_mul_right B (show P.length ≤ P.length + 1 by omega)
    omega
  first | refine XWP.reg (by kernel_rfl) fun K hK => ?_ | refine XWP.seq (XWP.reg (by kernel_rfl) fun K hK => ?_) | refine XWP.reg1 (by kernel_rfl) fun K hK => ?_
  simp only [XA, XB, gateX, Nat.reduceAdd, Nat.reduceLeDiff, Nat.reduceSub, Nat.reduceMul, ↓reduceIte, Int.reduceToNat, Int.reduceLE, beq_self_eq_true]
  refine call_go (by kernel_rfl) rfl (deval_c _ _ _ (qs P) X.q A B hr hx hA hB (by omega) (by rw [el]; exact hfit)) fun v3 V3 hV3 h3 => ?_
  rw [el] at h3
  obtain ⟨x3, y3, rfl, o3, o4⟩ := h3.form
  simp only [XA, XB, gateX, Nat.reduceAdd, Nat.reduceLeDiff, Nat.reduceSub, Nat.reduceMul, ↓reduceIte, Int.reduceToNat, Int.reduceLE, beq_self_eq_true]
  refine st_rat rfl rfl rfl o3 o4 ?_
  simp only [XA, XB, gateX, Nat.reduceAdd, Nat.reduceLeDiff, Nat.reduceSub, Nat.reduceMul, ↓reduceIte, Int.reduceToNat, Int.reduceLE, beq_self_eq_true]
  refine hK _ (XWP.ret ?_)
  try simp only [thenX_ret, inBlockX_ret]
  exact ret_rat2 rfl rfl rfl rfl ⟨_, by rw [eE], by rw [eQ]; exact h3.toV hQ⟩
end Go.Proofs.Ythoboehbadmlmaa
end
section
namespace Go.Proofs.Ythoboehbadmlmaa
open Go Go.RowKit
set_option linter.unusedSimpArgs false
set_option linter.unusedVariables false
attribute [local irreducible] XWP Spec SpecO XPub XCall seqX clX apX stX ldX iaX slX
def addR (P Q : List Raw) : Int × List Rat := if bad2 P Q = true then (1, []) else (0, pAdd (qs P) (qs Q) 1 0)
def mulR (P Q : List Raw) : Int × List Rat := if bad2 P Q = true then (1, []) else (0, mulP (qs P) (qs Q))
section
variable {V : View} {v u : Value} {P Q : List Raw} (hv : Raws V v P) (hu : Raws V u Q) (fP : fewR P) (fQ : fewR Q) (lP : P.length ≤ 9) (lQ : Q.length ≤ 9)
include hv hu fP fQ lP lQ
theorem cAdd2_c : Spec Try.prog 26 [v, u] V fun v' V' => ∃ w, v' = .tuple #[w, .int .i64 (addR P Q).1] ∧ Rats V' w (addR P Q).2 := by
  have aP : CB 864 (qs P) := fewR_CBn fP (Raws.dig hv) lP 864 rfl
  have aQ : CB 864 (qs Q) := fewR_CBn fQ (Raws.dig hu) lQ 864 rfl
  refine (cAdd_c V v u P Q hv hu fP.fit fQ.fit (by omega) (by omega) 864 864 (fun _ => ⟨aP, aQ⟩) (by omega)).mono fun v' V' _ h => ?_
  unfold addR
  cases hb : bad2 P Q
  · rw [if_neg (by simp)]; exact h.2 hb
  · rw [if_pos rfl]; exact ⟨_, h.1 hb, SlAt.nil _⟩
theorem dAdd2_c : Spec Try.prog 27 [v, u] V fun v' V' => ∃ w, v' = .tuple #[w, .int .i64 (addR P Q).1] ∧ Rats V' w (addR P Q).2 := by
  have aP : CB 864 (qs P) := fewR_CBn fP (Raws.dig hv) lP 864 rfl
  have aQ : CB 864 (qs Q) := fewR_CBn fQ (Raws.dig hu) lQ 864 rfl
  refine (dAdd_c V v u P Q hv hu fP.fit fQ.fit (fun _ => fewR_qf fP (Raws.dig hv)) (fun _ => fewR_qf fQ (Raws.dig hu)) (by omega) (by omega) 864 864 (fun _ => ⟨aP, aQ⟩) (by omega)).mono fun v' V' _ h => ?_
  unfold addR
  cases hb : bad2 P Q
  · rw [if_neg (by simp)]; exact h.2 hb
  · rw [if_pos rfl]; exact ⟨_, h.1 hb, SlAt.nil _⟩
theorem cMul2_c : Spec Try.prog 28 [v, u] V fun v' V' => ∃ w, v' = .tuple #[w, .int .i64 (mulR P Q).1] ∧ Rats V' w (mulR P Q).2 := by
  have aP : CB 864 (qs P) := fewR_CBn fP (Raws.dig hv) lP 864 rfl
  have aQ : CB 864 (qs Q) := fewR_CBn fQ (Raws.dig hu) lQ 864 rfl
  refine (cMul_c V v u P Q hv hu fP.fit fQ.fit (by omega) (by omega) 864 864 (fun _ => ⟨aP, aQ⟩) (by omega)).mono fun v' V' _ h => ?_
  unfold mulR
  cases hb : bad2 P Q
  · rw [if_neg (by simp)]; exact h.2 hb
  · rw [if_pos rfl]; exact ⟨_, h.1 hb, SlAt.nil _⟩
theorem dMul2_c : Spec Try.prog 29 [v, u] V fun v' V' => ∃ w, v' = .tuple #[w, .int .i64 (mulR P Q).1] ∧ Rats V' w (mulR P Q).2 := by
  have aP : CB 864 (qs P) := fewR_CBn fP (Raws.dig hv) lP 864 rfl
  have aQ : CB 864 (qs Q) := fewR_CBn fQ (Raws.dig hu) lQ 864 rfl
  refine (dMul_c V v u P Q hv hu fP.fit fQ.fit (fun _ => fewR_qf fP (Raws.dig hv)) (fun _ => fewR_qf fQ (Raws.dig hu)) (by omega) (by omega) 864 864 (fun _ => ⟨aP, aQ⟩) (by omega)).mono fun v' V' _ h => ?_
  unfold mulR
  cases hb : bad2 P Q
  · rw [if_neg (by simp)]
    obtain ⟨w, e, h1⟩ := h.2 hb
    refine ⟨w, e, ?_⟩
    split at h1
    · rename_i h0
      dsimp only
      rw [mul_none _ _ (by rw [qs_len, qs_len]; exact h0)]; exact h1
    · dsimp only
      rw [mul_prod]; exact h1
  · rw [if_pos rfl]; exact ⟨_, h.1 hb, SlAt.nil _⟩
theorem addR_QF : ∀ x ∈ (addR P Q).2, QF x := by
  have aP : CB 864 (qs P) := fewR_CBn fP (Raws.dig hv) lP 864 rfl
  have aQ : CB 864 (qs Q) := fewR_CBn fQ (Raws.dig hu) lQ 864 rfl
  unfold addR
  split
  · simp
  · exact (CB.padd aP aQ (QB_one 0) 0).qf (by omega)
theorem mulR_QF : ∀ x ∈ (mulR P Q).2, QF x := by
  have aP : CB 864 (qs P) := fewR_CBn fP (Raws.dig hv) lP 864 rfl
  have aQ : CB 864 (qs Q) := fewR_CBn fQ (Raws.dig hu) lQ 864 rfl
  unfold mulR
  split
  · simp
  · refine (mulP_CB aP aQ).qf ?_
    have := qs_len P
    have := Nat.mul_le_mul_right (864 + 864 + 1) (show (qs P).length ≤ 9 by omega)
    omega
end
theorem RatV.ones {V : View} {v : Value} {q : Rat} (h : RatV V v q) : ∃ m n d, v = .agg #[.bool m, n, d] ∧ isOne n = true ∧ isOne d = true := by
  obtain ⟨m, a, b, ⟨n, d, e, h1, h2⟩, _⟩ := h
  exact ⟨m, n, d, e, h1.one, h2.one⟩
theorem fewQB {X : Raw} (h : fewR [X]) (hd : digR [X]) : QB 96 X.q := fewR_QB h hd X.q (by simp [qs])
theorem polys_c (V : View) (v u y : Value) (P0 Q0 : List Raw) (X0 : Raw) (hv : Raws V v P0) (hu : Raws V u Q0) (hy : rawE V y X0) : Spec Try.prog 6 [v, u, y] V fun v' V' => v' = .bool true := by
  have hy0 := hy
  obtain ⟨ny, dy, rfl, hny, hdy⟩ := hy
  have o1 := hny.one
  have o2 := hdy.one
  refine (Spec.enter Try.func6 rfl fun Γ => ?_)
  simp only [Try.ntmps6, List.map_cons, List.map_nil, List.length_cons, List.length_nil, Nat.reduceAdd, Nat.reduceSub, List.replicate_succ, List.replicate_zero, List.cons_append, List.nil_append]
  first | refine XWP.reg (by kernel_rfl) fun K hK => ?_ | refine XWP.seq (XWP.reg (by kernel_rfl) fun K hK => ?_) | refine XWP.reg1 (by kernel_rfl) fun K hK => ?_
  simp only [XA, XB, gateX, Nat.reduceAdd, Nat.reduceLeDiff, Nat.reduceSub, Nat.reduceMul, ↓reduceIte, Int.reduceToNat, Int.reduceLE, beq_self_eq_true]
  refine hK _ ?_
  refine XWP.cut (fun s => ∃ (V6 : View) (H6 : Heap) (v1 v2 m a b : Value) (P Q : List Raw) (X : Raw), StIs (fun τ => [.v v1, .v v2, τ 2, τ 3, τ 4, .p 0 0, τ 6, τ 7, τ 8, τ 9, τ 10, τ 11, τ 12, τ 13, τ 14, τ 15, τ 16, τ 17, τ 18, τ 19, τ 20, τ 21, τ 22, τ 23, τ 24, τ 25, τ 26, τ 27, τ 28, τ 29, τ 30, τ 31, τ 32, τ 33, τ 34, τ 35, τ 36, τ 37, τ 38, τ 39, τ 40, τ 41, τ 42, τ 43, τ 44, τ 45, τ 46, τ 47, τ 48, τ 49, τ 50, τ 51, τ 52, τ 53, τ 54, τ 55, τ 56, τ 57, τ 58, τ 59, τ 60, τ 61, τ 62, τ 63, τ 64, τ 65, τ 66, τ 67, τ 68, τ 69, τ 70, τ 71, τ 72, τ 73, τ 74, τ 75, τ 76, τ 77, τ 78, τ 79, τ 80, τ 81, τ 82, τ 83, τ 84, τ 85, τ 86, τ 87, τ 88, τ 89, τ 90, τ 91, τ 92, τ 93, τ 94, τ 95]) [[m, a, b]] H6 V6 s ∧ Raws V6 v1 P ∧ Raws V6 v2 Q ∧ rawE V6 (.agg #[m, a, b]) X ∧ P.length ≤ 9 ∧ Q.length ≤ 9 ∧ fewR P ∧ fewR Q ∧ fewR [X] ∧ digR [X] ∧ isOne m = true ∧ isOne a = true ∧ isOne b = true) ?_ ?_
  · (first | refine XWP.drwT (.lin [0, 2, 4] (.two (.lin [1] (.two (.lin [3, 5, 6, 7, 8, 9, 10, 11] .nil) (.lin [5, 3, 6, 7, 8, 9, 10, 11] .nil))) (.lin [5, 1, 3, 6, 7, 8, 9, 10, 11] .nil))) (by kernel_rfl) (by kernel_rfl) (by kernel_rfl) fun K hK => ?_ | refine XWP.seq (XWP.drwT (.lin [0, 2, 4] (.two (.lin [1] (.two (.lin [3, 5, 6, 7, 8, 9, 10, 11] .nil) (.lin [5, 3, 6, 7, 8, 9, 10, 11] .nil))) (.lin [5, 1, 3, 6, 7, 8, 9, 10, 11] .nil))) (by kernel_rfl) (by kernel_rfl) (by kernel_rfl) fun K hK => ?_) | refine XWP.drwT1 (.lin [0, 2, 4] (.two (.lin [1] (.two (.lin [3, 5, 6, 7, 8, 9, 10, 11] .nil) (.lin [5, 3, 6, 7, 8, 9, 10, 11] .nil))) (.lin [5, 1, 3, 6, 7, 8, 9, 10, 11] .nil))) (by kernel_rfl) (by kernel_rfl) (by kernel_rfl) fun K hK => ?_)
    have hrow := (RowAt.nil (E := rawE) V).snoc (x := X0) (show isOne (.bool X0.m) = true from rfl) o1 o2 hy0
    simp only [List.nil_append] at hrow
    have tail : ∀ {V' : View} {b : Nat} {o : Obj} {v8 : Value} {V8 : View}, Raws V8 v8 (fewL [X0] 1) → ∃ A c, v8 = .slice A 1 c ∧ ∃ b o m n d, A = some ⟨b, o, none⟩ ∧ rawE V8 (.agg #[m, n, d]) (cutR X0) ∧ isOne m = true ∧ isOne n = true ∧ isOne d = true ∧ ∀ H, Loads Try.prog H V8 34 b o (.agg #[m, n, d]) := fun {V' b o v8 V8} h8 => by
      have h8 : Raws V8 v8 [cutR X0] := h8
      obtain ⟨A8, c8, rfl, _, _⟩ := h8.form
      obtain ⟨b8, o8, rfl⟩ := SlAt.addr h8 (by simp)
      obtain ⟨x8, hx8, ⟨m8, n8, d8, rfl, q1, q2, q3⟩, hld⟩ := SlAt.load h8 0 (by simp)
      simp only [Nat.zero_mul, Nat.add_zero] at hld
      exact ⟨_, c8, rfl, b8, o8, m8, n8, d8, rfl, hx8, q1, q2, q3, hld⟩
    have ffew := fewL_few [X0] 1
    simp only [XA, XB, gateX, Nat.reduceAdd, Nat.reduceLeDiff, Nat.reduceSub, Nat.reduceMul, ↓reduceIte, Int.reduceToNat, Int.reduceLE, beq_self_eq_true]
    refine And.intro ?_ ?_
    · refine call_go (by kernel_rfl) rfl (lpoly_c _ _ P0 9 hv (by omega)) fun v1 V1 hV1 h1 => ?_
      obtain ⟨P, hP, lP, fP⟩ := h1
      simp only [XA, XB, gateX, Nat.reduceAdd, Nat.reduceLeDiff, Nat.reduceSub, Nat.reduceMul, ↓reduceIte, Int.reduceToNat, Int.reduceLE, beq_self_eq_true]
      refine And.intro ?_ ?_
      · refine call_go (by kernel_rfl) rfl (lpoly_c _ _ Q0 9 (hu.up hV1) (by omega)) fun v2 V2 hV2 h2 => ?_
        obtain ⟨Q, hQ, lQ, fQ⟩ := h2
        simp only [XA, XB, gateX, Nat.reduceAdd, Nat.reduceLeDiff, Nat.reduceSub, Nat.reduceMul, ↓reduceIte, Int.reduceToNat, Int.reduceLE, beq_self_eq_true]
        refine bs_go (by kernel_rfl) #[(0, .agg #[.bool X0.m, ny, dy])] (by simp [ev_tmp, SV.val]) (bs_rat elemT_22) fun b3 hb3 hb4 => ?_
        simp only [XA, XB, gateX, Nat.reduceAdd, Nat.reduceLeDiff, Nat.reduceSub, Nat.reduceMul, ↓reduceIte, Int.reduceToNat, Int.reduceLE, beq_self_eq_true]
        refine call_pub b3 ⟨34, [.bool X0.m, ny, dy], 3⟩ (by simp only [upd_at]) (fun ob hob hle => ?_) (by kernel_rfl) rfl
        have hsl : Raws _ _ [X0] := (hrow.mono rawE_ok (View.le_trans hV1 hV2)).pub rawE_ok hob hle (n := 1) (c := 1) rfl (Nat.le_refl _) (by omega)
        refine call_go (by kernel_rfl) rfl (lfew_c _ _ [X0] 1 hsl (by omega)) fun v8 V8 hV8 h8 => ?_
        obtain ⟨A8, c8, rfl, b8, o8, m8, n8, d8, rfl, hx8, q1, q2, q3, hld⟩ := tail (V' := V) (b := 0) (o := ob) h8
        simp only [XA, XB, gateX, Nat.reduceAdd, Nat.reduceLeDiff, Nat.reduceSub, Nat.reduceMul, ↓reduceIte, Int.reduceToNat, Int.reduceLE, beq_self_eq_true]
        refine ⟨by omega, ld_mem (hld _) ?_⟩
        simp only [XA, XB, gateX, Nat.reduceAdd, Nat.reduceLeDiff, Nat.reduceSub, Nat.reduceMul, ↓reduceIte, Int.reduceToNat, Int.reduceLE, beq_self_eq_true]
        refine st_rat rfl rfl q1 q2 q3 ?_
        simp only [XA, XB, gateX, Nat.reduceAdd, Nat.reduceLeDiff, Nat.reduceSub, Nat.reduceMul, ↓reduceIte, Int.reduceToNat, Int.reduceLE, beq_self_eq_true]
        exact hK _ ⟨V8, _, _, _, m8, n8, d8, P, Q, _, StIs.of (by exact rfl), (hP.up hV2).up (View.le_trans hle hV8), hQ.up (View.le_trans hle hV8), hx8, lP, lQ, fP, fQ, ffew, Raws.dig h8, q1, q2, q3⟩
      · refine bs_go (by kernel_rfl) #[(0, .agg #[.bool X0.m, ny, dy])] (by simp [ev_tmp, SV.val]) (bs_rat elemT_22) fun b3 hb3 hb4 => ?_
        simp only [XA, XB, gateX, Nat.reduceAdd, Nat.reduceLeDiff, Nat.reduceSub, Nat.reduceMul, ↓reduceIte, Int.reduceToNat, Int.reduceLE, beq_self_eq_true]
        refine call_go (by kernel_rfl) rfl (lpoly_c _ _ Q0 9 (hu.up hV1) (by omega)) fun v2 V2 hV2 h2 => ?_
        obtain ⟨Q, hQ, lQ, fQ⟩ := h2
        simp only [XA, XB, gateX, Nat.reduceAdd, Nat.reduceLeDiff, Nat.reduceSub, Nat.reduceMul, ↓reduceIte, Int.reduceToNat, Int.reduceLE, beq_self_eq_true]
        refine call_pub b3 ⟨34, [.bool X0.m, ny, dy], 3⟩ (by simp only [upd_at]) (fun ob hob hle => ?_) (by kernel_rfl) rfl
        have hsl : Raws _ _ [X0] := (hrow.mono rawE_ok (View.le_trans hV1 hV2)).pub rawE_ok hob hle (n := 1) (c := 1) rfl (Nat.le_refl _) (by omega)
        refine call_go (by kernel_rfl) rfl (lfew_c _ _ [X0] 1 hsl (by omega)) fun v8 V8 hV8 h8 => ?_
        obtain ⟨A8, c8, rfl, b8, o8, m8, n8, d8, rfl, hx8, q1, q2, q3, hld⟩ := tail (V' := V) (b := 0) (o := ob) h8
        simp only [XA, XB, gateX, Nat.reduceAdd, Nat.reduceLeDiff, Nat.reduceSub, Nat.reduceMul, ↓reduceIte, Int.reduceToNat, Int.reduceLE, beq_self_eq_true]
        refine ⟨by omega, ld_mem (hld _) ?_⟩
        simp only [XA, XB, gateX, Nat.reduceAdd, Nat.reduceLeDiff, Nat.reduceSub, Nat.reduceMul, ↓reduceIte, Int.reduceToNat, Int.reduceLE, beq_self_eq_true]
        refine st_rat rfl rfl q1 q2 q3 ?_
        simp only [XA, XB, gateX, Nat.reduceAdd, Nat.reduceLeDiff, Nat.reduceSub, Nat.reduceMul, ↓reduceIte, Int.reduceToNat, Int.reduceLE, beq_self_eq_true]
        exact hK _ ⟨V8, _, _, _, m8, n8, d8, P, Q, _, StIs.of (by exact rfl), (hP.up hV2).up (View.le_trans hle hV8), hQ.up (View.le_trans hle hV8), hx8, lP, lQ, fP, fQ, ffew, Raws.dig h8, q1, q2, q3⟩
    · refine bs_go (by kernel_rfl) #[(0, .agg #[.bool X0.m, ny, dy])] (by simp [ev_tmp, SV.val]) (bs_rat elemT_22) fun b3 hb3 hb4 => ?_
      simp only [XA, XB, gateX, Nat.reduceAdd, Nat.reduceLeDiff, Nat.reduceSub, Nat.reduceMul, ↓reduceIte, Int.reduceToNat, Int.reduceLE, beq_self_eq_true]
      refine call_go (by kernel_rfl) rfl (lpoly_c _ _ P0 9 hv (by omega)) fun v1 V1 hV1 h1 => ?_
      obtain ⟨P, hP, lP, fP⟩ := h1
      simp only [XA, XB, gateX, Nat.reduceAdd, Nat.reduceLeDiff, Nat.reduceSub, Nat.reduceMul, ↓reduceIte, Int.reduceToNat, Int.reduceLE, beq_self_eq_true]
      refine call_go (by kernel_rfl) rfl (lpoly_c _ _ Q0 9 (hu.up hV1) (by omega)) fun v2 V2 hV2 h2 => ?_
      obtain ⟨Q, hQ, lQ, fQ⟩ := h2
      simp only [XA, XB, gateX, Nat.reduceAdd, Nat.reduceLeDiff, Nat.reduceSub, Nat.reduceMul, ↓reduceIte, Int.reduceToNat, Int.reduceLE, beq_self_eq_true]
      refine call_pub b3 ⟨34, [.bool X0.m, ny, dy], 3⟩ (by simp only [upd_at]) (fun ob hob hle => ?_) (by kernel_rfl) rfl
      have hsl : Raws _ _ [X0] := (hrow.mono rawE_ok (View.le_trans hV1 hV2)).pub rawE_ok hob hle (n := 1) (c := 1) rfl (Nat.le_refl _) (by omega)
      refine call_go (by kernel_rfl) rfl (lfew_c _ _ [X0] 1 hsl (by omega)) fun v8 V8 hV8 h8 => ?_
      obtain ⟨A8, c8, rfl, b8, o8, m8, n8, d8, rfl, hx8, q1, q2, q3, hld⟩ := tail (V' := V) (b := 0) (o := ob) h8
      simp only [XA, XB, gateX, Nat.reduceAdd, Nat.reduceLeDiff, Nat.reduceSub, Nat.reduceMul, ↓reduceIte, Int.reduceToNat, Int.reduceLE, beq_self_eq_true]
      refine ⟨by omega, ld_mem (hld _) ?_⟩
      simp only [XA, XB, gateX, Nat.reduceAdd, Nat.reduceLeDiff, Nat.reduceSub, Nat.reduceMul, ↓reduceIte, Int.reduceToNat, Int.reduceLE, beq_self_eq_true]
      refine st_rat rfl rfl q1 q2 q3 ?_
      simp only [XA, XB, gateX, Nat.reduceAdd, Nat.reduceLeDiff, Nat.reduceSub, Nat.reduceMul, ↓reduceIte, Int.reduceToNat, Int.reduceLE, beq_self_eq_true]
      exact hK _ ⟨V8, _, _, _, m8, n8, d8, P, Q, _, StIs.of (by exact rfl), (hP.up hV2).up (View.le_trans hle hV8), hQ.up (View.le_trans hle hV8), hx8, lP, lQ, fP, fQ, ffew, Raws.dig h8, q1, q2, q3⟩
  rintro s ⟨V6, H6, v1, v2, m, a, b, P, Q, X, hs, hP, hQ, hx, lP, lQ, fP, fQ, fX, dX, q1, q2, q3⟩
  obtain ⟨z, rfl⟩ := hs.out
  try dsimp only
  have aP : CB 864 (qs P) := fewR_CBn fP (Raws.dig hP) lP 864 rfl
  have bX : QB 96 X.q := fewQB fX dX
  have fX' : X.fit := fX.fit X (by simp)
  have hfit : (P.length + 2) * (864 + (P.length + 1) * 96 + 1) ≤ 17592186044416 := by
    have e1 : (P.length + 1) * 96 ≤ 960 := by omega
    exact Nat.le_trans (Nat.mul_le_mul (show P.length + 2 ≤ 11 by omega) (show 864 + (P.length + 1) * 96 + 1 ≤ 1825 by omega)) (by decide)
  have qE : QF (evQ P X) := by
    unfold evQ
    split
    · have := evr_QB (n := P.length) aP bX P.length (Nat.le_refl _)
      refine this.qf (Nat.le_trans (Nat.mul_le_mul (by omega) ?_) hfit)
      have := Nat.mul_le_mul_right 96 (show P.length ≤ P.length + 1 by omega)
      omega
    · exact QF_zero
  have qA := addR_QF hP hQ fP fQ lP lQ
  have qM := mulR_QF hP hQ fP fQ lP lQ
  first | refine XWP.reg (by kernel_rfl) fun K hK => ?_ | refine XWP.seq (XWP.reg (by kernel_rfl) fun K hK => ?_) | refine XWP.reg1 (by kernel_rfl) fun K hK => ?_
  simp only [XA, XB, gateX, Nat.reduceAdd, Nat.reduceLeDiff, Nat.reduceSub, Nat.reduceMul, ↓reduceIte, Int.reduceToNat, Int.reduceLE, beq_self_eq_true]
  refine call_go (by kernel_rfl) rfl (cAdd2_c hP hQ fP fQ lP lQ) fun w1 W1 hW1 g1 => ?_
  obtain ⟨a1, rfl, g1⟩ := g1
  simp only [XA, XB, gateX, Nat.reduceAdd, Nat.reduceLeDiff, Nat.reduceSub, Nat.reduceMul, ↓reduceIte, Int.reduceToNat, Int.reduceLE, beq_self_eq_true]
  refine hK _ ?_
  first | refine XWP.reg (by kernel_rfl) fun K hK => ?_ | refine XWP.seq (XWP.reg (by kernel_rfl) fun K hK => ?_) | refine XWP.reg1 (by kernel_rfl) fun K hK => ?_
  simp only [XA, XB, gateX, Nat.reduceAdd, Nat.reduceLeDiff, Nat.reduceSub, Nat.reduceMul, ↓reduceIte, Int.reduceToNat, Int.reduceLE, beq_self_eq_true]
  refine call_go (by kernel_rfl) rfl (dAdd2_c (hP.up hW1) (hQ.up hW1) fP fQ lP lQ) fun w2 W2 hW2 g2 => ?_
  obtain ⟨a2, rfl, g2⟩ := g2
  have hW2 := View.le_trans hW1 hW2
  simp only [XA, XB, gateX, Nat.reduceAdd, Nat.reduceLeDiff, Nat.reduceSub, Nat.reduceMul, ↓reduceIte, Int.reduceToNat, Int.reduceLE, beq_self_eq_true]
  refine hK _ ?_
  first | refine XWP.reg (by kernel_rfl) fun K hK => ?_ | refine XWP.seq (XWP.reg (by kernel_rfl) fun K hK => ?_) | refine XWP.reg1 (by kernel_rfl) fun K hK => ?_
  simp only [XA, XB, gateX, Nat.reduceAdd, Nat.reduceLeDiff, Nat.reduceSub, Nat.reduceMul, ↓reduceIte, Int.reduceToNat, Int.reduceLE, beq_self_eq_true]
  refine call_go (by kernel_rfl) rfl (cMul2_c (hP.up hW2) (hQ.up hW2) fP fQ lP lQ) fun w3 W3 hW3 g3 => ?_
  obtain ⟨a3, rfl, g3⟩ := g3
  have hW3' := View.le_trans hW2 hW3
  simp only [XA, XB, gateX, Nat.reduceAdd, Nat.reduceLeDiff, Nat.reduceSub, Nat.reduceMul, ↓reduceIte, Int.reduceToNat, Int.reduceLE, beq_self_eq_true]
  refine hK _ ?_
  first | refine XWP.reg (by kernel_rfl) fun K hK => ?_ | refine XWP.seq (XWP.reg (by kernel_rfl) fun K hK => ?_) | refine XWP.reg1 (by kernel_rfl) fun K hK => ?_
  simp only [XA, XB, gateX, Nat.reduceAdd, Nat.reduceLeDiff, Nat.reduceSub, Nat.reduceMul, ↓reduceIte, Int.reduceToNat, Int.reduceLE, beq_self_eq_true]
  refine call_go (by kernel_rfl) rfl (dMul2_c (hP.up hW3') (hQ.up hW3') fP fQ lP lQ) fun w4 W4 hW4 g4 => ?_
  obtain ⟨a4, rfl, g4⟩ := g4
  have hW4' := View.le_trans hW3' hW4
  simp only [XA, XB, gateX, Nat.reduceAdd, Nat.reduceLeDiff, Nat.reduceSub, Nat.reduceMul, ↓reduceIte, Int.reduceToNat, Int.reduceLE, beq_self_eq_true]
  refine hK _ ?_
  first | refine XWP.reg (by kernel_rfl) fun K hK => ?_ | refine XWP.seq (XWP.reg (by kernel_rfl) fun K hK => ?_) | refine XWP.reg1 (by kernel_rfl) fun K hK => ?_
  simp only [XA, XB, gateX, Nat.reduceAdd, Nat.reduceLeDiff, Nat.reduceSub, Nat.reduceMul, ↓reduceIte, Int.reduceToNat, Int.reduceLE, beq_self_eq_true]
  refine call_go (by kernel_rfl) rfl (cEval_c _ _ _ P X 864 96 (hP.up hW4') (RawAt.mono hx hW4') fP.fit fX' (by omega) (fun _ => aP) (fun _ => bX) hfit) fun w5 W5 hW5 g5 => ?_
  obtain ⟨a5, rfl, g5⟩ := g5
  have hW5' := View.le_trans hW4' hW5
  obtain ⟨m5, n5, d5, rfl, r1, r2⟩ := g5.ones
  simp only [XA, XB, gateX, Nat.reduceAdd, Nat.reduceLeDiff, Nat.reduceSub, Nat.reduceMul, ↓reduceIte, Int.reduceToNat, Int.reduceLE, beq_self_eq_true]
  refine st_rat rfl rfl rfl r1 r2 ?_
  simp only [XA, XB, gateX, Nat.reduceAdd, Nat.reduceLeDiff, Nat.reduceSub, Nat.reduceMul, ↓reduceIte, Int.reduceToNat, Int.reduceLE, beq_self_eq_true]
  refine hK _ ?_
  first | refine XWP.reg (by kernel_rfl) fun K hK => ?_ | refine XWP.seq (XWP.reg (by kernel_rfl) fun K hK => ?_) | refine XWP.reg1 (by kernel_rfl) fun K hK => ?_
  simp only [XA, XB, gateX, Nat.reduceAdd, Nat.reduceLeDiff, Nat.reduceSub, Nat.reduceMul, ↓reduceIte, Int.reduceToNat, Int.reduceLE, beq_self_eq_true]
  refine call_go (by kernel_rfl) rfl (dEval_c _ _ _ P X 864 96 (hP.up hW5') (RawAt.mono hx hW5') fP.fit fX' (fewR_qf fP (Raws.dig hP)) (by omega) (fun _ => aP) (fun _ => bX) hfit) fun w6 W6 hW6 g6 => ?_
  obtain ⟨a6, rfl, g6⟩ := g6
  have hW6' := View.le_trans hW5' hW6
  obtain ⟨m6, n6, d6, rfl, r3, r4⟩ := g6.ones
  simp only [XA, XB, gateX, Nat.reduceAdd, Nat.reduceLeDiff, Nat.reduceSub, Nat.reduceMul, ↓reduceIte, Int.reduceToNat, Int.reduceLE, beq_self_eq_true]
  refine st_rat rfl rfl rfl r3 r4 ?_
  simp only [XA, XB, gateX, Nat.reduceAdd, Nat.reduceLeDiff, Nat.reduceSub, Nat.reduceMul, ↓reduceIte, Int.reduceToNat, Int.reduceLE, beq_self_eq_true]
  refine hK _ ?_
  first | refine XWP.reg (by kernel_rfl) fun K hK => ?_ | refine XWP.seq (XWP.reg (by kernel_rfl) fun K hK => ?_) | refine XWP.reg1 (by kernel_rfl) fun K hK => ?_
  simp only [XA, XB, gateX, Nat.reduceAdd, Nat.reduceLeDiff, Nat.reduceSub, Nat.reduceMul, ↓reduceIte, Int.reduceToNat, Int.reduceLE, beq_self_eq_true]
  refine call_go (by kernel_rfl) rfl (cright_c _ _ P (hP.up hW6') fP.fit (by omega)) fun w7 W7 hW7 g7 => ?_
  subst g7
  have hW7' := View.le_trans hW6' hW7
  simp only [XA, XB, gateX, Nat.reduceAdd, Nat.reduceLeDiff, Nat.reduceSub, Nat.reduceMul, ↓reduceIte, Int.reduceToNat, Int.reduceLE, beq_self_eq_true]
  refine call_go (by kernel_rfl) rfl (dright_c _ _ P (hP.up hW7') fP.fit (by omega) (fun _ => fewR_qf fP (Raws.dig hP))) fun w8 W8 hW8 g8 => ?_
  subst g8
  have b1 : (rightP P == rightP P) = true := beq_self_eq_true _
  simp only [XA, XB, gateX, Nat.reduceAdd, Nat.reduceLeDiff, Nat.reduceSub, Nat.reduceMul, ↓reduceIte, Int.reduceToNat, Int.reduceLE, beq_self_eq_true, b1]
  have hW8' := View.le_trans hW7' hW8
  have hW86 : W6.le W8 := View.le_trans hW7 hW8
  have hW85 : W5.le W8 := View.le_trans hW6 hW86
  have hW84 : W4.le W8 := View.le_trans hW5 hW85
  have hW83 : W3.le W8 := View.le_trans hW4 hW84
  have hW82 : W2.le W8 := View.le_trans hW3 hW83
  have hW81 : W1.le W8 := View.le_trans ‹_› hW82
  have b2 : (decide ((addR P Q).1 = (addR P Q).1) && decide ((addR P Q).2 = (addR P Q).2)) = true := by simp
  have b3 : (decide ((mulR P Q).1 = (mulR P Q).1) && decide ((mulR P Q).2 = (mulR P Q).2)) = true := by simp
  have b4 : decide (evE P X = evE P X) = true := decide_eq_true rfl
  have b5 : decide (evQ P X = evQ P X) = true := decide_eq_true rfl
  refine call_go (by kernel_rfl) rfl (lsameP_c _ _ _ _ _ _ _ (g1.up hW81) (g2.up hW82) qA qA) fun w9 W9 hW9 g9 => ?_
  rw [b2] at g9
  subst g9
  simp only [XA, XB, gateX, Nat.reduceAdd, Nat.reduceLeDiff, Nat.reduceSub, Nat.reduceMul, ↓reduceIte, Int.reduceToNat, Int.reduceLE, beq_self_eq_true]
  refine call_go (by kernel_rfl) rfl (lsameP_c _ _ _ _ _ _ _ (Rats.up g3 (View.le_trans hW83 hW9)) (Rats.up g4 (View.le_trans hW84 hW9)) qM qM) fun w10 W10 hW10 g10 => ?_
  rw [b3] at g10
  subst g10
  simp only [XA, XB, gateX, Nat.reduceAdd, Nat.reduceLeDiff, Nat.reduceSub, Nat.reduceMul, ↓reduceIte, Int.reduceToNat, Int.reduceLE, beq_self_eq_true, b4]
  refine call_go (by kernel_rfl) rfl (psame_c _ _ _ _ _ (g5.mono (View.le_trans hW85 (View.le_trans hW9 hW10))) (g6.mono (View.le_trans hW86 (View.le_trans hW9 hW10))) qE qE) fun w11 W11 hW11 g11 => ?_
  rw [b5] at g11
  subst g11
  simp only [XA, XB, gateX, Nat.reduceAdd, Nat.reduceLeDiff, Nat.reduceSub, Nat.reduceMul, ↓reduceIte, Int.reduceToNat, Int.reduceLE, beq_self_eq_true]
  refine call_go (by kernel_rfl) rfl (alive_c _) fun w12 W12 hW12 g12 => ?_
  subst g12
  simp only [XA, XB, gateX, Nat.reduceAdd, Nat.reduceLeDiff, Nat.reduceSub, Nat.reduceMul, ↓reduceIte, Int.reduceToNat, Int.reduceLE, beq_self_eq_true]
  refine hK _ (XWP.ret ?_)
  try simp only [thenX_ret, inBlockX_ret]
  exact ret_go _ rfl rfl
end Go.Proofs.Ythoboehbadmlmaa
end
section
namespace Go.Proofs.Ythoboehbadmlmaa.recurPolys
open Go.ChangeShapes Go.WideShapes Go.ChangeAt Go.RowKit
set_option linter.unusedVariables false
theorem own : ownKnob Try.prog.godebug = none := by kernel_rfl
theorem laidOut : laidOutB Try.prog = true := by kernel_rfl
set_option maxRecDepth 100000 in
theorem lifted (os : Os) (started : os.Started) (H : Type) (enc : TypeId × Value → H) :
    ReturnsInHanded {} Try.checked os 6 .any (Rows.recurPolysSpec.pre6 enc Try.prog Try.f6 Rows.recurPolysRow.domain false) (Rows.recurPolysSpec.post enc Try.prog Try.f6 false true false false) := by
  refine returnsInHanded_of_change_sized (C := Try.checked) own started (by kernel_rfl) Try.func6
    (ChangeSpec.witness6 (enc := enc) (C := Try.checked) false ⟨#[], #[.slice none 0 0, .slice none 0 0, .agg #[.bool false, .slice none 0 0, .slice none 0 0]], []⟩ 8 (by kernel_rfl) (by kernel_rfl) (by kernel_rfl) (by kernel_rfl)) ?_
  intro W base args ds gs before hval0 hW hcnd hsz0 _
  have hval : ∀ (j : Nat) t v, Try.f6.params[j]? = some t → args[j]? = some v → Value.okWide Try.prog W .any base t v := hval0
  have hW' := hW
  obtain ⟨p, q, hA0, hV, rfl, hfz, hnd⟩ := hW
  have hA : DataW.TrodAll enc Try.prog W 0 (fun _ => true) true Try.f6.params.toList args.toList ds p := hA0
  rw [Try.params6] at hA hval
  obtain ⟨v0, vs0, d0, ds0, p0, q0, hargs, rfl, rfl, h0, r0⟩ := trodAll_cons hA
  obtain ⟨v1, vs1, d1, ds1, p1, q1, rfl, rfl, rfl, h1, r1⟩ := trodAll_cons r0
  obtain ⟨v2, vs2, d2, ds2, p2, q2, rfl, rfl, rfl, h2, r2⟩ := trodAll_cons r1
  obtain ⟨rfl, rfl, rfl⟩ := trodAll_nil r2
  obtain rfl : args = #[v0, v1, v2] := by cases args; simp_all
  obtain ⟨rfl, rfl⟩ := trodVars_none hV
  obtain ⟨a0, len0, cap0, rfl⟩ := okWide_slice (und_elem (P := Try.prog) (e := 34) (by kernel_rfl)) (hval 0 36 v0 rfl rfl)
  have k0 := h0
  have lt0 : ∀ x ∈ p0, x.block < W.heap.size := by obtain ⟨m, hm⟩ := k0; exact DataW.trod_lt m _ _ _ hm
  obtain ⟨fuel0, hf0⟩ := h0
  obtain ⟨L0, hL0⟩ := open_raws (by kernel_rfl) hf0
  obtain ⟨a1, len1, cap1, rfl⟩ := okWide_slice (und_elem (P := Try.prog) (e := 34) (by kernel_rfl)) (hval 1 36 v1 rfl rfl)
  have k1 := h1
  have lt1 : ∀ x ∈ p1, x.block < W.heap.size := by obtain ⟨m, hm⟩ := k1; exact DataW.trod_lt m _ _ _ hm
  obtain ⟨fuel1, hf1⟩ := h1
  obtain ⟨L1, hL1⟩ := open_raws (by kernel_rfl) hf1
  obtain ⟨c2, rfl, _⟩ := okWide_struct und_rat (hval 2 34 v2 rfl rfl)
  have k2 := h2
  have lt2 : ∀ x ∈ p2, x.block < W.heap.size := by obtain ⟨m, hm⟩ := k2; exact DataW.trod_lt m _ _ _ hm
  obtain ⟨fuel2, hf2⟩ := h2
  obtain ⟨L2, n2, e2, j2, f2, g2⟩ := open_rat hf2
  obtain rfl : c2 = #[.bool L2.m, n2, e2] := by cases c2; simpa [Value.cells] using j2
  have hL2 : rawE (viewW W) (.agg #[.bool L2.m, n2, e2]) L2 := ⟨n2, e2, rfl, f2, g2⟩
  clear hA0 hval0 hsz0
  refine (polys_c (viewW W) _ _ _ L0 L1 L2 hL0 hL1 hL2 W (viewW_sub W)).mono fun e W' ⟨v, V', he, _, _, _, bel, hv⟩ => ?_
  subst hv
  subst he
  exact ⟨_, rfl, _, _, _, [], _, [], hW', trodAll_mk1 (shut_bool Try.underlying4 _), (trodAll_cons_mk (Below.trod laidOut (by kernel_rfl) (of_decide_eq_true (by kernel_rfl)) k0 bel lt0) (trodAll_cons_mk (Below.trod laidOut (by kernel_rfl) (of_decide_eq_true (by kernel_rfl)) k1 bel lt1) (trodAll_cons_mk (Below.trod laidOut (by kernel_rfl) (of_decide_eq_true (by kernel_rfl)) k2 bel lt2) trodAll_mk0))), rfl, bel.frame _, fun h => by cases h⟩
theorem over : Rows.recurPolysRow.holds Try.pinned (OpenSpec.ofChange Rows.recurPolysSpec) :=
  OpenClaim.holds_of_wide 6 Try.f6 rfl rfl rfl rfl rfl rfl rfl ⟨rfl, rfl, rfl, rfl, rfl⟩ rfl rfl rfl rfl rfl (by kernel_rfl) Try.func6 (by kernel_rfl)
    (of_decide_eq_true (by kernel_rfl)) (by unfold Func.isWrapper; first | (rw [if_pos (by decide +kernel)]; kernel_rfl) | (rw [if_neg (by decide +kernel)]; exact ⟨rfl, rfl⟩))
    (fun os started H enc _ => lifted os started H enc)
theorem proved : Rows.RecurPolysSaid := over
#print axioms proved
end Go.Proofs.Ythoboehbadmlmaa.recurPolys
namespace Go.Proofs.Ythoboehbadmlmaa
/-- The row, under a short name, for the claim. -/
theorem recurPolys_holds : Rows.RecurPolysSaid := recurPolys.proved
end Go.Proofs.Ythoboehbadmlmaa
end
