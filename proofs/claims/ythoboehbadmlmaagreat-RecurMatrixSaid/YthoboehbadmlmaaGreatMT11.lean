/- The law RecurMatrix answers true at every input: the characteristic polynomial and a polynomial of a matrix agree with the reference, errors included. (part 11 of 12) -/
import Derived.OrdersHeld
import Derived.Below
import Derived.Tactics
import Derived.KernelRfl
import Derived.RangeFuncCalls
import Derived.RangeFuncFrom
import Derived.RangeFuncLeaves
import Derived.OrdersIn
import Derived.Laws.AppendOwn
import Derived.Laws.MakeOwn
import Derived.Laws.CopyRow
import Derived.Laws.Cells
import Derived.Laws.World
import Derived.Laws.Alloc2
import Derived.Laws.NewBlocks
import Derived.Maps.AppendAt
import Derived.Test.YthoboehbadmlmaaGreatProg
import Init.Data.List.Lemmas
import Init.Omega
import Derived.WalkKit
import Derived.ProofKit
import Derived.OpenShut
import Derived.ChangeOld
import Derived.SizedLaws
import Derived.ChangeSlices
import Derived.ChangeArms
import Derived.Deep.Slices
import Derived.Test.YthoboehbadmlmaaGreatMT10
section
namespace Go.Proofs.YthoboehbadmlmaaGreat
open Go Go.RowKit
set_option linter.unusedSimpArgs false
set_option linter.unusedVariables false
attribute [local irreducible] XWP Spec SpecO XPub XCall seqX clX apX stX ldX iaX slX
def pwr (x : Rat) : Nat → Rat
  | 0 => 1
  | k + 1 => pwr x k * x
def evr (l : List Rat) (x : Rat) : Nat → Rat
  | 0 => 0
  | k + 1 => evr l x k + cf l k * pwr x k
theorem evr_Sm (l : List Rat) (x : Rat) (k : Nat) : evr l x k = Sm (fun j => cf l j * pwr x j) k := by
  induction k with
  | zero => rfl
  | succ k ih => rw [evr, ih]; rfl
theorem pwr_QB {x : Rat} {B : Nat} (hx : QB B x) (k : Nat) : QB (k * B) (pwr x k) := by
  induction k with
  | zero => exact QB_one _
  | succ k ih => exact (ih.mul hx).mono (by rw [Nat.add_mul]; omega)
theorem evr_QB {l : List Rat} {x : Rat} {A B n : Nat} (hl : CB A l) (hx : QB B x) (k : Nat) (hk : k ≤ n) : QB (k * (A + n * B + 1)) (evr l x k) := by
  induction k with
  | zero => exact QB_zero _
  | succ k ih =>
    have h1 := Nat.mul_le_mul_right B (show k ≤ n by omega)
    exact ((ih (by omega)).add ((hl.at k).mul (pwr_QB hx k))).mono (by rw [Nat.add_mul]; omega)
theorem deval_c (V : View) (v u : Value) (l : List Rat) (x : Rat) (A B : Nat) (hv : Rats V v l) (hu : RatC V u x) (hA : CB A l) (hB : QB B x) (ll : l.length ≤ 1000) (hfit : (l.length + 2) * (A + (l.length + 1) * B + 1) ≤ 17592186044416) :
    Spec Tryz.prog 105 [v, u] V fun v' V' => RatC V' v' (evr l x l.length) := by
  obtain ⟨A1, c1, rfl, hc1, hm1⟩ := hv.form
  obtain ⟨ux, uy, rfl, o1, o2⟩ := hu.form
  have hp : ∀ k, k ≤ l.length + 1 → QB ((l.length + 1) * B) (pwr x k) := fun k hk => (pwr_QB hB k).mono (Nat.mul_le_mul_right _ hk)
  have he : ∀ k, k ≤ l.length + 1 → QB ((l.length + 1) * (A + (l.length + 1) * B + 1)) (evr l x k) := fun k hk => (evr_QB hA hB k hk).mono (Nat.mul_le_mul_right _ hk)
  have hf1 : (l.length + 1) * (A + (l.length + 1) * B + 1) + (A + (l.length + 1) * B + 1) ≤ 17592186044416 := by rw [show l.length + 2 = l.length + 1 + 1 by omega, Nat.add_mul (l.length + 1)] at hfit; omega
  have hfB : B ≤ (l.length + 1) * B := Nat.le_mul_of_pos_left B (by omega)
  refine (Spec.enter Tryz.func105 rfl fun Γ => ?_)
  simp only [Tryz.ntmps105, List.map_cons, List.map_nil, List.length_cons, List.length_nil, Nat.reduceAdd, Nat.reduceSub, List.replicate_succ, List.replicate_zero, List.cons_append, List.nil_append]
  first | refine Gx.a (by kernel_rfl) fun K hK => ?_ | refine Gx.b (by kernel_rfl) fun K hK => ?_ | refine Gx.c (by kernel_rfl) fun K hK => ?_
  simp only [XA, XB, gateX, Nat.reduceAdd, Nat.reduceLeDiff, Nat.reduceSub, Nat.reduceMul, ↓reduceIte, Int.reduceToNat, Int.reduceLE, beq_self_eq_true]
  refine hK _ ?_
  first | refine Gx.a (by kernel_rfl) fun K hK => ?_ | refine Gx.b (by kernel_rfl) fun K hK => ?_ | refine Gx.c (by kernel_rfl) fun K hK => ?_
  simp only [XA, XB, gateX, Nat.reduceAdd, Nat.reduceLeDiff, Nat.reduceSub, Nat.reduceMul, ↓reduceIte, Int.reduceToNat, Int.reduceLE, beq_self_eq_true]
  refine call_go (by kernel_rfl) rfl (pzero_c _) fun v1 V1 hV1 h1 => ?_
  obtain ⟨zx, zy, rfl, o3, o4⟩ := h1.form
  simp only [XA, XB, gateX, Nat.reduceAdd, Nat.reduceLeDiff, Nat.reduceSub, Nat.reduceMul, ↓reduceIte, Int.reduceToNat, Int.reduceLE, beq_self_eq_true]
  refine call_go (by kernel_rfl) rfl (pone_c _) fun v2 V2 hV2 h2 => ?_
  obtain ⟨wx, wy, rfl, o5, o6⟩ := h2.form
  have h1 := h1.mono hV2
  simp only [XA, XB, gateX, Nat.reduceAdd, Nat.reduceLeDiff, Nat.reduceSub, Nat.reduceMul, ↓reduceIte, Int.reduceToNat, Int.reduceLE, beq_self_eq_true]
  refine st_rat rfl rfl rfl o3 o4 ?_
  simp only [XA, XB, gateX, Nat.reduceAdd, Nat.reduceLeDiff, Nat.reduceSub, Nat.reduceMul, ↓reduceIte, Int.reduceToNat, Int.reduceLE, beq_self_eq_true]
  refine st_rat rfl rfl rfl o5 o6 ?_
  simp only [XA, XB, gateX, Nat.reduceAdd, Nat.reduceLeDiff, Nat.reduceSub, Nat.reduceMul, ↓reduceIte, Int.reduceToNat, Int.reduceLE, beq_self_eq_true]
  refine hK _ ?_
  have hV12 := View.le_trans hV1 hV2
  refine XWP.cutD 4 (fun s => ∃ (V5 : View) (m a b m' a' b' : Value), StIs (fun Z => [Z 0,Z 1,Z 2, .p 0 0, .p 1 0, .p 2 0, .p 3 0, Z 7,Z 8,Z 9,Z 10,Z 11,Z 12,Z 13,Z 14,Z 15,Z 16,Z 17,Z 18,Z 19,Z 20,Z 21,Z 22,Z 23,Z 24,Z 25,Z 26]) [[.bool (ng x), ux, uy], [.bool false, .slice none 0 0, .slice none 0 0], [m, a, b], [m', a', b']] (fun _ => none) V5 s ∧ RatC V5 (.agg #[m, a, b]) (evr l x l.length) ∧ isOne m = true ∧ isOne a = true ∧ isOne b = true) ?_ ?_
  · first | refine Gx.a (by kernel_rfl) fun K hK => ?_ | refine Gx.b (by kernel_rfl) fun K hK => ?_ | refine Gx.c (by kernel_rfl) fun K hK => ?_
    simp only [XA, XB, gateX, Nat.reduceAdd, Nat.reduceLeDiff, Nat.reduceSub, Nat.reduceMul, ↓reduceIte, Int.reduceToNat, Int.reduceLE, beq_self_eq_true]
    refine hK _ ?_
    clear hK
    first | refine XWP.block ?_ | refine XWP.seq (XWP.block ?_)
    refine XWP.loopD 4 (fun d s => ∃ (k : Nat) (V5 : View) (m a b m' a' b' : Value), StIs (fun Z => [Z 0,Z 1,Z 2, .p 0 0, .p 1 0, .p 2 0, .p 3 0, Z 7,Z 8,Z 9,Z 10, .v (.slice A1 l.length c1), .v (.int .i64 (l.length : Int)), .v (.int .i64 (k : Int)), Z 14,Z 15,Z 16,Z 17,Z 18,Z 19,Z 20,Z 21,Z 22,Z 23,Z 24,Z 25,Z 26]) [[.bool (ng x), ux, uy], [.bool false, .slice none 0 0, .slice none 0 0], [m, a, b], [m', a', b']] (fun _ => none) V5 s ∧ V2.le V5 ∧ d + k = l.length ∧ RatC V5 (.agg #[m, a, b]) (evr l x k) ∧ RatC V5 (.agg #[m', a', b']) (pwr x k) ∧ isOne m = true ∧ isOne a = true ∧ isOne b = true ∧ isOne m' = true ∧ isOne a' = true ∧ isOne b' = true) l.length ⟨0, V2, _, _, _, _, _, _, StIs.of (by exact rfl), View.le_refl _, by omega, h1, h2, rfl, o3, o4, rfl, o5, o6⟩ ?_
    rintro d s ⟨k, V5, m, a, b, m', a', b', hs, hV5, hd, h5, h6, q1, q2, q3, q4, q5, q6⟩
    obtain ⟨z, rfl⟩ := hs.out
    try dsimp only
    clear hs
    by_cases hk : k < l.length
    rotate_left
    · obtain rfl : k = l.length := by omega
      have b1 : decide ((l.length : Int) < (l.length : Int)) = false := decide_eq_false (by omega)
      first | refine Gx.a (by kernel_rfl) fun K hK => ?_ | refine Gx.b (by kernel_rfl) fun K hK => ?_ | refine Gx.c (by kernel_rfl) fun K hK => ?_
      simp only [XA, XB, gateX, Nat.reduceAdd, Nat.reduceLeDiff, Nat.reduceSub, Nat.reduceMul, ↓reduceIte, Int.reduceToNat, Int.reduceLE, beq_self_eq_true, b1]
      refine hK _ ?_
      first | refine Gx.f rfl ?_ | refine XWP.seq (Gx.f rfl ?_)
      refine XWP.exit ?_
      exact fun f => ⟨V5, m, a, b, m', a', b', StIs.of (by exact rfl), h5, q1, q2, q3⟩
    have b1 : decide ((k : Int) < (l.length : Int)) = true := decide_eq_true (by omega)
    first | refine Gx.a (by kernel_rfl) fun K hK => ?_ | refine Gx.b (by kernel_rfl) fun K hK => ?_ | refine Gx.c (by kernel_rfl) fun K hK => ?_
    simp only [XA, XB, gateX, Nat.reduceAdd, Nat.reduceLeDiff, Nat.reduceSub, Nat.reduceMul, ↓reduceIte, Int.reduceToNat, Int.reduceLE, beq_self_eq_true, b1]
    refine hK _ ?_
    first | refine Gx.t rfl ?_ | refine XWP.seq (Gx.t rfl ?_)
    refine XWP.skip ?_
    refine XWP.seq ?_
    first | refine XWP.block ?_ | refine XWP.seq (XWP.block ?_)
    have hv5 := hv.up (View.le_trans hV12 hV5)
    have hu5 := hu.mono (View.le_trans hV12 hV5)
    obtain ⟨b0, o0, rfl⟩ := SlAt.addr hv5 (by omega)
    obtain ⟨m3, n3, d3, hx3, ⟨p1, p2, p3⟩, hld3⟩ := Rats.get hv5 k (by omega)
    first | refine Gx.a (by kernel_rfl) fun K hK => ?_ | refine Gx.b (by kernel_rfl) fun K hK => ?_ | refine Gx.c (by kernel_rfl) fun K hK => ?_
    simp only [XA, XB, gateX, Nat.reduceAdd, Nat.reduceLeDiff, Nat.reduceSub, Nat.reduceMul, ↓reduceIte, Int.reduceToNat, Int.reduceLE, beq_self_eq_true]
    refine ⟨by omega, by omega, ld_mem (hld3 _) ?_⟩
    simp only [XA, XB, gateX, Nat.reduceAdd, Nat.reduceLeDiff, Nat.reduceSub, Nat.reduceMul, ↓reduceIte, Int.reduceToNat, Int.reduceLE, beq_self_eq_true]
    refine st_rat rfl rfl p1 p2 p3 ?_
    simp only [XA, XB, gateX, Nat.reduceAdd, Nat.reduceLeDiff, Nat.reduceSub, Nat.reduceMul, ↓reduceIte, Int.reduceToNat, Int.reduceLE, beq_self_eq_true]
    refine hK _ ?_
    have qc := hA.at k
    have qp := hp k (by omega)
    have qe := he k (by omega)
    have qm : QB (A + (l.length + 1) * B) (cf l k * pwr x k) := qc.mul qp
    (first | refine XWP.drw [0, 1, 2, 3, 4, 5] (by kernel_rfl) (by kernel_rfl) (by kernel_rfl) fun K hK => ?_ | refine XWP.seq (XWP.drw [0, 1, 2, 3, 4, 5] (by kernel_rfl) (by kernel_rfl) (by kernel_rfl) fun K hK => ?_) | refine XWP.drw1 [0, 1, 2, 3, 4, 5] (by kernel_rfl) (by kernel_rfl) (by kernel_rfl) fun K hK => ?_) <;> dsimp only [pickOps, List.getElem?_cons_zero, List.getElem?_cons_succ]
    simp only [XA, XB, gateX, Nat.reduceAdd, Nat.reduceLeDiff, Nat.reduceSub, Nat.reduceMul, ↓reduceIte, Int.reduceToNat, Int.reduceLE, beq_self_eq_true]
    refine call_go (by kernel_rfl) rfl (pmul_c _ _ _ _ _ (hx3.toV (qc.qf (by omega))) (h6.toV (qp.qf (by omega))) (qc.qf (by omega)) (qp.qf (by omega))) fun v7 V7 hV7 h7 => ?_
    simp only [XA, XB, gateX, Nat.reduceAdd, Nat.reduceLeDiff, Nat.reduceSub, Nat.reduceMul, ↓reduceIte, Int.reduceToNat, Int.reduceLE, beq_self_eq_true]
    refine call_go (by kernel_rfl) rfl (padd_c _ _ _ _ _ ((h5.mono hV7).toV (qe.qf (by omega))) (h7.toV (qm.qf (by omega))) (qe.qf (by omega)) (qm.qf (by omega))) fun v8 V8 hV8 h8 => ?_
    obtain ⟨x8, y8, rfl, o7, o8⟩ := h8.form
    simp only [XA, XB, gateX, Nat.reduceAdd, Nat.reduceLeDiff, Nat.reduceSub, Nat.reduceMul, ↓reduceIte, Int.reduceToNat, Int.reduceLE, beq_self_eq_true]
    refine st_rat rfl rfl rfl o7 o8 ?_
    simp only [XA, XB, gateX, Nat.reduceAdd, Nat.reduceLeDiff, Nat.reduceSub, Nat.reduceMul, ↓reduceIte, Int.reduceToNat, Int.reduceLE, beq_self_eq_true]
    refine hK _ ?_
    have h6 := (h6.mono hV7).mono hV8
    have hu8 := (hu5.mono hV7).mono hV8
    first | refine Gx.a (by kernel_rfl) fun K hK => ?_ | refine Gx.b (by kernel_rfl) fun K hK => ?_ | refine Gx.c (by kernel_rfl) fun K hK => ?_
    simp only [XA, XB, gateX, Nat.reduceAdd, Nat.reduceLeDiff, Nat.reduceSub, Nat.reduceMul, ↓reduceIte, Int.reduceToNat, Int.reduceLE, beq_self_eq_true]
    refine call_go (by kernel_rfl) rfl (pmul_c _ _ _ _ _ (h6.toV (qp.qf (by omega))) (hu8.toV (hB.qf (by omega))) (qp.qf (by omega)) (hB.qf (by omega))) fun v9 V9 hV9 h9 => ?_
    obtain ⟨x9, y9, rfl, o9, o10⟩ := h9.form
    simp only [XA, XB, gateX, Nat.reduceAdd, Nat.reduceLeDiff, Nat.reduceSub, Nat.reduceMul, ↓reduceIte, Int.reduceToNat, Int.reduceLE, beq_self_eq_true]
    refine st_rat rfl rfl rfl o9 o10 ?_
    simp only [XA, XB, gateX, Nat.reduceAdd, Nat.reduceLeDiff, Nat.reduceSub, Nat.reduceMul, ↓reduceIte, Int.reduceToNat, Int.reduceLE, beq_self_eq_true]
    refine hK _ ?_
    first | refine Gx.a (by kernel_rfl) fun K hK => ?_ | refine Gx.b (by kernel_rfl) fun K hK => ?_ | refine Gx.c (by kernel_rfl) fun K hK => ?_
    simp only [XA, XB, gateX, Nat.reduceAdd, Nat.reduceLeDiff, Nat.reduceSub, Nat.reduceMul, ↓reduceIte, Int.reduceToNat, Int.reduceLE, beq_self_eq_true, i64_succ k (by omega)]
    exact hK _ ⟨d - 1, by omega, fun f => ⟨k + 1, V9, _, _, _, _, _, _, StIs.of (by exact rfl), View.le_trans hV5 (View.le_trans hV7 (View.le_trans hV8 hV9)), by omega, h8.mono hV9, h9, rfl, o7, o8, rfl, o9, o10⟩⟩
  rintro s ⟨V5, m, a, b, m', a', b', hs, h5, q1, q2, q3⟩
  obtain ⟨z, rfl⟩ := hs.out
  try dsimp only
  clear hs
  first | refine Gx.a (by kernel_rfl) fun K hK => ?_ | refine Gx.b (by kernel_rfl) fun K hK => ?_ | refine Gx.c (by kernel_rfl) fun K hK => ?_
  simp only [XA, XB, gateX, Nat.reduceAdd, Nat.reduceLeDiff, Nat.reduceSub, Nat.reduceMul, ↓reduceIte, Int.reduceToNat, Int.reduceLE, beq_self_eq_true]
  refine st_rat rfl rfl q1 q2 q3 ?_
  simp only [XA, XB, gateX, Nat.reduceAdd, Nat.reduceLeDiff, Nat.reduceSub, Nat.reduceMul, ↓reduceIte, Int.reduceToNat, Int.reduceLE, beq_self_eq_true]
  refine hK _ (XWP.ret ?_)
  try simp only [thenX_ret, inBlockX_ret]
  exact ret_rat1 rfl rfl rfl h5
end Go.Proofs.YthoboehbadmlmaaGreat
end
section
namespace Go.Proofs.YthoboehbadmlmaaGreat
set_option linter.unusedVariables false
theorem pwr_pow (x : Rat) : ∀ k, pwr x k = x ^ k
  | 0 => by rw [rpow_zero]; rfl
  | k + 1 => by rw [rpow_succ, ← pwr_pow x k]; rfl
theorem evr_pv {l : List Rat} {d : Nat} (h : l.length ≤ d + 1) (x : Rat) : evr l x l.length = pv (cf l) d x := by
  rw [evr_Sm]
  unfold pv
  rw [Sm_more h fun j h1 _ => by rw [cf_none h1]; grind]
  exact Sm_congr _ fun j _ => by rw [pwr_pow]
/-- bounds of the interpolation's lists: its base, and what is told so far -/
def nb : Nat → Nat × Nat
  | 0 => (1, 0)
  | i + 1 => (6 * ((nb i).1 + 6 + 1), (nb i).2 + (nb i).1 + (2200000 + 6 * ((nb i).2 + 22) + 1 + 6 * ((nb i).1 + 22)) + 1)
theorem nb_le {i : Nat} (hi : i ≤ 6) : (nb i).1 ≤ 500000 ∧ (nb i).2 ≤ 200000000000 := by
  have : i = 0 ∨ i = 1 ∨ i = 2 ∨ i = 3 ∨ i = 4 ∨ i = 5 ∨ i = 6 := by omega
  rcases this with rfl | rfl | rfl | rfl | rfl | rfl | rfl <;> decide
theorem lin_CB {i : Nat} (hi : i ≤ 8) : CB 6 [-(i : Rat), 1] := CB_of (B := 3) [-(i : Rat), 1] fun x hx => by
  simp only [List.mem_cons, List.not_mem_nil, or_false] at hx
  rcases hx with rfl | rfl
  · exact (smal_QB hi).neg
  · exact QB_one _
structure NewB (f : Nat → Rat) (i : Nat) (out base : List Rat) : Prop where
  inv : NewI f i out base
  bb : CB (nb i).1 base
  ob : CB (nb i).2 out
theorem NewB.start (f : Nat → Rat) : NewB f 0 [] [1] := ⟨NewI.start f, CB_one (QB_one 1), CB_nil _⟩
theorem NewB.evo {f : Nat → Rat} {i : Nat} {out base : List Rat} (h : NewB f i out base) (hi : i ≤ 5) : evr out (i : Rat) out.length = pv (cf out) i (i : Rat) ∧ QB (6 * ((nb i).2 + 22)) (evr out (i : Rat) out.length) := by
  have hl := h.inv.lens
  refine ⟨evr_pv (by omega) _, (evr_QB (n := 6) h.ob (smal_QB (show i ≤ 8 by omega)) _ (by omega)).mono ?_⟩
  have : out.length * ((nb i).2 + 6 * 3 + 1) ≤ 6 * ((nb i).2 + 22) := Nat.mul_le_mul (by omega) (by omega)
  exact this
theorem NewB.evb {f : Nat → Rat} {i : Nat} {out base : List Rat} (h : NewB f i out base) (hi : i ≤ 5) : evr base (i : Rat) base.length = pv (cf base) i (i : Rat) ∧ QB (6 * ((nb i).1 + 22)) (evr base (i : Rat) base.length) := by
  have hl := h.inv.lens
  refine ⟨evr_pv (by omega) _, (evr_QB (n := 6) h.bb (smal_QB (show i ≤ 8 by omega)) _ (by omega)).mono ?_⟩
  have : base.length * ((nb i).1 + 6 * 3 + 1) ≤ 6 * ((nb i).1 + 22) := Nat.mul_le_mul (by omega) (by omega)
  exact this
theorem NewB.by_QB {f : Nat → Rat} {i : Nat} {out base : List Rat} (h : NewB f i out base) (hi : i ≤ 5) (hf : QB 2200000 (f i)) : QB (2200000 + 6 * ((nb i).2 + 22) + 1 + 6 * ((nb i).1 + 22)) ((f i - evr out (i : Rat) out.length) / evr base (i : Rat) base.length) :=
  (hf.sub (h.evo hi).2).div (h.evb hi).2
theorem NewB.step {f : Nat → Rat} {i : Nat} {out base : List Rat} (h : NewB f i out base) (hi : i ≤ 5) (hf : QB 2200000 (f i)) : NewB f (i + 1) (pAdd out base ((f i - evr out (i : Rat) out.length) / evr base (i : Rat) base.length) 0) (prodP base [-(i : Rat), 1]) := by
  have hl := h.inv.lens
  refine ⟨?_, ?_, ?_⟩
  · rw [(h.evo hi).1, (h.evb hi).1]; exact h.inv.step
  · rw [← mul_prod]
    have := mulP_CB h.bb (lin_CB (show i ≤ 8 by omega))
    refine this.mono ?_
    rw [hl.2]
    show (i + 1) * _ ≤ 6 * _
    exact Nat.mul_le_mul (by omega) (Nat.le_refl _)
  · exact h.ob.padd h.bb (h.by_QB hi hf) 0
theorem NewB.base_nz {f : Nat → Rat} {i : Nat} {out base : List Rat} (h : NewB f i out base) (hi : i ≤ 5) : evr base (i : Rat) base.length ≠ 0 := by
  rw [(h.evb hi).1]; exact h.inv.bn i (Nat.le_refl _)
/-- the characteristic polynomial -/
theorem chr_ex (M : Grid) (n : Nat) : ∃ c : Nat → Rat, (∀ i, i ≤ n → (flP M n (n - i)).2 = c i) ∧ (∀ x, detL n (fun i k => -M i k + x * gid i k) = pv c n x) ∧ c n = 1 ∧ (∀ i j, i < n → j < n → horG M (mk (n + 1) c) n (n + 1) i j = 0) ∧ c 0 = sg1 n * detL n M := by
  obtain ⟨c, β, h⟩ := chr_of M n
  refine ⟨c, fun i hi => ?_, h.chi, h.top, fun i j hi hj => root_own h hi hj, h.low⟩
  have := (flP_traces h (k := n - i) (by omega)).1
  rw [this, show n - (n - i) = i by omega]
/-- the characteristic polynomial, as the program reckons it -/
def chrL (M : Grid) (n : Nat) : List Rat := mk (n + 1) fun i => (flP M n (n - i)).2
theorem chrL_len (M : Grid) (n : Nat) : (chrL M n).length = n + 1 := mk_len _ _
theorem chrL_eq {M : Grid} {n : Nat} {c : Nat → Rat} (h : ∀ i, i ≤ n → (flP M n (n - i)).2 = c i) : chrL M n = mk (n + 1) c := mk_congr fun i hi => h i (by omega)
theorem chrL_QB {M : Grid} {n : Nat} (hn : n ≤ 5) (hM : ∀ i k, i < n → k < n → QB 97 (M i k)) (i : Nat) : QB 2500000000 (cf (chrL M n) i) := by
  unfold chrL
  rw [cf_mk]
  split
  · exact (flP_QB hn hM (by omega)).2
  · exact QB_zero _
/-- what the interpolation ends with -/
theorem NewB.done {M : Grid} {n : Nat} {out base : List Rat} (h : NewB (fun j => detL n (fun i k => -M i k + (j : Rat) * gid i k)) (n + 1) out base) : out = chrL M n := by
  obtain ⟨c, h1, h2, h3, _⟩ := chr_ex M n
  rw [chrL_eq h1]
  exact h.inv.done (fun j _ => h2 j) h3
end Go.Proofs.YthoboehbadmlmaaGreat
end
section
namespace Go.Proofs.YthoboehbadmlmaaGreat
open Go Go.RowKit
set_option linter.unusedSimpArgs false
set_option linter.unusedVariables false
attribute [local irreducible] XWP Spec SpecO XPub XCall seqX clX apX stX ldX iaX slX
theorem RatC.rawAt {V : View} {v : Value} {q : Rat} (h : RatC V v q) : RawAt V v (ng q) (dg q.num.natAbs) (dg q.den) := by
  obtain ⟨n, d, e, h1, h2⟩ := h
  exact ⟨n, d, e, h1, h2⟩
theorem cqr_c {V : View} {v : Value} {q : Rat} (h : RatC V v q) (hq : QF q) : Spec Tryz.prog 59 [v] V fun v' V' => v' = .bool true := by
  have f := fitR_toRaw (l := [q]) (fun x hx => by rw [List.mem_singleton.1 hx]; exact hq) (toRaw q) (by simp)
  have := qright_c V v _ _ _ h.rawAt f.1 f.2
  have e : rawOk (ng q) (dg q.num.natAbs) (dg q.den) = true := toRaw_ok q
  rwa [e] at this
theorem cscale1_c (V : View) (b2 b3 e2 e3 n i k B C : Nat) (G : Grid) (q : Rat) (s1 x y : Value) (h2 : V b2 = some (.cells ([.int .i64 (n : Int), .int .i64 (n : Int), s1] : List Value).toArray e2 (0, 0))) (h3 : V b3 = some (.cells ([.bool (ng q), x, y] : List Value).toArray e3 (0, 0))) (ha : SqM V s1 n B G) (hb : RatC V (.agg #[.bool (ng q), x, y]) q) (hi : i < n) (hk : k < n) (hB : B ≤ 17592186044416) (hC : QB C q) (hC2 : C ≤ 17592186044416) :
    Spec Tryz.prog 138 [.int .i64 (i : Int), .int .i64 (k : Int), .pointer (some ⟨b2, 0, none⟩), .pointer (some ⟨b3, 0, none⟩)] V fun v' V' => RatC V' v' (G i k * q) := by
  have hn := ha.hn
  have hnn := sq_le hn
  have hp := pos_lt hi hk
  have w1 := wr_mul (i := i) (C := n) (by omega) (by omega)
  have w2 := wr_add (p := i * n) (k := k) (by omega) (by omega)
  have g1 := flatG_at G hi hk
  have la := flatG_len G n n
  have hva := ha.hv
  obtain ⟨A1, c1, rfl, hc1, hm1⟩ := hva.form
  obtain ⟨b, o, rfl⟩ := SlAt.addr hva (by omega)
  obtain ⟨x0, y0, z0, hx, ⟨o1, o2, o3⟩, hld⟩ := Rats.get hva (i * n + k) (by omega)
  rw [g1] at hx
  refine (Spec.enter Tryz.func138 rfl fun Γ => ?_)
  simp only [Tryz.ntmps138, List.map_cons, List.map_nil, List.length_cons, List.length_nil, Nat.reduceAdd, Nat.reduceSub, List.replicate_succ, List.replicate_zero, List.cons_append, List.nil_append]
  refine Gx.a (by kernel_rfl) fun K hK => ?_
  simp only [XA, XB]
  refine hK _ ?_
  (refine XWP.drw [0, 1, 2, 3, 4, 5, 6, 7, 8, 9, 10, 11, 12] (by kernel_rfl) (by kernel_rfl) (by kernel_rfl) fun K hK => ?_) <;> dsimp only [pickOps, List.getElem?_cons_zero, List.getElem?_cons_succ]
  simp only [XM, XA]
  refine ld_mem (ldV1 h2 (off := 2) rfl shapeT_22 _) ?_
  simp only [XM, XA]
  refine ld_mem (ldV1 h2 (off := 1) rfl shapeT_3 _) ?_
  simp only [XA, XB, w1, w2]
  refine ⟨by omega, by omega, ?_⟩
  refine ld_mem (hld _) ?_
  simp only [XA]
  refine ld_mem (ldV3 h3 shapeT_48 _) ?_
  simp only [XA]
  refine call_go (by kernel_rfl) rfl (qmul_c _ _ _ _ _ hx hb ((ha.hq i k hi hk).qf hB) (hC.qf hC2)) fun v1 V1 hV1 h1 => ?_
  obtain ⟨x1, y1, rfl, p1, p2⟩ := h1.form
  simp only [XA]
  refine st_rat rfl rfl rfl p1 p2 ?_
  simp only [XA]
  refine hK _ (XWP.ret ?_)
  try simp only [thenX_ret, inBlockX_ret]
  exact ret_rat1 rfl rfl rfl h1
theorem cscale_c (V : View) (s1 r : Value) (n B C : Nat) (G : Grid) (q : Rat) (ha : SqM V s1 n B G) (hb : RatC V r q) (hB : B ≤ 17592186044416) (hC : QB C q) (hC2 : C ≤ 17592186044416) :
    Spec Tryz.prog 91 [.agg #[.int .i64 (n : Int), .int .i64 (n : Int), s1], r] V fun v' V' => ∃ w, v' = .tuple #[.agg #[.int .i64 (n : Int), .int .i64 (n : Int), w], .int .i64 0] ∧ Rats V' w (flatG (fun i k => G i k * q) n n) := by
  obtain ⟨A1, c1, rfl, hc1, hm1⟩ := ha.hv.form
  obtain ⟨x, y, rfl, ox, oy⟩ := hb.form
  have hn := ha.hn
  refine (Spec.enter Tryz.func91 rfl fun Γ => ?_)
  simp only [Tryz.ntmps91, List.map_cons, List.map_nil, List.length_cons, List.length_nil, Nat.reduceAdd, Nat.reduceSub, List.replicate_succ, List.replicate_zero, List.cons_append, List.nil_append]
  refine Gx.a (by kernel_rfl) fun K hK => ?_
  simp only [XM, XA, Nat.reduceAdd]
  refine hK _ ?_
  refine XWP.row1 (bx := [_, _]) fun b4 e4 hb4 _ => ?_
  simp only [List.map_cons, List.map_nil, rowS_v, rowS_p, List.length_nil, List.length_cons, Nat.reduceAdd, Nat.reduceEqDiff, ↓reduceIte]
  have f4 : upd (fun _ => none) b4 (some ⟨e4, [.int .i64 0, .int .i64 0, .slice none 0 0], 3⟩) b4 = some ⟨e4, [.int .i64 0, .int .i64 0, .slice none 0 0], 3⟩ := upd_at _ _ _
  generalize upd (fun _ => none) b4 (some ⟨e4, [.int .i64 0, .int .i64 0, .slice none 0 0], 3⟩) = H2 at *
  refine XWP.row1 (bx := [_]) fun b3 e3 hb3 _ => ?_
  simp only [List.map_cons, List.map_nil, rowS_v, rowS_p, List.length_nil, List.length_cons, Nat.reduceAdd, Nat.reduceEqDiff, ↓reduceIte]
  refine XWP.pub b3 _ (upd_at _ _ _) fun o3 ho3 hle3 => ?_
  have eo3 := row_obj ho3
  subst eo3
  have n43 := new_ne hb3 f4
  have f4 : upd (upd H2 b3 (some ⟨e3, [.bool (ng q), x, y], 3⟩)) b3 none b4 = some ⟨e4, [.int .i64 0, .int .i64 0, .slice none 0 0], 3⟩ := (upd_off n43).trans ((upd_off n43).trans f4)
  have h3 := addV_at V b3 (.cells ([.bool (ng q), x, y] : List Value).toArray e3 (0, 0))
  generalize upd (upd H2 b3 _) b3 none = H3 at *
  generalize addV V b3 _ = V3 at *
  refine XWP.row1 (bx := []) fun b2 e2 hb2 _ => ?_
  simp only [List.map_cons, List.map_nil, rowS_v, rowS_p, List.length_nil, List.length_cons, Nat.reduceAdd, ↓reduceIte]
  refine XWP.pub b2 _ (upd_at _ _ _) fun o2 ho2 hle2 => ?_
  have eo2 := row_obj ho2
  subst eo2
  have n42 := new_ne hb2 f4
  have f4 : upd (upd H3 b2 (some ⟨e2, [.int .i64 (n : Int), .int .i64 (n : Int), .slice A1 (flatG G n n).length c1], 3⟩)) b2 none b4 = some ⟨e4, [.int .i64 0, .int .i64 0, .slice none 0 0], 3⟩ := (upd_off n42).trans ((upd_off n42).trans f4)
  have h2 := addV_at V3 b2 (.cells ([.int .i64 (n : Int), .int .i64 (n : Int), .slice A1 (flatG G n n).length c1] : List Value).toArray e2 (0, 0))
  generalize upd (upd H3 b2 _) b2 none = H4 at *
  generalize addV V3 b2 _ = V4 at *
  have h3 := hle2 _ _ h3
  have hle := View.le_trans hle3 hle2
  have ha := ha.up hle
  have hb := hb.mono hle
  refine XWP.seq ?_
  refine Gx.a (by kernel_rfl) fun K hK => ?_
  simp only [XA]
  refine ld_mem (ldV3 h2 shapeT_24 _) ?_
  simp only [XA]
  refine call_go (by kernel_rfl) rfl (cmr_c ha hB) fun v5 V5 hV5 h5 => ?_
  subst h5
  simp only [XA, gateX, ↓reduceIte, beq_self_eq_true]
  refine ld_mem (ldV3 (hV5 _ _ h3) shapeT_48 _) ?_
  simp only [XA, gateX, ↓reduceIte, beq_self_eq_true]
  refine call_go (by kernel_rfl) rfl (cqr_c (hb.mono hV5) (hC.qf hC2)) fun v6 V6 hV6 h6 => ?_
  subst h6
  simp only [XA, gateX, ↓reduceIte, beq_self_eq_true]
  refine hK _ ?_
  refine Gx.f rfl ?_
  refine XWP.skip ?_
  have hle := View.le_trans hV5 hV6
  have h2 := hle _ _ h2
  have h3 := hle _ _ h3
  have ha := ha.up hle
  have hb := hb.mono hle
  refine Gx.a (by kernel_rfl) fun K hK => ?_
  simp only [XM, XA]
  refine ld_mem (ldV1 h2 (off := 0) rfl shapeT_3 _) ?_
  simp only [XM, XA]
  refine ld_mem (ldV1 h2 (off := 1) rfl shapeT_3 _) ?_
  simp only [XA]
  refine mkf_go [.pointer (some ⟨b2, 0, none⟩), .pointer (some ⟨b3, 0, none⟩)] rfl ?_
  simp only [XA]
  refine call_own (by kernel_rfl) rfl (filled_o V6 (lb := [.pointer (some ⟨b2, 0, none⟩), .pointer (some ⟨b3, 0, none⟩)]) n n (fun i k => G i k * q) (by kernel_rfl) (by omega) (by omega) fun V' i k hV hi hk => cscale1_c V' b2 b3 e2 e3 n i k B C G q _ x y (hV _ _ h2) (hV _ _ h3) (ha.up hV) (hb.mono hV) hi hk hB hC hC2) fun v12 V12 o12 hV12 hs12 hR12 => ?_
  obtain ⟨sl, cells, rfl, hown, hrow⟩ := hR12
  have f12 := addRow_off f4 fun g' q e => (hs12 g' q e).1
  have hown2 := own_any (H := H4) hown
  have osl := own_isOne hown2
  have hne : sl.ownBlock ≠ some b4 := fun e => by
    rcases own_parts hown with ⟨rfl, _, _⟩ | ⟨g2, cap2, rfl, hg2, _⟩
    · cases e
    · have : g2 = b4 := by simpa [Value.ownBlock] using e
      exact new_ne (hs12 g2 _ (addRow_only hg2)).1 f4 this.symm
  generalize addRow H4 o12 = H12 at *
  simp only [XA]
  refine st_rowA shapeT_24 (all3 rfl rfl osl) rfl f12 (by simp) ?_
  simp only [XA]
  refine hK _ ?_
  have hown3 : Own (upd H12 b4 (some ⟨e4, splice [.int .i64 0, .int .i64 0, .slice none 0 0] 0 [.int .i64 (n : Int), .int .i64 (n : Int), sl], 3⟩)) 48 3 sl (n * n) cells := by
    refine ⟨hown2.1, ?_⟩
    rcases hown2.2 with h | ⟨g2, cap2, rfl, hg2, h⟩
    · exact .inl h
    · exact .inr ⟨g2, cap2, rfl, by rw [upd_off fun e => hne (by rw [e]; rfl)]; exact hg2, h⟩
  refine XWP.pubR ratE_ok hown3 hrow fun H13 V13 hV13 hRw hk13 => ?_
  have f13 := (hk13 b4 hne).trans (upd_at _ _ _)
  refine XWP.ret ?_
  try simp only [thenX_ret, inBlockX_ret]
  exact ret_go _ (by simp [resAll, resV, cellsV, shapeT_24, f13, splice_all]; rfl) ⟨sl, rfl, hRw⟩
end Go.Proofs.YthoboehbadmlmaaGreat
end
section
namespace Go.Proofs.YthoboehbadmlmaaGreat
open Go Go.RowKit
set_option linter.unusedSimpArgs false
set_option linter.unusedVariables false
attribute [local irreducible] XWP Spec SpecO XPub XCall seqX clX apX stX ldX iaX slX
theorem rat_len {q : Rat} (h : q ≠ 0) : decide ((0 : Int) < ((dg q.num.natAbs).length : Int)) = true := by
  have hlen : 0 < (dg q.num.natAbs).length := by
    rcases Nat.eq_zero_or_pos (dg q.num.natAbs).length with e | e
    · exact absurd ((rat_zero_iff _).2 (dg_nil e)) h
    · exact e
  exact decide_eq_true (by omega)
theorem RatC.form2 {V : View} {v : Value} {q : Rat} (h : RatC V v q) : ∃ A c e, v = .agg #[.bool (ng q), .slice A (dg q.num.natAbs).length c, e] ∧ isOne e = true := by
  obtain ⟨n, d, e, h1, h2⟩ := h
  obtain ⟨A, c, rfl, _, _⟩ := NatAt.form h1
  exact ⟨A, c, d, e, h2.one⟩
set_option maxRecDepth 100000 in
set_option maxHeartbeats 8000000 in
theorem ctimes1_c (V : View) (b2 b3 e2 e3 n i k B C : Nat) (G H : Grid) (s1 s2 : Value) (h2 : V b2 = some (.cells ([.int .i64 (n : Int), .int .i64 (n : Int), s1] : List Value).toArray e2 (0, 0))) (h3 : V b3 = some (.cells ([.int .i64 (n : Int), .int .i64 (n : Int), s2] : List Value).toArray e3 (0, 0))) (ha : SqM V s1 n B G) (hb : SqM V s2 n C H) (hi : i < n) (hk : k < n) (hn5 : n ≤ 5) (hfit : 5 * (B + C + 1) ≤ 17592186044416) :
    Spec Tryz.prog 136 [.int .i64 (i : Int), .int .i64 (k : Int), .pointer (some ⟨b2, 0, none⟩), .pointer (some ⟨b3, 0, none⟩)] V fun v' V' => RatC V' v' (gmul G H n i k) := by
  have hn := ha.hn
  have hnn := sq_le hn
  have la := flatG_len G n n
  have lb := flatG_len H n n
  have hva := ha.hv
  have hvb := hb.hv
  obtain ⟨A1, c1, rfl, hc1, hm1⟩ := hva.form
  obtain ⟨A2, c2, rfl, hc2, hm2⟩ := hvb.form
  have hpos := pos_lt hi hk
  obtain ⟨b, o, rfl⟩ := SlAt.addr hva (by omega)
  obtain ⟨b', o', rfl⟩ := SlAt.addr hvb (by omega)
  have hq1 : ∀ j, j ≤ n → QF (Sm (fun t => G i t * H t k) j) := fun j hj => (Sm_QBk hn5 (fun t ht => (ha.hq i t hi ht).mul (hb.hq t k ht hk)) j hj).qf hfit
  refine (Spec.enter Tryz.func136 rfl fun Γ => ?_)
  simp only [Tryz.ntmps136, List.map_cons, List.map_nil, List.length_cons, List.length_nil, Nat.reduceAdd, Nat.reduceSub, List.replicate_succ, List.replicate_zero, List.cons_append, List.nil_append]
  first | refine Gx.a (by kernel_rfl) fun K hK => ?_ | refine Gx.b (by kernel_rfl) fun K hK => ?_ | refine Gx.c (by kernel_rfl) fun K hK => ?_
  simp only [XM, XA, XB, gateX, Nat.reduceAdd, Nat.reduceLeDiff, Nat.reduceSub, Nat.reduceMul, ↓reduceIte, Int.reduceToNat, Int.reduceLE, beq_self_eq_true]
  refine hK _ ?_
  first | refine Gx.a (by kernel_rfl) fun K hK => ?_ | refine Gx.b (by kernel_rfl) fun K hK => ?_ | refine Gx.c (by kernel_rfl) fun K hK => ?_
  simp only [XM, XA, XB, gateX, Nat.reduceAdd, Nat.reduceLeDiff, Nat.reduceSub, Nat.reduceMul, ↓reduceIte, Int.reduceToNat, Int.reduceLE, beq_self_eq_true]
  refine call_go (by kernel_rfl) rfl (qzero_c _) fun v1 V1 hV1 h1 => ?_
  obtain ⟨zx, zy, rfl, p1, p2⟩ := h1.form
  simp only [XM, XA, XB, gateX, Nat.reduceAdd, Nat.reduceLeDiff, Nat.reduceSub, Nat.reduceMul, ↓reduceIte, Int.reduceToNat, Int.reduceLE, beq_self_eq_true]
  refine st_rat rfl rfl rfl p1 p2 ?_
  simp only [XM, XA, XB, gateX, Nat.reduceAdd, Nat.reduceLeDiff, Nat.reduceSub, Nat.reduceMul, ↓reduceIte, Int.reduceToNat, Int.reduceLE, beq_self_eq_true]
  refine hK _ ?_
  refine XWP.cutD 2 (fun s => ∃ (V5 : View) (m : Bool) (x y : Value), StIs (fun Z => [.v (.int .i64 (i : Int)), .v (.int .i64 (k : Int)), .v (.pointer (some ⟨b2, 0, none⟩)), .v (.pointer (some ⟨b3, 0, none⟩)), Z 4,Z 5, .p 0 0, .p 1 0, Z 8,Z 9,Z 10,Z 11,Z 12,Z 13,Z 14,Z 15,Z 16,Z 17,Z 18,Z 19,Z 20,Z 21,Z 22,Z 23,Z 24,Z 25,Z 26,Z 27,Z 28,Z 29,Z 30,Z 31,Z 32,Z 33,Z 34,Z 35,Z 36,Z 37,Z 38,Z 39,Z 40,Z 41,Z 42,Z 43,Z 44,Z 45,Z 46,Z 47,Z 48,Z 49,Z 50,Z 51,Z 52,Z 53]) [[.bool false, .slice none 0 0, .slice none 0 0], [.bool m, x, y]] (fun _ => none) V5 s ∧ RatC V5 (.agg #[.bool m, x, y]) (gmul G H n i k) ∧ isOne x = true ∧ isOne y = true) ?_ ?_
  · first | refine Gx.a (by kernel_rfl) fun K hK => ?_ | refine Gx.b (by kernel_rfl) fun K hK => ?_ | refine Gx.c (by kernel_rfl) fun K hK => ?_
    simp only [XM, XA, XB, gateX, Nat.reduceAdd, Nat.reduceLeDiff, Nat.reduceSub, Nat.reduceMul, ↓reduceIte, Int.reduceToNat, Int.reduceLE, beq_self_eq_true]
    refine ld_mem (ldV1 (hV1 _ _ h2) (off := 1) rfl shapeT_3 _) ?_
    simp only [XM, XA, XB, gateX, Nat.reduceAdd, Nat.reduceLeDiff, Nat.reduceSub, Nat.reduceMul, ↓reduceIte, Int.reduceToNat, Int.reduceLE, beq_self_eq_true]
    refine hK _ ?_
    clear hK
    first | refine XWP.block ?_ | refine XWP.seq (XWP.block ?_)
    refine XWP.loopD 2 (fun q s => ∃ (j : Nat) (V5 : View) (m : Bool) (x y : Value), StIs (fun Z => [.v (.int .i64 (i : Int)), .v (.int .i64 (k : Int)), .v (.pointer (some ⟨b2, 0, none⟩)), .v (.pointer (some ⟨b3, 0, none⟩)), Z 4,Z 5, .p 0 0, .p 1 0, Z 8,Z 9,Z 10,Z 11,Z 12, .v (.int .i64 (n : Int)), .v (.int .i64 (j : Int)), Z 15,Z 16,Z 17,Z 18,Z 19,Z 20,Z 21,Z 22,Z 23,Z 24,Z 25,Z 26,Z 27,Z 28,Z 29,Z 30,Z 31,Z 32,Z 33,Z 34,Z 35,Z 36,Z 37,Z 38,Z 39,Z 40,Z 41,Z 42,Z 43,Z 44,Z 45,Z 46,Z 47,Z 48,Z 49,Z 50,Z 51,Z 52,Z 53]) [[.bool false, .slice none 0 0, .slice none 0 0], [.bool m, x, y]] (fun _ => none) V5 s ∧ q + j = n ∧ V.le V5 ∧ RatC V5 (.agg #[.bool m, x, y]) (Sm (fun t => G i t * H t k) j) ∧ isOne x = true ∧ isOne y = true) n ⟨0, V1, _, zx, zy, StIs.of (by exact rfl), by omega, hV1, h1, p1, p2⟩ ?_
    rintro q s ⟨j, V5, m, x, y, hs, hq, hV5, hx5, o1, o2⟩
    obtain ⟨z, rfl⟩ := hs.out
    try dsimp only
    clear hs h1 p1 p2
    by_cases hj : j < n
    rotate_left
    · obtain rfl : j = n := by omega
      have b1 : decide ((j : Int) < (j : Int)) = false := decide_eq_false (by omega)
      first | refine Gx.a (by kernel_rfl) fun K hK => ?_ | refine Gx.b (by kernel_rfl) fun K hK => ?_ | refine Gx.c (by kernel_rfl) fun K hK => ?_
      simp only [XM, XA, XB, gateX, Nat.reduceAdd, Nat.reduceLeDiff, Nat.reduceSub, Nat.reduceMul, ↓reduceIte, Int.reduceToNat, Int.reduceLE, beq_self_eq_true, b1]
      refine hK _ ?_
      first | refine Gx.f rfl ?_ | refine XWP.seq (Gx.f rfl ?_)
      refine XWP.exit ?_
      exact fun f => ⟨V5, m, x, y, StIs.of (by exact rfl), hx5, o1, o2⟩
    have b1 : decide ((j : Int) < (n : Int)) = true := decide_eq_true (by omega)
    first | refine Gx.a (by kernel_rfl) fun K hK => ?_ | refine Gx.b (by kernel_rfl) fun K hK => ?_ | refine Gx.c (by kernel_rfl) fun K hK => ?_
    simp only [XM, XA, XB, gateX, Nat.reduceAdd, Nat.reduceLeDiff, Nat.reduceSub, Nat.reduceMul, ↓reduceIte, Int.reduceToNat, Int.reduceLE, beq_self_eq_true, b1]
    refine hK _ ?_
    first | refine Gx.t rfl ?_ | refine XWP.seq (Gx.t rfl ?_)
    refine XWP.skip ?_
    have h2 := hV5 _ _ h2
    have h3 := hV5 _ _ h3
    have hva := hva.up hV5
    have hvb := hvb.up hV5
    have w1 := wr_mul (i := i) (C := n) (by omega) (by omega)
    have w2 := wr_add (p := i * n) (k := j) (by have := pos_lt hi hj; omega) (by omega)
    have w3 := wr_mul (i := j) (C := n) (by omega) (by omega)
    have w4 := wr_add (p := j * n) (k := k) (by have := pos_lt hj hk; omega) (by omega)
    have q1 := pos_lt hi hj
    have q2 := pos_lt hj hk
    obtain ⟨x1, y1, z1, hx1, ⟨r1, r2, r3⟩, hld1⟩ := Rats.get hva (i * n + j) (by omega)
    obtain ⟨x2, y2, z2, hx2, ⟨r4, r5, r6⟩, hld2⟩ := Rats.get hvb (j * n + k) (by omega)
    rw [flatG_at G hi hj] at hx1
    rw [flatG_at H hj hk] at hx2
    obtain ⟨A5, c5, e5, ev5, _⟩ := hx1.form2
    cases ev5
    obtain ⟨A6, c6, e6, ev6, _⟩ := hx2.form2
    cases ev6
    refine XWP.cutD 2 (fun s => ∃ (V6 : View) (m : Bool) (x y : Value), StIs (fun Z => [.v (.int .i64 (i : Int)), .v (.int .i64 (k : Int)), .v (.pointer (some ⟨b2, 0, none⟩)), .v (.pointer (some ⟨b3, 0, none⟩)), Z 4,Z 5, .p 0 0, .p 1 0, Z 8,Z 9,Z 10,Z 11,Z 12, .v (.int .i64 (n : Int)), .v (.int .i64 (j : Int)), Z 15,Z 16,Z 17,Z 18,Z 19,Z 20,Z 21,Z 22,Z 23,Z 24,Z 25,Z 26,Z 27,Z 28,Z 29,Z 30,Z 31,Z 32,Z 33,Z 34,Z 35,Z 36,Z 37,Z 38,Z 39,Z 40,Z 41,Z 42,Z 43,Z 44,Z 45,Z 46,Z 47,Z 48,Z 49,Z 50,Z 51,Z 52,Z 53]) [[.bool false, .slice none 0 0, .slice none 0 0], [.bool m, x, y]] (fun _ => none) V6 s ∧ V5.le V6 ∧ RatC V6 (.agg #[.bool m, x, y]) (Sm (fun t => G i t * H t k) (j + 1)) ∧ isOne x = true ∧ isOne y = true) ?_ ?_
    · clear hK
      first | refine XWP.block ?_ | refine XWP.seq (XWP.block ?_)
      first | refine Gx.a (by kernel_rfl) fun K hK => ?_ | refine Gx.b (by kernel_rfl) fun K hK => ?_ | refine Gx.c (by kernel_rfl) fun K hK => ?_
      simp only [XM, XA, XB, gateX, Nat.reduceAdd, Nat.reduceLeDiff, Nat.reduceSub, Nat.reduceMul, ↓reduceIte, Int.reduceToNat, Int.reduceLE, beq_self_eq_true]
      refine hK _ ?_
      refine XWP.cut (fun s => StIs (fun Z => [.v (.int .i64 (i : Int)), .v (.int .i64 (k : Int)), .v (.pointer (some ⟨b2, 0, none⟩)), .v (.pointer (some ⟨b3, 0, none⟩)), Z 4,Z 5, .p 0 0, .p 1 0, Z 8, .p 2 0, .p 3 0, Z 11,Z 12, .v (.int .i64 (n : Int)), .v (.int .i64 (j : Int)), Z 15,Z 16,Z 17,Z 18,Z 19,Z 20,Z 21,Z 22,Z 23,Z 24,Z 25,Z 26,Z 27,Z 28,Z 29,Z 30,Z 31,Z 32,Z 33,Z 34,Z 35,Z 36,Z 37,Z 38,Z 39,Z 40,Z 41,Z 42,Z 43,Z 44,Z 45,Z 46,Z 47,Z 48,Z 49,Z 50,Z 51,Z 52,Z 53]) [[.bool false, .slice none 0 0, .slice none 0 0], [.bool m, x, y], [.bool (ng (G i j)), .slice A5 (dg (G i j).num.natAbs).length c5, z1], [.bool (ng (H j k)), .slice A6 (dg (H j k).num.natAbs).length c6, z2]] (fun _ => none) V5 s ∨ StIs (fun Z => [.v (.int .i64 (i : Int)), .v (.int .i64 (k : Int)), .v (.pointer (some ⟨b2, 0, none⟩)), .v (.pointer (some ⟨b3, 0, none⟩)), Z 4,Z 5, .p 0 0, .p 1 0, Z 8, .p 3 0, .p 2 0, Z 11,Z 12, .v (.int .i64 (n : Int)), .v (.int .i64 (j : Int)), Z 15,Z 16,Z 17,Z 18,Z 19,Z 20,Z 21,Z 22,Z 23,Z 24,Z 25,Z 26,Z 27,Z 28,Z 29,Z 30,Z 31,Z 32,Z 33,Z 34,Z 35,Z 36,Z 37,Z 38,Z 39,Z 40,Z 41,Z 42,Z 43,Z 44,Z 45,Z 46,Z 47,Z 48,Z 49,Z 50,Z 51,Z 52,Z 53]) [[.bool false, .slice none 0 0, .slice none 0 0], [.bool m, x, y], [.bool (ng (H j k)), .slice A6 (dg (H j k).num.natAbs).length c6, z2], [.bool (ng (G i j)), .slice A5 (dg (G i j).num.natAbs).length c5, z1]] (fun _ => none) V5 s) ?_ ?_
      · (first | refine XWP.drwT (.lin [0, 1, 2, 3, 4, 5, 6, 7, 8, 9, 10, 12, 13, 16] (.two (.lin [11] (.two (.lin [14, 15, 17, 18] (.two (.lin [19] (.two (.lin [20, 21, 22, 23] .nil) (.lin [21, 20, 22, 23] .nil))) (.two (.lin [20] (.two (.lin [19, 21, 22, 23] .nil) (.lin [21] (.two (.lin [19, 22, 23] .nil) (.lin [22, 19, 23] .nil))))) (.lin [21] (.two (.lin [19, 20, 22, 23] .nil) (.lin [20] (.two (.lin [19, 22, 23] .nil) (.lin [22, 19, 23] .nil)))))))) (.two (.lin [20] (.two (.lin [14, 15, 17, 18] (.two (.lin [19, 21, 22, 23] .nil) (.lin [21] (.two (.lin [19, 22, 23] .nil) (.lin [22, 19, 23] .nil))))) (.lin [21] (.two (.lin [14, 15, 17, 18] (.two (.lin [19, 22, 23] .nil) (.lin [22, 19, 23] .nil))) (.lin [22, 14, 15, 17, 18, 19, 23] .nil))))) (.lin [21] (.two (.lin [14, 15, 17, 18] (.two (.lin [19, 20, 22, 23] .nil) (.lin [20] (.two (.lin [19, 22, 23] .nil) (.lin [22, 19, 23] .nil))))) (.lin [20] (.two (.lin [14, 15, 17, 18] (.two (.lin [19, 22, 23] .nil) (.lin [22, 19, 23] .nil))) (.lin [22, 14, 15, 17, 18, 19, 23] .nil)))))))) (.two (.lin [14, 15, 17] (.two (.lin [11, 18] (.two (.lin [19] (.two (.lin [20, 21, 22, 23] .nil) (.lin [21, 20, 22, 23] .nil))) (.two (.lin [20] (.two (.lin [19, 21, 22, 23] .nil) (.lin [21] (.two (.lin [19, 22, 23] .nil) (.lin [22, 19, 23] .nil))))) (.lin [21] (.two (.lin [19, 20, 22, 23] .nil) (.lin [20] (.two (.lin [19, 22, 23] .nil) (.lin [22, 19, 23] .nil)))))))) (.two (.lin [20] (.two (.lin [11, 18] (.two (.lin [19, 21, 22, 23] .nil) (.lin [21] (.two (.lin [19, 22, 23] .nil) (.lin [22, 19, 23] .nil))))) (.lin [21] (.two (.lin [11, 18] (.two (.lin [19, 22, 23] .nil) (.lin [22, 19, 23] .nil))) (.lin [22, 11, 18, 19, 23] .nil))))) (.lin [21] (.two (.lin [11, 18] (.two (.lin [19, 20, 22, 23] .nil) (.lin [20] (.two (.lin [19, 22, 23] .nil) (.lin [22, 19, 23] .nil))))) (.lin [20] (.two (.lin [11, 18] (.two (.lin [19, 22, 23] .nil) (.lin [22, 19, 23] .nil))) (.lin [22, 11, 18, 19, 23] .nil)))))))) (.two (.lin [20] (.two (.lin [11] (.two (.lin [14, 15, 17, 18] (.two (.lin [19, 21, 22, 23] .nil) (.lin [21] (.two (.lin [19, 22, 23] .nil) (.lin [22, 19, 23] .nil))))) (.lin [21] (.two (.lin [14, 15, 17, 18] (.two (.lin [19, 22, 23] .nil) (.lin [22, 19, 23] .nil))) (.lin [22, 14, 15, 17, 18, 19, 23] .nil))))) (.two (.lin [14, 15, 17] (.two (.lin [11, 18] (.two (.lin [19, 21, 22, 23] .nil) (.lin [21] (.two (.lin [19, 22, 23] .nil) (.lin [22, 19, 23] .nil))))) (.lin [21] (.two (.lin [11, 18] (.two (.lin [19, 22, 23] .nil) (.lin [22, 19, 23] .nil))) (.lin [22, 11, 18, 19, 23] .nil))))) (.lin [21] (.two (.lin [11] (.two (.lin [14, 15, 17, 18] (.two (.lin [19, 22, 23] .nil) (.lin [22, 19, 23] .nil))) (.lin [22, 14, 15, 17, 18, 19, 23] .nil))) (.two (.lin [14, 15, 17] (.two (.lin [11, 18] (.two (.lin [19, 22, 23] .nil) (.lin [22, 19, 23] .nil))) (.lin [22, 11, 18, 19, 23] .nil))) (.lin [22, 11, 14, 15, 17, 18, 19, 23] .nil))))))) (.lin [21] (.two (.lin [11] (.two (.lin [14, 15, 17, 18] (.two (.lin [19, 20, 22, 23] .nil) (.lin [20] (.two (.lin [19, 22, 23] .nil) (.lin [22, 19, 23] .nil))))) (.lin [20] (.two (.lin [14, 15, 17, 18] (.two (.lin [19, 22, 23] .nil) (.lin [22, 19, 23] .nil))) (.lin [22, 14, 15, 17, 18, 19, 23] .nil))))) (.two (.lin [14, 15, 17] (.two (.lin [11, 18] (.two (.lin [19, 20, 22, 23] .nil) (.lin [20] (.two (.lin [19, 22, 23] .nil) (.lin [22, 19, 23] .nil))))) (.lin [20] (.two (.lin [11, 18] (.two (.lin [19, 22, 23] .nil) (.lin [22, 19, 23] .nil))) (.lin [22, 11, 18, 19, 23] .nil))))) (.lin [20] (.two (.lin [11] (.two (.lin [14, 15, 17, 18] (.two (.lin [19, 22, 23] .nil) (.lin [22, 19, 23] .nil))) (.lin [22, 14, 15, 17, 18, 19, 23] .nil))) (.two (.lin [14, 15, 17] (.two (.lin [11, 18] (.two (.lin [19, 22, 23] .nil) (.lin [22, 19, 23] .nil))) (.lin [22, 11, 18, 19, 23] .nil))) (.lin [22, 11, 14, 15, 17, 18, 19, 23] .nil))))))))))) (by kernel_rfl) (by kernel_rfl) (by kernel_rfl) fun K hK => ?_ | refine XWP.seq (XWP.drwT (.lin [0, 1, 2, 3, 4, 5, 6, 7, 8, 9, 10, 12, 13, 16] (.two (.lin [11] (.two (.lin [14, 15, 17, 18] (.two (.lin [19] (.two (.lin [20, 21, 22, 23] .nil) (.lin [21, 20, 22, 23] .nil))) (.two (.lin [20] (.two (.lin [19, 21, 22, 23] .nil) (.lin [21] (.two (.lin [19, 22, 23] .nil) (.lin [22, 19, 23] .nil))))) (.lin [21] (.two (.lin [19, 20, 22, 23] .nil) (.lin [20] (.two (.lin [19, 22, 23] .nil) (.lin [22, 19, 23] .nil)))))))) (.two (.lin [20] (.two (.lin [14, 15, 17, 18] (.two (.lin [19, 21, 22, 23] .nil) (.lin [21] (.two (.lin [19, 22, 23] .nil) (.lin [22, 19, 23] .nil))))) (.lin [21] (.two (.lin [14, 15, 17, 18] (.two (.lin [19, 22, 23] .nil) (.lin [22, 19, 23] .nil))) (.lin [22, 14, 15, 17, 18, 19, 23] .nil))))) (.lin [21] (.two (.lin [14, 15, 17, 18] (.two (.lin [19, 20, 22, 23] .nil) (.lin [20] (.two (.lin [19, 22, 23] .nil) (.lin [22, 19, 23] .nil))))) (.lin [20] (.two (.lin [14, 15, 17, 18] (.two (.lin [19, 22, 23] .nil) (.lin [22, 19, 23] .nil))) (.lin [22, 14, 15, 17, 18, 19, 23] .nil)))))))) (.two (.lin [14, 15, 17] (.two (.lin [11, 18] (.two (.lin [19] (.two (.lin [20, 21, 22, 23] .nil) (.lin [21, 20, 22, 23] .nil))) (.two (.lin [20] (.two (.lin [19, 21, 22, 23] .nil) (.lin [21] (.two (.lin [19, 22, 23] .nil) (.lin [22, 19, 23] .nil))))) (.lin [21] (.two (.lin [19, 20, 22, 23] .nil) (.lin [20] (.two (.lin [19, 22, 23] .nil) (.lin [22, 19, 23] .nil)))))))) (.two (.lin [20] (.two (.lin [11, 18] (.two (.lin [19, 21, 22, 23] .nil) (.lin [21] (.two (.lin [19, 22, 23] .nil) (.lin [22, 19, 23] .nil))))) (.lin [21] (.two (.lin [11, 18] (.two (.lin [19, 22, 23] .nil) (.lin [22, 19, 23] .nil))) (.lin [22, 11, 18, 19, 23] .nil))))) (.lin [21] (.two (.lin [11, 18] (.two (.lin [19, 20, 22, 23] .nil) (.lin [20] (.two (.lin [19, 22, 23] .nil) (.lin [22, 19, 23] .nil))))) (.lin [20] (.two (.lin [11, 18] (.two (.lin [19, 22, 23] .nil) (.lin [22, 19, 23] .nil))) (.lin [22, 11, 18, 19, 23] .nil)))))))) (.two (.lin [20] (.two (.lin [11] (.two (.lin [14, 15, 17, 18] (.two (.lin [19, 21, 22, 23] .nil) (.lin [21] (.two (.lin [19, 22, 23] .nil) (.lin [22, 19, 23] .nil))))) (.lin [21] (.two (.lin [14, 15, 17, 18] (.two (.lin [19, 22, 23] .nil) (.lin [22, 19, 23] .nil))) (.lin [22, 14, 15, 17, 18, 19, 23] .nil))))) (.two (.lin [14, 15, 17] (.two (.lin [11, 18] (.two (.lin [19, 21, 22, 23] .nil) (.lin [21] (.two (.lin [19, 22, 23] .nil) (.lin [22, 19, 23] .nil))))) (.lin [21] (.two (.lin [11, 18] (.two (.lin [19, 22, 23] .nil) (.lin [22, 19, 23] .nil))) (.lin [22, 11, 18, 19, 23] .nil))))) (.lin [21] (.two (.lin [11] (.two (.lin [14, 15, 17, 18] (.two (.lin [19, 22, 23] .nil) (.lin [22, 19, 23] .nil))) (.lin [22, 14, 15, 17, 18, 19, 23] .nil))) (.two (.lin [14, 15, 17] (.two (.lin [11, 18] (.two (.lin [19, 22, 23] .nil) (.lin [22, 19, 23] .nil))) (.lin [22, 11, 18, 19, 23] .nil))) (.lin [22, 11, 14, 15, 17, 18, 19, 23] .nil))))))) (.lin [21] (.two (.lin [11] (.two (.lin [14, 15, 17, 18] (.two (.lin [19, 20, 22, 23] .nil) (.lin [20] (.two (.lin [19, 22, 23] .nil) (.lin [22, 19, 23] .nil))))) (.lin [20] (.two (.lin [14, 15, 17, 18] (.two (.lin [19, 22, 23] .nil) (.lin [22, 19, 23] .nil))) (.lin [22, 14, 15, 17, 18, 19, 23] .nil))))) (.two (.lin [14, 15, 17] (.two (.lin [11, 18] (.two (.lin [19, 20, 22, 23] .nil) (.lin [20] (.two (.lin [19, 22, 23] .nil) (.lin [22, 19, 23] .nil))))) (.lin [20] (.two (.lin [11, 18] (.two (.lin [19, 22, 23] .nil) (.lin [22, 19, 23] .nil))) (.lin [22, 11, 18, 19, 23] .nil))))) (.lin [20] (.two (.lin [11] (.two (.lin [14, 15, 17, 18] (.two (.lin [19, 22, 23] .nil) (.lin [22, 19, 23] .nil))) (.lin [22, 14, 15, 17, 18, 19, 23] .nil))) (.two (.lin [14, 15, 17] (.two (.lin [11, 18] (.two (.lin [19, 22, 23] .nil) (.lin [22, 19, 23] .nil))) (.lin [22, 11, 18, 19, 23] .nil))) (.lin [22, 11, 14, 15, 17, 18, 19, 23] .nil))))))))))) (by kernel_rfl) (by kernel_rfl) (by kernel_rfl) fun K hK => ?_) | refine XWP.drwT1 (.lin [0, 1, 2, 3, 4, 5, 6, 7, 8, 9, 10, 12, 13, 16] (.two (.lin [11] (.two (.lin [14, 15, 17, 18] (.two (.lin [19] (.two (.lin [20, 21, 22, 23] .nil) (.lin [21, 20, 22, 23] .nil))) (.two (.lin [20] (.two (.lin [19, 21, 22, 23] .nil) (.lin [21] (.two (.lin [19, 22, 23] .nil) (.lin [22, 19, 23] .nil))))) (.lin [21] (.two (.lin [19, 20, 22, 23] .nil) (.lin [20] (.two (.lin [19, 22, 23] .nil) (.lin [22, 19, 23] .nil)))))))) (.two (.lin [20] (.two (.lin [14, 15, 17, 18] (.two (.lin [19, 21, 22, 23] .nil) (.lin [21] (.two (.lin [19, 22, 23] .nil) (.lin [22, 19, 23] .nil))))) (.lin [21] (.two (.lin [14, 15, 17, 18] (.two (.lin [19, 22, 23] .nil) (.lin [22, 19, 23] .nil))) (.lin [22, 14, 15, 17, 18, 19, 23] .nil))))) (.lin [21] (.two (.lin [14, 15, 17, 18] (.two (.lin [19, 20, 22, 23] .nil) (.lin [20] (.two (.lin [19, 22, 23] .nil) (.lin [22, 19, 23] .nil))))) (.lin [20] (.two (.lin [14, 15, 17, 18] (.two (.lin [19, 22, 23] .nil) (.lin [22, 19, 23] .nil))) (.lin [22, 14, 15, 17, 18, 19, 23] .nil)))))))) (.two (.lin [14, 15, 17] (.two (.lin [11, 18] (.two (.lin [19] (.two (.lin [20, 21, 22, 23] .nil) (.lin [21, 20, 22, 23] .nil))) (.two (.lin [20] (.two (.lin [19, 21, 22, 23] .nil) (.lin [21] (.two (.lin [19, 22, 23] .nil) (.lin [22, 19, 23] .nil))))) (.lin [21] (.two (.lin [19, 20, 22, 23] .nil) (.lin [20] (.two (.lin [19, 22, 23] .nil) (.lin [22, 19, 23] .nil)))))))) (.two (.lin [20] (.two (.lin [11, 18] (.two (.lin [19, 21, 22, 23] .nil) (.lin [21] (.two (.lin [19, 22, 23] .nil) (.lin [22, 19, 23] .nil))))) (.lin [21] (.two (.lin [11, 18] (.two (.lin [19, 22, 23] .nil) (.lin [22, 19, 23] .nil))) (.lin [22, 11, 18, 19, 23] .nil))))) (.lin [21] (.two (.lin [11, 18] (.two (.lin [19, 20, 22, 23] .nil) (.lin [20] (.two (.lin [19, 22, 23] .nil) (.lin [22, 19, 23] .nil))))) (.lin [20] (.two (.lin [11, 18] (.two (.lin [19, 22, 23] .nil) (.lin [22, 19, 23] .nil))) (.lin [22, 11, 18, 19, 23] .nil)))))))) (.two (.lin [20] (.two (.lin [11] (.two (.lin [14, 15, 17, 18] (.two (.lin [19, 21, 22, 23] .nil) (.lin [21] (.two (.lin [19, 22, 23] .nil) (.lin [22, 19, 23] .nil))))) (.lin [21] (.two (.lin [14, 15, 17, 18] (.two (.lin [19, 22, 23] .nil) (.lin [22, 19, 23] .nil))) (.lin [22, 14, 15, 17, 18, 19, 23] .nil))))) (.two (.lin [14, 15, 17] (.two (.lin [11, 18] (.two (.lin [19, 21, 22, 23] .nil) (.lin [21] (.two (.lin [19, 22, 23] .nil) (.lin [22, 19, 23] .nil))))) (.lin [21] (.two (.lin [11, 18] (.two (.lin [19, 22, 23] .nil) (.lin [22, 19, 23] .nil))) (.lin [22, 11, 18, 19, 23] .nil))))) (.lin [21] (.two (.lin [11] (.two (.lin [14, 15, 17, 18] (.two (.lin [19, 22, 23] .nil) (.lin [22, 19, 23] .nil))) (.lin [22, 14, 15, 17, 18, 19, 23] .nil))) (.two (.lin [14, 15, 17] (.two (.lin [11, 18] (.two (.lin [19, 22, 23] .nil) (.lin [22, 19, 23] .nil))) (.lin [22, 11, 18, 19, 23] .nil))) (.lin [22, 11, 14, 15, 17, 18, 19, 23] .nil))))))) (.lin [21] (.two (.lin [11] (.two (.lin [14, 15, 17, 18] (.two (.lin [19, 20, 22, 23] .nil) (.lin [20] (.two (.lin [19, 22, 23] .nil) (.lin [22, 19, 23] .nil))))) (.lin [20] (.two (.lin [14, 15, 17, 18] (.two (.lin [19, 22, 23] .nil) (.lin [22, 19, 23] .nil))) (.lin [22, 14, 15, 17, 18, 19, 23] .nil))))) (.two (.lin [14, 15, 17] (.two (.lin [11, 18] (.two (.lin [19, 20, 22, 23] .nil) (.lin [20] (.two (.lin [19, 22, 23] .nil) (.lin [22, 19, 23] .nil))))) (.lin [20] (.two (.lin [11, 18] (.two (.lin [19, 22, 23] .nil) (.lin [22, 19, 23] .nil))) (.lin [22, 11, 18, 19, 23] .nil))))) (.lin [20] (.two (.lin [11] (.two (.lin [14, 15, 17, 18] (.two (.lin [19, 22, 23] .nil) (.lin [22, 19, 23] .nil))) (.lin [22, 14, 15, 17, 18, 19, 23] .nil))) (.two (.lin [14, 15, 17] (.two (.lin [11, 18] (.two (.lin [19, 22, 23] .nil) (.lin [22, 19, 23] .nil))) (.lin [22, 11, 18, 19, 23] .nil))) (.lin [22, 11, 14, 15, 17, 18, 19, 23] .nil))))))))))) (by kernel_rfl) (by kernel_rfl) (by kernel_rfl) fun K hK => ?_)
        simp only [XM, XA, XB, gateX, Nat.reduceAdd, Nat.reduceLeDiff, Nat.reduceSub, Nat.reduceMul, ↓reduceIte, Int.reduceToNat, Int.reduceLE, beq_self_eq_true, w1, w2, w3, w4]
        repeat' first
          | refine And.intro ?_ ?_
          | refine ld_mem (ldV1 h2 (off := 2) rfl shapeT_22 _) ?_
          | refine ld_mem (ldV1 h2 (off := 1) rfl shapeT_3 _) ?_
          | refine ld_mem (ldV1 h3 (off := 2) rfl shapeT_22 _) ?_
          | refine ld_mem (ldV1 h3 (off := 1) rfl shapeT_3 _) ?_
          | refine ld_mem (hld1 _) ?_
          | refine ld_mem (hld2 _) ?_
          | refine st_rat rfl rfl r1 r2 r3 ?_
          | refine st_rat rfl rfl r4 r5 r6 ?_
          | exact hK _ (.inl (StIs.of (by exact rfl)))
          | exact hK _ (.inr (StIs.of (by exact rfl)))
          | omega
          | simp only [XM, XA, XB, gateX, Nat.reduceAdd, Nat.reduceLeDiff, Nat.reduceSub, Nat.reduceMul, ↓reduceIte, Int.reduceToNat, Int.reduceLE, beq_self_eq_true, w1, w2, w3, w4]
      have e0 : G i j * H j k = 0 → Sm (fun t => G i t * H t k) (j + 1) = Sm (fun t => G i t * H t k) j := fun h => by
        show Sm (fun t => G i t * H t k) j + G i j * H j k = _
        rw [h]; grind
      rintro s (hs | hs)
      · obtain ⟨z, rfl⟩ := hs.out
        try dsimp only
        clear hs
        by_cases hz1 : G i j = 0
        · have b3 := dg_of_zero hz1
          first | refine Gx.a (by kernel_rfl) fun K hK => ?_ | refine Gx.b (by kernel_rfl) fun K hK => ?_ | refine Gx.c (by kernel_rfl) fun K hK => ?_
          simp only [XM, XA, XB, gateX, Nat.reduceAdd, Nat.reduceLeDiff, Nat.reduceSub, Nat.reduceMul, ↓reduceIte, Int.reduceToNat, Int.reduceLE, beq_self_eq_true, b3]
          refine hK _ ?_
          first | refine Gx.f rfl ?_ | refine XWP.seq (Gx.f rfl ?_)
          refine XWP.skip ?_
          exact fun f => ⟨V5, m, x, y, StIs.of (by exact rfl), View.le_refl _, by rw [e0 (by rw [hz1]; grind)]; exact hx5, o1, o2⟩
        have b3 := rat_len hz1
        by_cases hz2 : H j k = 0
        · have b4 := dg_of_zero hz2
          first | refine Gx.a (by kernel_rfl) fun K hK => ?_ | refine Gx.b (by kernel_rfl) fun K hK => ?_ | refine Gx.c (by kernel_rfl) fun K hK => ?_
          simp only [XM, XA, XB, gateX, Nat.reduceAdd, Nat.reduceLeDiff, Nat.reduceSub, Nat.reduceMul, ↓reduceIte, Int.reduceToNat, Int.reduceLE, beq_self_eq_true, b3, b4]
          refine hK _ ?_
          first | refine Gx.f rfl ?_ | refine XWP.seq (Gx.f rfl ?_)
          refine XWP.skip ?_
          exact fun f => ⟨V5, m, x, y, StIs.of (by exact rfl), View.le_refl _, by rw [e0 (by rw [hz2]; grind)]; exact hx5, o1, o2⟩
        have b4 := rat_len hz2
        first | refine Gx.a (by kernel_rfl) fun K hK => ?_ | refine Gx.b (by kernel_rfl) fun K hK => ?_ | refine Gx.c (by kernel_rfl) fun K hK => ?_
        simp only [XM, XA, XB, gateX, Nat.reduceAdd, Nat.reduceLeDiff, Nat.reduceSub, Nat.reduceMul, ↓reduceIte, Int.reduceToNat, Int.reduceLE, beq_self_eq_true, b3, b4]
        refine hK _ ?_
        first | refine Gx.t rfl ?_ | refine XWP.seq (Gx.t rfl ?_)
        (first | refine XWP.drw [0, 1, 2, 3, 4, 5] (by kernel_rfl) (by kernel_rfl) (by kernel_rfl) fun K hK => ?_ | refine XWP.seq (XWP.drw [0, 1, 2, 3, 4, 5] (by kernel_rfl) (by kernel_rfl) (by kernel_rfl) fun K hK => ?_) | refine XWP.drw1 [0, 1, 2, 3, 4, 5] (by kernel_rfl) (by kernel_rfl) (by kernel_rfl) fun K hK => ?_) <;> dsimp only [pickOps, List.getElem?_cons_zero, List.getElem?_cons_succ]
        simp only [XM, XA, XB, gateX, Nat.reduceAdd, Nat.reduceLeDiff, Nat.reduceSub, Nat.reduceMul, ↓reduceIte, Int.reduceToNat, Int.reduceLE, beq_self_eq_true]
        refine call_go (by kernel_rfl) rfl (qmul_c _ _ _ _ _ hx1 hx2 ((ha.hq i j hi hj).qf (by omega)) ((hb.hq j k hj hk).qf (by omega))) fun v7 V7 hV7 h7 => ?_
        simp only [XM, XA, XB, gateX, Nat.reduceAdd, Nat.reduceLeDiff, Nat.reduceSub, Nat.reduceMul, ↓reduceIte, Int.reduceToNat, Int.reduceLE, beq_self_eq_true]
        refine call_go (by kernel_rfl) rfl (qadd_c _ _ _ _ _ (hx5.mono hV7) h7 (hq1 j (by omega)) (((ha.hq i j hi hj).mul (hb.hq j k hj hk)).qf (by omega))) fun v8 V8 hV8 h8 => ?_
        obtain ⟨x8, y8, rfl, o5, o6⟩ := h8.form
        simp only [XM, XA, XB, gateX, Nat.reduceAdd, Nat.reduceLeDiff, Nat.reduceSub, Nat.reduceMul, ↓reduceIte, Int.reduceToNat, Int.reduceLE, beq_self_eq_true]
        refine st_rat rfl rfl rfl o5 o6 ?_
        simp only [XM, XA, XB, gateX, Nat.reduceAdd, Nat.reduceLeDiff, Nat.reduceSub, Nat.reduceMul, ↓reduceIte, Int.reduceToNat, Int.reduceLE, beq_self_eq_true]
        exact hK _ fun f => ⟨V8, _, x8, y8, StIs.of (by exact rfl), View.le_trans hV7 hV8, h8, o5, o6⟩
      · obtain ⟨z, rfl⟩ := hs.out
        try dsimp only
        clear hs
        by_cases hz1 : G i j = 0
        · have b3 := dg_of_zero hz1
          first | refine Gx.a (by kernel_rfl) fun K hK => ?_ | refine Gx.b (by kernel_rfl) fun K hK => ?_ | refine Gx.c (by kernel_rfl) fun K hK => ?_
          simp only [XM, XA, XB, gateX, Nat.reduceAdd, Nat.reduceLeDiff, Nat.reduceSub, Nat.reduceMul, ↓reduceIte, Int.reduceToNat, Int.reduceLE, beq_self_eq_true, b3]
          refine hK _ ?_
          first | refine Gx.f rfl ?_ | refine XWP.seq (Gx.f rfl ?_)
          refine XWP.skip ?_
          exact fun f => ⟨V5, m, x, y, StIs.of (by exact rfl), View.le_refl _, by rw [e0 (by rw [hz1]; grind)]; exact hx5, o1, o2⟩
        have b3 := rat_len hz1
        by_cases hz2 : H j k = 0
        · have b4 := dg_of_zero hz2
          first | refine Gx.a (by kernel_rfl) fun K hK => ?_ | refine Gx.b (by kernel_rfl) fun K hK => ?_ | refine Gx.c (by kernel_rfl) fun K hK => ?_
          simp only [XM, XA, XB, gateX, Nat.reduceAdd, Nat.reduceLeDiff, Nat.reduceSub, Nat.reduceMul, ↓reduceIte, Int.reduceToNat, Int.reduceLE, beq_self_eq_true, b3, b4]
          refine hK _ ?_
          first | refine Gx.f rfl ?_ | refine XWP.seq (Gx.f rfl ?_)
          refine XWP.skip ?_
          exact fun f => ⟨V5, m, x, y, StIs.of (by exact rfl), View.le_refl _, by rw [e0 (by rw [hz2]; grind)]; exact hx5, o1, o2⟩
        have b4 := rat_len hz2
        first | refine Gx.a (by kernel_rfl) fun K hK => ?_ | refine Gx.b (by kernel_rfl) fun K hK => ?_ | refine Gx.c (by kernel_rfl) fun K hK => ?_
        simp only [XM, XA, XB, gateX, Nat.reduceAdd, Nat.reduceLeDiff, Nat.reduceSub, Nat.reduceMul, ↓reduceIte, Int.reduceToNat, Int.reduceLE, beq_self_eq_true, b3, b4]
        refine hK _ ?_
        first | refine Gx.t rfl ?_ | refine XWP.seq (Gx.t rfl ?_)
        (first | refine XWP.drw [0, 1, 2, 3, 4, 5] (by kernel_rfl) (by kernel_rfl) (by kernel_rfl) fun K hK => ?_ | refine XWP.seq (XWP.drw [0, 1, 2, 3, 4, 5] (by kernel_rfl) (by kernel_rfl) (by kernel_rfl) fun K hK => ?_) | refine XWP.drw1 [0, 1, 2, 3, 4, 5] (by kernel_rfl) (by kernel_rfl) (by kernel_rfl) fun K hK => ?_) <;> dsimp only [pickOps, List.getElem?_cons_zero, List.getElem?_cons_succ]
        simp only [XM, XA, XB, gateX, Nat.reduceAdd, Nat.reduceLeDiff, Nat.reduceSub, Nat.reduceMul, ↓reduceIte, Int.reduceToNat, Int.reduceLE, beq_self_eq_true]
        refine call_go (by kernel_rfl) rfl (qmul_c _ _ _ _ _ hx1 hx2 ((ha.hq i j hi hj).qf (by omega)) ((hb.hq j k hj hk).qf (by omega))) fun v7 V7 hV7 h7 => ?_
        simp only [XM, XA, XB, gateX, Nat.reduceAdd, Nat.reduceLeDiff, Nat.reduceSub, Nat.reduceMul, ↓reduceIte, Int.reduceToNat, Int.reduceLE, beq_self_eq_true]
        refine call_go (by kernel_rfl) rfl (qadd_c _ _ _ _ _ (hx5.mono hV7) h7 (hq1 j (by omega)) (((ha.hq i j hi hj).mul (hb.hq j k hj hk)).qf (by omega))) fun v8 V8 hV8 h8 => ?_
        obtain ⟨x8, y8, rfl, o5, o6⟩ := h8.form
        simp only [XM, XA, XB, gateX, Nat.reduceAdd, Nat.reduceLeDiff, Nat.reduceSub, Nat.reduceMul, ↓reduceIte, Int.reduceToNat, Int.reduceLE, beq_self_eq_true]
        refine st_rat rfl rfl rfl o5 o6 ?_
        simp only [XM, XA, XB, gateX, Nat.reduceAdd, Nat.reduceLeDiff, Nat.reduceSub, Nat.reduceMul, ↓reduceIte, Int.reduceToNat, Int.reduceLE, beq_self_eq_true]
        exact hK _ fun f => ⟨V8, _, x8, y8, StIs.of (by exact rfl), View.le_trans hV7 hV8, h8, o5, o6⟩
    rintro s ⟨V6, m', x', y', hs, hV6, hx6, o5, o6⟩
    obtain ⟨z, rfl⟩ := hs.out
    try dsimp only
    clear hs
    first | refine Gx.a (by kernel_rfl) fun K hK => ?_ | refine Gx.b (by kernel_rfl) fun K hK => ?_ | refine Gx.c (by kernel_rfl) fun K hK => ?_
    simp only [XM, XA, XB, gateX, Nat.reduceAdd, Nat.reduceLeDiff, Nat.reduceSub, Nat.reduceMul, ↓reduceIte, Int.reduceToNat, Int.reduceLE, beq_self_eq_true, i64_succ j (by omega)]
    exact hK _ ⟨q - 1, by omega, fun f => ⟨j + 1, V6, m', x', y', StIs.of (by exact rfl), by omega, View.le_trans hV5 hV6, hx6, o5, o6⟩⟩
  rintro s ⟨V5, m, x, y, hs, hx5, o1, o2⟩
  obtain ⟨z, rfl⟩ := hs.out
  try dsimp only
  first | refine Gx.a (by kernel_rfl) fun K hK => ?_ | refine Gx.b (by kernel_rfl) fun K hK => ?_ | refine Gx.c (by kernel_rfl) fun K hK => ?_
  simp only [XM, XA, XB, gateX, Nat.reduceAdd, Nat.reduceLeDiff, Nat.reduceSub, Nat.reduceMul, ↓reduceIte, Int.reduceToNat, Int.reduceLE, beq_self_eq_true]
  refine st_rat rfl rfl rfl o1 o2 ?_
  simp only [XM, XA, XB, gateX, Nat.reduceAdd, Nat.reduceLeDiff, Nat.reduceSub, Nat.reduceMul, ↓reduceIte, Int.reduceToNat, Int.reduceLE, beq_self_eq_true]
  refine hK _ (XWP.ret ?_)
  try simp only [thenX_ret, inBlockX_ret]
  exact ret_rat1 rfl rfl rfl hx5
theorem ctimes_c (V : View) (s1 s2 : Value) (n B C : Nat) (G H : Grid) (ha : SqM V s1 n B G) (hb : SqM V s2 n C H) (hn5 : n ≤ 5) (hfit : 5 * (B + C + 1) ≤ 17592186044416) :
    Spec Tryz.prog 89 [.agg #[.int .i64 (n : Int), .int .i64 (n : Int), s1], .agg #[.int .i64 (n : Int), .int .i64 (n : Int), s2]] V fun v' V' => ∃ w, v' = .agg #[.int .i64 (n : Int), .int .i64 (n : Int), w] ∧ Rats V' w (flatG (gmul G H n) n n) := by
  obtain ⟨A1, c1, rfl, hc1, hm1⟩ := ha.hv.form
  obtain ⟨A2, c2, rfl, hc2, hm2⟩ := hb.hv.form
  have hn := ha.hn
  refine (Spec.enter Tryz.func89 rfl fun Γ => ?_)
  simp only [Tryz.ntmps89, List.map_cons, List.map_nil, List.length_cons, List.length_nil, Nat.reduceAdd, Nat.reduceSub, List.replicate_succ, List.replicate_zero, List.cons_append, List.nil_append]
  first | refine Gx.a (by kernel_rfl) fun K hK => ?_ | refine Gx.b (by kernel_rfl) fun K hK => ?_ | refine Gx.c (by kernel_rfl) fun K hK => ?_
  simp only [XM, XA, XB, gateX, Nat.reduceAdd, Nat.reduceLeDiff, Nat.reduceSub, Nat.reduceMul, ↓reduceIte, Int.reduceToNat, Int.reduceLE, beq_self_eq_true]
  refine hK _ ?_
  refine XWP.row1 (bx := [_, _]) fun b4 e4 hb4 _ => ?_
  simp only [List.map_cons, List.map_nil, rowS_v, rowS_p, List.length_nil, List.length_cons, Nat.reduceAdd, Nat.reduceEqDiff, ↓reduceIte]
  have f4 : upd (fun _ => none) b4 (some ⟨e4, [.int .i64 0, .int .i64 0, .slice none 0 0], 3⟩) b4 = some ⟨e4, [.int .i64 0, .int .i64 0, .slice none 0 0], 3⟩ := upd_at _ _ _
  generalize upd (fun _ => none) b4 (some ⟨e4, [.int .i64 0, .int .i64 0, .slice none 0 0], 3⟩) = H2 at *
  refine XWP.row1 (bx := [_]) fun b3 e3 hb3 _ => ?_
  simp only [List.map_cons, List.map_nil, rowS_v, rowS_p, List.length_nil, List.length_cons, Nat.reduceAdd, Nat.reduceEqDiff, ↓reduceIte]
  refine XWP.pub b3 _ (upd_at _ _ _) fun o3 ho3 hle3 => ?_
  have eo3 := row_obj ho3
  subst eo3
  have n43 := new_ne hb3 f4
  have f4 : upd (upd H2 b3 (some ⟨e3, [.int .i64 (n : Int), .int .i64 (n : Int), .slice A2 (flatG H n n).length c2], 3⟩)) b3 none b4 = some ⟨e4, [.int .i64 0, .int .i64 0, .slice none 0 0], 3⟩ := (upd_off n43).trans ((upd_off n43).trans f4)
  have h3 := addV_at V b3 (.cells ([.int .i64 (n : Int), .int .i64 (n : Int), .slice A2 (flatG H n n).length c2] : List Value).toArray e3 (0, 0))
  generalize upd (upd H2 b3 _) b3 none = H3 at *
  generalize addV V b3 _ = V3 at *
  refine XWP.row1 (bx := []) fun b2 e2 hb2 _ => ?_
  simp only [List.map_cons, List.map_nil, rowS_v, rowS_p, List.length_nil, List.length_cons, Nat.reduceAdd, Nat.reduceEqDiff, ↓reduceIte]
  refine XWP.pub b2 _ (upd_at _ _ _) fun o2 ho2 hle2 => ?_
  have eo2 := row_obj ho2
  subst eo2
  have n42 := new_ne hb2 f4
  have f4 : upd (upd H3 b2 (some ⟨e2, [.int .i64 (n : Int), .int .i64 (n : Int), .slice A1 (flatG G n n).length c1], 3⟩)) b2 none b4 = some ⟨e4, [.int .i64 0, .int .i64 0, .slice none 0 0], 3⟩ := (upd_off n42).trans ((upd_off n42).trans f4)
  have h2 := addV_at V3 b2 (.cells ([.int .i64 (n : Int), .int .i64 (n : Int), .slice A1 (flatG G n n).length c1] : List Value).toArray e2 (0, 0))
  generalize upd (upd H3 b2 _) b2 none = H4 at *
  generalize addV V3 b2 _ = V4 at *
  have h3 := hle2 _ _ h3
  have hle := View.le_trans hle3 hle2
  have ha := ha.up hle
  have hb := hb.up hle
  first | refine Gx.a (by kernel_rfl) fun K hK => ?_ | refine Gx.b (by kernel_rfl) fun K hK => ?_ | refine Gx.c (by kernel_rfl) fun K hK => ?_
  simp only [XM, XA, XB, gateX, Nat.reduceAdd, Nat.reduceLeDiff, Nat.reduceSub, Nat.reduceMul, ↓reduceIte, Int.reduceToNat, Int.reduceLE, beq_self_eq_true]
  refine ld_mem (ldV1 h2 (off := 0) rfl shapeT_3 _) ?_
  simp only [XM, XA, XB, gateX, Nat.reduceAdd, Nat.reduceLeDiff, Nat.reduceSub, Nat.reduceMul, ↓reduceIte, Int.reduceToNat, Int.reduceLE, beq_self_eq_true]
  refine ld_mem (ldV1 h3 (off := 1) rfl shapeT_3 _) ?_
  simp only [XM, XA, XB, gateX, Nat.reduceAdd, Nat.reduceLeDiff, Nat.reduceSub, Nat.reduceMul, ↓reduceIte, Int.reduceToNat, Int.reduceLE, beq_self_eq_true]
  refine mkf_go [.pointer (some ⟨b2, 0, none⟩), .pointer (some ⟨b3, 0, none⟩)] rfl ?_
  simp only [XM, XA, XB, gateX, Nat.reduceAdd, Nat.reduceLeDiff, Nat.reduceSub, Nat.reduceMul, ↓reduceIte, Int.reduceToNat, Int.reduceLE, beq_self_eq_true]
  refine call_own (by kernel_rfl) rfl (filled_o V4 (lb := [.pointer (some ⟨b2, 0, none⟩), .pointer (some ⟨b3, 0, none⟩)]) n n (gmul G H n) (by kernel_rfl) (by omega) (by omega) fun V' i k hV hi hk => ctimes1_c V' b2 b3 e2 e3 n i k B C G H _ _ (hV _ _ h2) (hV _ _ h3) (ha.up hV) (hb.up hV) hi hk hn5 hfit) fun v12 V12 o12 hV12 hs12 hR12 => ?_
  obtain ⟨sl, cells, rfl, hown, hrow⟩ := hR12
  have f12 := addRow_off f4 fun g' q e => (hs12 g' q e).1
  have hown2 := own_any (H := H4) hown
  have osl := own_isOne hown2
  have hne : sl.ownBlock ≠ some b4 := fun e => by
    rcases own_parts hown with ⟨rfl, _, _⟩ | ⟨g2, cap2, rfl, hg2, _⟩
    · cases e
    · have : g2 = b4 := by simpa [Value.ownBlock] using e
      exact new_ne (hs12 g2 _ (addRow_only hg2)).1 f4 this.symm
  generalize addRow H4 o12 = H12 at *
  simp only [XM, XA, XB, gateX, Nat.reduceAdd, Nat.reduceLeDiff, Nat.reduceSub, Nat.reduceMul, ↓reduceIte, Int.reduceToNat, Int.reduceLE, beq_self_eq_true]
  refine st_rowA shapeT_24 (all3 rfl rfl osl) rfl f12 (by simp) ?_
  simp only [XM, XA, XB, gateX, Nat.reduceAdd, Nat.reduceLeDiff, Nat.reduceSub, Nat.reduceMul, ↓reduceIte, Int.reduceToNat, Int.reduceLE, beq_self_eq_true]
  refine hK _ ?_
  have hown3 : Own (upd H12 b4 (some ⟨e4, splice [.int .i64 0, .int .i64 0, .slice none 0 0] 0 [.int .i64 (n : Int), .int .i64 (n : Int), sl], 3⟩)) 48 3 sl (n * n) cells := by
    refine ⟨hown2.1, ?_⟩
    rcases hown2.2 with h | ⟨g2, cap2, rfl, hg2, h⟩
    · exact .inl h
    · exact .inr ⟨g2, cap2, rfl, by rw [upd_off fun e => hne (by rw [e]; rfl)]; exact hg2, h⟩
  refine XWP.pubR ratE_ok hown3 hrow fun H13 V13 hV13 hRw hk13 => ?_
  have f13 := (hk13 b4 hne).trans (upd_at _ _ _)
  refine XWP.ret ?_
  try simp only [thenX_ret, inBlockX_ret]
  exact ret_go _ (by simp [resAll, resV, cellsV, shapeT_24, f13, splice_all]; rfl) ⟨sl, rfl, hRw⟩
theorem cmMul_c (V : View) (s1 s2 : Value) (n B C : Nat) (G H : Grid) (ha : SqM V s1 n B G) (hb : SqM V s2 n C H) (hn5 : n ≤ 5) (hfit : 5 * (B + C + 1) ≤ 17592186044416) :
    Spec Tryz.prog 40 [.agg #[.int .i64 (n : Int), .int .i64 (n : Int), s1], .agg #[.int .i64 (n : Int), .int .i64 (n : Int), s2]] V fun v' V' => ∃ w, v' = .tuple #[.agg #[.int .i64 (n : Int), .int .i64 (n : Int), w], .int .i64 0] ∧ Rats V' w (flatG (gmul G H n) n n) := by
  have o1 := SlAt.one ha.hv
  have o2 := SlAt.one hb.hv
  refine (Spec.enter Tryz.func40 rfl fun Γ => ?_)
  simp only [Tryz.ntmps40, List.map_cons, List.map_nil, List.length_cons, List.length_nil, Nat.reduceAdd, Nat.reduceSub, List.replicate_succ, List.replicate_zero, List.cons_append, List.nil_append]
  first | refine Gx.a (by kernel_rfl) fun K hK => ?_ | refine Gx.b (by kernel_rfl) fun K hK => ?_ | refine Gx.c (by kernel_rfl) fun K hK => ?_
  simp only [XM, XA, XB, gateX, Nat.reduceAdd, Nat.reduceLeDiff, Nat.reduceSub, Nat.reduceMul, ↓reduceIte, Int.reduceToNat, Int.reduceLE, beq_self_eq_true]
  refine hK _ ?_
  refine XWP.seq ?_
  first | refine Gx.a (by kernel_rfl) fun K hK => ?_ | refine Gx.b (by kernel_rfl) fun K hK => ?_ | refine Gx.c (by kernel_rfl) fun K hK => ?_
  simp only [XM, XA, XB, gateX, Nat.reduceAdd, Nat.reduceLeDiff, Nat.reduceSub, Nat.reduceMul, ↓reduceIte, Int.reduceToNat, Int.reduceLE, beq_self_eq_true]
  refine call_go (by kernel_rfl) rfl (cmr_c ha (by omega)) fun v5 V5 hV5 h5 => ?_
  subst h5
  simp only [XM, XA, XB, gateX, Nat.reduceAdd, Nat.reduceLeDiff, Nat.reduceSub, Nat.reduceMul, ↓reduceIte, Int.reduceToNat, Int.reduceLE, beq_self_eq_true]
  refine call_go (by kernel_rfl) rfl (cmr_c (hb.up hV5) (by omega)) fun v6 V6 hV6 h6 => ?_
  subst h6
  simp only [XM, XA, XB, gateX, Nat.reduceAdd, Nat.reduceLeDiff, Nat.reduceSub, Nat.reduceMul, ↓reduceIte, Int.reduceToNat, Int.reduceLE, beq_self_eq_true]
  refine hK _ ?_
  first | refine Gx.f rfl ?_ | refine XWP.seq (Gx.f rfl ?_)
  refine XWP.skip ?_
  have hle := View.le_trans hV5 hV6
  refine XWP.seq ?_
  first | refine Gx.a (by kernel_rfl) fun K hK => ?_ | refine Gx.b (by kernel_rfl) fun K hK => ?_ | refine Gx.c (by kernel_rfl) fun K hK => ?_
  simp only [XM, XA, XB, gateX, Nat.reduceAdd, Nat.reduceLeDiff, Nat.reduceSub, Nat.reduceMul, ↓reduceIte, Int.reduceToNat, Int.reduceLE, beq_self_eq_true, decide_true]
  refine hK _ ?_
  first | refine Gx.f rfl ?_ | refine XWP.seq (Gx.f rfl ?_)
  refine XWP.skip ?_
  first | refine Gx.a (by kernel_rfl) fun K hK => ?_ | refine Gx.b (by kernel_rfl) fun K hK => ?_ | refine Gx.c (by kernel_rfl) fun K hK => ?_
  simp only [XM, XA, XB, gateX, Nat.reduceAdd, Nat.reduceLeDiff, Nat.reduceSub, Nat.reduceMul, ↓reduceIte, Int.reduceToNat, Int.reduceLE, beq_self_eq_true]
  refine call_go (by kernel_rfl) rfl (ctimes_c _ _ _ n B C G H (ha.up hle) (hb.up hle) hn5 hfit) fun v7 V7 hV7 h7 => ?_
  obtain ⟨w, rfl, h7⟩ := h7
  have ow := SlAt.one h7
  simp only [XM, XA, XB, gateX, Nat.reduceAdd, Nat.reduceLeDiff, Nat.reduceSub, Nat.reduceMul, ↓reduceIte, Int.reduceToNat, Int.reduceLE, beq_self_eq_true]
  refine st_mat shapeT_24 rfl rfl rfl rfl ow ?_
  simp only [XM, XA, XB, gateX, Nat.reduceAdd, Nat.reduceLeDiff, Nat.reduceSub, Nat.reduceMul, ↓reduceIte, Int.reduceToNat, Int.reduceLE, beq_self_eq_true]
  refine hK _ (XWP.ret ?_)
  try simp only [thenX_ret, inBlockX_ret]
  exact ret_go _ (by simp [resAll, resV, cellsV, shapeT_24]; rfl) ⟨w, rfl, h7⟩
end Go.Proofs.YthoboehbadmlmaaGreat
end
section
namespace Go.Proofs.YthoboehbadmlmaaGreat
open Go Go.RowKit
set_option linter.unusedSimpArgs false
set_option linter.unusedVariables false
attribute [local irreducible] XWP Spec SpecO XPub XCall seqX clX apX stX ldX iaX slX
theorem csize_c (V : View) (n : Nat) (hn : n < 4611686018427387904) : Spec Tryz.prog 100 [.int .i64 (n : Int)] V fun v' V' => NatC V' v' n := by
  have b1 : decide ((n : Int) < 0) = false := decide_eq_false (by omega)
  have w1 : IntKind.u64.wrap (n : Int) = (n : Int) := w64_id (by omega) (by omega)
  refine (Spec.enter Tryz.func100 rfl fun Γ => ?_)
  simp only [Tryz.ntmps100, List.map_cons, List.map_nil, List.length_cons, List.length_nil, Nat.reduceAdd, Nat.reduceSub, List.replicate_succ, List.replicate_zero, List.cons_append, List.nil_append]
  refine Gx.a (by kernel_rfl) fun K hK => ?_
  simp only [XA]
  refine hK _ ?_
  refine XWP.seq ?_
  refine Gx.a (by kernel_rfl) fun K hK => ?_
  simp only [XA, XB, b1]
  refine hK _ ?_
  refine Gx.f rfl ?_
  refine XWP.skip ?_
  refine Gx.a (by kernel_rfl) fun K hK => ?_
  simp only [XA, XB, w1]
  refine call_go (by kernel_rfl) rfl (of_c _ n (by omega)) fun v1 V1 hV1 h1 => ?_
  simp only [XA]
  refine hK _ (XWP.ret ?_)
  try simp only [thenX_ret, inBlockX_ret]
  refine ret_go _ rfl ?_
  exact h1
theorem csizem_c (V : View) : Spec Tryz.prog 100 [.int .i64 (-1)] V fun v' V' => NatC V' v' 1 := by
  have b1 : decide ((-1 : Int) < 0) = true := rfl
  have w1 : IntKind.u64.wrap (-1 : Int) = 18446744073709551615 := by decide
  have w2 : IntKind.u64.wrap (-18446744073709551615 : Int) = ((1 : Nat) : Int) := by decide
  refine (Spec.enter Tryz.func100 rfl fun Γ => ?_)
  simp only [Tryz.ntmps100, List.map_cons, List.map_nil, List.length_cons, List.length_nil, Nat.reduceAdd, Nat.reduceSub, List.replicate_succ, List.replicate_zero, List.cons_append, List.nil_append]
  refine Gx.a (by kernel_rfl) fun K hK => ?_
  simp only [XA]
  refine hK _ ?_
  refine XWP.seq ?_
  refine Gx.a (by kernel_rfl) fun K hK => ?_
  simp only [XA, XB, b1]
  refine hK _ ?_
  refine Gx.t rfl ?_
  refine Gx.a (by kernel_rfl) fun K hK => ?_
  simp only [XA, XB, w1]
  refine call_go (by kernel_rfl) rfl (of_c _ 1 (by omega)) fun v1 V1 hV1 h1 => ?_
  simp only [XA]
  refine hK _ (XWP.ret ?_)
  try simp only [thenX_ret, inBlockX_ret]
  refine ret_go _ rfl ?_
  exact h1
theorem cmakem_c (V : View) (k : Nat) (hk : k ≤ 7) : Spec Tryz.prog 44 [.int .i64 (-1), .int .i64 ((k + 1 : Nat) : Int)] V fun v' V' => ∃ w, v' = .tuple #[w, .int .i64 0] ∧ RatC V' w (-1 / ((k : Rat) + 1)) := by
  have b1 : decide ((-1 : Int) < 0) = true := rfl
  have b2 : decide (((k + 1 : Nat) : Int) < 0) = false := decide_eq_false (by omega)
  refine (Spec.enter Tryz.func44 rfl fun Γ => ?_)
  simp only [Tryz.ntmps44, List.map_cons, List.map_nil, List.length_cons, List.length_nil, Nat.reduceAdd, Nat.reduceSub, List.replicate_succ, List.replicate_zero, List.cons_append, List.nil_append]
  refine Gx.a (by kernel_rfl) fun K hK => ?_
  simp only [XA, XB]
  refine hK _ ?_
  refine Gx.a (by kernel_rfl) fun K hK => ?_
  simp only [XA, XB, b1, b2]
  refine call_go (by kernel_rfl) rfl (csizem_c _) fun v1 V1 hV1 h1 => ?_
  simp only [XA]
  refine call_go (by kernel_rfl) rfl (csize_c _ (k + 1) (by omega)) fun v2 V2 hV2 h2 => ?_
  simp only [XA]
  have hk2 : k + 1 ≤ 2 ^ 4 := by omega
  refine call_go (by kernel_rfl) rfl (qof_c _ _ _ _ 1 (k + 1) (h1.mono hV2) h2 (Fit1.of_two (B := 1) (by decide) (by omega)).fit (Fit1.of_two (B := 4) hk2 (by omega)).fit) fun v3 V3 hV3 h3 => ?_
  obtain ⟨w3, rfl, r3⟩ := h3.2 (by omega)
  clear h3
  obtain ⟨x3, y3, rfl, o1, o2⟩ := r3.form
  simp only [XA]
  refine st_rat rfl rfl rfl o1 o2 ?_
  simp only [XA]
  refine hK _ (XWP.ret ?_)
  try simp only [thenX_ret, inBlockX_ret]
  refine ret_rat2 rfl rfl rfl rfl ⟨_, rfl, ?_⟩
  rw [← rv_part hk]
  exact r3
theorem cplus_c (V : View) (s1 r : Value) (n B C : Nat) (G : Grid) (q : Rat) (ha : SqM V s1 n B G) (hb : RatC V r q) (hC : QB C q) (hfit : B + C + 1 ≤ 17592186044416) :
    Spec Tryz.prog 41 [.agg #[.int .i64 (n : Int), .int .i64 (n : Int), s1], r] V fun v' V' => ∃ w, v' = .agg #[.int .i64 (n : Int), .int .i64 (n : Int), w] ∧ Rats V' w (flatG (fun i k => G i k + gid i k * q) n n) := by
  have o1 := SlAt.one ha.hv
  obtain ⟨x, y, rfl, ox, oy⟩ := hb.form
  refine (Spec.enter Tryz.func41 rfl fun Γ => ?_)
  simp only [Tryz.ntmps41, List.map_cons, List.map_nil, List.length_cons, List.length_nil, Nat.reduceAdd, Nat.reduceSub, List.replicate_succ, List.replicate_zero, List.cons_append, List.nil_append]
  refine Gx.a (by kernel_rfl) fun K hK => ?_
  simp only [XM, XA, Nat.reduceAdd]
  refine hK _ ?_
  refine Gx.a (by kernel_rfl) fun K hK => ?_
  simp only [XM, XA, XB]
  refine call_go (by kernel_rfl) rfl (cident_c _ n ha.hn) fun v5 V5 hV5 h5 => ?_
  obtain ⟨w5, rfl, h5⟩ := h5
  have ow5 := SlAt.one h5
  simp only [XM, XA, Nat.reduceAdd]
  refine st_mat shapeT_24 rfl rfl rfl rfl ow5 ?_
  simp only [XA]
  refine hK _ ?_
  have hI : SqM V5 w5 n 0 gid := ⟨h5, ha.hn, fun i k _ _ => gid_QB i k⟩
  refine Gx.a (by kernel_rfl) fun K hK => ?_
  simp only [XM, XA, XB, Nat.reduceAdd, Nat.reduceLeDiff, ↓reduceIte]
  refine call_go (by kernel_rfl) rfl (cscale_c _ _ _ n 0 C gid q hI (hb.mono hV5) (by omega) hC (by omega)) fun v6 V6 hV6 h6 => ?_
  obtain ⟨w6, rfl, h6⟩ := h6
  have ow6 := SlAt.one h6
  simp only [XA]
  refine st_mat shapeT_24 rfl rfl rfl rfl ow6 ?_
  simp only [XA]
  refine hK _ ?_
  have hI2 : SqM V6 w6 n C (fun i k => gid i k * q) := ⟨h6, ha.hn, fun i k _ _ => ((gid_QB i k).mul hC).mono (by omega)⟩
  refine Gx.a (by kernel_rfl) fun K hK => ?_
  simp only [XM, XA, Nat.reduceAdd, Nat.reduceLeDiff, ↓reduceIte]
  refine call_go (by kernel_rfl) rfl (cmadd_c _ _ _ n B C G _ (ha.up (View.le_trans hV5 hV6)) hI2 (by omega) (by omega)) fun v7 V7 hV7 h7 => ?_
  obtain ⟨w7, rfl, h7⟩ := h7
  have ow7 := SlAt.one h7
  simp only [XM, XA, Nat.reduceAdd]
  refine st_mat shapeT_24 rfl rfl rfl rfl ow7 ?_
  simp only [XA]
  refine hK _ ?_
  refine Gx.a (by kernel_rfl) fun K hK => ?_
  simp only [XM, XA, Nat.reduceAdd, Nat.reduceLeDiff, ↓reduceIte]
  refine st_mat shapeT_24 rfl rfl rfl rfl ow7 ?_
  simp only [XA]
  refine hK _ (XWP.ret ?_)
  try simp only [thenX_ret, inBlockX_ret]
  exact ret_go _ (by simp [resAll, resV, cellsV, shapeT_24]; rfl) ⟨w7, rfl, h7⟩
end Go.Proofs.YthoboehbadmlmaaGreat
end
section
namespace Go.Proofs.YthoboehbadmlmaaGreat
open Go Go.RowKit
set_option linter.unusedSimpArgs false
set_option linter.unusedVariables false
attribute [local irreducible] XWP Spec SpecO XPub XCall seqX clX apX stX ldX iaX slX
theorem dmr_c {V : View} {s : Value} {n B : Nat} {G : Grid} (h : SqM V s n B G) (hB : B ≤ 17592186044416) : Spec Tryz.prog 15 [.agg #[.int .i64 (n : Int), .int .i64 (n : Int), s]] V fun v' V' => v' = .bool true := by
  have := dmright_c V s (n : Int) (n : Int) ((flatG G n n).map toRaw) (Rats.raws h.hv) (fitR_toRaw fun x hx => (h.mem x hx).qf hB) (by rw [List.length_map, flatG_len]; have := sq_le h.hn; omega)
  rwa [h.right] at this
theorem dqr_c {V : View} {v : Value} {q : Rat} (h : RatC V v q) (hq : QF q) : Spec Tryz.prog 54 [v] V fun v' V' => v' = .bool true := by
  have f := fitR_toRaw (l := [q]) (fun x hx => by rw [List.mem_singleton.1 hx]; exact hq) (toRaw q) (by simp)
  have := pright_c V v _ _ _ h.rawAt f.1 f.2
  have e : rawOk (ng q) (dg q.num.natAbs) (dg q.den) = true := toRaw_ok q
  rwa [e] at this
/-- the unit matrix under way: rows before i are done -/
def idP (n i : Nat) : Nat → Rat := fun p => if p / n = p % n ∧ p / n < i then 1 else 0
theorem idP_zero (n R : Nat) : mk R (idP n 0) = mk R fun _ => 0 := mk_congr fun j _ => by unfold idP; rw [if_neg (by omega)]
theorem idP_all {n : Nat} : mk (n * n) (idP n n) = flatG gid n n := by
  unfold flatG
  refine mk_congr fun p hp => ?_
  unfold idP flatF gid
  have : p / n < n := Nat.div_lt_of_lt_mul hp
  by_cases e : p / n = p % n
  · rw [if_pos ⟨e, this⟩, if_pos e]
  · rw [if_neg (fun h => e h.1), if_neg e]
theorem idP_step {n i : Nat} (hi : i < n) : (mk (n * n) (idP n i)).set (i * n + i) 1 = mk (n * n) (idP n (i + 1)) := by
  obtain ⟨ed, em⟩ := div_at (i := i) hi
  rw [mk_set1 (idx_lt hi hi)]
  refine mk_congr fun p hp => ?_
  unfold idP
  by_cases e : p = i * n + i
  · rw [if_pos e, e, ed, em, if_pos ⟨rfl, by omega⟩]
  · rw [if_neg e]
    have h2 := Nat.div_add_mod p n
    by_cases c : p / n = p % n ∧ p / n < i
    · rw [if_pos c, if_pos ⟨c.1, by omega⟩]
    · rw [if_neg c, if_neg fun h => ?_]
      by_cases e2 : p / n = i
      · rw [← h.1, e2, Nat.mul_comm] at h2
        exact e h2.symm
      · exact c ⟨h.1, by omega⟩
theorem done_c (V : View) (n : Nat) (hn : n ≤ 60) : Spec Tryz.prog 109 [.int .i64 (n : Int)] V fun v' V' => ∃ w, v' = .agg #[.int .i64 (n : Int), .int .i64 (n : Int), w] ∧ Rats V' w (flatG gid n n) := by
  have hnn := sq_le hn
  have hml := flatG_len gid n n
  refine (Spec.enter Tryz.func109 rfl fun Γ => ?_)
  simp only [Tryz.ntmps109, List.map_cons, List.map_nil, List.length_cons, List.length_nil, Nat.reduceAdd, Nat.reduceSub, List.replicate_succ, List.replicate_zero, List.cons_append, List.nil_append]
  refine Gx.a (by kernel_rfl) fun K hK => ?_
  simp only [XM, XA]
  refine hK _ ?_
  refine Gx.a (by kernel_rfl) fun K hK => ?_
  simp only [XA]
  refine call_own (by kernel_rfl) rfl (dzeros_o _ n n hn hn) fun v1 V1 o1 hV1 hs1 h1 => ?_
  obtain ⟨sl, cells1, rfl, hown1, hrow1⟩ := h1
  generalize addRow (fun _ => none) o1 = H1 at *
  have osl := own_isOne hown1
  simp only [XM, XA]
  refine st_mat shapeT_34 rfl rfl rfl rfl osl ?_
  simp only [XA]
  refine hK _ ?_
  clear hK
  refine XWP.cut (fun s => ∃ (V2 : View) (H5 : Heap) (cells : List Value), StIs (fun Z => [Z 0,Z 1, .p 0 0, .p 1 0, Z 4,Z 5,Z 6,Z 7,Z 8,Z 9,Z 10,Z 11,Z 12,Z 13,Z 14,Z 15,Z 16,Z 17,Z 18,Z 19,Z 20,Z 21,Z 22]) [[.int .i64 0, .int .i64 0, .slice none 0 0], [.int .i64 (n : Int), .int .i64 (n : Int), sl]] H5 V2 s ∧ Own H5 48 3 sl (n * n) cells ∧ RowAt ratE V2 cells (flatG gid n n)) ?_ ?_
  · refine Gx.a (by kernel_rfl) fun K hK => ?_
    simp only [XA]
    refine hK _ ?_
    clear hK
    refine XWP.block ?_
    refine XWP.loop (fun x s => ∃ (i : Nat) (V2 : View) (H5 : Heap) (cells : List Value), StIs (fun Z => [.v (.int .i64 (n : Int)), Z 1, .p 0 0, .p 1 0, .v (.int .i64 (i : Int)), Z 5,Z 6,Z 7,Z 8,Z 9,Z 10,Z 11,Z 12,Z 13,Z 14,Z 15,Z 16,Z 17,Z 18,Z 19,Z 20,Z 21,Z 22]) [[.int .i64 0, .int .i64 0, .slice none 0 0], [.int .i64 (n : Int), .int .i64 (n : Int), sl]] H5 V2 s ∧ V.le V2 ∧ x + i = n ∧ Own H5 48 3 sl (n * n) cells ∧ RowAt ratE V2 cells (mk (n * n) (idP n i))) n ⟨0, V1, H1, cells1, StIs.of (by exact rfl), hV1, by omega, hown1, by rw [idP_zero]; exact hrow1⟩ ?_
    clear hown1 hrow1
    rintro x s ⟨i, V2, H5, cells, hs, hV2, hx, hown, hrow⟩
    obtain ⟨z, rfl⟩ := hs.out
    try dsimp only
    clear hs
    refine XWP.seq ?_
    by_cases hi : i < n
    rotate_left
    · obtain rfl : i = n := by omega
      have b1 : decide ((i : Int) < (i : Int)) = false := decide_eq_false (by omega)
      refine Gx.a (by kernel_rfl) fun K hK => ?_
      simp only [XA, XB, b1]
      refine hK _ ?_
      refine Gx.f rfl ?_
      refine XWP.exit ?_
      rw [idP_all] at hrow
      exact ⟨V2, H5, cells, StIs.of (by exact rfl), hown, hrow⟩
    have b1 : decide ((i : Int) < (n : Int)) = true := decide_eq_true (by omega)
    refine Gx.a (by kernel_rfl) fun K hK => ?_
    simp only [XA, XB, b1]
    refine hK _ ?_
    refine Gx.t rfl ?_
    refine XWP.skip ?_
    refine XWP.seq ?_
    refine XWP.block ?_
    have hii := idx_lt hi hi
    rcases own_parts hown with ⟨_, h0, _⟩ | ⟨g, cap, rfl, hg, hle, hcap, hcl⟩
    · omega
    have w1 := nat_mul i n (by omega)
    have w2 := i64_add (i * n) i (by omega)
    (refine XWP.drw1 [0, 1, 2, 3, 4, 5, 6, 7, 8, 9] (by kernel_rfl) (by kernel_rfl) (by kernel_rfl) fun K hK => ?_) <;> dsimp only [pickOps, List.getElem?_cons_zero, List.getElem?_cons_succ]
    simp only [XM, XA, XB, w1, w2]
    refine call_go (by kernel_rfl) rfl (pone_c _) fun v10 V10 hV10 h10 => ?_
    obtain ⟨x10, y10, rfl, o5, o6⟩ := h10.form
    have hrow9 := hrow.mono ratE_ok hV10
    have hl9 := hrow9.1
    rw [mk_len] at hl9
    simp only [XA, XB]
    refine ⟨by omega, by omega, ?_⟩
    refine st_rowA shapeT_48 (all3 rfl o5 o6) rfl hg (by dsimp only; omega) ?_
    simp only [XA]
    refine hK _ ?_
    have hrow10 := hrow9.set (i * n + i) (by rw [mk_len]; exact hii) (show isOne (.bool (ng 1)) = true from rfl) o5 o6 h10
    rw [idP_step hi] at hrow10
    have hl10 := hrow10.1
    rw [mk_len] at hl10
    refine Gx.c (by kernel_rfl) fun K hK => ?_
    simp only [XA, XB, i64_succ i (by omega)]
    exact hK _ ⟨x - 1, by omega, i + 1, V10, _, _, StIs.of (by exact rfl), View.le_trans hV2 hV10, by omega, own3 (upd_at _ _ _) hl10 hle (by unfold maxLen at hcap; omega), hrow10⟩
  rintro s ⟨V2, H5, cells, hs, hown, hrow⟩
  obtain ⟨z, rfl⟩ := hs.out
  try dsimp only
  refine Gx.a (by kernel_rfl) fun K hK => ?_
  simp only [XM, XA, Nat.reduceAdd, Nat.reduceLeDiff, ↓reduceIte]
  refine st_mat shapeT_34 rfl rfl rfl rfl osl ?_
  simp only [XA]
  refine hK _ (XWP.ret ?_)
  try simp only [thenX_ret, inBlockX_ret]
  rcases own_parts hown with ⟨rfl, h0, rfl⟩ | ⟨g, cap, rfl, hg, hle, hcap, hcl⟩
  · refine ret_go _ (by simp [resAll, resV, cellsV, shapeT_34]; rfl) ⟨_, rfl, ?_⟩
    rw [List.length_eq_zero_iff.1 (hml.trans h0)]; exact SlAt.nil _
  · refine ret_pub g _ hg fun o ho hle' => ret_go _ (by simp [resAll, resV, cellsV, shapeT_34]; rfl) ⟨_, rfl, ?_⟩
    exact hrow.pub ratE_ok ho hle' hml hle (by unfold maxLen at hcap; omega)
theorem dIdent_c (V : View) (n : Nat) (hn : n ≤ 60) : Spec Tryz.prog 49 [.int .i64 (n : Int)] V fun v' V' => ∃ w, v' = .tuple #[.agg #[.int .i64 (n : Int), .int .i64 (n : Int), w], .int .i64 0] ∧ Rats V' w (flatG gid n n) := by
  have b1 : decide ((n : Int) < 0) = false := decide_eq_false (by omega)
  have b2 : decide ((60 : Int) < (n : Int)) = false := decide_eq_false (by omega)
  refine (Spec.enter Tryz.func49 rfl fun Γ => ?_)
  simp only [Tryz.ntmps49, List.map_cons, List.map_nil, List.length_cons, List.length_nil, Nat.reduceAdd, Nat.reduceSub, List.replicate_succ, List.replicate_zero, List.cons_append, List.nil_append]
  refine Gx.a (by kernel_rfl) fun K hK => ?_
  simp only [XM, XA]
  refine hK _ ?_
  refine XWP.cut (fun s => StIs (fun Z => [.v (.int .i64 (n : Int)), Z 1, .p 0 0, .v (.int .i64 0), Z 4,Z 5,Z 6,Z 7,Z 8,Z 9,Z 10,Z 11,Z 12,Z 13]) [[.int .i64 0, .int .i64 0, .slice none 0 0]] (fun _ => none) V s ∧ True) ?_ ?_
  · refine XWP.block ?_
    refine Gx.a (by kernel_rfl) fun K hK => ?_
    simp only [XA, XB, b1]
    refine hK _ ?_
    refine Gx.f rfl ?_
    refine Gx.a (by kernel_rfl) fun K hK => ?_
    simp only [XA, XB, b2]
    refine hK _ ?_
    refine Gx.f rfl ?_
    refine XWP.skip ?_
    exact ⟨StIs.of (by exact rfl), trivial⟩
  rintro s ⟨hs, _⟩
  obtain ⟨z, rfl⟩ := hs.out
  try dsimp only
  refine Gx.a (by kernel_rfl) fun K hK => ?_
  simp only [XA]
  refine call_go (by kernel_rfl) rfl (done_c _ n hn) fun v1 V1 hV1 h1 => ?_
  obtain ⟨w, rfl, h1⟩ := h1
  have ow := SlAt.one h1
  simp only [XA]
  refine st_mat shapeT_34 rfl rfl rfl rfl ow ?_
  simp only [XA]
  refine hK _ (XWP.ret ?_)
  try simp only [thenX_ret, inBlockX_ret]
  exact ret_go _ (by simp [resAll, resV, cellsV, shapeT_34]; rfl) ⟨w, rfl, h1⟩
/-- numbers under way -/
def fzP (f : Nat → Rat) (i : Nat) : Nat → Rat := fun p => if p < i then f p else 0
theorem fzP_zero (f : Nat → Rat) (R : Nat) : mk R (fzP f 0) = mk R fun _ => 0 := mk_congr fun j _ => by unfold fzP; rw [if_neg (by omega)]
theorem fzP_all (f : Nat → Rat) (R : Nat) : mk R (fzP f R) = mk R f := mk_congr fun j h => by unfold fzP; rw [if_pos h]
theorem fzP_step (f : Nat → Rat) {R i : Nat} (hi : i < R) : (mk R (fzP f i)).set i (f i) = mk R (fzP f (i + 1)) := by
  rw [mk_set1 hi]
  refine mk_congr fun p _ => ?_
  unfold fzP
  by_cases e : p = i
  · rw [if_pos e, e, if_pos (by omega)]
  · rw [if_neg e]
    by_cases c : p < i
    · rw [if_pos c, if_pos (by omega)]
    · rw [if_neg c, if_neg (by omega)]
end Go.Proofs.YthoboehbadmlmaaGreat
end
section
namespace Go.Proofs.YthoboehbadmlmaaGreat
open Go Go.RowKit
set_option linter.unusedSimpArgs false
set_option linter.unusedVariables false
attribute [local irreducible] XWP Spec SpecO XPub XCall seqX clX apX stX ldX iaX slX
theorem flat_add (G H : Grid) (n : Nat) : mk (n * n) (fun p => cf (flatG G n n) p + cf (flatG H n n) p) = flatG (fun i k => G i k + H i k) n n := by
  refine mk_congr fun p hp => ?_
  unfold flatG
  rw [cf_mk, cf_mk, if_pos hp, if_pos hp]; rfl
theorem flat_scale (G : Grid) (q : Rat) (n : Nat) : mk (n * n) (fun p => cf (flatG G n n) p * q) = flatG (fun i k => G i k * q) n n := by
  refine mk_congr fun p hp => ?_
  unfold flatG
  rw [cf_mk, if_pos hp]; rfl
theorem SqM.cfq {V : View} {s : Value} {n B : Nat} {G : Grid} (h : SqM V s n B G) (p : Nat) : QB B (cf (flatG G n n) p) := by
  by_cases hp : p < (flatG G n n).length
  · exact h.mem _ (cf_mem hp)
  · rw [cf_none (by omega)]; exact QB_zero _
theorem dAdd_c' (V : View) (s1 s2 : Value) (n B C : Nat) (G H : Grid) (ha : SqM V s1 n B G) (hb : SqM V s2 n C H) (hfit : B + C + 1 ≤ 17592186044416) :
    Spec Tryz.prog 51 [.agg #[.int .i64 (n : Int), .int .i64 (n : Int), s1], .agg #[.int .i64 (n : Int), .int .i64 (n : Int), s2]] V fun v' V' => ∃ w, v' = .tuple #[.agg #[.int .i64 (n : Int), .int .i64 (n : Int), w], .int .i64 0] ∧ Rats V' w (flatG (fun i k => G i k + H i k) n n) := by
  obtain ⟨A1, c1, rfl, hc1, hm1⟩ := ha.hv.form
  obtain ⟨A2, c2, rfl, hc2, hm2⟩ := hb.hv.form
  have hn := ha.hn
  have hnn := sq_le hn
  have la := flatG_len G n n
  have lb := flatG_len H n n
  rw [la] at ha ⊢
  rw [lb] at hb ⊢
  have hml := flatG_len (fun i k => G i k + H i k) n n
  refine (Spec.enter Tryz.func51 rfl fun Γ => ?_)
  simp only [Tryz.ntmps51, List.map_cons, List.map_nil, List.length_cons, List.length_nil, Nat.reduceAdd, Nat.reduceSub, List.replicate_succ, List.replicate_zero, List.cons_append, List.nil_append]
  refine Gx.a (by kernel_rfl) fun K hK => ?_
  simp only [XM, XA, Nat.reduceAdd]
  refine hK _ ?_
  refine XWP.cut (fun s => ∃ V2, StIs (fun Z => [Z 0,Z 1, .p 0 0, .p 1 0, .p 2 0, .v (.int .i64 0), Z 6,Z 7,Z 8,Z 9,Z 10,Z 11,Z 12,Z 13,Z 14,Z 15,Z 16,Z 17,Z 18,Z 19,Z 20,Z 21,Z 22,Z 23,Z 24,Z 25,Z 26,Z 27,Z 28,Z 29,Z 30,Z 31,Z 32,Z 33,Z 34,Z 35,Z 36,Z 37,Z 38,Z 39,Z 40,Z 41,Z 42,Z 43,Z 44,Z 45,Z 46,Z 47,Z 48,Z 49,Z 50,Z 51,Z 52,Z 53,Z 54,Z 55,Z 56,Z 57,Z 58,Z 59]) [[.int .i64 (n : Int), .int .i64 (n : Int), .slice A1 (n * n) c1], [.int .i64 (n : Int), .int .i64 (n : Int), .slice A2 (n * n) c2], [.int .i64 0, .int .i64 0, .slice none 0 0]] (fun _ => none) V2 s ∧ V.le V2) ?_ ?_
  · refine XWP.block ?_
    refine XWP.seq ?_
    refine Gx.c (by kernel_rfl) fun K hK => ?_
    simp only [XM, XA, Nat.reduceAdd, Nat.reduceLeDiff, ↓reduceIte]
    refine call_go (by kernel_rfl) rfl (dmr_c ha (by omega)) fun v5 V5 hV5 h5 => ?_
    subst h5
    simp only [XM, XA, gateX, Nat.reduceAdd, Nat.reduceLeDiff, ↓reduceIte, beq_self_eq_true]
    refine call_go (by kernel_rfl) rfl (dmr_c (hb.up hV5) (by omega)) fun v6 V6 hV6 h6 => ?_
    subst h6
    simp only [XA, gateX, ↓reduceIte, beq_self_eq_true]
    refine hK _ ?_
    refine Gx.f rfl ?_
    refine XWP.seq ?_
    refine Gx.c (by kernel_rfl) fun K hK => ?_
    simp only [XM, XA, XB, gateX, ↓reduceIte, beq_self_eq_true, decide_true]
    refine hK _ ?_
    refine Gx.f rfl ?_
    refine XWP.skip ?_
    exact ⟨V6, StIs.of (by exact rfl), View.le_trans hV5 hV6⟩
  rintro s ⟨V2, hs, hV2⟩
  obtain ⟨z, rfl⟩ := hs.out
  try dsimp only
  clear hs
  refine Gx.a (by kernel_rfl) fun K hK => ?_
  simp only [XM, XA, XB]
  refine call_own (by kernel_rfl) rfl (dzeros_o _ n n hn hn) fun v1 V1 o1 hV1 hs1 h1 => ?_
  obtain ⟨sl, cells1, rfl, hown1, hrow1⟩ := h1
  generalize addRow (fun _ => none) o1 = H1 at *
  have osl := own_isOne hown1
  obtain ⟨As, cs, rfl⟩ : ∃ As cs, sl = .slice As (n * n) cs := by
    rcases own_parts hown1 with ⟨rfl, h0, _⟩ | ⟨g, cap, rfl, _⟩
    · exact ⟨none, 0, by rw [h0]⟩
    · exact ⟨_, cap, rfl⟩
  simp only [XM, XA, Nat.reduceAdd]
  refine st_mat shapeT_34 rfl rfl rfl rfl osl ?_
  simp only [XA]
  refine hK _ ?_
  clear hK
  refine XWP.cut (fun s => ∃ (V2 : View) (H5 : Heap) (cells : List Value), StIs (fun Z => [Z 0,Z 1, .p 0 0, .p 1 0, .p 2 0, Z 5, .p 3 0, Z 7,Z 8,Z 9,Z 10,Z 11,Z 12,Z 13,Z 14,Z 15,Z 16,Z 17,Z 18,Z 19,Z 20,Z 21,Z 22,Z 23,Z 24,Z 25,Z 26,Z 27,Z 28,Z 29,Z 30,Z 31,Z 32,Z 33,Z 34,Z 35,Z 36,Z 37,Z 38,Z 39,Z 40,Z 41,Z 42,Z 43,Z 44,Z 45,Z 46,Z 47,Z 48,Z 49,Z 50,Z 51,Z 52,Z 53,Z 54,Z 55,Z 56,Z 57,Z 58,Z 59]) [[.int .i64 (n : Int), .int .i64 (n : Int), .slice A1 (n * n) c1], [.int .i64 (n : Int), .int .i64 (n : Int), .slice A2 (n * n) c2], [.int .i64 0, .int .i64 0, .slice none 0 0], [.int .i64 (n : Int), .int .i64 (n : Int), .slice As (n * n) cs]] H5 V2 s ∧ Own H5 48 3 (.slice As (n * n) cs) (n * n) cells ∧ RowAt ratE V2 cells (flatG (fun i k => G i k + H i k) n n)) ?_ ?_
  · refine Gx.a (by kernel_rfl) fun K hK => ?_
    simp only [XM, XA, XB]
    refine hK _ ?_
    clear hK
    refine XWP.block ?_
    refine XWP.loop (fun x s => ∃ (i : Nat) (V2 : View) (H5 : Heap) (cells : List Value), StIs (fun Z => [Z 0,Z 1, .p 0 0, .p 1 0, .p 2 0, Z 5, .p 3 0, Z 7,Z 8,Z 9,Z 10,Z 11,Z 12,Z 13,Z 14,Z 15,Z 16,Z 17,Z 18,Z 19,Z 20,Z 21,Z 22,Z 23,Z 24,Z 25,Z 26,Z 27,Z 28,Z 29,Z 30,Z 31,Z 32,Z 33,Z 34,Z 35,Z 36,Z 37,Z 38, .v (.int .i64 ((n * n : Nat) : Int)), .v (.int .i64 (i : Int)), Z 41,Z 42,Z 43,Z 44,Z 45,Z 46,Z 47,Z 48,Z 49,Z 50,Z 51,Z 52,Z 53,Z 54,Z 55,Z 56,Z 57,Z 58,Z 59]) [[.int .i64 (n : Int), .int .i64 (n : Int), .slice A1 (n * n) c1], [.int .i64 (n : Int), .int .i64 (n : Int), .slice A2 (n * n) c2], [.int .i64 0, .int .i64 0, .slice none 0 0], [.int .i64 (n : Int), .int .i64 (n : Int), .slice As (n * n) cs]] H5 V2 s ∧ V.le V2 ∧ x + i = n * n ∧ Own H5 48 3 (.slice As (n * n) cs) (n * n) cells ∧ RowAt ratE V2 cells (mk (n * n) (fzP (fun p => cf (flatG G n n) p + cf (flatG H n n) p) i))) (n * n) ⟨0, V1, H1, cells1, StIs.of (by exact rfl), View.le_trans hV2 hV1, by omega, hown1, by rw [fzP_zero]; exact hrow1⟩ ?_
    clear hown1 hrow1
    rintro x s ⟨i, V2, H5, cells, hs, hV2, hx, hown, hrow⟩
    obtain ⟨z, rfl⟩ := hs.out
    try dsimp only
    clear hs
    by_cases hi : i < n * n
    rotate_left
    · obtain rfl : i = n * n := by omega
      have b1 : decide (((n * n : Nat) : Int) < ((n * n : Nat) : Int)) = false := decide_eq_false (by omega)
      refine Gx.a (by kernel_rfl) fun K hK => ?_
      simp only [XA, XB, b1]
      refine hK _ ?_
      refine XWP.seq (Gx.f rfl ?_)
      refine XWP.exit ?_
      rw [fzP_all, flat_add] at hrow
      exact ⟨V2, H5, cells, StIs.of (by exact rfl), hown, hrow⟩
    have b1 : decide ((i : Int) < ((n * n : Nat) : Int)) = true := decide_eq_true (by omega)
    refine Gx.a (by kernel_rfl) fun K hK => ?_
    simp only [XA, XB, b1]
    refine hK _ ?_
    refine XWP.seq (Gx.t rfl ?_)
    refine XWP.skip ?_
    refine XWP.seq ?_
    refine XWP.block ?_
    refine Gx.a (by kernel_rfl) fun K hK => ?_
    simp only [XA]
    refine hK _ ?_
    rcases own_parts hown with ⟨_, h0, _⟩ | ⟨g, cap, esl, hg, hle, hcap, hcl⟩
    · omega
    cases esl
    have ha4 := ha.hv.up hV2
    have hb4 := hb.hv.up hV2
    obtain ⟨ba, oa, rfl⟩ := SlAt.addr ha4 (by omega)
    obtain ⟨bb', ob, rfl⟩ := SlAt.addr hb4 (by omega)
    obtain ⟨m3, n3, d3, hx3, _, hld3⟩ := Rats.get ha4 i (by omega)
    obtain ⟨m4, n4, d4, hx4, _, hld4⟩ := Rats.get hb4 i (by omega)
    have q3 := (ha.cfq i).qf (show B ≤ 17592186044416 by omega)
    have q4 := (hb.cfq i).qf (show C ≤ 17592186044416 by omega)
    (refine XWP.drw1 [0, 1, 2, 3, 4, 5, 6, 7, 8, 9, 10, 11, 12, 13, 14, 15] (by kernel_rfl) (by kernel_rfl) (by kernel_rfl) fun K hK => ?_) <;> dsimp only [pickOps, List.getElem?_cons_zero, List.getElem?_cons_succ]
    simp only [XM, XA, XB]
    refine ⟨by omega, by omega, ld_mem (hld3 _) ?_⟩
    simp only [XM, XA, XB]
    refine ⟨by omega, by omega, ld_mem (hld4 _) ?_⟩
    simp only [XA]
    refine call_go (by kernel_rfl) rfl (padd_c _ _ _ _ _ (hx3.toV q3) (hx4.toV q4) q3 q4) fun v10 V10 hV10 h10 => ?_
    obtain ⟨x10, y10, rfl, o5, o6⟩ := h10.form
    have hrow9 := hrow.mono ratE_ok hV10
    have hl9 := hrow9.1
    rw [mk_len] at hl9
    simp only [XA, XB]
    refine ⟨by omega, by omega, ?_⟩
    refine st_rowA shapeT_48 (all3 rfl o5 o6) rfl hg (by dsimp only; omega) ?_
    simp only [XA]
    refine hK _ ?_
    have hrow10 := hrow9.set i (by rw [mk_len]; exact hi) (show isOne (.bool (ng (cf (flatG G n n) i + cf (flatG H n n) i))) = true from rfl) o5 o6 h10
    rw [fzP_step (fun p => cf (flatG G n n) p + cf (flatG H n n) p) hi] at hrow10
    have hl10 := hrow10.1
    rw [mk_len] at hl10
    refine Gx.c (by kernel_rfl) fun K hK => ?_
    simp only [XA, XB, i64_succ i (by omega)]
    exact hK _ ⟨x - 1, by omega, i + 1, V10, _, _, StIs.of (by exact rfl), View.le_trans hV2 hV10, by omega, own3 (upd_at _ _ _) hl10 hle (by unfold maxLen at hcap; omega), hrow10⟩
  rintro s ⟨V2, H5, cells, hs, hown, hrow⟩
  obtain ⟨z, rfl⟩ := hs.out
  try dsimp only
  refine Gx.a (by kernel_rfl) fun K hK => ?_
  simp only [XM, XA, Nat.reduceAdd, Nat.reduceLeDiff, ↓reduceIte]
  refine st_mat shapeT_34 rfl rfl rfl rfl osl ?_
  simp only [XA]
  refine hK _ (XWP.ret ?_)
  try simp only [thenX_ret, inBlockX_ret]
  rcases own_parts hown with ⟨esl, h0, rfl⟩ | ⟨g, cap, esl, hg, hle, hcap, hcl⟩
  · simp only [Value.slice.injEq] at esl
    obtain ⟨rfl, _, rfl⟩ := esl
    refine ret_go _ (by simp [resAll, resV, cellsV, shapeT_34]; rfl) ⟨_, rfl, ?_⟩
    rw [List.length_eq_zero_iff.1 (hml.trans h0), h0]; exact SlAt.nil _
  · cases esl
    refine ret_pub g _ hg fun o ho hle' => ret_go _ (by simp [resAll, resV, cellsV, shapeT_34]; rfl) ⟨_, rfl, ?_⟩
    exact hrow.pub ratE_ok ho hle' hml hle (by unfold maxLen at hcap; omega)
theorem dScale_c' (V : View) (s1 r : Value) (n B C : Nat) (G : Grid) (q : Rat) (ha : SqM V s1 n B G) (hb : RatC V r q) (hC : QB C q) (hfit : B + C + 1 ≤ 17592186044416) :
    Spec Tryz.prog 50 [.agg #[.int .i64 (n : Int), .int .i64 (n : Int), s1], r] V fun v' V' => ∃ w, v' = .tuple #[.agg #[.int .i64 (n : Int), .int .i64 (n : Int), w], .int .i64 0] ∧ Rats V' w (flatG (fun i k => G i k * q) n n) := by
  obtain ⟨A1, c1, rfl, hc1, hm1⟩ := ha.hv.form
  obtain ⟨xq, yq, rfl, oq1, oq2⟩ := hb.form
  have qq := hC.qf (show C ≤ 17592186044416 by omega)
  have hn := ha.hn
  have hnn := sq_le hn
  have la := flatG_len G n n
  rw [la] at ha ⊢
  have hml := flatG_len (fun i k => G i k * q) n n
  refine (Spec.enter Tryz.func50 rfl fun Γ => ?_)
  simp only [Tryz.ntmps50, List.map_cons, List.map_nil, List.length_cons, List.length_nil, Nat.reduceAdd, Nat.reduceSub, List.replicate_succ, List.replicate_zero, List.cons_append, List.nil_append]
  refine Gx.a (by kernel_rfl) fun K hK => ?_
  simp only [XM, XA, Nat.reduceAdd]
  refine hK _ ?_
  refine XWP.seq ?_
  refine Gx.a (by kernel_rfl) fun K hK => ?_
  simp only [XM, XA, Nat.reduceAdd, Nat.reduceLeDiff, ↓reduceIte]
  refine call_go (by kernel_rfl) rfl (dmr_c ha (by omega)) fun v5 V5 hV5 h5 => ?_
  subst h5
  simp only [XA, XB, gateX, Nat.reduceAdd, Nat.reduceLeDiff, ↓reduceIte, beq_self_eq_true]
  refine call_go (by kernel_rfl) rfl (dqr_c (hb.mono hV5) qq) fun v6 V6 hV6 h6 => ?_
  subst h6
  simp only [XA, gateX, ↓reduceIte, beq_self_eq_true]
  refine hK _ ?_
  refine Gx.f rfl ?_
  refine XWP.skip ?_
  have hV6 := View.le_trans hV5 hV6
  refine Gx.a (by kernel_rfl) fun K hK => ?_
  simp only [XM, XA, XB]
  refine call_own (by kernel_rfl) rfl (dzeros_o _ n n hn hn) fun v1 V1 o1 hV1 hs1 h1 => ?_
  obtain ⟨sl, cells1, rfl, hown1, hrow1⟩ := h1
  generalize addRow (fun _ => none) o1 = H1 at *
  have osl := own_isOne hown1
  obtain ⟨As, cs, rfl⟩ : ∃ As cs, sl = .slice As (n * n) cs := by
    rcases own_parts hown1 with ⟨rfl, h0, _⟩ | ⟨g, cap, rfl, _⟩
    · exact ⟨none, 0, by rw [h0]⟩
    · exact ⟨_, cap, rfl⟩
  simp only [XM, XA, Nat.reduceAdd]
  refine st_mat shapeT_34 rfl rfl rfl rfl osl ?_
  simp only [XA]
  refine hK _ ?_
  clear hK
  refine XWP.cut (fun s => ∃ (V2 : View) (H5 : Heap) (cells : List Value), StIs (fun Z => [Z 0,Z 1, .p 0 0, .p 1 0, .p 2 0, Z 5, .p 3 0, Z 7,Z 8,Z 9,Z 10,Z 11,Z 12,Z 13,Z 14,Z 15,Z 16,Z 17,Z 18,Z 19,Z 20,Z 21,Z 22,Z 23,Z 24,Z 25,Z 26,Z 27,Z 28,Z 29,Z 30,Z 31,Z 32,Z 33,Z 34,Z 35,Z 36,Z 37,Z 38,Z 39,Z 40]) [[.int .i64 (n : Int), .int .i64 (n : Int), .slice A1 (n * n) c1], [.bool (ng q), xq, yq], [.int .i64 0, .int .i64 0, .slice none 0 0], [.int .i64 (n : Int), .int .i64 (n : Int), .slice As (n * n) cs]] H5 V2 s ∧ Own H5 48 3 (.slice As (n * n) cs) (n * n) cells ∧ RowAt ratE V2 cells (flatG (fun i k => G i k * q) n n)) ?_ ?_
  · refine Gx.a (by kernel_rfl) fun K hK => ?_
    simp only [XM, XA, XB]
    refine hK _ ?_
    clear hK
    refine XWP.block ?_
    refine XWP.loop (fun x s => ∃ (i : Nat) (V2 : View) (H5 : Heap) (cells : List Value), StIs (fun Z => [Z 0,Z 1, .p 0 0, .p 1 0, .p 2 0, Z 5, .p 3 0, Z 7,Z 8,Z 9,Z 10,Z 11,Z 12,Z 13,Z 14,Z 15,Z 16,Z 17,Z 18,Z 19,Z 20,Z 21,Z 22,Z 23, .v (.int .i64 ((n * n : Nat) : Int)), .v (.int .i64 (i : Int)), Z 26,Z 27,Z 28,Z 29,Z 30,Z 31,Z 32,Z 33,Z 34,Z 35,Z 36,Z 37,Z 38,Z 39,Z 40]) [[.int .i64 (n : Int), .int .i64 (n : Int), .slice A1 (n * n) c1], [.bool (ng q), xq, yq], [.int .i64 0, .int .i64 0, .slice none 0 0], [.int .i64 (n : Int), .int .i64 (n : Int), .slice As (n * n) cs]] H5 V2 s ∧ V.le V2 ∧ x + i = n * n ∧ Own H5 48 3 (.slice As (n * n) cs) (n * n) cells ∧ RowAt ratE V2 cells (mk (n * n) (fzP (fun p => cf (flatG G n n) p * q) i))) (n * n) ⟨0, V1, H1, cells1, StIs.of (by exact rfl), View.le_trans hV6 hV1, by omega, hown1, by rw [fzP_zero]; exact hrow1⟩ ?_
    clear hown1 hrow1
    rintro x s ⟨i, V2, H5, cells, hs, hV2, hx, hown, hrow⟩
    obtain ⟨z, rfl⟩ := hs.out
    try dsimp only
    clear hs
    by_cases hi : i < n * n
    rotate_left
    · obtain rfl : i = n * n := by omega
      have b1 : decide (((n * n : Nat) : Int) < ((n * n : Nat) : Int)) = false := decide_eq_false (by omega)
      refine Gx.a (by kernel_rfl) fun K hK => ?_
      simp only [XA, XB, b1]
      refine hK _ ?_
      refine XWP.seq (Gx.f rfl ?_)
      refine XWP.exit ?_
      rw [fzP_all, flat_scale] at hrow
      exact ⟨V2, H5, cells, StIs.of (by exact rfl), hown, hrow⟩
    have b1 : decide ((i : Int) < ((n * n : Nat) : Int)) = true := decide_eq_true (by omega)
    refine Gx.a (by kernel_rfl) fun K hK => ?_
    simp only [XA, XB, b1]
    refine hK _ ?_
    refine XWP.seq (Gx.t rfl ?_)
    refine XWP.skip ?_
    refine XWP.seq ?_
    refine XWP.block ?_
    refine Gx.a (by kernel_rfl) fun K hK => ?_
    simp only [XA]
    refine hK _ ?_
    rcases own_parts hown with ⟨_, h0, _⟩ | ⟨g, cap, esl, hg, hle, hcap, hcl⟩
    · omega
    cases esl
    have ha4 := ha.hv.up hV2
    have hb4 := hb.mono hV2
    obtain ⟨ba, oa, rfl⟩ := SlAt.addr ha4 (by omega)
    obtain ⟨m3, n3, d3, hx3, _, hld3⟩ := Rats.get ha4 i (by omega)
    have q3 := (ha.cfq i).qf (show B ≤ 17592186044416 by omega)
    (refine XWP.drw1 [0, 1, 2, 3, 4, 5, 6, 7, 8, 9, 10, 11] (by kernel_rfl) (by kernel_rfl) (by kernel_rfl) fun K hK => ?_) <;> dsimp only [pickOps, List.getElem?_cons_zero, List.getElem?_cons_succ]
    simp only [XM, XA, XB]
    refine ⟨by omega, by omega, ld_mem (hld3 _) ?_⟩
    simp only [XA, XB, Nat.reduceAdd, Nat.reduceLeDiff, ↓reduceIte]
    refine call_go (by kernel_rfl) rfl (pmul_c _ _ _ _ _ (hx3.toV q3) (hb4.toV qq) q3 qq) fun v10 V10 hV10 h10 => ?_
    obtain ⟨x10, y10, rfl, o5, o6⟩ := h10.form
    have hrow9 := hrow.mono ratE_ok hV10
    have hl9 := hrow9.1
    rw [mk_len] at hl9
    simp only [XA, XB]
    refine ⟨by omega, by omega, ?_⟩
    refine st_rowA shapeT_48 (all3 rfl o5 o6) rfl hg (by dsimp only; omega) ?_
    simp only [XA]
    refine hK _ ?_
    have hrow10 := hrow9.set i (by rw [mk_len]; exact hi) (show isOne (.bool (ng (cf (flatG G n n) i * q))) = true from rfl) o5 o6 h10
    rw [fzP_step (fun p => cf (flatG G n n) p * q) hi] at hrow10
    have hl10 := hrow10.1
    rw [mk_len] at hl10
    refine Gx.c (by kernel_rfl) fun K hK => ?_
    simp only [XA, XB, i64_succ i (by omega)]
    exact hK _ ⟨x - 1, by omega, i + 1, V10, _, _, StIs.of (by exact rfl), View.le_trans hV2 hV10, by omega, own3 (upd_at _ _ _) hl10 hle (by unfold maxLen at hcap; omega), hrow10⟩
  rintro s ⟨V2, H5, cells, hs, hown, hrow⟩
  obtain ⟨z, rfl⟩ := hs.out
  try dsimp only
  refine Gx.a (by kernel_rfl) fun K hK => ?_
  simp only [XM, XA, Nat.reduceAdd, Nat.reduceLeDiff, ↓reduceIte]
  refine st_mat shapeT_34 rfl rfl rfl rfl osl ?_
  simp only [XA]
  refine hK _ (XWP.ret ?_)
  try simp only [thenX_ret, inBlockX_ret]
  rcases own_parts hown with ⟨esl, h0, rfl⟩ | ⟨g, cap, esl, hg, hle, hcap, hcl⟩
  · simp only [Value.slice.injEq] at esl
    obtain ⟨rfl, _, rfl⟩ := esl
    refine ret_go _ (by simp [resAll, resV, cellsV, shapeT_34]; rfl) ⟨_, rfl, ?_⟩
    rw [List.length_eq_zero_iff.1 (hml.trans h0), h0]; exact SlAt.nil _
  · cases esl
    refine ret_pub g _ hg fun o ho hle' => ret_go _ (by simp [resAll, resV, cellsV, shapeT_34]; rfl) ⟨_, rfl, ?_⟩
    exact hrow.pub ratE_ok ho hle' hml hle (by unfold maxLen at hcap; omega)
end Go.Proofs.YthoboehbadmlmaaGreat
end
section
namespace Go.Proofs.YthoboehbadmlmaaGreat
open Go Go.RowKit
set_option linter.unusedVariables false
/-- what a call over rows promises; the boxes stay as they are -/
def MSem (P : Program) (f : FuncId) (args : List Value) (bx : List (List Value)) (H : Heap) (V : View) (R : Value → Heap → View → Prop) : Prop :=
  ∀ (Γ : Cx) (bl : Nat → Nat) (w : World), Γ.V0.sub Γ.w0 → CW Γ bl bx H V w → CS Γ bl bx H V → Calls P f args.toArray w fun e w' => ∃ v H' V', e = .returned v ∧ CW Γ bl bx H' V' w' ∧ CS Γ bl bx H' V' ∧ KeepsOthers w w' ∧ R v H' V'
theorem MSpec.sem {P : Program} {f : FuncId} {args : List Value} {H : Heap} {V : View} {R : Value → Heap → View → Prop} (h : MSpec P f args H V R) : MSem P f args [] H V R := fun Γ bl w h0 hw hs => h.calls h0 hw hs
/-- a box is a row to the call -/
theorem MSem.box {P : Program} {f : FuncId} {args : List Value} {vs : List Value} {H : Heap} {V : View} {R : Value → Heap → View → Prop}
    (h : ∀ b e, H b = none → V b = none → MSpec P f args (upd H b (some ⟨e, vs, vs.length⟩)) V fun v H' V' => H' b = some ⟨e, vs, vs.length⟩ ∧ R v (upd H' b none) V') : MSem P f args [vs] H V R := by
  intro Γ bl w h0 hw hs
  obtain ⟨ty, hh⟩ := hw.box 0 vs rfl
  obtain ⟨b1, b2, b3⟩ := hs.bxH 0 (by simp)
  have hw' : CW Γ bl [] (upd H (bl 0) (some ⟨ty, vs, vs.length⟩)) V w := ⟨fun i us hi => by simp at hi, fun b r hb => by
    unfold upd at hb
    split at hb
    · rename_i e; subst e; cases hb
      exact ⟨[], by simpa using hh, by simp⟩
    · exact hw.row b r hb, hw.view, hw.below⟩
  have hs' : CS Γ bl [] (upd H (bl 0) (some ⟨ty, vs, vs.length⟩)) V := ⟨fun i j hi => by simp at hi, fun i hi => by simp at hi, fun b r hb => by
    unfold upd at hb
    split at hb
    · rename_i e; subst e; exact ⟨b2, b3⟩
    · exact hs.HV b r hb, hs.V0, hs.frm⟩
  refine ((h (bl 0) ty b1 b2).calls h0 hw' hs').mono ?_
  rintro e w' ⟨v, H', V', rfl, cw, cs, ko, hb, hR⟩
  obtain ⟨ex, e1, e2⟩ := cw.row _ _ hb
  have hex : ex = [] := List.length_eq_zero_iff.1 (by rw [List.length_append] at e2; dsimp only at e2; omega)
  subst hex
  obtain ⟨c1, c2⟩ := cs.HV _ _ hb
  refine ⟨v, upd H' (bl 0) none, V', rfl, ⟨fun i us hi => ?_, fun b r hb' => ?_, cw.view, cw.below⟩, ⟨fun i j hi hj _ => ?_, fun i hi => ?_, fun b r hb' => ?_, cs.V0, cs.frm⟩, ko, hR⟩
  · have hi0 : i = 0 := by have := (List.getElem?_eq_some_iff.1 hi).1; simp at this; exact this
    subst hi0
    have : us = vs := by simpa using hi.symm
    subst this
    exact ⟨ty, by simpa using e1⟩
  · unfold upd at hb'
    split at hb'
    · cases hb'
    · exact cw.row b r hb'
  · simp at hi hj; omega
  · have hi0 : i = 0 := by simp at hi; exact hi
    subst hi0
    exact ⟨by unfold upd; rw [if_pos rfl], c1, c2⟩
  · unfold upd at hb'
    split at hb'
    · cases hb'
    · exact cs.HV b r hb'
section
variable {P : Program} {ops : Array Oper} {M : Nat → Bool} {Hb : Heap} {Vb : View}
/-- one operation that is no closing one: a call over rows, or a common step; a memory read comes first of all -/
def stepM (P : Program) (ops : Array Oper) (M : Nat → Bool) (Hb : Heap) (Vb : View) (o : Oper) (i : Nat) (K : XS → Prop) (s : XS) : Prop :=
  if M i = true then ∃ d f args ts ty pos af, o = ⟨d, .call ⟨.value (.func f), (List.toArray args : Array Operand), ts⟩, ty, pos, af, none⟩ ∧ callable P f = true ∧ (args.map s.ev).all SV.isV = true ∧
      ∃ R, MSem P f ((args.map s.ev).map SV.val) s.bx s.H s.V R ∧ ∀ v H' V', R v H' V' → (∀ b r, Hb b = some r → H' b = some r) ∧ Vb.le V' ∧ K ((⟨s.t, s.bx, H', V'⟩ : XS).put d (.v v))
  else (isRead o.op = true → isPure o.op = false → s.bx = [] ∧ s.H = Hb ∧ s.V = Vb) ∧ stepX P ops o K s
def seqM (P : Program) (ops : Array Oper) (M : Nat → Bool) (Hb : Heap) (Vb : View) : List Nat → (XS → Prop) → (XS → Prop) → XS → Prop
  | [], KM, _, s => KM s
  | i :: l, KM, KX, s => match ops.toList[i]? with
    | none => False
    | some o => if closes ops i = true then stepX P ops o (seqX P ops (pickOps ops.toList l) KX) s else stepM P ops M Hb Vb o i (seqM P ops M Hb Vb l KM KX) s
def treeM (P : Program) (ops : Array Oper) (M : Nat → Bool) (Hb : Heap) (Vb : View) : Ord → (XS → Prop) → XS → Prop
  | .nil, K, s => K s
  | .lin l t, K, s => seqM P ops M Hb Vb l (treeM P ops M Hb Vb t K) (treeX P ops t K) s
  | .two a b, K, s => treeM P ops M Hb Vb a K s ∧ treeM P ops M Hb Vb b K s
theorem treeM_cons {i : Nat} {o : Oper} (hi : ops.toList[i]? = some o) (t : Ord) (K : XS → Prop) (s : XS) :
    treeM P ops M Hb Vb (Ord.cons i t) K s = if closes ops i = true then stepX P ops o (treeX P ops t K) s else stepM P ops M Hb Vb o i (treeM P ops M Hb Vb t K) s := by
  cases t with
  | nil => simp only [Ord.cons, treeM, seqM, hi, pickOps]; rfl
  | lin l t =>
    simp only [Ord.cons, treeM, seqM, hi]
    have : treeX P ops (.lin l t) K = seqX P ops (pickOps ops.toList l) (treeX P ops t K) := by funext s; rw [treeX]
    rw [this]
  | two a b => simp only [Ord.cons, treeM, seqM, hi, pickOps]; rfl
theorem treeM_any {K : XS → Prop} {s : XS} : ∀ (l : List Ord), treeM P ops M Hb Vb (Ord.any l) K s → ∀ t ∈ l, treeM P ops M Hb Vb t K s
  | [], _, t, ht => by cases ht
  | [a], h, t, ht => by
    have : t = a := by simpa using ht
    subst this; exact h
  | a :: b :: r, h, t, ht => by
    simp only [Ord.any, treeM] at h
    rcases List.mem_cons.1 ht with rfl | ht
    · exact h.1
    · exact treeM_any (b :: r) h.2 t ht
theorem CW.nobl {Γ : Cx} {bl bl' : Nat → Nat} {H : Heap} {V : View} {w : World} (h : CW Γ bl [] H V w) : CW Γ bl' [] H V w := ⟨fun i vs hi => by simp at hi, h.row, h.view, h.below⟩
theorem treeM_draw {Γ : Cx} {Q : Exit → XS → Prop} (hV0 : Γ.V0.sub Γ.w0) (hsel : Region.noSelect ops = true) : ∀ (n : Nat) (listed : Array Bool) (t : Ord), autoTree ops n listed = some t →
    ∀ bl s a w, Conc Γ bl s a w → guardsIn ops s.t.length = true → (∀ x, CW Γ bl s.bx s.H s.V x → CW Γ bl [] Hb Vb x) → treeM P ops M Hb Vb t (fun s' => Q .normal s') s → wpG P ops (XQ Γ (onlyN Q)) n (fun x => CW Γ bl [] Hb Vb x) listed a w := by
  have hQ : ∀ (c : List PanicEntry) (a : Act) (w : World), ¬ (XQ Γ (onlyN Q)) (.panic c) a w := fun c a w ⟨_, _, _, h⟩ => h
  intro n
  induction n with
  | zero =>
    intro listed t ho bl s a w hc hg hS h
    unfold autoTree at ho
    split at ho
    · rename_i hr
      cases ho
      exact ⟨hr, bl, s, hc, h⟩
    · cases ho
  | succ n ih =>
    intro listed t ho bl s a w hc hg hS h
    have ho0 := ho
    unfold autoTree at ho
    have one : ∀ i r, i ∈ Region.ready .any ops listed → autoTree ops n (listed.setIfInBounds i true) = some r → treeM P ops M Hb Vb (Ord.cons i r) (fun s' => Q .normal s') s →
        wpOp P ops (XQ Γ (onlyN Q)) i (fun a' w' => if closes ops i = true then wpG P ops (XQ Γ (onlyN Q)) n (fun _ => True) (listed.setIfInBounds i true) a' w' else CW Γ bl [] Hb Vb w' ∧ wpG P ops (XQ Γ (onlyN Q)) n (fun x => CW Γ bl [] Hb Vb x) (listed.setIfInBounds i true) a' w') a w := by
      intro i r hmem ha h
      obtain ⟨_, oi, hoi, _⟩ := mem_ready.1 hmem
      have hoi' : ops.toList[i]? = some oi := by rw [Array.getElem?_toList]; exact hoi
      rw [treeM_cons hoi'] at h
      by_cases hcl : closes ops i = true
      · rw [if_pos hcl] at h
        simp only [if_pos hcl]
        refine wpOp_mono ?_ (wpOp_size hc.len (stepX_wp hoi (guardsIn_spec hg hoi) hc h _))
        rintro a' w' ⟨hsz, bl', s', hc', _, hk'⟩
        have hg' : guardsIn ops s'.t.length = true := by rw [← hc'.len, hsz]; exact hg
        exact wpG_mono (fun _ _ => trivial) n _ a' w' (treeX_draw hsel n _ _ ha bl' s' a' w' hc' hg' hk')
      rw [if_neg hcl] at h
      simp only [if_neg hcl]
      have ec : isStore oi.op = false := by
        simp only [closes, hoi, Option.map_some, Option.getD_some, Bool.or_eq_true, not_or, Bool.not_eq_true] at hcl; exact hcl.1
      unfold stepM at h
      by_cases hM : M i = true
      · rw [if_pos hM] at h
        obtain ⟨d, f, args, ts, ty, pos, af, rfl, hcb, hall, R, hspec, hK⟩ := h
        unfold wpOp
        simp only [hoi]
        rw [if_pos (by unfold Region.wanted; rfl)]
        refine .inl ?_
        have eargs : ((args.map s.ev).map SV.val).toArray = (args.toArray : Array Operand).map a.eval := by
          apply Array.ext'
          simp only [Array.toList_map, List.map_map]
          refine List.map_congr_left fun q hq => ?_
          rw [hc.ev]
          exact (val_conc (List.all_eq_true.1 hall _ (List.mem_map_of_mem hq))).symm
        have hrun : (execOp a.eval ⟨d, .call ⟨.value (.func f), args.toArray, ts⟩, ty, pos, af, none⟩).run P w = .ok (.enter f ((args.toArray : Array Operand).map a.eval)) w := by
          have ef : a.eval (.func f) = .func (.func f) #[] #[] := rfl
          unfold callable at hcb
          cases hf : P.funcs[f]? with
          | none => simp [hf] at hcb
          | some fn =>
            simp [hf] at hcb
            have hb : fn.body ≠ none := fun hn => by simp [hn] at hcb
            simp [execOp, resolve, ef, Deferred.ofValue, invoke, callFunc, hf, hcb.1, hb]
        unfold Oper.wp
        rw [hrun]
        show Calls P f ((args.toArray : Array Operand).map a.eval) w _
        rw [← eargs]
        refine (hspec Γ bl w hV0 hc.cw hc.cs).mono ?_
        rintro e w' ⟨v, H', V', rfl, cw, cs, ko, hR⟩
        dsimp only
        obtain ⟨k1, k2, k3⟩ := hK v H' V' hR
        have hput := Conc.put (Γ := Γ) (bl := bl) (s := ⟨s.t, s.bx, H', V'⟩) (a := a) (w := w') ⟨hc.tm, hc.df.keep ko, cw, cs, hc.ok⟩ d (.v v) trivial
        have hS' : ∀ x, CW Γ bl s.bx H' V' x → CW Γ bl [] Hb Vb x := fun x hx => ⟨fun i vs hi => by simp at hi, fun b r hb => hx.row b r (k1 b r hb), fun b o hb => hx.view b o (k2 b o hb), hx.below⟩
        refine ⟨hS' w' cw, ih _ _ ha bl _ _ w' hput (by rw [put_len]; exact hg) (fun x hx => hS' x ?_) k3⟩
        rw [XS.put_bx, XS.put_H, XS.put_V] at hx; exact hx
      · rw [if_neg hM] at h
        refine wpOp_mono ?_ (wpOp_size hc.len (stepX_wp hoi (guardsIn_spec hg hoi) hc h.2 _))
        rintro a' w' ⟨hsz, bl', s', hc', hS0, hk'⟩
        have hg' : guardsIn ops s'.t.length = true := by rw [← hc'.len, hsz]; exact hg
        refine ⟨hS w' (hS0 ec w' hc'.cw), ?_⟩
        have := ih _ _ ha bl' s' a' w' hc' hg' (fun x hx => (hS x (hS0 ec x hx)).nobl) hk'
        exact wpG_mono (fun x hx => CW.nobl hx) n _ a' w' this
    cases hr : Region.ready .any ops listed with
    | nil =>
      rw [hr] at ho; cases ho
      exact ⟨fun _ => ⟨bl, s, hc, h⟩, fun i hi => by rw [hr] at hi; cases hi⟩
    | cons i0 rs =>
      rw [hr] at ho
      dsimp only at ho
      cases hf : (i0 :: rs).find? (freeG ops listed) with
      | some i =>
        rw [hf] at ho
        dsimp only at ho
        cases ha : autoTree ops n (listed.setIfInBounds i true) with
        | none => rw [ha] at ho; cases ho
        | some rest =>
          rw [ha] at ho; cases ho
          have hmem : i ∈ Region.ready .any ops listed := by rw [hr]; exact List.mem_of_find?_eq_some hf
          have hfree : freeG ops listed i = true := List.find?_some hf
          obtain ⟨_, oi, hoi, _⟩ := mem_ready.1 hmem
          obtain ⟨hrd, W, hW, hap⟩ := freeG_spec hoi hfree
          have hoi' : ops.toList[i]? = some oi := by rw [Array.getElem?_toList]; exact hoi
          rw [treeM_cons hoi'] at h
          by_cases hcl : closes ops i = true
          · rw [if_pos hcl] at h
            rw [← treeX_cons hoi'] at h
            exact wpG_mono (fun x hx => hS x hx) (n + 1) _ a w (treeX_draw hsel (n + 1) listed _ ho0 bl s a w hc hg h)
          rw [if_neg hcl] at h
          unfold stepM at h
          by_cases hM : M i = true
          · rw [if_pos hM] at h
            obtain ⟨d, f, args, ts, ty, pos, af, rfl, _⟩ := h
            exact absurd hrd (by simp [isRead])
          rw [if_neg hM] at h
          obtain ⟨hbase, h⟩ := h
          have hgw := gate_wanted (ops := ops) hc.tm oi (guardsIn_spec hg hoi)
          have hyk : ∃ sv, sv.ok s.bx.length ∧ YieldsIf P ops (fun x => isPure oi.op = true ∨ CW Γ bl [] Hb Vb x) oi (sv.conc bl) a ∧ treeM P ops M Hb Vb rest (fun s' => Q .normal s') (s.put oi.dst sv) := by
            have body : opX P oi (treeM P ops M Hb Vb rest fun s' => Q .normal s') s → Region.wanted oi (yielded ops a.tmps) = true → ∃ sv : SV, sv.ok s.bx.length ∧ YieldsIf P ops (fun x => isPure oi.op = true ∨ CW Γ bl [] Hb Vb x) oi (sv.conc bl) a ∧ treeM P ops M Hb Vb rest (fun s' => Q .normal s') (s.put oi.dst sv) := fun h hw => by
              unfold opX at h
              rw [if_pos hrd] at h
              cases hp : isPure oi.op with
              | true =>
                obtain ⟨sv, ⟨h1, h2⟩, h3⟩ := readX_pure hp hc.ok h
                exact ⟨sv, h1, .inl ⟨hw, fun w' _ => h2 bl a w' hc.tm⟩, h3⟩
              | false =>
                obtain ⟨g1, g2, g3⟩ := hbase hrd hp
                obtain ⟨sv, ⟨h1, h2⟩, h3⟩ := readX_sound hc.ok h
                refine ⟨sv, h1, .inl ⟨hw, fun w' hw' => h2 Γ bl a w' hc.tm ?_⟩, h3⟩
                rw [g1, g2, g3]
                exact hw'.resolve_left (by simp)
            unfold stepX at h
            cases hgd : oi.guard with
            | none =>
              rw [hgd] at h hgw
              exact body h (by rw [hgw]; rfl)
            | some q =>
              rw [hgd] at h hgw
              dsimp only at h
              split at h
              · rename_i hw; exact body h (by rw [hgw]; exact hw)
              · rename_i hw
                exact ⟨.v undef, trivial, .inr ⟨by rw [hgw]; simpa using hw, rfl⟩, h⟩
          obtain ⟨sv, hok, hy, hk⟩ := hyk
          have := ih _ _ ha bl (s.put oi.dst sv) (a.put oi.dst (sv.conc bl)) w (hc.put oi.dst sv hok) (by rw [put_len]; exact hg) (by rw [XS.put_bx, XS.put_H, XS.put_V]; exact hS) hk
          exact wpG_take W (isPure oi.op) hoi hsel (fun c a' w' h => absurd h (hQ c _ w')) n _ listed a w hW hap hmem hy (hS w hc.cw) this
      | none =>
        rw [hf] at ho
        dsimp only at ho
        refine ⟨fun h0 => (by rw [hr] at h0; cases h0), fun i hi => ?_⟩
        cases hm : (i0 :: rs).mapM (fun i => (autoTree ops n (listed.setIfInBounds i true)).map (Ord.cons i)) with
        | none => rw [hm] at ho; cases ho
        | some ts =>
          rw [hm] at ho; cases ho
          obtain ⟨y, h1, h2⟩ := mapM_mem hm i (by rw [← hr]; exact hi)
          cases ha : autoTree ops n (listed.setIfInBounds i true) with
          | none => rw [ha] at h1; cases h1
          | some r =>
            rw [ha] at h1; cases h1
            exact one i r hi ha (treeM_any ts h _ h2)
/-- A region that draws its order, with calls over the caller's rows. -/
theorem XWP.drawM {Γ : Cx} {id : Nat} {Q : Exit → XS → Prop} {s : XS} (t : Ord) (M : Nat → Bool) (hΓ : Γ.Plain) (hm : P.follows .mixedOrders = true) (ho : treeOf ops = some t) (hg : guardsIn ops s.t.length = true) (hbx : s.bx = [])
    (h : treeM P ops M s.H s.V t (fun s' => Q .normal s') s) : XWP Γ P (.region id ops true) Q s := by
  intro bl a w hc
  unfold treeOf at ho
  split at ho
  · rename_i hsel
    have hd : Conc Γ bl s a { w with drawn := w.drawn + 1 } := hc.drew
    have := treeM_draw (Γ := Γ) (Q := Q) hΓ.2 hsel _ _ _ ho bl s a _ hd hg (fun x hx => by rw [hbx] at hx; exact hx) h
    have hnd : noDefer ops = true := by unfold guardsIn at hg; rw [Bool.and_eq_true] at hg; exact hg.1
    exact wpIn_mono (wpIn_region_any hm (wpAny_in onlyN_out hnd _ _ _ _ (wpG_any _ _ _ _ _ this))) (onlyN_all (Q := Q))
  · cases ho
theorem treeM_two {a b : Ord} {K : XS → Prop} {s : XS} (h1 : treeM P ops M Hb Vb a K s) (h2 : treeM P ops M Hb Vb b K s) : treeM P ops M Hb Vb (.two a b) K s := ⟨h1, h2⟩
theorem treeM_lin {l : List Nat} {t : Ord} {K : XS → Prop} {s : XS} (h : seqM P ops M Hb Vb l (treeM P ops M Hb Vb t K) (treeX P ops t K) s) : treeM P ops M Hb Vb (.lin l t) K s := h
theorem seqM_nil {KM KX : XS → Prop} {s : XS} (h : KM s) : seqM P ops M Hb Vb [] KM KX s := h
/-- a common step that reads no memory -/
theorem seqM_x {i : Nat} {l : List Nat} {o : Oper} {KM KX : XS → Prop} {s : XS} (ho : ops.toList[i]? = some o) (hc : closes ops i = false) (hM : M i = false) (hr : (isRead o.op && !isPure o.op) = false) (h : seqX P ops [o] (seqM P ops M Hb Vb l KM KX) s) : seqM P ops M Hb Vb (i :: l) KM KX s := by
  unfold seqM
  simp only [ho, hc]
  rw [if_neg (by simp)]
  unfold stepM
  rw [if_neg (by rw [hM]; simp)]
  exact ⟨fun h1 h2 => absurd hr (by rw [h1, h2]; decide), h⟩
/-- a memory read, at the start -/
theorem seqM_l {i : Nat} {l : List Nat} {o : Oper} {KM KX : XS → Prop} {s : XS} (ho : ops.toList[i]? = some o) (hc : closes ops i = false) (hM : M i = false) (hb : s.bx = [] ∧ s.H = Hb ∧ s.V = Vb) (h : seqX P ops [o] (seqM P ops M Hb Vb l KM KX) s) : seqM P ops M Hb Vb (i :: l) KM KX s := by
  unfold seqM
  simp only [ho, hc]
  rw [if_neg (by simp)]
  unfold stepM
  rw [if_neg (by rw [hM]; simp)]
  exact ⟨fun _ _ => hb, h⟩
/-- a closing step -/
theorem seqM_c {i : Nat} {l : List Nat} {o : Oper} {KM KX : XS → Prop} {s : XS} (ho : ops.toList[i]? = some o) (hc : closes ops i = true) (h : seqX P ops (o :: pickOps ops.toList l) KX s) : seqM P ops M Hb Vb (i :: l) KM KX s := by
  unfold seqM
  simp only [ho, hc]
  rw [if_pos trivial]
  exact h
/-- a call over rows -/
theorem seqM_m {i : Nat} {l : List Nat} {KM KX : XS → Prop} {s : XS} {d : Option Tmp} {f : FuncId} {args : List Operand} {ts : Array TypeId} {ty pos af} {R : Value → Heap → View → Prop} (ho : ops.toList[i]? = some ⟨d, .call ⟨.value (.func f), (List.toArray args : Array Operand), ts⟩, ty, pos, af, none⟩) (hc : closes ops i = false) (hM : M i = true) (hcl : callable P f = true) (hv : (args.map s.ev).all SV.isV = true)
    (hs : MSem P f ((args.map s.ev).map SV.val) s.bx s.H s.V R) (h : ∀ v H' V', R v H' V' → (∀ b r, Hb b = some r → H' b = some r) ∧ Vb.le V' ∧ seqM P ops M Hb Vb l KM KX ((⟨s.t, s.bx, H', V'⟩ : XS).put d (.v v))) : seqM P ops M Hb Vb (i :: l) KM KX s := by
  unfold seqM
  simp only [ho, hc]
  rw [if_neg (by simp)]
  unfold stepM
  rw [if_pos hM]
  exact ⟨d, f, args, ts, ty, pos, af, rfl, hcl, hv, R, hs, h⟩
end
end Go.Proofs.YthoboehbadmlmaaGreat
end
section
namespace Go.Proofs.YthoboehbadmlmaaGreat
open Go Go.RowKit
set_option linter.unusedSimpArgs false
set_option linter.unusedVariables false
attribute [local irreducible] XWP Spec SpecO XPub XCall seqX clX apX stX ldX iaX slX
theorem GridAt.leave {H : Heap} {V : View} {g n cap c : Nat} {G : Grid} {av : List Nat} {b : Nat} {x : Option Row} (h : GridAt H V (.slice (some ⟨g, 0, none⟩) n cap) n c G av) (hg : g ≠ b) (hb : b ∈ av) : GridAt (upd H b x) V (.slice (some ⟨g, 0, none⟩) n cap) n c G av := by
  obtain ⟨cells, ⟨ho1, ho2⟩, hc⟩ := h
  refine ⟨cells, ⟨ho1, ?_⟩, hc.len, fun i v hv => ?_, hc.inj⟩
  · rcases ho2 with ⟨e, _⟩ | ⟨g', cap', e, h1, h2⟩
    · cases e
    · cases e; exact .inr ⟨g, cap, rfl, (upd_off hg).trans h1, h2⟩
  · obtain ⟨b', c', cs, e1, e2, e3, e4, e5, e6⟩ := hc.row i v hv
    exact ⟨b', c', cs, e1, (upd_off (fun e => e6 (by rw [e]; exact hb))).trans e2, e3, e4, e5, e6⟩
theorem GridAt.more {H : Heap} {V : View} {g n cap c : Nat} {G : Grid} {av : List Nat} {b : Nat} {x : Option Row} (h : GridAt H V (.slice (some ⟨g, 0, none⟩) n cap) n c G av) (hn : H b = none) : GridAt (upd H b x) V (.slice (some ⟨g, 0, none⟩) n cap) n c G (b :: av) ∧ g ≠ b := by
  obtain ⟨cells, ⟨ho1, ho2⟩, hc⟩ := h
  have hgb : g ≠ b := by
    rcases ho2 with ⟨e, _⟩ | ⟨g', cap', e, h1, h2⟩
    · cases e
    · cases e; exact fun e => by rw [e, hn] at h1; cases h1
  refine ⟨⟨cells, ⟨ho1, ?_⟩, hc.len, fun i v hv => ?_, hc.inj⟩, hgb⟩
  · rcases ho2 with ⟨e, _⟩ | ⟨g', cap', e, h1, h2⟩
    · cases e
    · cases e; exact .inr ⟨g, cap, rfl, (upd_off hgb).trans h1, h2⟩
  · obtain ⟨b', c', cs, e1, e2, e3, e4, e5, e6⟩ := hc.row i v hv
    have hbb : b' ≠ b := fun e => by rw [e, hn] at e2; cases e2
    exact ⟨b', c', cs, e1, (upd_off hbb).trans e2, e3, e4, e5, fun e => by
      rcases List.mem_cons.1 e with e | e
      · exact hbb e
      · exact e6 e⟩
theorem GridAt.less {H : Heap} {V : View} {w : Value} {n c : Nat} {G : Grid} {av av' : List Nat} (h : GridAt H V w n c G av) (hs : ∀ b, b ∈ av' → b ∈ av) : GridAt H V w n c G av' := by
  obtain ⟨cells, ho, hc⟩ := h
  refine ⟨cells, ho, hc.len, fun i v hv => ?_, hc.inj⟩
  obtain ⟨b', c', cs, e1, e2, e3, e4, e5, e6⟩ := hc.row i v hv
  exact ⟨b', c', cs, e1, e2, e3, e4, e5, fun e => e6 (hs _ e)⟩
/-- what rows gives -/
def RowsR (H : Heap) (V : View) (n : Nat) (G : Grid) (v' : Value) (H' : Heap) (V' : View) : Prop :=
  V' = V ∧ (∀ k r, H k = some r → H' k = some r) ∧ ∃ g, v' = .slice (some ⟨g, 0, none⟩) n n ∧ ∀ av, (∀ b, b ∈ av → ∃ r, H b = some r) → GridAt H' V v' n n G av ∧ g ∉ av
theorem drows_r (H : Heap) (V : View) (s : Value) (n : Nat) (G : Grid) (h : Rats V s (flatG G n n)) (hn : n ≤ 60) : MSpec Tryz.prog 57 [.agg #[.int .i64 (n : Int), .int .i64 (n : Int), s]] H V (RowsR H V n G) := by
  refine (drows_m H V s n n _ h (flatG_len G n n) hn (fun h => h) hn).mono ?_
  rintro v H' V' ⟨rfl, kp, g, cells, rfl, g0, g1, rw, fr⟩
  refine ⟨rfl, kp, g, rfl, fun av hav => ⟨?_, fun hg => ?_⟩⟩
  · refine (rw.grid (av := av) (cap := n) (by rw [Nat.mul_one]; exact g1) (Nat.le_refl _) (by unfold maxLen; omega) fun i b m' c' hi hc hb => ?_).congr fun i j hi hj => ?_
    · obtain ⟨r, hr⟩ := hav b hb
      rw [fr i hi b m' c' hc] at hr; cases hr
    · exact flatG_at G hi hj
  · obtain ⟨r, hr⟩ := hav g hg
    rw [g0] at hr; cases hr
theorem drows_b (vs : List Value) (H : Heap) (V : View) (s : Value) (n : Nat) (G : Grid) (h : Rats V s (flatG G n n)) (hn : n ≤ 60) : MSem Tryz.prog 57 [.agg #[.int .i64 (n : Int), .int .i64 (n : Int), s]] [vs] H V (RowsR H V n G) := by
  refine MSem.box fun b e hb hVb => (drows_r _ V s n G h hn).mono ?_
  rintro v H' V' ⟨rfl, kp, g, rfl, hg⟩
  have kb : H' b = some ⟨e, vs, vs.length⟩ := kp b _ (upd_at _ _ _)
  refine ⟨kb, rfl, fun k r hk => ?_, g, rfl, fun av hav => ?_⟩
  · have hkb : k ≠ b := new_ne hb hk
    exact (upd_off hkb).trans (kp k r ((upd_off hkb).trans hk))
  · obtain ⟨k1, k2⟩ := hg (b :: av) fun b' hb' => by
      by_cases e2 : b' = b
      · subst e2; exact ⟨_, upd_at _ _ _⟩
      · rcases List.mem_cons.1 hb' with e3 | e3
        · exact absurd e3 e2
        · obtain ⟨r, hr⟩ := hav b' e3
          exact ⟨r, (upd_off e2).trans hr⟩
    exact ⟨(k1.leave (fun e => k2 (by rw [e]; simp)) (by simp)).less fun b' h => by simp [h], fun h => k2 (by simp [h])⟩
/-- what cleared gives -/
def DetR (H : Heap) (V : View) (n B : Nat) (av : List Nat) (G : Grid) (v' : Value) (H' : Heap) (V' : View) : Prop :=
  V.le V' ∧ (∀ b, b ∈ av → H' b = H b) ∧ ∃ u dm dx dy, v' = .tuple #[u, .agg #[.bool dm, dx, dy]] ∧ isOne u = true ∧ isOne dx = true ∧ isOne dy = true ∧ RatC V' (.agg #[.bool dm, dx, dy]) (detL n G) ∧ QB (n * ge B (n + 1) + 1) (detL n G)
theorem ddet_r (H : Heap) (V : View) (g cap n B : Nat) (av : List Nat) (G : Grid) (hgrid : GridAt H V (.slice (some ⟨g, 0, none⟩) n cap) n n G av) (hgv : g ∉ av) (hav : ∀ b, b ∈ av → ∃ r, H b = some r) (hn : n ≤ 60) (hq : ∀ i j, i < n → j < n → QB B (G i j)) (hfit : (n + 1) * ge B (n + 1) ≤ 17592186044416) :
    MSpec Tryz.prog 56 [.slice (some ⟨g, 0, none⟩) n cap, .int .i64 (n : Int)] H V (DetR H V n B av G) := by
  refine (ddet_m H V g cap n B av G hgrid hgv hav hn hq hfit).mono ?_
  rintro v H' V' ⟨h1, u, dm, dx, dy, h2, h3, h4, h5, h6, h7, h8⟩
  exact ⟨h1, h8, u, dm, dx, dy, h2, h3, h4, h5, h6, h7⟩
theorem ddet_b (vs : List Value) (H : Heap) (V : View) (g cap n B : Nat) (av : List Nat) (G : Grid) (hgrid : GridAt H V (.slice (some ⟨g, 0, none⟩) n cap) n n G av) (hgv : g ∉ av) (hav : ∀ b, b ∈ av → ∃ r, H b = some r) (hn : n ≤ 60) (hq : ∀ i j, i < n → j < n → QB B (G i j)) (hfit : (n + 1) * ge B (n + 1) ≤ 17592186044416) :
    MSem Tryz.prog 56 [.slice (some ⟨g, 0, none⟩) n cap, .int .i64 (n : Int)] [vs] H V (DetR H V n B av G) := by
  refine MSem.box fun b e hb hVb => ?_
  obtain ⟨k1, k2⟩ := hgrid.more (x := some ⟨e, vs, vs.length⟩) hb
  have hnb : ∀ b', b' ∈ av → b' ≠ b := fun b' hb' e => by
    obtain ⟨r, hr⟩ := hav b' hb'
    rw [e, hb] at hr; cases hr
  refine (ddet_r _ V g cap n B (b :: av) G k1 (fun h => by
    rcases List.mem_cons.1 h with h | h
    · exact k2 h
    · exact hgv h) (fun b' hb' => ?_) hn hq hfit).mono ?_
  · by_cases e2 : b' = b
    · subst e2; exact ⟨_, upd_at _ _ _⟩
    · rcases List.mem_cons.1 hb' with e3 | e3
      · exact absurd e3 e2
      · obtain ⟨r, hr⟩ := hav b' e3
        exact ⟨r, (upd_off e2).trans hr⟩
  · rintro v H' V' ⟨h1, h2, h3⟩
    exact ⟨(h2 b (by simp)).trans (upd_at _ _ _), h1, fun b' hb' => (upd_off (hnb b' hb')).trans ((h2 b' (by simp [hb'])).trans (upd_off (hnb b' hb'))), h3⟩
end Go.Proofs.YthoboehbadmlmaaGreat
end
