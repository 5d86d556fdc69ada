/- The law BalanceFalls (one move does not increase the distance of two distributions, and the distance is a metric) answers true at every three lists of fractions and every matrix: no premise. (part 11 of 11) -/
import Derived.OrdersHeld
import Derived.Below
import Derived.Tactics
import Derived.KernelRfl
import Derived.RangeFuncCalls
import Derived.RangeFuncFrom
import Derived.RangeFuncLeaves
import Derived.OrdersIn
import Derived.Laws.AppendOwn
import Derived.Laws.MakeOwn
import Derived.Laws.CopyRow
import Derived.Laws.Cells
import Derived.Laws.World
import Derived.Laws.Alloc2
import Derived.Laws.NewBlocks
import Derived.Maps.AppendAt
import Derived.Test.YtkgmicakfmllmaaGreatProg
import Init.Data.List.Lemmas
import Init.Omega
import Derived.WalkKit
import Derived.ProofKit
import Derived.OpenShut
import Derived.ChangeOld
import Derived.SizedLaws
import Derived.ChangeSlices
import Derived.ChangeArms
import Derived.Deep.Slices
import Derived.Test.YtkgmicakfmllmaaGreatRows
import Derived.ShutString
import Derived.Test.YtkgmicakfmllmaaGreatFL10
section
namespace Go.Proofs.YtkgmicakfmllmaaGreat
open Go Go.RowKit
set_option linter.unusedSimpArgs false
set_option linter.unusedVariables false
attribute [local irreducible] XWP Spec SpecO XPub XCall seqX clX apX stX ldX iaX slX
theorem elemT_arr3 : elemT Tryz.prog 59 = none := by kernel_rfl
theorem arrO_arr3 : arrO Tryz.prog 59 = some (3, 1) := by kernel_rfl
theorem lawOk_law {L M : List Raw} {r c : Int} (h : lawOk L r c M = true) : lawB L = true := by
  unfold lawOk at h
  simp only [Bool.and_eq_true, decide_eq_true_eq] at h
  exact h.1.1.2
theorem sgI_le {p q : Rat} (h : p ≤ q) : decide (sgI (p - q) ≤ 0) = true := by
  rw [decide_eq_true_eq]
  unfold sgI
  split
  · omega
  · rename_i h0
    have : ng (p - q) = true := by
      cases e : ng (p - q)
      · have := (ng_iff _).1 e
        exfalso
        apply h0
        grind
      · rfl
    rw [this]; simp
/-- what BalanceFalls says of numbers -/
structure FallP (L0 L1 M x y : List Rat) (n : Nat) : Prop where
  lx : x.length = n
  ly : y.length = n
  fall : tvF (cf x) (cf y) n ≤ tvF (cf L0) (cf L1) n
  bx : lawB (x.map toRaw) = true
  by_ : lawB (y.map toRaw) = true
theorem fallP_of {a b m : List Rat} {n : Nat} (hS : StoG (gridL m n) n) (na : ∀ i, i < n → 0 ≤ cf a i) (nb : ∀ i, i < n → 0 ≤ cf b i) (oa : Sm (cf a) n = 1) (ob : Sm (cf b) n = 1) : FallP a b m (stepL a m n) (stepL b m n) n := by
  have ex : ∀ (l : List Rat) i, i < n → cf (stepL l m n) i = stepF (cf l) (gridL m n) n i := fun l i hi => stepL_at hi
  refine ⟨stepL_len _ _ _, stepL_len _ _ _, ?_, ?_, ?_⟩
  · have e : tvF (cf (stepL a m n)) (cf (stepL b m n)) n = tvF (stepF (cf a) (gridL m n) n) (stepF (cf b) (gridL m n) n) n := Sm_congr n fun i hi => by rw [ex a i hi, ex b i hi]
    rw [e]
    exact tv_falls hS
  · refine lawB_raw (stepL_len _ _ _) (fun i hi => by rw [ex a i hi]; exact step_nn hS na i hi) ?_
    rw [Sm_congr n (g := stepF (cf a) (gridL m n) n) fun i hi => ex a i hi, step_sum hS, oa]
  · refine lawB_raw (stepL_len _ _ _) (fun i hi => by rw [ex b i hi]; exact step_nn hS nb i hi) ?_
    rw [Sm_congr n (g := stepF (cf b) (gridL m n) n) fun i hi => ex b i hi, step_sum hS, ob]
theorem cf_eq_iff {a b : List Rat} {n : Nat} (la : a.length = n) (lb : b.length = n) : a = b ↔ ∀ i, i < n → cf a i = cf b i := by
  constructor
  · intro h i _; rw [h]
  · intro h
    refine List.ext_getElem (by omega) fun i h1 h2 => ?_
    rw [cf_get h1, cf_get h2]
    exact h i (by omega)
set_option maxHeartbeats 4000000 in
theorem falls34_c (V : View) (s0 s1 s2 s : Value) (r c : Int) (L0 L1 L2 M : List Raw) (h0 : Raws V s0 L0) (h1 : Raws V s1 L1) (h2 : Raws V s2 L2) (hs : Raws V s M) : Spec Tryz.prog 5 [.agg #[s0, s1, s2], .agg #[.int .i64 r, .int .i64 c, s]] V fun v' V' => v' = .bool true := by
  obtain ⟨A0, c0, rfl, _, _⟩ := h0.form
  obtain ⟨A1, c1, rfl, _, _⟩ := h1.form
  obtain ⟨A2, c2, rfl, _, _⟩ := h2.form
  obtain ⟨A3, c3, rfl, _, _⟩ := hs.form
  refine (Spec.enter Tryz.func5 rfl fun Γ => ?_)
  simp only [Tryz.ntmps5, List.map_cons, List.map_nil, List.length_cons, List.length_nil, Nat.reduceAdd, Nat.reduceSub, List.replicate_succ, List.replicate_zero, List.cons_append, List.nil_append]
  refine Gx.a (by kernel_rfl) fun K hK => ?_
  simp only [XA]
  refine hK _ ?_
  (refine XWP.drw [0, 1, 2, 3, 4, 5, 6, 7, 8] (by kernel_rfl) (by kernel_rfl) (by kernel_rfl) fun K hK => ?_) <;> dsimp only [pickOps, List.getElem?_cons_zero, List.getElem?_cons_succ]
  simp only [XA, XB, Int.reduceToNat, Int.reduceLE, elemT_arr3, arrO_arr3, shapeO_none, ia_arr]
  refine ⟨by omega, by omega, by omega, ?_⟩
  refine hK _ ?_
  refine XWP.seq ?_
  refine Gx.a (by kernel_rfl) fun K hK => ?_
  simp only [XM, XA, Nat.reduceAdd, Nat.reduceLeDiff, ↓reduceIte]
  refine call_go (by kernel_rfl) rfl (law34_c _ _ _ r c L0 M h0 hs) fun v1 V1 hV1 k1 => ?_
  subst k1
  have h1 := h1.up hV1
  have hs1 := hs.up hV1
  cases e0 : lawOk L0 r c M
  · simp only [XA, gateX, ↓reduceIte]
    refine hK _ ?_
    refine Gx.t rfl ?_
    refine Gx.a (by kernel_rfl) fun K hK => ?_
    simp only [XA]
    refine hK _ (XWP.ret ?_)
    try simp only [thenX_ret, inBlockX_ret]
    refine ret_go _ rfl ?_
    rfl
  simp only [XM, XA, gateX, Nat.reduceAdd, Nat.reduceLeDiff, ↓reduceIte, beq_self_eq_true]
  refine call_go (by kernel_rfl) rfl (law34_c _ _ _ r c L1 M h1 hs1) fun v2 V2 hV2 k2 => ?_
  subst k2
  have hle2 := View.le_trans hV1 hV2
  have h2 := h2.up hle2
  have hs2 := hs1.up hV2
  cases e1 : lawOk L1 r c M
  · simp only [XA, gateX, ↓reduceIte, beq_self_eq_true]
    refine hK _ ?_
    refine Gx.t rfl ?_
    refine Gx.a (by kernel_rfl) fun K hK => ?_
    simp only [XA]
    refine hK _ (XWP.ret ?_)
    try simp only [thenX_ret, inBlockX_ret]
    refine ret_go _ rfl ?_
    rfl
  simp only [XM, XA, gateX, Nat.reduceAdd, Nat.reduceLeDiff, ↓reduceIte, beq_self_eq_true]
  refine call_go (by kernel_rfl) rfl (law34_c _ _ _ r c L2 M h2 hs2) fun v3 V3 hV3 k3 => ?_
  subst k3
  cases e2 : lawOk L2 r c M
  · simp only [XA, gateX, ↓reduceIte, beq_self_eq_true]
    refine hK _ ?_
    refine Gx.t rfl ?_
    refine Gx.a (by kernel_rfl) fun K hK => ?_
    simp only [XA]
    refine hK _ (XWP.ret ?_)
    try simp only [thenX_ret, inBlockX_ret]
    refine ret_go _ rfl ?_
    rfl
  simp only [XA, gateX, ↓reduceIte, beq_self_eq_true]
  refine hK _ ?_
  refine Gx.f rfl ?_
  refine XWP.skip ?_
  have hle3 := View.le_trans hle2 hV3
  obtain ⟨f0, fM, g0⟩ := lawOk_fit e0
  obtain ⟨f1, _, g1⟩ := lawOk_fit e1
  obtain ⟨f2, _, g2⟩ := lawOk_fit e2
  have b0 := lawOk_law e0
  have b1 := lawOk_law e1
  have b2 := lawOk_law e2
  have m0 := LM.of (h0.up hle3) (hs2.up hV3) f0 fM
  have m1 := LM.of (h1.up (View.le_trans hV2 hV3)) (hs2.up hV3) f1 fM
  have m2 := LM.of (h2.up hV3) (hs2.up hV3) f2 fM
  obtain ⟨n, p0⟩ := fitE_parts g0
  obtain ⟨n1, p1⟩ := fitE_parts g1
  obtain ⟨n2, p2⟩ := fitE_parts g2
  have en1 : n1 = n := by have := p0.er; have := p1.er; omega
  have en2 : n2 = n := by have := p0.er; have := p2.er; omega
  subst en1
  subst en2
  have hn8 : n2 ≤ 8 := by have := (fineB_few fM).1; have := p0.er; omega
  have fp := fallP_of p0.sto p0.nn p1.nn p0.one p1.one
  have l0 := p0.lL
  have l1 := p1.lL
  have l2 := p2.lL
  have q0 : (qs L0).length = n2 := by rw [qs_len]; exact l0
  have q1 : (qs L1).length = n2 := by rw [qs_len]; exact l1
  have q2 : (qs L2).length = n2 := by rw [qs_len]; exact l2
  have qM : (qs M).length = n2 * n2 := by rw [qs_len]; exact p0.lM
  clear h0 h1 h2 hs hs1 hs2
  refine Gx.a (by kernel_rfl) fun K hK => ?_
  simp only [XM, XA, Nat.reduceAdd, Nat.reduceLeDiff, ↓reduceIte]
  refine call_go (by kernel_rfl) rfl (bStep_c _ _ _ r c L0 M 96 m0) fun v4 V4 hV4 k4 => ?_
  obtain ⟨w4, rfl, x4⟩ := k4.all
  rw [g0]
  have ex : stL L0 r c M = stepL (qs L0) (qs M) n2 := by unfold stL; rw [if_pos g0, l0]
  have ey : stL L1 r c M = stepL (qs L1) (qs M) n2 := by unfold stL; rw [if_pos g1, l1]
  rw [ex] at x4
  obtain ⟨A4, c4, rfl, _, _⟩ := x4.form
  simp only [XA]
  refine hK _ ?_
  refine Gx.a (by kernel_rfl) fun K hK => ?_
  simp only [XM, XA, Nat.reduceAdd, Nat.reduceLeDiff, ↓reduceIte]
  refine call_go (by kernel_rfl) rfl (bStep_c _ _ _ r c L1 M 96 (m1.up hV4)) fun v5 V5 hV5 k5 => ?_
  obtain ⟨w5, rfl, x5⟩ := k5.all
  rw [g1]
  rw [ey] at x5
  obtain ⟨A5, c5, rfl, _, _⟩ := x5.form
  simp only [XA]
  refine hK _ ?_
  have qx : ∀ x ∈ stepL (qs L0) (qs M) n2, QB 1544 x := fun x hx => (stepL_QB m0.qL m0.qM q0 qM x hx).mono (Nat.le_trans (Nat.mul_le_mul_right _ hn8) (by decide))
  have qy : ∀ x ∈ stepL (qs L1) (qs M) n2, QB 1544 x := fun x hx => (stepL_QB m1.qL m1.qM q1 qM x hx).mono (Nat.le_trans (Nat.mul_le_mul_right _ hn8) (by decide))
  have lx := fp.lx
  have ly := fp.ly
  generalize stepL (qs L0) (qs M) n2 = x at *
  generalize stepL (qs L1) (qs M) n2 = y at *
  have hle5 := View.le_trans hV4 hV5
  have m0 := m0.up hle5
  have m1 := m1.up hle5
  have m2 := m2.up hle5
  have x4 := x4.up hV5
  -- the distances
  have hT : ∀ (L K : List Raw) B, L.length = n2 → K.length = n2 → (∀ x ∈ qs L, QB B x) → (∀ x ∈ qs K, QB B x) → B ≤ 1544 → QF (tvF (cf (qs L)) (cf (qs K)) n2) := fun L K B a b qa qb hB => (tv_QB (n := n2) qa qb (by rw [qs_len]; omega) (by rw [qs_len]; omega) n2 (Nat.le_refl _)).qf (Nat.le_trans (Nat.mul_le_mul hn8 (show 2 * B + 2 ≤ 3090 by omega)) (by decide))
  have t01 := hT L0 L1 96 l0 l1 m0.qL m1.qL (by omega)
  have t10 := hT L1 L0 96 l1 l0 m1.qL m0.qL (by omega)
  have t02 := hT L0 L2 96 l0 l2 m0.qL m2.qL (by omega)
  have t21 := hT L2 L1 96 l2 l1 m2.qL m1.qL (by omega)
  have txy := hT (x.map toRaw) (y.map toRaw) 1544 (by rw [List.length_map]; exact lx) (by rw [List.length_map]; exact ly) (by rw [qs_toRaw]; exact qx) (by rw [qs_toRaw]; exact qy) (by omega)
  rw [qs_toRaw, qs_toRaw] at txy
  refine Gx.a (by kernel_rfl) fun K hK => ?_
  simp only [XA]
  refine call_go (by kernel_rfl) rfl (bapart_c _ _ _ L0 L1 96 m0.hv m1.hv m0.fL m1.fL m0.lL m1.lL m0.qL m1.qL (by omega)) fun v6 V6 hV6 k6 => ?_
  obtain ⟨w6, rfl, d6⟩ := k6.2.2 (by rw [b0, b1]; rfl) (by omega)
  rw [l0] at d6
  obtain ⟨x6, y6, rfl, o6, u6⟩ := d6.form
  simp only [XA, XB, Nat.reduceAdd]
  refine st_rat rfl rfl rfl o6 u6 ?_
  simp only [XA]
  refine hK _ ?_
  refine Gx.a (by kernel_rfl) fun K hK => ?_
  simp only [XA]
  refine call_go (by kernel_rfl) rfl (bapart_c _ _ _ (x.map toRaw) (y.map toRaw) 1544 (Rats.raws (x4.up hV6)) (Rats.raws (x5.up hV6)) (fitR_toRaw fun z hz => (qx z hz).qf (by omega)) (fitR_toRaw fun z hz => (qy z hz).qf (by omega)) (by rw [List.length_map]; omega) (by rw [List.length_map]; omega) (by rw [qs_toRaw]; exact qx) (by rw [qs_toRaw]; exact qy) (by omega)) fun v7 V7 hV7 k7 => ?_
  obtain ⟨w7, rfl, d7⟩ := k7.2.2 (by rw [fp.bx, fp.by_]; rfl) (by rw [List.length_map, List.length_map]; omega)
  rw [List.length_map, lx, qs_toRaw, qs_toRaw] at d7
  obtain ⟨x7, y7, rfl, o7, u7⟩ := d7.form
  simp only [XA, XB, Nat.reduceAdd]
  refine st_rat rfl rfl rfl o7 u7 ?_
  simp only [XA]
  refine hK _ ?_
  have hle7 := View.le_trans hV6 hV7
  have m0 := m0.up hle7
  have m1 := m1.up hle7
  have m2 := m2.up hle7
  refine Gx.a (by kernel_rfl) fun K hK => ?_
  simp only [XA]
  refine call_go (by kernel_rfl) rfl (bapart_c _ _ _ L1 L0 96 m1.hv m0.hv m1.fL m0.fL m1.lL m0.lL m1.qL m0.qL (by omega)) fun v8 V8 hV8 k8 => ?_
  obtain ⟨w8, rfl, d8⟩ := k8.2.2 (by rw [b0, b1]; rfl) (by omega)
  rw [l1] at d8
  obtain ⟨x8, y8, rfl, o8, u8⟩ := d8.form
  simp only [XA, XB, Nat.reduceAdd]
  refine st_rat rfl rfl rfl o8 u8 ?_
  simp only [XA]
  refine hK _ ?_
  have m0 := m0.up hV8
  have m1 := m1.up hV8
  have m2 := m2.up hV8
  refine Gx.a (by kernel_rfl) fun K hK => ?_
  simp only [XA]
  refine call_go (by kernel_rfl) rfl (bapart_c _ _ _ L0 L2 96 m0.hv m2.hv m0.fL m2.fL m0.lL m2.lL m0.qL m2.qL (by omega)) fun v9 V9 hV9 k9 => ?_
  obtain ⟨w9, rfl, d9⟩ := k9.2.2 (by rw [b0, b2]; rfl) (by omega)
  rw [l0] at d9
  obtain ⟨x9, y9, rfl, o9, u9⟩ := d9.form
  simp only [XA, XB, Nat.reduceAdd]
  refine st_rat rfl rfl rfl o9 u9 ?_
  simp only [XA]
  refine hK _ ?_
  have m0 := m0.up hV9
  have m1 := m1.up hV9
  have m2 := m2.up hV9
  refine Gx.a (by kernel_rfl) fun K hK => ?_
  simp only [XA]
  refine call_go (by kernel_rfl) rfl (bapart_c _ _ _ L2 L1 96 m2.hv m1.hv m2.fL m1.fL m2.lL m1.lL m2.qL m1.qL (by omega)) fun v10 V10 hV10 k10 => ?_
  obtain ⟨w10, rfl, d10⟩ := k10.2.2 (by rw [b2, b1]; rfl) (by omega)
  rw [l2] at d10
  obtain ⟨x10, y10, rfl, o10, u10⟩ := d10.form
  simp only [XA, XB, Nat.reduceAdd]
  refine st_rat rfl rfl rfl o10 u10 ?_
  simp only [XA]
  refine hK _ ?_
  have m0 := m0.up hV10
  have m1 := m1.up hV10
  have hle910 := View.le_trans hV9 hV10
  have hle810 := View.le_trans hV8 hle910
  have d6 := d6.mono (View.le_trans hV7 hle810)
  have d7 := d7.mono hle810
  have d8 := d8.mono hle910
  have d9 := d9.mono hV10
  have x4 := x4.up (View.le_trans hle7 hle810)
  have r0 := Raws.rats m0.hv p0.okL
  have r1 := Raws.rats m1.hv p1.okL
  have e01 : tvF (cf (qs L0)) (cf (qs L1)) n2 = tvF (cf (qs L1)) (cf (qs L0)) n2 := tv_back (by rw [p0.one, p1.one])
  have ez := tv_zero (a := cf (qs L0)) (b := cf (qs L1)) (n := n2) (by rw [p0.one, p1.one])
  have etri := tv_tri (cf (qs L0)) (cf (qs L1)) (cf (qs L2)) n2
  have eeq := cf_eq_iff q0 q1
  have hfall := fp.fall
  have tsum : QF (tvF (cf (qs L0)) (cf (qs L2)) n2 + tvF (cf (qs L2)) (cf (qs L1)) n2) := by
    have k1 := tv_QB (n := n2) m0.qL m2.qL (by omega) (by omega) n2 (Nat.le_refl _)
    have k2 := tv_QB (n := n2) m2.qL m1.qL (by omega) (by omega) n2 (Nat.le_refl _)
    refine (k1.add k2).qf ?_
    have : n2 * (2 * 96 + 2) ≤ 8 * (2 * 96 + 2) := Nat.mul_le_mul_right _ hn8
    omega
  have bx := fp.bx
  clear m2 k4 k5 k6 k7 k8 k9 k10 fp
  refine XWP.seq ?_
  refine Gx.a (by kernel_rfl) fun K hK => ?_
  simp only [XA, XB, gateX]
  refine hK _ ?_
  refine Gx.f rfl ?_
  refine XWP.skip ?_
  (refine XWP.drw [0, 1, 2, 3, 4, 5, 6, 7, 8, 9, 10, 11, 12, 13, 14, 17, 18, 15, 16, 19, 20, 21, 22, 23, 24, 25, 26, 27, 28, 29, 30, 31, 32, 33] (by kernel_rfl) (by kernel_rfl) (by kernel_rfl) fun K hK => ?_) <;> dsimp only [pickOps, List.getElem?_cons_zero, List.getElem?_cons_succ]
  simp only [XA]
  refine call_go (by kernel_rfl) rfl (dlaw_c _ _ (x.map toRaw) 1544 (Rats.raws x4) (fitR_toRaw fun z hz => (qx z hz).qf (by omega)) (by rw [List.length_map]; omega) (by rw [qs_toRaw]; exact qx) (by omega)) fun v11 V11 hV11 k11 => ?_
  subst k11
  rw [bx]
  have d6 := d6.mono hV11
  have d7 := d7.mono hV11
  have d8 := d8.mono hV11
  have d9 := d9.mono hV11
  have d10 := d10.mono hV11
  simp only [XA, XB, gateX, Nat.reduceAdd, Nat.reduceLeDiff, ↓reduceIte, beq_self_eq_true]
  refine call_go (by kernel_rfl) rfl (pcompare_c _ _ _ _ _ (d7.toV txy) (d6.toV t01) txy t01) fun v12 V12 hV12 k12 => ?_
  subst k12
  have z1 := sgI_le hfall
  have d6 := d6.mono hV12
  have d8 := d8.mono hV12
  have d9 := d9.mono hV12
  have d10 := d10.mono hV12
  simp only [XA, XB, gateX, Nat.reduceAdd, Nat.reduceLeDiff, ↓reduceIte, beq_self_eq_true, z1]
  refine call_go (by kernel_rfl) rfl (psame_c _ _ _ _ _ (d6.toV t01) (d8.toV t10) t01 t10) fun v13 V13 hV13 k13 => ?_
  rw [decide_eq_true e01] at k13
  subst k13
  have d6 := d6.mono hV13
  have d9 := d9.mono hV13
  have d10 := d10.mono hV13
  simp only [XA, XB, gateX, Nat.reduceAdd, Nat.reduceLeDiff, ↓reduceIte, beq_self_eq_true]
  refine call_go (by kernel_rfl) rfl (psign_c _ _ _ (d6.toV t01)) fun v14 V14 hV14 k14 => ?_
  subst k14
  have z2 := sgI_zero (tvF (cf (qs L0)) (cf (qs L1)) n2)
  have z3 : decide (tvF (cf (qs L0)) (cf (qs L1)) n2 = 0) = decide (qs L0 = qs L1) := by rw [decide_eq_decide, ez, eeq]
  rw [z3] at z2
  have hle14 := View.le_trans hV11 (View.le_trans hV12 (View.le_trans hV13 hV14))
  have d6 := d6.mono hV14
  have d9 := d9.mono hV14
  have d10 := d10.mono hV14
  simp only [XA, XB, gateX, ↓reduceIte, beq_self_eq_true, z2]
  refine call_go (by kernel_rfl) rfl (same34_c _ _ _ _ _ (r0.up hle14) (r1.up hle14) (fun z hz => (m0.qL z hz).qf (by omega)) (fun z hz => (m1.qL z hz).qf (by omega))) fun v15 V15 hV15 k15 => ?_
  subst k15
  have z4 : (decide (qs L0 = qs L1) == decide (qs L0 = qs L1)) = true := beq_self_eq_true _
  have d6 := d6.mono hV15
  have d9 := d9.mono hV15
  have d10 := d10.mono hV15
  simp only [XA, XB, gateX, Nat.reduceAdd, Nat.reduceLeDiff, ↓reduceIte, beq_self_eq_true]
  refine call_go (by kernel_rfl) rfl (padd_c _ _ _ _ _ (d9.toV t02) (d10.toV t21) t02 t21) fun v16 V16 hV16 k16 => ?_
  have d6 := d6.mono hV16
  simp only [XA, gateX, ↓reduceIte, beq_self_eq_true]
  refine call_go (by kernel_rfl) rfl (pcompare_c _ _ _ _ _ (d6.toV t01) (k16.toV tsum) t01 tsum) fun v17 V17 hV17 k17 => ?_
  subst k17
  have z5 := sgI_le etri
  simp only [XA, XB, gateX, ↓reduceIte, beq_self_eq_true, z5]
  refine call_go (by kernel_rfl) rfl (alive34_c _) fun v18 V18 hV18 k18 => ?_
  subst k18
  simp only [XA, ↓reduceIte]
  refine hK _ (XWP.ret ?_)
  try simp only [thenX_ret, inBlockX_ret]
  refine ret_go _ rfl ?_
  rfl
end Go.Proofs.YtkgmicakfmllmaaGreat
end
section
namespace Go.Proofs.YtkgmicakfmllmaaGreat.balanceFalls
open Go.ChangeShapes Go.WideShapes Go.ChangeAt Go.RowKit
set_option linter.unusedVariables false
theorem own : ownKnob Tryz.prog.godebug = none := by kernel_rfl
theorem laidOut : laidOutB Tryz.prog = true := by kernel_rfl
set_option maxRecDepth 100000 in
theorem lifted (os : Os) (started : os.Started) (H : Type) (enc : TypeId × Value → H) :
    ReturnsInHanded {} Tryz.checked os 5 .any (Rows.balanceFallsSpec.pre6 enc Tryz.prog Tryz.f5 Rows.balanceFallsRow.domain false) (Rows.balanceFallsSpec.post enc Tryz.prog Tryz.f5 false true false false) := by
  refine returnsInHanded_of_change_sized (C := Tryz.checked) own started (by kernel_rfl) Tryz.func5
    (ChangeSpec.witness6 (enc := enc) (C := Tryz.checked) false ⟨#[], #[.agg #[.slice none 0 0, .slice none 0 0, .slice none 0 0], .agg #[.int .i64 0, .int .i64 0, .slice none 0 0]], []⟩ 8 (by kernel_rfl) (by kernel_rfl) (by kernel_rfl) (by kernel_rfl)) ?_
  intro W base args ds gs before hval0 hW hcnd hsz0 _
  have hval : ∀ (j : Nat) t v, Tryz.f5.params[j]? = some t → args[j]? = some v → Value.okWide Tryz.prog W .any base t v := hval0
  have hW' := hW
  obtain ⟨p, q, hA0, hV, rfl, hfz, hnd⟩ := hW
  have hA : DataW.TrodAll enc Tryz.prog W 0 (fun _ => true) true Tryz.f5.params.toList args.toList ds p := hA0
  rw [Tryz.params5] at hA hval
  obtain ⟨v0, vs0, d0, ds0, p0, q0, hargs, rfl, rfl, h0, r0⟩ := trodAll_cons hA
  obtain ⟨v1, vs1, d1, ds1, p1, q1, rfl, rfl, rfl, h1, r1⟩ := trodAll_cons r0
  obtain ⟨rfl, rfl, rfl⟩ := trodAll_nil r1
  obtain rfl : args = #[v0, v1] := by cases args; simp_all
  obtain ⟨rfl, rfl⟩ := trodVars_none hV
  obtain ⟨c0, rfl, _⟩ := okWide_array und_arr3 (hval 0 59 v0 rfl rfl)
  have k0 := h0
  have lt0 : ∀ x ∈ p0, x.block < W.heap.size := by obtain ⟨m, hm⟩ := k0; exact DataW.trod_lt m _ _ _ hm
  obtain ⟨fuel0, hf0⟩ := h0
  obtain ⟨s0a, s0b, s0c, L0a, L0b, L0c, j0, hL0a, hL0b, hL0c⟩ := open_arr3 hf0
  obtain rfl : c0 = #[s0a, s0b, s0c] := by cases c0; simpa [Value.cells] using j0
  obtain ⟨c1, rfl, _⟩ := okWide_struct und_mat (hval 1 24 v1 rfl rfl)
  have k1 := h1
  have lt1 : ∀ x ∈ p1, x.block < W.heap.size := by obtain ⟨m, hm⟩ := k1; exact DataW.trod_lt m _ _ _ hm
  obtain ⟨fuel1, hf1⟩ := h1
  obtain ⟨r1r, r1c, s1, L1, j1, hL1⟩ := open_mat hf1
  obtain rfl : c1 = #[.int .i64 r1r, .int .i64 r1c, s1] := by cases c1; simpa [Value.cells] using j1
  clear hA0 hval0 hsz0
  refine (falls34_c (viewW W) _ _ _ _ r1r r1c L0a L0b L0c L1 hL0a hL0b hL0c hL1 W (viewW_sub W)).mono fun e W' ⟨v, V', he, _, _, _, bel, hv⟩ => ?_
  subst hv
  subst he
  exact ⟨_, rfl, _, _, _, [], _, [], hW', trodAll_mk1 (shut_bool Tryz.underlying4 _), (trodAll_cons_mk (Below.trod laidOut (by kernel_rfl) (of_decide_eq_true (by kernel_rfl)) k0 bel lt0) (trodAll_cons_mk (Below.trod laidOut (by kernel_rfl) (of_decide_eq_true (by kernel_rfl)) k1 bel lt1) trodAll_mk0)), rfl, bel.frame _, fun h => by cases h⟩
theorem over : Rows.balanceFallsRow.holds Tryz.pinned (OpenSpec.ofChange Rows.balanceFallsSpec) :=
  OpenClaim.holds_of_wide 5 Tryz.f5 rfl rfl rfl rfl rfl rfl rfl ⟨rfl, rfl, rfl, rfl, rfl⟩ rfl rfl rfl rfl rfl (by kernel_rfl) Tryz.func5 (by kernel_rfl)
    (of_decide_eq_true (by kernel_rfl)) (by unfold Func.isWrapper; first | (rw [if_pos (by decide +kernel)]; kernel_rfl) | (rw [if_neg (by decide +kernel)]; exact ⟨rfl, rfl⟩))
    (fun os started H enc _ => lifted os started H enc)
theorem proved : Rows.BalanceFallsSaid := over
#print axioms proved
end Go.Proofs.YtkgmicakfmllmaaGreat.balanceFalls
namespace Go.Proofs.YtkgmicakfmllmaaGreat
/-- The row, under a short name, for the claim. -/
theorem balanceFalls_holds : Rows.BalanceFallsSaid := balanceFalls.proved
end Go.Proofs.YtkgmicakfmllmaaGreat
end
