/- The law RecurMatrix answers true at every input: the characteristic polynomial and a polynomial of a matrix agree with the reference, errors included. (part 12 of 12) -/
import Derived.OrdersHeld
import Derived.Below
import Derived.Tactics
import Derived.KernelRfl
import Derived.RangeFuncCalls
import Derived.RangeFuncFrom
import Derived.RangeFuncLeaves
import Derived.OrdersIn
import Derived.Laws.AppendOwn
import Derived.Laws.MakeOwn
import Derived.Laws.CopyRow
import Derived.Laws.Cells
import Derived.Laws.World
import Derived.Laws.Alloc2
import Derived.Laws.NewBlocks
import Derived.Maps.AppendAt
import Derived.Test.YthoboehbadmlmaaGreatProg
import Init.Data.List.Lemmas
import Init.Omega
import Derived.WalkKit
import Derived.ProofKit
import Derived.OpenShut
import Derived.ChangeOld
import Derived.SizedLaws
import Derived.ChangeSlices
import Derived.ChangeArms
import Derived.Deep.Slices
import Derived.Test.YthoboehbadmlmaaGreatRows
import Derived.ShutString
import Derived.Test.YthoboehbadmlmaaGreatMT11
section
namespace Go.Proofs.YthoboehbadmlmaaGreat
open Go Go.RowKit
set_option linter.unusedSimpArgs false
set_option linter.unusedVariables false
attribute [local irreducible] XWP Spec SpecO XPub XCall seqX clX apX stX ldX iaX slX
set_option maxRecDepth 100000 in
theorem dDet_c (V : View) (s1 : Value) (n B : Nat) (G : Grid) (ha : SqM V s1 n B G) (hfit : (n + 1) * ge B (n + 1) ≤ 17592186044416) :
    Spec Tryz.prog 17 [.agg #[.int .i64 (n : Int), .int .i64 (n : Int), s1]] V fun v' V' => ∃ w, v' = .tuple #[w, .int .i64 0] ∧ RatC V' w (detL n G) ∧ QB (n * ge B (n + 1) + 1) (detL n G) := by
  obtain ⟨A1, c1, rfl, hc1, hm1⟩ := ha.hv.form
  have hn := ha.hn
  have hgeB : ge B (n + 1) ≤ 17592186044416 := Nat.le_trans (Nat.le_mul_of_pos_left _ (by omega)) hfit
  have hB : B ≤ 17592186044416 := Nat.le_trans (ge_le B _) hgeB
  refine (Spec.enterR Tryz.func17 rfl fun Γ hΓ => ?_)
  simp only [Tryz.ntmps17, List.map_cons, List.map_nil, List.length_cons, List.length_nil, Nat.reduceAdd, Nat.reduceSub, List.replicate_succ, List.replicate_zero, List.cons_append, List.nil_append]
  refine Gx.a (by kernel_rfl) fun K hK => ?_
  simp only [XA, XB]
  refine hK _ ?_
  refine XWP.cut (fun s => ∃ V2, StIs (fun Z => [Z 0, .p 0 0, .p 1 0, .v (.int .i64 0), Z 4,Z 5,Z 6,Z 7,Z 8,Z 9,Z 10,Z 11,Z 12,Z 13,Z 14,Z 15,Z 16,Z 17,Z 18,Z 19,Z 20,Z 21,Z 22,Z 23,Z 24,Z 25,Z 26]) [[.int .i64 (n : Int), .int .i64 (n : Int), .slice A1 (flatG G n n).length c1], [.bool false, .slice none 0 0, .slice none 0 0]] (fun _ => none) V2 s ∧ V.le V2) ?_ ?_
  · refine XWP.block ?_
    refine Gx.a (by kernel_rfl) fun K hK => ?_
    simp only [XM, XA, Nat.reduceAdd, Nat.reduceLeDiff, ↓reduceIte]
    refine call_go (by kernel_rfl) rfl (dmr_c ha hB) fun v5 V5 hV5 h5 => ?_
    subst h5
    simp only [XA]
    refine hK _ ?_
    refine Gx.f rfl ?_
    refine Gx.a (by kernel_rfl) fun K hK => ?_
    simp only [XM, XA, XB, decide_true]
    refine hK _ ?_
    refine Gx.f rfl ?_
    refine XWP.skip ?_
    exact ⟨V5, StIs.of (by exact rfl), hV5⟩
  rintro s ⟨V2, hs, hV2⟩
  obtain ⟨z, rfl⟩ := hs.out
  try dsimp only
  clear hs
  refine XWP.row1 (bx := [_]) fun b4 e4 hb4 _ => ?_
  simp only [List.map_cons, List.map_nil, rowS_v, rowS_p, List.length_nil, List.length_cons, Nat.reduceAdd, Nat.reduceEqDiff, ↓reduceIte]
  have f4 : upd (fun _ => none) b4 (some ⟨e4, [.bool false, .slice none 0 0, .slice none 0 0], 3⟩) b4 = some ⟨e4, [.bool false, .slice none 0 0, .slice none 0 0], 3⟩ := upd_at _ _ _
  have only2 : ∀ b r, upd (fun _ => none) b4 (some ⟨e4, [.bool false, .slice none 0 0, .slice none 0 0], 3⟩) b = some r → b = b4 := fun b r hb => by
    by_cases e : b = b4
    · exact e
    · rw [upd_off e] at hb; cases hb
  generalize upd (fun _ => none) b4 (some ⟨e4, [.bool false, .slice none 0 0, .slice none 0 0], 3⟩) = H2 at *
  refine XWP.row1 (bx := []) fun b2 e2 hb2 _ => ?_
  simp only [List.map_cons, List.map_nil, rowS_v, rowS_p, List.length_nil, List.length_cons, Nat.reduceAdd, ↓reduceIte]
  refine XWP.pub b2 _ (upd_at _ _ _) fun o2 ho2 hle2 => ?_
  have eo2 := row_obj ho2
  subst eo2
  have n42 := new_ne hb2 f4
  have f4 : upd (upd H2 b2 (some ⟨e2, [.int .i64 (n : Int), .int .i64 (n : Int), .slice A1 (flatG G n n).length c1], 3⟩)) b2 none b4 = some ⟨e4, [.bool false, .slice none 0 0, .slice none 0 0], 3⟩ := (upd_off n42).trans ((upd_off n42).trans f4)
  have h2 := addV_at V2 b2 (.cells ([.int .i64 (n : Int), .int .i64 (n : Int), .slice A1 (flatG G n n).length c1] : List Value).toArray e2 (0, 0))
  have only4 : ∀ b r, upd (upd H2 b2 (some ⟨e2, [.int .i64 (n : Int), .int .i64 (n : Int), .slice A1 (flatG G n n).length c1], 3⟩)) b2 none b = some r → b = b4 := fun b r hb => by
    by_cases e : b = b2
    · rw [e, upd_at] at hb; cases hb
    · rw [upd_off e, upd_off e] at hb; exact only2 b r hb
  generalize upd (upd H2 b2 _) b2 none = H4 at *
  generalize addV V2 b2 _ = V4 at *
  have hle := View.le_trans hV2 hle2
  have ha := ha.up hle
  refine XWP.cutD 1 (fun s => ∃ (H8 : Heap) (V8 : View) (dm : Bool) (dx dy : Value), StIs (fun Z => [Z 0, .v (.pointer (some ⟨b2, 0, none⟩)), .v (.pointer (some ⟨b4, 0, none⟩)), .v (.int .i64 0), Z 4, .p 0 0, Z 6,Z 7,Z 8,Z 9,Z 10,Z 11,Z 12,Z 13,Z 14,Z 15,Z 16,Z 17,Z 18,Z 19,Z 20,Z 21,Z 22,Z 23,Z 24,Z 25,Z 26]) [[.bool dm, dx, dy]] H8 V8 s ∧ H8 b4 = some ⟨e4, [.bool false, .slice none 0 0, .slice none 0 0], 3⟩ ∧ isOne dx = true ∧ isOne dy = true ∧ RatC V8 (.agg #[.bool dm, dx, dy]) (detL n G) ∧ QB (n * ge B (n + 1) + 1) (detL n G)) ?_ ?_
  · refine XWP.drawM (.lin [0, 2, 3] (.two (.lin [1] (.two (.lin [4, 5, 6, 7, 8, 9, 10] .nil) (.lin [8, 4, 5, 6, 7, 9, 10] .nil))) (.lin [8, 1, 4, 5, 6, 7, 9, 10] .nil))) (fun i => i == 1 || i == 4) hΓ (by kernel_rfl) (by kernel_rfl) (by kernel_rfl) rfl ?_
    refine treeM_lin ?_
    refine seqM_l rfl (by kernel_rfl) rfl ⟨rfl, rfl, rfl⟩ ?_
    simp only [XA]
    refine ld_mem (ldV3 h2 shapeT_34 _) ?_
    simp only [XA]
    refine seqM_x rfl (by kernel_rfl) rfl (by kernel_rfl) ?_
    simp only [XM, XA]
    refine seqM_l rfl (by kernel_rfl) rfl ⟨rfl, rfl, rfl⟩ ?_
    simp only [XA]
    refine ld_mem (ldV1 h2 (off := 1) rfl shapeT_3 _) ?_
    simp only [XA]
    refine seqM_nil (treeM_two (treeM_lin ?_) (treeM_lin ?_))
    · refine seqM_m rfl (by kernel_rfl) rfl (by kernel_rfl) rfl (drows_r H4 V4 _ n G ha.hv hn).sem fun v5 H5 V5 k5 => ?_
      obtain ⟨rfl, kp, g, rfl, hgr⟩ := k5
      obtain ⟨k1, k2⟩ := hgr [b4] fun b hb => by rw [List.mem_singleton.1 hb]; exact ⟨_, f4⟩
      have f5 := kp b4 _ f4
      refine ⟨kp, View.le_refl _, ?_⟩
      simp only [XA]
      refine seqM_nil (treeM_two (treeM_lin ?_) (treeM_lin ?_))
      · refine seqM_m rfl (by kernel_rfl) rfl (by kernel_rfl) rfl (ddet_r H5 V5 g n n B [b4] G k1 k2 (fun b hb => by rw [List.mem_singleton.1 hb]; exact ⟨_, f5⟩) hn ha.hq hfit).sem fun v6 H6 V6 k6 => ?_
        obtain ⟨hV6, kp6, u, dm, dx, dy, rfl, ou, ox, oy, kd, kq⟩ := k6
        have f6 := (kp6 b4 (by simp)).trans f5
        refine ⟨fun b r hb => by obtain rfl := only4 b r hb; rw [f6, ← f4]; exact hb, hV6, ?_⟩
        simp only [XA]
        refine seqM_x rfl (by kernel_rfl) rfl (by kernel_rfl) ?_
        simp only [XA]
        refine seqM_x rfl (by kernel_rfl) rfl (by kernel_rfl) ?_
        simp only [XA]
        refine seqM_x rfl (by kernel_rfl) rfl (by kernel_rfl) ?_
        simp only [XA]
        refine seqM_x rfl (by kernel_rfl) rfl (by kernel_rfl) ?_
        simp only [XA, XB]
        refine seqM_x rfl (by kernel_rfl) rfl (by kernel_rfl) ?_
        simp only [XA]
        refine seqM_c rfl (by kernel_rfl) ?_
        simp only [XA]
        refine st_rat rfl rfl rfl ox oy ?_
        simp only [XA]
        exact fun f => ⟨H6, V6, dm, dx, dy, StIs.of (by exact rfl), f6, ox, oy, kd, kq⟩
      · refine seqM_x rfl (by kernel_rfl) rfl (by kernel_rfl) ?_
        simp only [XA, XB]
        refine seqM_m rfl (by kernel_rfl) rfl (by kernel_rfl) rfl (ddet_b _ H5 V5 g n n B [b4] G k1 k2 (fun b hb => by rw [List.mem_singleton.1 hb]; exact ⟨_, f5⟩) hn ha.hq hfit) fun v6 H6 V6 k6 => ?_
        obtain ⟨hV6, kp6, u, dm, dx, dy, rfl, ou, ox, oy, kd, kq⟩ := k6
        have f6 := (kp6 b4 (by simp)).trans f5
        refine ⟨fun b r hb => by obtain rfl := only4 b r hb; rw [f6, ← f4]; exact hb, hV6, ?_⟩
        simp only [XA]
        refine seqM_x rfl (by kernel_rfl) rfl (by kernel_rfl) ?_
        simp only [XA]
        refine seqM_x rfl (by kernel_rfl) rfl (by kernel_rfl) ?_
        simp only [XA]
        refine seqM_x rfl (by kernel_rfl) rfl (by kernel_rfl) ?_
        simp only [XA]
        refine seqM_x rfl (by kernel_rfl) rfl (by kernel_rfl) ?_
        simp only [XA]
        refine seqM_c rfl (by kernel_rfl) ?_
        simp only [XA]
        refine st_rat rfl rfl rfl ox oy ?_
        simp only [XA]
        exact fun f => ⟨H6, V6, dm, dx, dy, StIs.of (by exact rfl), f6, ox, oy, kd, kq⟩
    · refine seqM_x rfl (by kernel_rfl) rfl (by kernel_rfl) ?_
      simp only [XA, XB]
      refine seqM_m rfl (by kernel_rfl) rfl (by kernel_rfl) rfl (drows_b _ H4 V4 _ n G ha.hv hn) fun v5 H5 V5 k5 => ?_
      obtain ⟨rfl, kp, g, rfl, hgr⟩ := k5
      obtain ⟨k1, k2⟩ := hgr [b4] fun b hb => by rw [List.mem_singleton.1 hb]; exact ⟨_, f4⟩
      have f5 := kp b4 _ f4
      refine ⟨kp, View.le_refl _, ?_⟩
      simp only [XA]
      refine seqM_m rfl (by kernel_rfl) rfl (by kernel_rfl) rfl (ddet_b _ H5 V5 g n n B [b4] G k1 k2 (fun b hb => by rw [List.mem_singleton.1 hb]; exact ⟨_, f5⟩) hn ha.hq hfit) fun v6 H6 V6 k6 => ?_
      obtain ⟨hV6, kp6, u, dm, dx, dy, rfl, ou, ox, oy, kd, kq⟩ := k6
      have f6 := (kp6 b4 (by simp)).trans f5
      refine ⟨fun b r hb => by obtain rfl := only4 b r hb; rw [f6, ← f4]; exact hb, hV6, ?_⟩
      simp only [XA]
      refine seqM_x rfl (by kernel_rfl) rfl (by kernel_rfl) ?_
      simp only [XA]
      refine seqM_x rfl (by kernel_rfl) rfl (by kernel_rfl) ?_
      simp only [XA]
      refine seqM_x rfl (by kernel_rfl) rfl (by kernel_rfl) ?_
      simp only [XA]
      refine seqM_x rfl (by kernel_rfl) rfl (by kernel_rfl) ?_
      simp only [XA]
      refine seqM_c rfl (by kernel_rfl) ?_
      simp only [XA]
      refine st_rat rfl rfl rfl ox oy ?_
      simp only [XA]
      exact fun f => ⟨H6, V6, dm, dx, dy, StIs.of (by exact rfl), f6, ox, oy, kd, kq⟩
  rintro s ⟨H8, V8, dm, dx, dy, hs, f8, ox, oy, kd, kq⟩
  obtain ⟨z, rfl⟩ := hs.out
  try dsimp only
  clear hs
  refine Gx.a (by kernel_rfl) fun K hK => ?_
  simp only [XA, XB, Nat.reduceAdd, Nat.reduceLeDiff, ↓reduceIte]
  refine st_rowA shapeT_48 (all3 rfl ox oy) rfl f8 (by simp) ?_
  simp only [XA, splice3]
  refine hK _ (XWP.ret ?_)
  try simp only [thenX_ret, inBlockX_ret]
  exact ret_go _ (by simp [resAll, resV, cellsV, upd_at, shapeT_48]; rfl) ⟨_, rfl, kd, kq⟩
end Go.Proofs.YthoboehbadmlmaaGreat
end
section
namespace Go.Proofs.YthoboehbadmlmaaGreat
set_option linter.unusedVariables false
def hf : Rat := 1 / 2
end Go.Proofs.YthoboehbadmlmaaGreat
end
section
namespace Go.Proofs.YthoboehbadmlmaaGreat
open Go Go.RowKit
set_option linter.unusedSimpArgs false
set_option linter.unusedVariables false
attribute [local irreducible] XWP Spec SpecO XPub XCall seqX clX apX stX ldX iaX slX
theorem dsize_c (V : View) (n : Nat) (hn : n < 4611686018427387904) : Spec Tryz.prog 141 [.int .i64 (n : Int)] V fun v' V' => ∃ w, v' = .tuple #[w, .bool false] ∧ NatC V' w n := by
  have b1 : decide ((n : Int) < 0) = false := decide_eq_false (by omega)
  have w1 : IntKind.u64.wrap (n : Int) = (n : Int) := w64_id (by omega) (by omega)
  refine (Spec.enter Tryz.func141 rfl fun Γ => ?_)
  simp only [Tryz.ntmps141, List.map_cons, List.map_nil, List.length_cons, List.length_nil, Nat.reduceAdd, Nat.reduceSub, List.replicate_succ, List.replicate_zero, List.cons_append, List.nil_append]
  refine Gx.a (by kernel_rfl) fun K hK => ?_
  simp only [XA]
  refine hK _ ?_
  refine XWP.seq ?_
  refine Gx.a (by kernel_rfl) fun K hK => ?_
  simp only [XA, XB, b1]
  refine hK _ ?_
  refine Gx.f rfl ?_
  refine XWP.skip ?_
  refine Gx.a (by kernel_rfl) fun K hK => ?_
  simp only [XA, XB, w1]
  refine call_go (by kernel_rfl) rfl (rof_c _ n (by omega)) fun v1 V1 hV1 h1 => ?_
  simp only [XA]
  refine hK _ (XWP.ret ?_)
  try simp only [thenX_ret, inBlockX_ret]
  refine ret_go _ rfl ?_
  exact ⟨_, rfl, h1⟩
end Go.Proofs.YthoboehbadmlmaaGreat
end
section
namespace Go.Proofs.YthoboehbadmlmaaGreat
open Go Go.RowKit
set_option linter.unusedSimpArgs false
set_option linter.unusedVariables false
attribute [local irreducible] XWP Spec SpecO XPub XCall seqX clX apX stX ldX iaX slX
theorem dsizem_c (V : View) : Spec Tryz.prog 141 [.int .i64 (-1)] V fun v' V' => ∃ w, v' = .tuple #[w, .bool true] ∧ NatC V' w 1 := by
  have b1 : decide ((-1 : Int) < 0) = true := rfl
  have w1 : IntKind.u64.wrap (0 : Int) = (0 : Int) := by decide
  have w2 : IntKind.u64.wrap (0 + 1 : Int) = ((1 : Nat) : Int) := by decide
  have w3 : IntKind.i64.wrap (-1 + 1 : Int) = (0 : Int) := by decide
  have w4 : IntKind.i64.wrap (-0 : Int) = (0 : Int) := by decide
  have w5 : IntKind.u64.wrap (1 : Int) = ((1 : Nat) : Int) := by decide
  refine (Spec.enter Tryz.func141 rfl fun Γ => ?_)
  simp only [Tryz.ntmps141, List.map_cons, List.map_nil, List.length_cons, List.length_nil, Nat.reduceAdd, Nat.reduceSub, List.replicate_succ, List.replicate_zero, List.cons_append, List.nil_append]
  refine Gx.a (by kernel_rfl) fun K hK => ?_
  simp only [XA]
  refine hK _ ?_
  refine XWP.seq ?_
  refine Gx.a (by kernel_rfl) fun K hK => ?_
  simp only [XA, XB, b1]
  refine hK _ ?_
  refine Gx.t rfl ?_
  refine Gx.a (by kernel_rfl) fun K hK => ?_
  simp only [XA, XB, w3]
  refine call_go (by kernel_rfl) rfl (rof_c _ 1 (by omega)) fun v1 V1 hV1 h1 => ?_
  simp only [XA]
  refine hK _ (XWP.ret ?_)
  try simp only [thenX_ret, inBlockX_ret]
  refine ret_go _ rfl ?_
  exact ⟨_, rfl, h1⟩
theorem dmakem_c (V : View) : Spec Tryz.prog 101 [.int .i64 (-1), .int .i64 1] V fun v' V' => ∃ w, v' = .tuple #[w, .int .i64 0] ∧ RatC V' w (-1) := by
  refine (Spec.enter Tryz.func101 rfl fun Γ => ?_)
  simp only [Tryz.ntmps101, List.map_cons, List.map_nil, List.length_cons, List.length_nil, Nat.reduceAdd, Nat.reduceSub, List.replicate_succ, List.replicate_zero, List.cons_append, List.nil_append]
  refine Gx.a (by kernel_rfl) fun K hK => ?_
  simp only [XA, XB]
  refine hK _ ?_
  refine Gx.a (by kernel_rfl) fun K hK => ?_
  simp only [XA]
  refine call_go (by kernel_rfl) rfl (dsizem_c _) fun v1 V1 hV1 h1 => ?_
  obtain ⟨w1, rfl, h1⟩ := h1
  simp only [XA]
  refine hK _ ?_
  refine Gx.a (by kernel_rfl) fun K hK => ?_
  simp only [XA]
  refine call_go (by kernel_rfl) rfl (dsize_c _ 1 (by omega)) fun v2 V2 hV2 h2 => ?_
  obtain ⟨w2, rfl, h2⟩ := h2
  simp only [XA]
  refine hK _ ?_
  refine Gx.a (by kernel_rfl) fun K hK => ?_
  simp only [XA, XB]
  refine call_go (by kernel_rfl) rfl (pof_c _ _ _ _ 1 1 (h1.mono hV2) h2 (Fit1.of_two (B := 1) (by decide) (by omega)) (Fit1.of_two (B := 1) (by decide) (by omega))) fun v3 V3 hV3 h3 => ?_
  obtain ⟨w3, rfl, r3⟩ := h3.2 (by omega)
  clear h3
  obtain ⟨x3, y3, rfl, o1, o2⟩ := r3.form
  simp only [XA]
  refine st_rat rfl rfl rfl o1 o2 ?_
  simp only [XA]
  refine hK _ (XWP.ret ?_)
  try simp only [thenX_ret, inBlockX_ret]
  refine ret_rat2 rfl rfl rfl rfl ⟨_, rfl, ?_⟩
  rw [show (-1 : Rat) = rv true 1 1 by decide +kernel]
  exact r3
theorem dmakei_c (V : View) (n : Nat) (hn : n ≤ 8) : Spec Tryz.prog 101 [.int .i64 (n : Int), .int .i64 1] V fun v' V' => ∃ w, v' = .tuple #[w, .int .i64 0] ∧ RatC V' w (n : Rat) := by
  refine (Spec.enter Tryz.func101 rfl fun Γ => ?_)
  simp only [Tryz.ntmps101, List.map_cons, List.map_nil, List.length_cons, List.length_nil, Nat.reduceAdd, Nat.reduceSub, List.replicate_succ, List.replicate_zero, List.cons_append, List.nil_append]
  refine Gx.a (by kernel_rfl) fun K hK => ?_
  simp only [XA, XB]
  refine hK _ ?_
  refine Gx.a (by kernel_rfl) fun K hK => ?_
  simp only [XA]
  refine call_go (by kernel_rfl) rfl (dsize_c _ n (by omega)) fun v1 V1 hV1 h1 => ?_
  obtain ⟨w1, rfl, h1⟩ := h1
  simp only [XA]
  refine hK _ ?_
  refine Gx.a (by kernel_rfl) fun K hK => ?_
  simp only [XA]
  refine call_go (by kernel_rfl) rfl (dsize_c _ 1 (by omega)) fun v2 V2 hV2 h2 => ?_
  obtain ⟨w2, rfl, h2⟩ := h2
  simp only [XA]
  refine hK _ ?_
  have hn16 : n ≤ 2 ^ 4 := by omega
  refine Gx.a (by kernel_rfl) fun K hK => ?_
  simp only [XA, XB, beq_self_eq_true]
  refine call_go (by kernel_rfl) rfl (pof_c _ _ _ _ n 1 (h1.mono hV2) h2 (Fit1.of_two (B := 4) hn16 (by omega)) (Fit1.of_two (B := 1) (by decide) (by omega))) fun v3 V3 hV3 h3 => ?_
  obtain ⟨w3, rfl, r3⟩ := h3.2 (by omega)
  clear h3
  obtain ⟨x3, y3, rfl, o1, o2⟩ := r3.form
  simp only [XA]
  refine st_rat rfl rfl rfl o1 o2 ?_
  simp only [XA]
  refine hK _ (XWP.ret ?_)
  try simp only [thenX_ret, inBlockX_ret]
  refine ret_rat2 rfl rfl rfl rfl ⟨_, rfl, ?_⟩
  rw [← rv_smal hn]
  exact r3
theorem det_fit {n : Nat} (hn : n ≤ 5) : (n + 1) * ge 101 (n + 1) ≤ 17592186044416 ∧ n * ge 101 (n + 1) + 1 ≤ 2200000 := by
  have : n = 0 ∨ n = 1 ∨ n = 2 ∨ n = 3 ∨ n = 4 ∨ n = 5 := by omega
  rcases this with rfl | rfl | rfl | rfl | rfl | rfl <;> exact ⟨by decide, by decide⟩
theorem dshift_c (V : View) (s1 r : Value) (n : Nat) (M : Grid) (x : Rat) (ha : SqM V s1 n 97 M) (hn5 : n ≤ 5) (hb : RatC V r x) (hx : QB 3 x) :
    Spec Tryz.prog 104 [.agg #[.int .i64 (n : Int), .int .i64 (n : Int), s1], r] V fun v' V' => RatC V' v' (detL n fun i k => -M i k + x * gid i k) ∧ QB 2200000 (detL n fun i k => -M i k + x * gid i k) := by
  have o1 := SlAt.one ha.hv
  obtain ⟨x0, y0, rfl, ox, oy⟩ := hb.form
  have e0 : detL n (fun i k => gid i k * x + M i k * -1) = detL n fun i k => -M i k + x * gid i k := detL_congr n fun i k _ _ => by grind
  refine (Spec.enter Tryz.func104 rfl fun Γ => ?_)
  simp only [Tryz.ntmps104, List.map_cons, List.map_nil, List.length_cons, List.length_nil, Nat.reduceAdd, Nat.reduceSub, List.replicate_succ, List.replicate_zero, List.cons_append, List.nil_append]
  refine Gx.a (by kernel_rfl) fun K hK => ?_
  simp only [XA, XB, Nat.reduceAdd]
  refine hK _ ?_
  refine Gx.a (by kernel_rfl) fun K hK => ?_
  simp only [XM, XA, XB]
  refine call_go (by kernel_rfl) rfl (dIdent_c _ n ha.hn) fun v5 V5 hV5 h5 => ?_
  obtain ⟨w5, rfl, h5⟩ := h5
  have ow5 := SlAt.one h5
  simp only [XM, XA, Nat.reduceAdd]
  refine st_mat shapeT_34 rfl rfl rfl rfl ow5 ?_
  simp only [XA]
  refine hK _ ?_
  have hI : SqM V5 w5 n 0 gid := ⟨h5, ha.hn, fun i k _ _ => gid_QB i k⟩
  refine Gx.a (by kernel_rfl) fun K hK => ?_
  simp only [XM, XA, XB, Nat.reduceAdd, Nat.reduceLeDiff, ↓reduceIte]
  refine call_go (by kernel_rfl) rfl (dScale_c' _ _ _ n 0 3 gid x hI (hb.mono hV5) hx (by omega)) fun v6 V6 hV6 h6 => ?_
  obtain ⟨w6, rfl, h6⟩ := h6
  have ow6 := SlAt.one h6
  simp only [XM, XA, Nat.reduceAdd]
  refine st_mat shapeT_34 rfl rfl rfl rfl ow6 ?_
  simp only [XA]
  refine hK _ ?_
  have hI2 : SqM V6 w6 n 3 (fun i k => gid i k * x) := ⟨h6, ha.hn, fun i k _ _ => ((gid_QB i k).mul hx).mono (by omega)⟩
  refine Gx.a (by kernel_rfl) fun K hK => ?_
  simp only [XA]
  refine call_go (by kernel_rfl) rfl (dmakem_c _) fun v7 V7 hV7 h7 => ?_
  obtain ⟨w7, rfl, h7⟩ := h7
  obtain ⟨x7, y7, rfl, p1, p2⟩ := h7.form
  simp only [XA, XB, Nat.reduceAdd]
  refine st_rat rfl rfl rfl p1 p2 ?_
  simp only [XA]
  refine hK _ ?_
  refine Gx.a (by kernel_rfl) fun K hK => ?_
  simp only [XM, XA, XB, Nat.reduceAdd, Nat.reduceLeDiff, ↓reduceIte]
  refine call_go (by kernel_rfl) rfl (dScale_c' _ _ _ n 97 0 M (-1) (ha.up (View.le_trans hV5 (View.le_trans hV6 hV7))) h7 ((QB_one 0).neg) (by omega)) fun v8 V8 hV8 h8 => ?_
  obtain ⟨w8, rfl, h8⟩ := h8
  have ow8 := SlAt.one h8
  simp only [XM, XA, Nat.reduceAdd]
  refine st_mat shapeT_34 rfl rfl rfl rfl ow8 ?_
  simp only [XA]
  refine hK _ ?_
  have hI3 : SqM V8 w8 n 97 (fun i k => M i k * -1) := ⟨h8, ha.hn, fun i k hi hk => ((ha.hq i k hi hk).mul ((QB_one 0).neg)).mono (by omega)⟩
  refine Gx.a (by kernel_rfl) fun K hK => ?_
  simp only [XM, XA, Nat.reduceAdd, Nat.reduceLeDiff, ↓reduceIte]
  refine call_go (by kernel_rfl) rfl (dAdd_c' _ _ _ n 3 97 _ _ (hI2.up (View.le_trans hV7 hV8)) hI3 (by omega)) fun v9 V9 hV9 h9 => ?_
  obtain ⟨w9, rfl, h9⟩ := h9
  have ow9 := SlAt.one h9
  simp only [XM, XA, Nat.reduceAdd]
  refine st_mat shapeT_34 rfl rfl rfl rfl ow9 ?_
  simp only [XA]
  refine hK _ ?_
  have hI4 : SqM V9 w9 n 101 (fun i k => gid i k * x + M i k * -1) := ⟨h9, ha.hn, fun i k hi hk => ((hI2.hq i k hi hk).add (hI3.hq i k hi hk)).mono (by omega)⟩
  refine Gx.a (by kernel_rfl) fun K hK => ?_
  simp only [XM, XA, Nat.reduceAdd, Nat.reduceLeDiff, ↓reduceIte]
  refine call_go (by kernel_rfl) rfl (dDet_c _ _ n 101 _ hI4 (det_fit hn5).1) fun v10 V10 hV10 h10 => ?_
  obtain ⟨w10, rfl, h10, q10⟩ := h10
  rw [e0] at h10 q10
  obtain ⟨x10, y10, rfl, p3, p4⟩ := h10.form
  simp only [XA, XB, Nat.reduceAdd]
  refine st_rat rfl rfl rfl p3 p4 ?_
  simp only [XA]
  refine hK _ ?_
  refine Gx.a (by kernel_rfl) fun K hK => ?_
  simp only [XA, XB, Nat.reduceAdd, Nat.reduceLeDiff, ↓reduceIte]
  refine st_rat rfl rfl rfl p3 p4 ?_
  simp only [XA]
  refine hK _ (XWP.ret ?_)
  try simp only [thenX_ret, inBlockX_ret]
  exact ret_rat1 rfl rfl rfl ⟨h10, q10.mono (det_fit hn5).2⟩
end Go.Proofs.YthoboehbadmlmaaGreat
end
section
namespace Go.Proofs.YthoboehbadmlmaaGreat
open Go Go.RowKit
set_option linter.unusedSimpArgs false
set_option linter.unusedVariables false
attribute [local irreducible] XWP Spec SpecO XPub XCall seqX clX apX stX ldX iaX slX
/-- the values that are interpolated -/
def chF (M : Grid) (n : Nat) : Nat → Rat := fun j => detL n fun i k => -M i k + (j : Rat) * gid i k
set_option maxHeartbeats 4000000 in
theorem dwide_c (V : View) (s1 : Value) (n : Nat) (M : Grid) (ha : SqM V s1 n 97 M) (hn5 : n ≤ 5) :
    Spec Tryz.prog 46 [.agg #[.int .i64 (n : Int), .int .i64 (n : Int), s1]] V fun v' V' => Rats V' v' (chrL M n) := by
  obtain ⟨A1, c1, rfl, hc1, hm1⟩ := ha.hv.form
  refine (Spec.enter Tryz.func46 rfl fun Γ => ?_)
  simp only [Tryz.ntmps46, List.map_cons, List.map_nil, List.length_cons, List.length_nil, Nat.reduceAdd, Nat.reduceSub, List.replicate_succ, List.replicate_zero, List.cons_append, List.nil_append]
  refine Gx.a (by kernel_rfl) fun K hK => ?_
  simp only [XA]
  refine hK _ ?_
  refine Gx.a (by kernel_rfl) fun K hK => ?_
  simp only [XA]
  refine hK _ ?_
  refine Gx.a (by kernel_rfl) fun K hK => ?_
  simp only [XA]
  refine call_go (by kernel_rfl) rfl (pone_c _) fun v1 V1 hV1 h1 => ?_
  obtain ⟨x1, y1, rfl, p1, p2⟩ := h1.form
  simp only [XA]
  refine bs_go (by kernel_rfl) #[(0, .agg #[.bool (ng 1), x1, y1])] (by simp [ev_tmp, SV.val]) (bs_rat elemT_31) fun b3 hb3 hb4 => ?_
  simp only [XA, Nat.reduceAdd]
  refine hK _ ?_
  refine XWP.pub b3 ⟨48, [.bool (ng 1), x1, y1], 3⟩ (by simp only [upd_at]) fun o ho hle' => ?_
  have hone := (RowAt.snoc (RowAt.nil (E := ratE) V1) (x := 1) (show isOne (.bool (ng 1)) = true from rfl) p1 p2 h1).pub ratE_ok ho hle' (n := 1) (c := 1) rfl (Nat.le_refl _) (by omega)
  have hVb := View.le_trans hV1 hle'
  generalize addV V1 b3 o = V2 at *
  simp only [upd_pub]
  refine XWP.cutD 1 (fun s => ∃ (V8 : View) (wo : Value), StIs (fun Z => [Z 0, .p 0 0, Z 2, .v wo, Z 4,Z 5,Z 6,Z 7,Z 8,Z 9,Z 10,Z 11,Z 12,Z 13,Z 14,Z 15,Z 16,Z 17,Z 18,Z 19,Z 20,Z 21,Z 22,Z 23,Z 24,Z 25,Z 26,Z 27,Z 28,Z 29,Z 30,Z 31,Z 32,Z 33,Z 34,Z 35,Z 36,Z 37,Z 38,Z 39,Z 40,Z 41,Z 42,Z 43,Z 44,Z 45,Z 46,Z 47]) [[.int .i64 (n : Int), .int .i64 (n : Int), .slice A1 (flatG M n n).length c1]] (fun _ => none) V8 s ∧ Rats V8 wo (chrL M n)) ?_ ?_
  · refine Gx.a (by kernel_rfl) fun K hK => ?_
    simp only [XA]
    refine hK _ ?_
    clear hK
    refine XWP.block ?_
    refine XWP.loopD 1 (fun q s => ∃ (i : Nat) (V8 : View) (wo wb : Value) (out base : List Rat), StIs (fun Z => [Z 0, .p 0 0, Z 2, .v wo, .v wb, .v (.int .i64 (i : Int)), Z 6,Z 7,Z 8,Z 9,Z 10,Z 11,Z 12,Z 13,Z 14,Z 15,Z 16,Z 17,Z 18,Z 19,Z 20,Z 21,Z 22,Z 23,Z 24,Z 25,Z 26,Z 27,Z 28,Z 29,Z 30,Z 31,Z 32,Z 33,Z 34,Z 35,Z 36,Z 37,Z 38,Z 39,Z 40,Z 41,Z 42,Z 43,Z 44,Z 45,Z 46,Z 47]) [[.int .i64 (n : Int), .int .i64 (n : Int), .slice A1 (flatG M n n).length c1]] (fun _ => none) V8 s ∧ q + i = n + 1 ∧ V.le V8 ∧ Rats V8 wo out ∧ Rats V8 wb base ∧ NewB (chF M n) i out base) (n + 1) ⟨0, V2, .slice none 0 0, _, [], [1], StIs.of (by exact rfl), by omega, hVb, SlAt.nil _, hone, NewB.start _⟩ ?_
    clear hone ho h1 p1 p2 hb3 hb4
    rintro q s ⟨i, V8, wo, wb, out, base, hs, hq, hV8, ho8, hb8, hN⟩
    obtain ⟨z, rfl⟩ := hs.out
    try dsimp only
    clear hs
    refine XWP.seq ?_
    by_cases hi : i ≤ n
    rotate_left
    · obtain rfl : i = n + 1 := by omega
      have b1 : decide (((n + 1 : Nat) : Int) ≤ (n : Int)) = false := decide_eq_false (by omega)
      refine Gx.a (by kernel_rfl) fun K hK => ?_
      simp only [XM, XA, XB, b1]
      refine hK _ ?_
      refine Gx.f rfl ?_
      refine XWP.exit ?_
      exact fun f => ⟨V8, wo, StIs.of (by exact rfl), by rw [← hN.done]; exact ho8⟩
    have b1 : decide ((i : Int) ≤ (n : Int)) = true := decide_eq_true (by omega)
    refine Gx.a (by kernel_rfl) fun K hK => ?_
    simp only [XM, XA, XB, b1]
    refine hK _ ?_
    refine Gx.t rfl ?_
    refine XWP.skip ?_
    have hi5 : i ≤ 5 := by omega
    have hl := hN.inv.lens
    have hnb := nb_le (i := i) (by omega)
    obtain ⟨by', hby⟩ : ∃ by', by' = (chF M n i - evr out (i : Rat) out.length) / evr base (i : Rat) base.length := ⟨_, rfl⟩
    have heo := (hN.evo hi5).2
    have heb := (hN.evb hi5).2
    have hnz := hN.base_nz hi5
    have q3 := smal_QB (n := i) (by omega)
    have fo : (out.length + 2) * ((nb i).2 + (out.length + 1) * 3 + 1) ≤ 17592186044416 := Nat.le_trans (Nat.mul_le_mul (show out.length + 2 ≤ 8 by omega) (show (nb i).2 + (out.length + 1) * 3 + 1 ≤ 200000000100 by omega)) (by decide)
    have fb' : (base.length + 2) * ((nb i).1 + (base.length + 1) * 3 + 1) ≤ 17592186044416 := Nat.le_trans (Nat.mul_le_mul (show base.length + 2 ≤ 9 by omega) (show (nb i).1 + (base.length + 1) * 3 + 1 ≤ 600000 by omega)) (by decide)
    refine XWP.seq ?_
    refine XWP.block ?_
    refine Gx.a (by kernel_rfl) fun K hK => ?_
    simp only [XA]
    refine call_go (by kernel_rfl) rfl (dmakei_c _ i (by omega)) fun v9 V9 hV9 h9 => ?_
    obtain ⟨w9, rfl, h9⟩ := h9
    obtain ⟨x9, y9, rfl, p3, p4⟩ := h9.form
    simp only [XA, XB]
    refine st_rat rfl rfl rfl p3 p4 ?_
    simp only [XA]
    refine hK _ ?_
    have hi9 := ha.up (View.le_trans hV8 hV9)
    have ho9 := ho8.up hV9
    have hb9 := hb8.up hV9
    refine XWP.cut (fun s => ∃ (V10 : View) (x y : Value), StIs (fun Z => [Z 0, .p 0 0, Z 2, .v wo, .v wb, .v (.int .i64 (i : Int)), .p 1 0, Z 7, .p 2 0, Z 9,Z 10,Z 11,Z 12,Z 13,Z 14,Z 15,Z 16,Z 17,Z 18,Z 19,Z 20,Z 21,Z 22,Z 23,Z 24,Z 25,Z 26,Z 27,Z 28,Z 29,Z 30,Z 31,Z 32,Z 33,Z 34,Z 35,Z 36,Z 37,Z 38,Z 39,Z 40,Z 41,Z 42,Z 43,Z 44,Z 45,Z 46,Z 47]) [[.int .i64 (n : Int), .int .i64 (n : Int), .slice A1 (flatG M n n).length c1], [.bool (ng (i : Rat)), x9, y9], [.bool (ng by'), x, y]] (fun _ => none) V10 s ∧ V9.le V10 ∧ RatC V10 (.agg #[.bool (ng by'), x, y]) by' ∧ isOne x = true ∧ isOne y = true ∧ QB 2200000 (chF M n i)) ?_ ?_
    · (refine XWP.drwT1 (.lin [0, 1, 3, 4, 7, 8] (.two (.lin [2] (.two (.lin [5] (.two (.lin [6] (.two (.lin [9] (.two (.lin [10, 11, 12, 13, 14, 15, 16] .nil) (.lin [14, 10, 11, 12, 13, 15, 16] .nil))) (.lin [14, 9, 10, 11, 12, 13, 15, 16] .nil))) (.lin [14, 6, 9, 10, 11, 12, 13, 15, 16] .nil))) (.lin [14, 5, 6, 9, 10, 11, 12, 13, 15, 16] .nil))) (.lin [14, 2, 5, 6, 9, 10, 11, 12, 13, 15, 16] .nil))) (by kernel_rfl) (by kernel_rfl) (by kernel_rfl) fun K hK => ?_)
      simp only [XM, XA, XB, Nat.reduceAdd, Nat.reduceLeDiff, ↓reduceIte]
      refine And.intro ?_ ?_
      all_goals refine call_go (by kernel_rfl) rfl (dshift_c _ _ _ n M (i : Rat) hi9 hn5 h9 q3) fun v10 V10 hV10 h10 => ?_
      all_goals obtain ⟨h10, q10⟩ := h10
      all_goals simp only [XA, XB, Nat.reduceAdd]
      all_goals try refine And.intro ?_ ?_
      all_goals refine call_go (by kernel_rfl) rfl (deval_c _ _ _ out (i : Rat) (nb i).2 3 (ho9.up hV10) (h9.mono hV10) hN.ob q3 (by omega) fo) fun v11 V11 hV11 h11 => ?_
      all_goals have f10 : QF (chF M n i) := q10.qf (by omega)
      all_goals have f11 : QF (evr out (i : Rat) out.length) := heo.qf (by omega)
      all_goals have f12 : QF (chF M n i - evr out (i : Rat) out.length) := (q10.sub heo).qf (by omega)
      all_goals have f13 : QF (evr base (i : Rat) base.length) := heb.qf (by omega)
      all_goals simp only [XA, XB, Nat.reduceAdd]
      all_goals try refine And.intro ?_ ?_
      all_goals refine call_go (by kernel_rfl) rfl (psub_c _ _ _ (chF M n i) _ ((h10.mono hV11).toV f10) (h11.toV f11) f10 f11) fun v12 V12 hV12 h12 => ?_
      all_goals simp only [XA, XB, Nat.reduceAdd]
      all_goals try refine And.intro ?_ ?_
      all_goals have hle12 := View.le_trans hV10 (View.le_trans hV11 hV12)
      all_goals refine call_go (by kernel_rfl) rfl (deval_c _ _ _ base (i : Rat) (nb i).1 3 (hb9.up hle12) (h9.mono hle12) hN.bb q3 (by omega) fb') fun v13 V13 hV13 h13 => ?_
      all_goals simp only [XA, XB, Nat.reduceAdd]
      all_goals try refine And.intro ?_ ?_
      all_goals refine call_go (by kernel_rfl) rfl (pdiv_c _ _ _ _ _ ((h12.mono hV13).toV f12) (h13.toV f13) f12 f13) fun v14 V14 hV14 h14 => ?_
      all_goals obtain ⟨r, rfl, k14⟩ := h14.2 hnz
      all_goals rw [← hby] at k14
      all_goals obtain ⟨x14, y14, rfl, p5, p6⟩ := k14.form
      all_goals simp only [XA, XB, Nat.reduceAdd]
      all_goals refine st_rat rfl rfl rfl p5 p6 ?_
      all_goals simp only [XA]
      all_goals exact hK _ ⟨V14, x14, y14, StIs.of (by exact rfl), View.le_trans hle12 (View.le_trans hV13 hV14), k14, p5, p6, q10⟩
    rintro s ⟨V10, x10, y10, hs, hV10, hbq, p5, p6, hfi⟩
    obtain ⟨z, rfl⟩ := hs.out
    try dsimp only
    clear hs
    have qby := hN.by_QB hi5 hfi
    rw [← hby] at qby
    have hstep := hN.step hi5 hfi
    rw [← hby] at hstep
    have ho10 := ho9.up hV10
    have hb10 := hb9.up hV10
    have h9' := h9.mono hV10
    refine Gx.a (by kernel_rfl) fun K hK => ?_
    simp only [XA, XB, Nat.reduceAdd, Nat.reduceLeDiff, ↓reduceIte]
    refine call_go (by kernel_rfl) rfl (dsum_c _ _ _ _ out base by' 0 (nb i).2 (nb i).1 _ ho10 hb10 hbq hN.ob hN.bb qby (by omega) (by omega) (by omega)) fun v15 V15 hV15 h15 => ?_
    simp only [XA]
    refine hK _ ?_
    refine Gx.c (by kernel_rfl) fun K hK => ?_
    simp only [XA, XB, Nat.reduceAdd, Nat.reduceLeDiff, ↓reduceIte]
    refine call_go (by kernel_rfl) rfl (pneg_c _ _ _ ((h9'.mono hV15).toV (q3.qf (by omega)))) fun v16 V16 hV16 h16 => ?_
    simp only [XA]
    refine call_go (by kernel_rfl) rfl (pone_c _) fun v17 V17 hV17 h17 => ?_
    obtain ⟨x16, y16, rfl, p7, p8⟩ := h16.form
    obtain ⟨x17, y17, rfl, p9, p10⟩ := h17.form
    simp only [XA]
    refine bs_go (by kernel_rfl) #[(0, .agg #[.bool (ng (-(i : Rat))), x16, y16]), (1, .agg #[.bool (ng 1), x17, y17])] (by simp [ev_tmp, SV.val]) (bs_rat2 elemT_31) fun b4 hb4 hb5 => ?_
    simp only [XA, Nat.reduceAdd]
    refine call_pub b4 ⟨48, [.bool (ng (-(i : Rat))), x16, y16, .bool (ng 1), x17, y17], 6⟩ (by simp only [upd_at]) (fun o ho hle2 => ?_) (by kernel_rfl) rfl
    have hlin := (((RowAt.nil (E := ratE) V17).snoc (x := -(i : Rat)) (show isOne (.bool (ng (-(i : Rat)))) = true from rfl) p7 p8 (h16.mono hV17)).snoc (x := 1) (show isOne (.bool (ng 1)) = true from rfl) p9 p10 h17).pub ratE_ok ho hle2 (n := 2) (c := 2) rfl (Nat.le_refl _) (by omega)
    have hle3 := View.le_trans hV15 (View.le_trans hV16 (View.le_trans hV17 hle2))
    refine call_go (by kernel_rfl) rfl (dprod_c _ _ _ base [-(i : Rat), 1] (nb i).1 6 4 (hb10.up hle3) hlin hN.bb (lin_CB (by omega)) (by simp) (by simp; omega) (by omega) (by simp; omega)) fun v18 V18 hV18 h18 => ?_
    simp only [XA, upd_pub]
    refine hK _ ?_
    refine Gx.c (by kernel_rfl) fun K hK => ?_
    simp only [XA, XB, i64_succ i (by omega)]
    have hle4 := View.le_trans hle3 hV18
    exact hK _ ⟨q - 1, by omega, fun f => ⟨i + 1, V18, _, _, _, _, StIs.of (by exact rfl), by omega, View.le_trans hV8 (View.le_trans hV9 (View.le_trans hV10 hle4)), (h15.up (View.le_trans hV16 (View.le_trans hV17 (View.le_trans hle2 hV18)))), h18, hstep⟩⟩
  rintro s ⟨V8, wo, hs, ho8⟩
  obtain ⟨z, rfl⟩ := hs.out
  try dsimp only
  refine Gx.a (by kernel_rfl) fun K hK => ?_
  simp only [XA]
  refine hK _ (XWP.ret ?_)
  try simp only [thenX_ret, inBlockX_ret]
  refine ret_go _ rfl ?_
  exact ho8
end Go.Proofs.YthoboehbadmlmaaGreat
end
section
namespace Go.Proofs.YthoboehbadmlmaaGreat
open Go Go.RowKit
set_option linter.unusedSimpArgs false
set_option linter.unusedVariables false
attribute [local irreducible] XWP Spec SpecO XPub XCall seqX clX apX stX ldX iaX slX
theorem opt_load {H : Heap} {V : View} {b e tot : Nat} {cells : List Value} {xs : List (Option Rat)} (hr : H b = some ⟨e, cells, tot⟩) (h : RowAt (optE ratE) V cells xs) {i : Nat} {q : Rat} (hi : xs[i]? = some (some q)) : ∃ m n d, RatC V (.agg #[m, n, d]) q ∧ (isOne m = true ∧ isOne n = true ∧ isOne d = true) ∧ Loads Tryz.prog H V 48 b (i * 3) (.agg #[m, n, d]) := by
  have hl := (List.getElem?_eq_some_iff.1 hi).1
  have hv := (List.getElem?_eq_some_iff.1 hi).2
  obtain ⟨v, h1, ⟨m, n, d, rfl, o1⟩, h2⟩ := RowAt.load hr h i hl
  rw [hv] at h1
  exact ⟨m, n, d, h1, o1, h2⟩
set_option maxHeartbeats 8000000 in
theorem cOf_c (V : View) (s1 : Value) (n : Nat) (M : Grid) (ha : SqM V s1 n 97 M) (hn5 : n ≤ 5) :
    Spec Tryz.prog 8 [.agg #[.int .i64 (n : Int), .int .i64 (n : Int), s1]] V fun v' V' => ∃ w, v' = .tuple #[w, .int .i64 0] ∧ Rats V' w (chrL M n) := by
  obtain ⟨A1, c1, rfl, hc1, hm1⟩ := ha.hv.form
  have hfl := fun k (hk : k ≤ 5) => flP_QB (M := M) hn5 ha.hq hk
  obtain ⟨f, hf⟩ : ∃ f : Nat → Rat, f = fun i => (flP M n (n - i)).2 := ⟨_, rfl⟩
  have hlen : (mk (n + 1) f).length = n + 1 := mk_len _ _
  refine (Spec.enter Tryz.func8 rfl fun Γ => ?_)
  simp only [Tryz.ntmps8, List.map_cons, List.map_nil, List.length_cons, List.length_nil, Nat.reduceAdd, Nat.reduceSub, List.replicate_succ, List.replicate_zero, List.cons_append, List.nil_append]
  refine Gx.a (by kernel_rfl) fun K hK => ?_
  simp only [XA]
  refine hK _ ?_
  refine XWP.seq ?_
  refine Gx.a (by kernel_rfl) fun K hK => ?_
  simp only [XM, XA, Nat.reduceAdd, Nat.reduceLeDiff, ↓reduceIte]
  refine call_go (by kernel_rfl) rfl (cmr_c ha (by omega)) fun v1 V1 hV1 h1 => ?_
  subst h1
  simp only [XA]
  refine hK _ ?_
  refine Gx.f rfl ?_
  refine XWP.skip ?_
  refine XWP.seq ?_
  refine Gx.a (by kernel_rfl) fun K hK => ?_
  simp only [XM, XA, XB, decide_true]
  refine hK _ ?_
  refine Gx.f rfl ?_
  refine XWP.skip ?_
  refine Gx.a (by kernel_rfl) fun K hK => ?_
  simp only [XM, XA, XB]
  refine hK _ ?_
  refine Gx.a (by kernel_rfl) fun K hK => ?_
  simp only [XA, XB, i64_succ n (by omega)]
  refine mk_go rfl rfl elemT_25 zeroT_48 (by omega) (by omega) (by omega) (by omega) rfl (by omega) fun g hg1 hg2 => ?_
  simp only [XA]
  refine hK _ ?_
  have hrow0 : RowAt (optE ratE) V1 (List.replicate (n + 1) [Value.bool false, .slice none 0 0, .slice none 0 0]).flatten (bpart (n + 1) f 0) := by rw [bpart_zero]; exact RowAt.new V1 (n + 1)
  have hH0 : upd (fun _ => none) g (some ⟨48, (List.replicate (n + 1) [Value.bool false, .slice none 0 0, .slice none 0 0]).flatten, (n + 1) * 3⟩) g = some ⟨48, (List.replicate (n + 1) [Value.bool false, .slice none 0 0, .slice none 0 0]).flatten, (n + 1) * 3⟩ := upd_at _ _ _
  have hl0 := hrow0.1
  rw [bpart_len] at hl0
  generalize (List.replicate (n + 1) [Value.bool false, Value.slice none 0 0, Value.slice none 0 0]).flatten = cells0 at *
  refine Gx.a (by kernel_rfl) fun K hK => ?_
  simp only [XA]
  refine call_go (by kernel_rfl) rfl (qone_c _) fun v2 V2 hV2 h2 => ?_
  obtain ⟨x2, y2, rfl, p1, p2⟩ := h2.form
  simp only [XA, XB]
  refine ⟨by omega, by omega, ?_⟩
  refine st_rowA shapeT_48 (all3 rfl p1 p2) rfl hH0 (by dsimp only; omega) ?_
  simp only [XA]
  refine hK _ ?_
  have hrow1 := (hrow0.mono (optE_ok ratE_ok) hV2).set n (by rw [bpart_len]; omega) (x := some 1) (show isOne (.bool (ng 1)) = true from rfl) p1 p2 h2
  have ef : f (n + 1 - 1 - 0) = 1 := by rw [hf]; show (flP M n (n - (n + 1 - 1 - 0))).2 = 1; rw [show n - (n + 1 - 1 - 0) = 0 by omega]; rfl
  have es := bpart_step f (N := n + 1) (k := 0) (by omega)
  rw [ef, show n + 1 - 1 - 0 = n by omega] at es
  rw [es] at hrow1
  have hH1 := upd_at (upd (fun _ => none) g (some ⟨48, cells0, (n + 1) * 3⟩)) g (some ⟨48, splice cells0 (n * 3) [.bool (ng 1), x2, y2], (n + 1) * 3⟩)
  generalize splice cells0 (n * 3) [.bool (ng 1), x2, y2] = cells1 at *
  generalize upd (upd (fun _ => none) g _) g _ = H1 at *
  clear hrow0 hH0 hl0
  refine Gx.a (by kernel_rfl) fun K hK => ?_
  simp only [XA]
  refine call_go (by kernel_rfl) rfl (cmzero_c _ n n (by omega) (by omega)) fun v3 V3 hV3 h3 => ?_
  obtain ⟨w3, rfl, h3⟩ := h3
  have ow3 := SlAt.one h3
  simp only [XM, XA]
  refine st_mat shapeT_24 rfl rfl rfl rfl ow3 ?_
  simp only [XA]
  refine hK _ ?_
  have hA0 : SqM V3 w3 n 500000000 (flP M n 0).1 := ⟨h3, by omega, (hfl 0 (by omega)).1⟩
  have hVb := View.le_trans hV1 (View.le_trans hV2 hV3)
  refine XWP.cutD 2 (fun s => ∃ (V8 : View) (H8 : Heap) (w8 : Value) (cells : List Value), StIs (fun Z => [Z 0, .p 0 0, Z 2, Z 3, .v (.int .i64 (n : Int)), .v (.slice (some ⟨g, 0, none⟩) (n + 1) (n + 1)), .p 1 0, Z 7, Z 8,Z 9,Z 10,Z 11,Z 12,Z 13,Z 14,Z 15,Z 16,Z 17,Z 18,Z 19,Z 20,Z 21,Z 22,Z 23,Z 24,Z 25,Z 26,Z 27,Z 28,Z 29,Z 30,Z 31,Z 32,Z 33,Z 34,Z 35,Z 36,Z 37,Z 38,Z 39,Z 40,Z 41,Z 42,Z 43,Z 44,Z 45,Z 46,Z 47,Z 48,Z 49,Z 50,Z 51,Z 52,Z 53,Z 54,Z 55,Z 56,Z 57,Z 58,Z 59,Z 60,Z 61,Z 62,Z 63,Z 64,Z 65,Z 66,Z 67,Z 68,Z 69,Z 70,Z 71,Z 72,Z 73,Z 74,Z 75,Z 76,Z 77,Z 78,Z 79,Z 80,Z 81,Z 82,Z 83,Z 84,Z 85]) [[.int .i64 (n : Int), .int .i64 (n : Int), .slice A1 (flatG M n n).length c1], [.int .i64 (n : Int), .int .i64 (n : Int), w8]] H8 V8 s ∧ H8 g = some ⟨48, cells, (n + 1) * 3⟩ ∧ RowAt ratE V8 cells (chrL M n)) ?_ ?_
  · refine Gx.a (by kernel_rfl) fun K hK => ?_
    simp only [XA]
    refine hK _ ?_
    clear hK
    refine XWP.block ?_
    refine XWP.loopD 2 (fun q s => ∃ (k : Nat) (V8 : View) (H8 : Heap) (w8 : Value) (cells : List Value), StIs (fun Z => [Z 0, .p 0 0, Z 2, Z 3, .v (.int .i64 (n : Int)), .v (.slice (some ⟨g, 0, none⟩) (n + 1) (n + 1)), .p 1 0, Z 7, .v (.int .i64 ((k + 1 : Nat) : Int)), Z 9,Z 10,Z 11,Z 12,Z 13,Z 14,Z 15,Z 16,Z 17,Z 18,Z 19,Z 20,Z 21,Z 22,Z 23,Z 24,Z 25,Z 26,Z 27,Z 28,Z 29,Z 30,Z 31,Z 32,Z 33,Z 34,Z 35,Z 36,Z 37,Z 38,Z 39,Z 40,Z 41,Z 42,Z 43,Z 44,Z 45,Z 46,Z 47,Z 48,Z 49,Z 50,Z 51,Z 52,Z 53,Z 54,Z 55,Z 56,Z 57,Z 58,Z 59,Z 60,Z 61,Z 62,Z 63,Z 64,Z 65,Z 66,Z 67,Z 68,Z 69,Z 70,Z 71,Z 72,Z 73,Z 74,Z 75,Z 76,Z 77,Z 78,Z 79,Z 80,Z 81,Z 82,Z 83,Z 84,Z 85]) [[.int .i64 (n : Int), .int .i64 (n : Int), .slice A1 (flatG M n n).length c1], [.int .i64 (n : Int), .int .i64 (n : Int), w8]] H8 V8 s ∧ q + k = n ∧ V.le V8 ∧ H8 g = some ⟨48, cells, (n + 1) * 3⟩ ∧ RowAt (optE ratE) V8 cells (bpart (n + 1) f (k + 1)) ∧ SqM V8 w8 n 500000000 (flP M n k).1) n ⟨0, V3, H1, w3, cells1, StIs.of (by exact rfl), by omega, hVb, hH1, hrow1.mono (optE_ok ratE_ok) hV3, hA0⟩ ?_
    clear hH1 hrow1 hA0 h2 p1 p2 h3 ow3 ef es
    rintro q s ⟨k, V8, H8, w8, cells, hs, hq, hV8, hH8, hrow8, hA⟩
    obtain ⟨z, rfl⟩ := hs.out
    try dsimp only
    clear hs
    refine XWP.seq ?_
    by_cases hk : k < n
    rotate_left
    · obtain rfl : k = n := by omega
      have b1 : decide (((k + 1 : Nat) : Int) ≤ (k : Int)) = false := decide_eq_false (by omega)
      refine Gx.a (by kernel_rfl) fun K hK => ?_
      simp only [XA, XB, b1]
      refine hK _ ?_
      refine Gx.f rfl ?_
      refine XWP.exit ?_
      rw [bpart_all] at hrow8
      have e : chrL M k = mk (k + 1) f := by rw [hf]; rfl
      exact fun f' => ⟨V8, H8, w8, cells, StIs.of (by exact rfl), hH8, by rw [e]; exact RowAt.all hrow8⟩
    have b1 : decide (((k + 1 : Nat) : Int) ≤ (n : Int)) = true := decide_eq_true (by omega)
    refine Gx.a (by kernel_rfl) fun K hK => ?_
    simp only [XA, XB, b1]
    refine hK _ ?_
    refine Gx.t rfl ?_
    refine XWP.skip ?_
    refine XWP.cutD 2 (fun s => ∃ (V9 : View) (H9 : Heap) (w9 : Value) (cells : List Value), StIs (fun Z => [Z 0, .p 0 0, Z 2, Z 3, .v (.int .i64 (n : Int)), .v (.slice (some ⟨g, 0, none⟩) (n + 1) (n + 1)), .p 1 0, Z 7, .v (.int .i64 ((k + 1 : Nat) : Int)), Z 9,Z 10,Z 11,Z 12,Z 13,Z 14,Z 15,Z 16,Z 17,Z 18,Z 19,Z 20,Z 21,Z 22,Z 23,Z 24,Z 25,Z 26,Z 27,Z 28,Z 29,Z 30,Z 31,Z 32,Z 33,Z 34,Z 35,Z 36,Z 37,Z 38,Z 39,Z 40,Z 41,Z 42,Z 43,Z 44,Z 45,Z 46,Z 47,Z 48,Z 49,Z 50,Z 51,Z 52,Z 53,Z 54,Z 55,Z 56,Z 57,Z 58,Z 59,Z 60,Z 61,Z 62,Z 63,Z 64,Z 65,Z 66,Z 67,Z 68,Z 69,Z 70,Z 71,Z 72,Z 73,Z 74,Z 75,Z 76,Z 77,Z 78,Z 79,Z 80,Z 81,Z 82,Z 83,Z 84,Z 85]) [[.int .i64 (n : Int), .int .i64 (n : Int), .slice A1 (flatG M n n).length c1], [.int .i64 (n : Int), .int .i64 (n : Int), w9]] H9 V9 s ∧ V8.le V9 ∧ H9 g = some ⟨48, cells, (n + 1) * 3⟩ ∧ RowAt (optE ratE) V9 cells (bpart (n + 1) f (k + 1 + 1)) ∧ SqM V9 w9 n 500000000 (flP M n (k + 1)).1) ?_ ?_
    rotate_left
    · rintro s ⟨V9, H9, w9, cells', hs, hV9, hH9, hrow9, hA9⟩
      obtain ⟨z, rfl⟩ := hs.out
      try dsimp only
      clear hs
      refine Gx.c (by kernel_rfl) fun K hK => ?_
      simp only [XA, XB, i64_succ (k + 1) (by omega)]
      exact hK _ ⟨q - 1, by omega, fun f' => ⟨k + 1, V9, H9, w9, cells', StIs.of (by exact rfl), by omega, View.le_trans hV8 hV9, hH9, hrow9, hA9⟩⟩
    clear hK
    refine XWP.block ?_
    have hfk : f (n - k) = (flP M n k).2 := by rw [hf]; show (flP M n (n - (n - k))).2 = _; rw [show n - (n - k) = k by omega]
    obtain ⟨m4, n4, d4, hx4, ⟨o1, o2, o3⟩, hld4⟩ := opt_load hH8 hrow8 (i := n - k) (q := (flP M n k).2) (by rw [bpart_at (by omega) (by omega), hfk])
    have w1 := i64_sub n (k + 1) (by omega) (by omega)
    have w2 : IntKind.i64.wrap (((n - (k + 1) : Nat) : Int) + 1) = ((n - k : Nat) : Int) := by rw [wrap_id (by omega) (by omega)]; omega
    obtain ⟨q1, q2⟩ := hfl k (by omega)
    obtain ⟨q3, q4⟩ := hfl (k + 1) (by omega)
    refine XWP.cutD 2 (fun s => ∃ (V9 : View) (w9 : Value), StIs (fun Z => [Z 0, .p 0 0, Z 2, Z 3, .v (.int .i64 (n : Int)), .v (.slice (some ⟨g, 0, none⟩) (n + 1) (n + 1)), .p 1 0, Z 7, .v (.int .i64 ((k + 1 : Nat) : Int)), Z 9,Z 10,Z 11,Z 12,Z 13,Z 14,Z 15,Z 16,Z 17,Z 18,Z 19,Z 20,Z 21,Z 22,Z 23,Z 24,Z 25,Z 26,Z 27,Z 28,Z 29,Z 30,Z 31,Z 32,Z 33,Z 34,Z 35,Z 36,Z 37,Z 38,Z 39,Z 40,Z 41,Z 42,Z 43,Z 44,Z 45,Z 46,Z 47,Z 48,Z 49,Z 50,Z 51,Z 52,Z 53,Z 54,Z 55,Z 56,Z 57,Z 58,Z 59,Z 60,Z 61,Z 62,Z 63,Z 64,Z 65,Z 66,Z 67,Z 68,Z 69,Z 70,Z 71,Z 72,Z 73,Z 74,Z 75,Z 76,Z 77,Z 78,Z 79,Z 80,Z 81,Z 82,Z 83,Z 84,Z 85]) [[.int .i64 (n : Int), .int .i64 (n : Int), .slice A1 (flatG M n n).length c1], [.int .i64 (n : Int), .int .i64 (n : Int), w9]] H8 V9 s ∧ V8.le V9 ∧ SqM V9 w9 n 500000000 (flP M n (k + 1)).1) ?_ ?_
    · (refine XWP.drw1 [0, 1, 2, 3, 4, 5, 6, 7, 8, 9, 10, 11, 12, 13, 14] (by kernel_rfl) (by kernel_rfl) (by kernel_rfl) fun K hK => ?_) <;> dsimp only [pickOps, List.getElem?_cons_zero, List.getElem?_cons_succ]
      simp only [XM, XA, XB, Nat.reduceAdd, Nat.reduceLeDiff, ↓reduceIte, w1, w2]
      refine ⟨by omega, by omega, ld_mem hld4 ?_⟩
      simp only [XA]
      refine call_go (by kernel_rfl) rfl (cplus_c _ _ _ n 500000000 2500000000 _ _ hA hx4 q2 (by omega)) fun v9 V9 hV9 h9 => ?_
      obtain ⟨w9, rfl, h9⟩ := h9
      have hP : SqM V9 w9 n 3000000001 (fun i j => (flP M n k).1 i j + gid i j * (flP M n k).2) := ⟨h9, hA.hn, fun i j hi hj => ((q1 i j hi hj).add ((gid_QB i j).mul q2)).mono (by omega)⟩
      simp only [XA]
      refine call_go (by kernel_rfl) rfl (cmMul_c _ _ _ n 97 3000000001 M _ (ha.up (View.le_trans hV8 hV9)) hP hn5 (by omega)) fun v10 V10 hV10 h10 => ?_
      obtain ⟨w10, rfl, h10⟩ := h10
      have ow10 := SlAt.one h10
      simp only [XA]
      refine st_mat shapeT_24 rfl rfl rfl rfl ow10 ?_
      simp only [XA]
      refine hK _ fun f' => ⟨V10, w10, StIs.of (by exact rfl), View.le_trans hV9 hV10, ⟨?_, hA.hn, q3⟩⟩
      rw [flatG_congr (G' := (flP M n (k + 1)).1)] at h10
      · exact h10
      · intro i j hi hj
        show _ = gmul M (fun i j => (flP M n k).1 i j + (flP M n k).2 * gid i j) n i j
        exact gmul_congr (fun _ _ _ _ => rfl) (fun i j _ _ => by grind) hi hj
    rintro s ⟨V9, w9, hs, hV9, hA9⟩
    obtain ⟨z, rfl⟩ := hs.out
    try dsimp only
    clear hs hx4 o1 o2 o3 hld4 q1 q2
    have hrow9 := hrow8.mono (optE_ok ratE_ok) hV9
    clear hrow8 hA
    obtain ⟨A9, c9, ew, hc9, hm9⟩ := hA9.hv.form
    subst ew
    refine Gx.a (by kernel_rfl) fun K hK => ?_
    simp only [XA]
    refine call_go (by kernel_rfl) rfl (qzero_c _) fun v10 V10 hV10 h10 => ?_
    obtain ⟨x10, y10, rfl, p1, p2⟩ := h10.form
    simp only [XA, XB, Nat.reduceAdd]
    refine st_rat rfl rfl rfl p1 p2 ?_
    simp only [XA]
    refine hK _ ?_
    have hQt : ∀ j, j ≤ n → QB 2500000005 (Sm (fun i => (flP M n (k + 1)).1 i i) j) := fun j hj => (Sm_QBk hn5 (fun t ht => q3 t t ht ht) j hj).mono (by omega)
    refine XWP.cut (fun s => ∃ (V11 : View) (m : Bool) (x y : Value), StIs (fun Z => [Z 0, .p 0 0, Z 2, Z 3, .v (.int .i64 (n : Int)), .v (.slice (some ⟨g, 0, none⟩) (n + 1) (n + 1)), .p 1 0, Z 7, .v (.int .i64 ((k + 1 : Nat) : Int)), .p 2 0, Z 10,Z 11,Z 12,Z 13,Z 14,Z 15,Z 16,Z 17,Z 18,Z 19,Z 20,Z 21,Z 22,Z 23,Z 24,Z 25,Z 26,Z 27,Z 28,Z 29,Z 30,Z 31,Z 32,Z 33,Z 34,Z 35,Z 36,Z 37,Z 38,Z 39,Z 40,Z 41,Z 42,Z 43,Z 44,Z 45,Z 46,Z 47,Z 48,Z 49,Z 50,Z 51,Z 52,Z 53,Z 54,Z 55,Z 56,Z 57,Z 58,Z 59,Z 60,Z 61,Z 62,Z 63,Z 64,Z 65,Z 66,Z 67,Z 68,Z 69,Z 70,Z 71,Z 72,Z 73,Z 74,Z 75,Z 76,Z 77,Z 78,Z 79,Z 80,Z 81,Z 82,Z 83,Z 84,Z 85]) [[.int .i64 (n : Int), .int .i64 (n : Int), .slice A1 (flatG M n n).length c1], [.int .i64 (n : Int), .int .i64 (n : Int), .slice A9 (flatG (flP M n (k + 1)).1 n n).length c9], [.bool m, x, y]] H8 V11 s ∧ V10.le V11 ∧ RatC V11 (.agg #[.bool m, x, y]) (Sm (fun i => (flP M n (k + 1)).1 i i) n) ∧ isOne x = true ∧ isOne y = true) ?_ ?_
    · refine Gx.a (by kernel_rfl) fun K hK => ?_
      simp only [XA]
      refine hK _ ?_
      clear hK
      refine XWP.block ?_
      refine XWP.loop (fun d s => ∃ (i : Nat) (V11 : View) (m : Bool) (x y : Value), StIs (fun Z => [Z 0, .p 0 0, Z 2, Z 3, .v (.int .i64 (n : Int)), .v (.slice (some ⟨g, 0, none⟩) (n + 1) (n + 1)), .p 1 0, Z 7, .v (.int .i64 ((k + 1 : Nat) : Int)), .p 2 0, Z 10,Z 11,Z 12,Z 13,Z 14,Z 15,Z 16,Z 17,Z 18,Z 19,Z 20,Z 21,Z 22,Z 23,Z 24,Z 25,Z 26,Z 27,Z 28,Z 29,Z 30,Z 31,Z 32,Z 33,Z 34,Z 35,Z 36,Z 37,Z 38,Z 39,Z 40,Z 41,Z 42,Z 43,Z 44,Z 45,Z 46,Z 47,Z 48,Z 49,Z 50,Z 51,Z 52,Z 53,Z 54,Z 55, .v (.int .i64 (n : Int)), .v (.int .i64 (i : Int)), Z 58,Z 59,Z 60,Z 61,Z 62,Z 63,Z 64,Z 65,Z 66,Z 67,Z 68,Z 69,Z 70,Z 71,Z 72,Z 73,Z 74,Z 75,Z 76,Z 77,Z 78,Z 79,Z 80,Z 81,Z 82,Z 83,Z 84,Z 85]) [[.int .i64 (n : Int), .int .i64 (n : Int), .slice A1 (flatG M n n).length c1], [.int .i64 (n : Int), .int .i64 (n : Int), .slice A9 (flatG (flP M n (k + 1)).1 n n).length c9], [.bool m, x, y]] H8 V11 s ∧ d + i = n ∧ V10.le V11 ∧ RatC V11 (.agg #[.bool m, x, y]) (Sm (fun i => (flP M n (k + 1)).1 i i) i) ∧ isOne x = true ∧ isOne y = true) n ⟨0, V10, _, x10, y10, StIs.of (by exact rfl), by omega, View.le_refl _, h10, p1, p2⟩ ?_
      clear h10 p1 p2
      rintro d s ⟨i, V11, m, x, y, hs, hd, hV11, hx, o1, o2⟩
      obtain ⟨z, rfl⟩ := hs.out
      try dsimp only
      clear hs
      by_cases hi : i < n
      rotate_left
      · obtain rfl : i = n := by omega
        have b2 : decide ((i : Int) < (i : Int)) = false := decide_eq_false (by omega)
        refine Gx.a (by kernel_rfl) fun K hK => ?_
        simp only [XA, XB, b2]
        refine hK _ ?_
        refine XWP.seq (Gx.f rfl ?_)
        refine XWP.exit ?_
        exact ⟨V11, m, x, y, StIs.of (by exact rfl), hV11, hx, o1, o2⟩
      have b2 : decide ((i : Int) < (n : Int)) = true := decide_eq_true (by omega)
      refine Gx.a (by kernel_rfl) fun K hK => ?_
      simp only [XA, XB, b2]
      refine hK _ ?_
      refine XWP.seq (Gx.t rfl ?_)
      refine XWP.skip ?_
      refine XWP.seq ?_
      refine XWP.block ?_
      refine Gx.a (by kernel_rfl) fun K hK => ?_
      simp only [XA]
      refine hK _ ?_
      have hv11 := hA9.hv.up (View.le_trans hV10 hV11)
      have hii := pos_lt hi hi
      have hnn := sq_le hA9.hn
      have hfl9 := flatG_len (flP M n (k + 1)).1 n n
      obtain ⟨b, o, rfl⟩ := SlAt.addr hv11 (by omega)
      obtain ⟨m5, n5, d5, hx5, ⟨r1, r2, r3⟩, hld5⟩ := Rats.get hv11 (i * n + i) (by omega)
      rw [flatG_at _ hi hi] at hx5
      have w3 := wr_mul (i := i) (C := n) (by omega) (by omega)
      have w4 := wr_add (p := i * n) (k := i) (by omega) (by omega)
      (refine XWP.drw1 [0, 1, 2, 3, 4, 5, 6, 7, 8, 9, 10, 11] (by kernel_rfl) (by kernel_rfl) (by kernel_rfl) fun K hK => ?_) <;> dsimp only [pickOps, List.getElem?_cons_zero, List.getElem?_cons_succ]
      simp only [XM, XA, XB, Nat.reduceAdd, Nat.reduceLeDiff, ↓reduceIte, w3, w4]
      refine ⟨by omega, by omega, ld_mem (hld5 _) ?_⟩
      simp only [XA]
      refine call_go (by kernel_rfl) rfl (qadd_c _ _ _ _ _ hx hx5 ((hQt i (by omega)).qf (by omega)) ((q3 i i hi hi).qf (by omega))) fun v12 V12 hV12 h12 => ?_
      obtain ⟨x12, y12, rfl, o5, o6⟩ := h12.form
      simp only [XA]
      refine st_rat rfl rfl rfl o5 o6 ?_
      simp only [XA]
      refine hK _ ?_
      refine Gx.c (by kernel_rfl) fun K hK => ?_
      simp only [XA, XB, i64_succ i (by omega)]
      exact hK _ ⟨d - 1, by omega, i + 1, V12, _, x12, y12, StIs.of (by exact rfl), by omega, View.le_trans hV11 hV12, h12, o5, o6⟩
    clear h10 p1 p2
    rintro s ⟨V11, m, x, y, hs, hV11, hx, o1, o2⟩
    obtain ⟨z, rfl⟩ := hs.out
    try dsimp only
    clear hs
    refine Gx.a (by kernel_rfl) fun K hK => ?_
    simp only [XA]
    refine call_go (by kernel_rfl) rfl (cmakem_c _ k (by omega)) fun v12 V12 hV12 h12 => ?_
    obtain ⟨w12, rfl, h12⟩ := h12
    obtain ⟨x12, y12, rfl, p1, p2⟩ := h12.form
    simp only [XA, XB, Nat.reduceAdd]
    refine st_rat rfl rfl rfl p1 p2 ?_
    simp only [XA]
    refine hK _ ?_
    refine Gx.c (by kernel_rfl) fun K hK => ?_
    simp only [XA, XB, Nat.reduceAdd, Nat.reduceLeDiff, ↓reduceIte, w1]
    refine call_go (by kernel_rfl) rfl (qmul_c _ _ _ _ _ (hx.mono hV12) h12 ((hQt n (by omega)).qf (by omega)) ((part_QB (n := k) (by omega)).qf (by omega))) fun v13 V13 hV13 h13 => ?_
    have e13 : Sm (fun i => (flP M n (k + 1)).1 i i) n * (-1 / ((k : Rat) + 1)) = (flP M n (k + 1)).2 := rfl
    rw [e13] at h13
    obtain ⟨x13, y13, rfl, o5, o6⟩ := h13.form
    have hle13 := View.le_trans hV10 (View.le_trans hV11 (View.le_trans hV12 hV13))
    have hrow13 := hrow9.mono (optE_ok ratE_ok) hle13
    have hl13 := hrow13.1
    rw [bpart_len] at hl13
    simp only [XA, XB]
    refine ⟨by omega, by omega, ?_⟩
    refine st_rowA shapeT_48 (all3 rfl o5 o6) rfl hH8 (by dsimp only; omega) ?_
    simp only [XA]
    have hset := hrow13.set (n - (k + 1)) (by rw [bpart_len]; omega) (x := some (flP M n (k + 1)).2) (show isOne (.bool (ng (flP M n (k + 1)).2)) = true from rfl) o5 o6 h13
    have hfk1 : f (n - (k + 1)) = (flP M n (k + 1)).2 := by rw [hf]; show (flP M n (n - (n - (k + 1)))).2 = _; rw [show n - (n - (k + 1)) = k + 1 by omega]
    have es := bpart_step f (N := n + 1) (k := k + 1) (by omega)
    rw [show n + 1 - 1 - (k + 1) = n - (k + 1) by omega, hfk1] at es
    rw [es] at hset
    exact hK _ fun f' => ⟨V13, _, _, _, StIs.of (by exact rfl), View.le_trans hV9 hle13, upd_at _ _ _, hset, hA9.up hle13⟩
  rintro s ⟨V8, H8, w8, cells, hs, hH8, hrow8⟩
  obtain ⟨z, rfl⟩ := hs.out
  try dsimp only
  refine Gx.a (by kernel_rfl) fun K hK => ?_
  simp only [XA]
  refine hK _ (XWP.ret ?_)
  try simp only [thenX_ret, inBlockX_ret]
  refine ret_pub g _ hH8 fun o ho hle' => ret_go _ (by simp [resAll, resV]; rfl) ⟨_, rfl, ?_⟩
  exact hrow8.pub ratE_ok ho hle' (chrL_len M n) (Nat.le_refl _) (by omega)
end Go.Proofs.YthoboehbadmlmaaGreat
end
section
namespace Go.Proofs.YthoboehbadmlmaaGreat
open Go Go.RowKit
set_option linter.unusedSimpArgs false
set_option linter.unusedVariables false
attribute [local irreducible] XWP Spec SpecO XPub XCall seqX clX apX stX ldX iaX slX
def ofE (r c : Int) (L : List Raw) : Int := if matR r c L = true then (if r = c then 0 else 30) else 1
def ofR (r c : Int) (L : List Raw) : List Rat := if ofE r c L = 0 then chrL (gridL (qs L) c.toNat) c.toNat else []
theorem ofE_bad {r c : Int} {L : List Raw} (h : matR r c L = false) : ofE r c L = 1 ∧ ofR r c L = [] := by
  have e : ofE r c L = 1 := by unfold ofE; rw [h]; rfl
  exact ⟨e, by unfold ofR; rw [e]; rfl⟩
theorem ofE_shape {r c : Int} {L : List Raw} (h : matR r c L = true) (hrc : r ≠ c) : ofE r c L = 30 ∧ ofR r c L = [] := by
  have e : ofE r c L = 30 := by unfold ofE; rw [if_pos h, if_neg hrc]
  exact ⟨e, by unfold ofR; rw [e]; rfl⟩
theorem ofE_good {n : Nat} {L : List Raw} (h : matR (n : Int) (n : Int) L = true) : ofE n n L = 0 ∧ ofR n n L = chrL (gridL (qs L) n) n := by
  have e : ofE n n L = 0 := by unfold ofE; rw [if_pos h, if_pos rfl]
  exact ⟨e, by unfold ofR; rw [if_pos e, Int.toNat_natCast]⟩
/-- a small matrix, as the law takes it -/
structure Small (r c : Int) (L : List Raw) : Prop where
  fit : fitR L
  len : L.length ≤ 100000
  qb : okR L = true → ∀ x ∈ qs L, QB 97 x
  n5 : matR r c L = true → r = c → c ≤ 5
theorem Small.sq {V : View} {s : Value} {r c : Int} {L : List Raw} (h : Small r c L) (hv : Raws V s L) (hm : matR r c L = true) (hrc : r = c) : ∃ n : Nat, r = n ∧ c = n ∧ n ≤ 5 ∧ SqM V s n 97 (gridL (qs L) n) := by
  have h5 := h.n5 hm hrc
  have hm0 := hm
  unfold matR at hm
  simp only [Bool.and_eq_true, decide_eq_true_eq] at hm
  obtain ⟨⟨h1, h2, h3, h4, hl⟩, hok⟩ := hm
  obtain ⟨n, rfl⟩ : ∃ n : Nat, c = n := ⟨c.toNat, by omega⟩
  subst hrc
  have hl2 : (qs L).length = n * n := by
    unfold qs; rw [List.length_map]; exact Int.ofNat.inj (by show (L.length : Int) = ((n * n : Nat) : Int); rw [hl, Int.natCast_mul])
  refine ⟨n, rfl, rfl, by omega, ?_, by omega, fun i k hi hk => ?_⟩
  · rw [flatG_gridL hl2]; exact Raws.rats hv hok
  · exact h.qb hok _ (cf_mem (by rw [hl2]; exact pos_lt hi hk))
theorem cOf_bad (V : View) (s : Value) (r c : Int) (L : List Raw) (hv : Raws V s L) (h : Small r c L) (hm : matR r c L = false) : Spec Tryz.prog 8 [.agg #[.int .i64 r, .int .i64 c, s]] V fun v' V' => ∃ w, v' = .tuple #[w, .int .i64 1] ∧ Rats V' w [] := by
  obtain ⟨A, cp, rfl, _, _⟩ := hv.form
  refine (Spec.enter Tryz.func8 rfl fun Γ => ?_)
  simp only [Tryz.ntmps8, List.map_cons, List.map_nil, List.length_cons, List.length_nil, Nat.reduceAdd, Nat.reduceSub, List.replicate_succ, List.replicate_zero, List.cons_append, List.nil_append]
  refine Gx.a (by kernel_rfl) fun K hK => ?_
  simp only [XA]
  refine hK _ ?_
  refine XWP.seq ?_
  refine Gx.a (by kernel_rfl) fun K hK => ?_
  simp only [XM, XA, Nat.reduceAdd, Nat.reduceLeDiff, ↓reduceIte]
  refine call_go (by kernel_rfl) rfl (cmright_c _ _ _ _ L hv h.fit (by have := h.len; omega)) fun v1 V1 hV1 h1 => ?_
  rw [hm] at h1
  subst h1
  simp only [XA]
  refine hK _ ?_
  refine Gx.t rfl ?_
  refine Gx.a (by kernel_rfl) fun K hK => ?_
  simp only [XA]
  refine hK _ (XWP.ret ?_)
  try simp only [thenX_ret, inBlockX_ret]
  refine ret_go _ rfl ?_
  exact ⟨_, rfl, SlAt.nil _⟩
theorem cOf_shape (V : View) (s : Value) (r c : Int) (L : List Raw) (hv : Raws V s L) (h : Small r c L) (hm : matR r c L = true) (hrc : r ≠ c) : Spec Tryz.prog 8 [.agg #[.int .i64 r, .int .i64 c, s]] V fun v' V' => ∃ w, v' = .tuple #[w, .int .i64 30] ∧ Rats V' w [] := by
  have b1 : decide (r = c) = false := decide_eq_false hrc
  obtain ⟨A, cp, rfl, _, _⟩ := hv.form
  refine (Spec.enter Tryz.func8 rfl fun Γ => ?_)
  simp only [Tryz.ntmps8, List.map_cons, List.map_nil, List.length_cons, List.length_nil, Nat.reduceAdd, Nat.reduceSub, List.replicate_succ, List.replicate_zero, List.cons_append, List.nil_append]
  refine Gx.a (by kernel_rfl) fun K hK => ?_
  simp only [XA]
  refine hK _ ?_
  refine XWP.seq ?_
  refine Gx.a (by kernel_rfl) fun K hK => ?_
  simp only [XM, XA, Nat.reduceAdd, Nat.reduceLeDiff, ↓reduceIte]
  refine call_go (by kernel_rfl) rfl (cmright_c _ _ _ _ L hv h.fit (by have := h.len; omega)) fun v1 V1 hV1 h1 => ?_
  rw [hm] at h1
  subst h1
  simp only [XA]
  refine hK _ ?_
  refine Gx.f rfl ?_
  refine XWP.skip ?_
  refine XWP.seq ?_
  refine Gx.a (by kernel_rfl) fun K hK => ?_
  simp only [XM, XA, XB, b1]
  refine hK _ ?_
  refine Gx.t rfl ?_
  refine Gx.a (by kernel_rfl) fun K hK => ?_
  simp only [XA]
  refine hK _ (XWP.ret ?_)
  try simp only [thenX_ret, inBlockX_ret]
  refine ret_go _ rfl ?_
  exact ⟨_, rfl, SlAt.nil _⟩
theorem cOf2_c (V : View) (s : Value) (r c : Int) (L : List Raw) (hv : Raws V s L) (h : Small r c L) : Spec Tryz.prog 8 [.agg #[.int .i64 r, .int .i64 c, s]] V fun v' V' => ∃ w, v' = .tuple #[w, .int .i64 (ofE r c L)] ∧ Rats V' w (ofR r c L) := by
  cases hm : matR r c L
  · obtain ⟨e1, e2⟩ := ofE_bad hm
    rw [e1, e2]
    exact cOf_bad V s r c L hv h hm
  by_cases hrc : r = c
  · obtain ⟨n, rfl, rfl, hn5, hs⟩ := h.sq hv hm hrc
    obtain ⟨e1, e2⟩ := ofE_good hm
    rw [e1, e2]
    exact cOf_c V s n _ hs hn5
  · obtain ⟨e1, e2⟩ := ofE_shape hm hrc
    rw [e1, e2]
    exact cOf_shape V s r c L hv h hm hrc
theorem dOf_bad (V : View) (s : Value) (r c : Int) (L : List Raw) (hv : Raws V s L) (h : Small r c L) (hm : matR r c L = false) : Spec Tryz.prog 9 [.agg #[.int .i64 r, .int .i64 c, s]] V fun v' V' => ∃ w, v' = .tuple #[w, .int .i64 1] ∧ Rats V' w [] := by
  obtain ⟨A, cp, rfl, _, _⟩ := hv.form
  refine (Spec.enter Tryz.func9 rfl fun Γ => ?_)
  simp only [Tryz.ntmps9, List.map_cons, List.map_nil, List.length_cons, List.length_nil, Nat.reduceAdd, Nat.reduceSub, List.replicate_succ, List.replicate_zero, List.cons_append, List.nil_append]
  refine Gx.a (by kernel_rfl) fun K hK => ?_
  simp only [XA]
  refine hK _ ?_
  refine XWP.seq ?_
  refine XWP.block ?_
  refine Gx.a (by kernel_rfl) fun K hK => ?_
  simp only [XM, XA, Nat.reduceAdd, Nat.reduceLeDiff, ↓reduceIte]
  refine call_go (by kernel_rfl) rfl (dmright_c _ _ _ _ L hv h.fit (by have := h.len; omega)) fun v1 V1 hV1 h1 => ?_
  rw [hm] at h1
  subst h1
  simp only [XA]
  refine hK _ ?_
  refine Gx.t rfl ?_
  refine Gx.a (by kernel_rfl) fun K hK => ?_
  simp only [XA]
  refine hK _ (XWP.ret ?_)
  try simp only [thenX_ret, inBlockX_ret]
  refine ret_go _ rfl ?_
  exact ⟨_, rfl, SlAt.nil _⟩
theorem dOf_shape (V : View) (s : Value) (r c : Int) (L : List Raw) (hv : Raws V s L) (h : Small r c L) (hm : matR r c L = true) (hrc : r ≠ c) : Spec Tryz.prog 9 [.agg #[.int .i64 r, .int .i64 c, s]] V fun v' V' => ∃ w, v' = .tuple #[w, .int .i64 30] ∧ Rats V' w [] := by
  have b1 : decide (r = c) = false := decide_eq_false hrc
  obtain ⟨A, cp, rfl, _, _⟩ := hv.form
  refine (Spec.enter Tryz.func9 rfl fun Γ => ?_)
  simp only [Tryz.ntmps9, List.map_cons, List.map_nil, List.length_cons, List.length_nil, Nat.reduceAdd, Nat.reduceSub, List.replicate_succ, List.replicate_zero, List.cons_append, List.nil_append]
  refine Gx.a (by kernel_rfl) fun K hK => ?_
  simp only [XA]
  refine hK _ ?_
  refine XWP.seq ?_
  refine XWP.block ?_
  refine Gx.a (by kernel_rfl) fun K hK => ?_
  simp only [XM, XA, Nat.reduceAdd, Nat.reduceLeDiff, ↓reduceIte]
  refine call_go (by kernel_rfl) rfl (dmright_c _ _ _ _ L hv h.fit (by have := h.len; omega)) fun v1 V1 hV1 h1 => ?_
  rw [hm] at h1
  subst h1
  simp only [XA]
  refine hK _ ?_
  refine Gx.f rfl ?_
  refine Gx.a (by kernel_rfl) fun K hK => ?_
  simp only [XM, XA, XB, b1]
  refine hK _ ?_
  refine Gx.t rfl ?_
  refine Gx.a (by kernel_rfl) fun K hK => ?_
  simp only [XA]
  refine hK _ (XWP.ret ?_)
  try simp only [thenX_ret, inBlockX_ret]
  refine ret_go _ rfl ?_
  exact ⟨_, rfl, SlAt.nil _⟩
theorem dOf_c (V : View) (s1 : Value) (n : Nat) (M : Grid) (ha : SqM V s1 n 97 M) (hn5 : n ≤ 5) :
    Spec Tryz.prog 9 [.agg #[.int .i64 (n : Int), .int .i64 (n : Int), s1]] V fun v' V' => ∃ w, v' = .tuple #[w, .int .i64 0] ∧ Rats V' w (chrL M n) := by
  obtain ⟨A1, c1, rfl, hc1, hm1⟩ := ha.hv.form
  refine (Spec.enter Tryz.func9 rfl fun Γ => ?_)
  simp only [Tryz.ntmps9, List.map_cons, List.map_nil, List.length_cons, List.length_nil, Nat.reduceAdd, Nat.reduceSub, List.replicate_succ, List.replicate_zero, List.cons_append, List.nil_append]
  refine Gx.a (by kernel_rfl) fun K hK => ?_
  simp only [XA]
  refine hK _ ?_
  refine XWP.cut (fun s => ∃ V2, StIs (fun Z => [Z 0, .p 0 0, Z 2, .v (.int .i64 0), Z 4,Z 5,Z 6,Z 7,Z 8,Z 9,Z 10,Z 11,Z 12,Z 13,Z 14,Z 15]) [[.int .i64 (n : Int), .int .i64 (n : Int), .slice A1 (flatG M n n).length c1]] (fun _ => none) V2 s ∧ V.le V2) ?_ ?_
  · refine XWP.block ?_
    refine Gx.a (by kernel_rfl) fun K hK => ?_
    simp only [XM, XA, Nat.reduceAdd, Nat.reduceLeDiff, ↓reduceIte]
    refine call_go (by kernel_rfl) rfl (dmr_c ha (by omega)) fun v5 V5 hV5 h5 => ?_
    subst h5
    simp only [XA]
    refine hK _ ?_
    refine Gx.f rfl ?_
    refine Gx.a (by kernel_rfl) fun K hK => ?_
    simp only [XM, XA, XB, decide_true]
    refine hK _ ?_
    refine Gx.f rfl ?_
    refine XWP.skip ?_
    exact ⟨V5, StIs.of (by exact rfl), hV5⟩
  rintro s ⟨V2, hs, hV2⟩
  obtain ⟨z, rfl⟩ := hs.out
  try dsimp only
  clear hs
  refine Gx.a (by kernel_rfl) fun K hK => ?_
  simp only [XM, XA, Nat.reduceAdd, Nat.reduceLeDiff, ↓reduceIte]
  refine call_go (by kernel_rfl) rfl (dwide_c _ _ n M (ha.up hV2) hn5) fun v6 V6 hV6 h6 => ?_
  simp only [XA]
  refine hK _ (XWP.ret ?_)
  try simp only [thenX_ret, inBlockX_ret]
  refine ret_go _ rfl ?_
  exact ⟨_, rfl, h6⟩
theorem dOf2_c (V : View) (s : Value) (r c : Int) (L : List Raw) (hv : Raws V s L) (h : Small r c L) : Spec Tryz.prog 9 [.agg #[.int .i64 r, .int .i64 c, s]] V fun v' V' => ∃ w, v' = .tuple #[w, .int .i64 (ofE r c L)] ∧ Rats V' w (ofR r c L) := by
  cases hm : matR r c L
  · obtain ⟨e1, e2⟩ := ofE_bad hm
    rw [e1, e2]
    exact dOf_bad V s r c L hv h hm
  by_cases hrc : r = c
  · obtain ⟨n, rfl, rfl, hn5, hs⟩ := h.sq hv hm hrc
    obtain ⟨e1, e2⟩ := ofE_good hm
    rw [e1, e2]
    exact dOf_c V s n _ hs hn5
  · obtain ⟨e1, e2⟩ := ofE_shape hm hrc
    rw [e1, e2]
    exact dOf_shape V s r c L hv h hm hrc
end Go.Proofs.YthoboehbadmlmaaGreat
end
section
namespace Go.Proofs.YthoboehbadmlmaaGreat
open Go Go.RowKit
set_option linter.unusedSimpArgs false
set_option linter.unusedVariables false
attribute [local irreducible] XWP Spec SpecO XPub XCall seqX clX apX stX ldX iaX slX
attribute [local irreducible] YW
theorem loads_mat {H : Heap} {V : View} {b e t : Nat} {m n d : Value} (h : H b = some ⟨e, [m, n, d], t⟩) : Loads Tryz.prog H V 24 b 0 (.agg #[m, n, d]) :=
  ⟨true, 3, shapeT_24, .inl ⟨rfl, [m, n, d], rfl, fun j u hj => .inl ⟨_, h, by rw [Nat.zero_add]; exact hj⟩, rfl⟩⟩
set_option maxHeartbeats 4000000 in
theorem cAt_c (V : View) (v s1 : Value) (n C : Nat) (P : List Raw) (M : Grid) (hv : Raws V v P) (fP : fitR P) (hr : rightP P = true) (lP : P.length ≤ 6) (hC : ∀ i, QB C (cf (qs P) i)) (hC2 : C ≤ 2500000000) (ha : SqM V s1 n 97 M) (hn5 : n ≤ 5) :
    Spec Tryz.prog 10 [v, .agg #[.int .i64 (n : Int), .int .i64 (n : Int), s1]] V fun v' V' => ∃ w, v' = .tuple #[.agg #[.int .i64 (n : Int), .int .i64 (n : Int), w], .int .i64 0] ∧ Rats V' w (flatG (horG M (qs P) n P.length) n n) := by
  obtain ⟨A1, c1, rfl, hc1, hm1⟩ := ha.hv.form
  have hok : okR P = true := (rightP_parts hr).1
  have hvr := Raws.rats hv hok
  have hlq : (qs P).length = P.length := by unfold qs; rw [List.length_map]
  have hhb : ∀ r, r ≤ 6 → hb C r ≤ 10000000000000 := fun r h => hb_top hC2 h
  obtain ⟨A0, c0, rfl, hc0, hm0⟩ := hv.form
  refine (Spec.enterR Tryz.func10 rfl fun Γ hΓ => ?_)
  simp only [Tryz.ntmps10, List.map_cons, List.map_nil, List.length_cons, List.length_nil, Nat.reduceAdd, Nat.reduceSub, List.replicate_succ, List.replicate_zero, List.cons_append, List.nil_append]
  refine Gx.a (by kernel_rfl) fun K hK => ?_
  simp only [XM, XA]
  refine hK _ ?_
  refine XWP.seq ?_
  refine Gx.a (by kernel_rfl) fun K hK => ?_
  simp only [XA]
  refine call_go (by kernel_rfl) rfl (cright_c _ _ P hv fP (by omega)) fun v1 V1 hV1 h1 => ?_
  rw [hr] at h1
  subst h1
  simp only [XM, XA, gateX, Nat.reduceAdd, Nat.reduceLeDiff, ↓reduceIte, beq_self_eq_true]
  refine call_go (by kernel_rfl) rfl (cmr_c (ha.up hV1) (by omega)) fun v2 V2 hV2 h2 => ?_
  subst h2
  simp only [XA, gateX, ↓reduceIte, beq_self_eq_true]
  refine hK _ ?_
  refine Gx.f rfl ?_
  refine XWP.skip ?_
  have hle2 := View.le_trans hV1 hV2
  refine XWP.seq ?_
  refine Gx.a (by kernel_rfl) fun K hK => ?_
  simp only [XM, XA, XB, decide_true]
  refine hK _ ?_
  refine Gx.f rfl ?_
  refine XWP.skip ?_
  refine Gx.a (by kernel_rfl) fun K hK => ?_
  simp only [XM, XA, XB]
  refine call_go (by kernel_rfl) rfl (cmzero_c _ n n ha.hn ha.hn) fun v3 V3 hV3 h3 => ?_
  obtain ⟨w3, rfl, h3⟩ := h3
  have ow3 := SlAt.one h3
  simp only [XM, XA, Nat.reduceAdd]
  refine st_mat shapeT_24 rfl rfl rfl rfl ow3 ?_
  simp only [XA]
  refine hK _ ?_
  have hZ : SqM V3 w3 n (hb C 0) (horG M (qs P) n 0) := ⟨h3, ha.hn, fun i k hi hk => QB_zero _⟩
  have hle3 := View.le_trans hle2 hV3
  have ha3 := ha.up hle3
  have hv3 := hvr.up hle3
  refine XWP.cut (fun s => ∃ (V5 : View) (H5 : Heap) (b4 b6 e4 e6 : Nat) (w : Value), StIs (fun Z => [Z 0,Z 1,Z 2,Z 3, .v (.pointer (some ⟨b4, 0, none⟩)), Z 5, .v (.pointer (some ⟨b6, 0, none⟩)), Z 7,Z 8,Z 9,Z 10,Z 11,Z 12,Z 13,Z 14,Z 15,Z 16,Z 17,Z 18,Z 19,Z 20,Z 21,Z 22,Z 23,Z 24,Z 25,Z 26,Z 27,Z 28,Z 29,Z 30,Z 31,Z 32,Z 33,Z 34,Z 35,Z 36,Z 37,Z 38,Z 39,Z 40,Z 41,Z 42,Z 43,Z 44,Z 45,Z 46]) [] H5 V5 s ∧ H5 b4 = some ⟨e4, [.int .i64 0, .int .i64 0, .slice none 0 0], 3⟩ ∧ H5 b6 = some ⟨e6, [.int .i64 (n : Int), .int .i64 (n : Int), w], 3⟩ ∧ Rats V5 w (flatG (horG M (qs P) n P.length) n n) ∧ b4 ≠ b6) ?_ ?_
  · refine Gx.a (by kernel_rfl) fun K hK => ?_
    simp only [XA]
    refine call_go (by kernel_rfl) rfl (backward_c _ _ rfl) fun v4 V4 hV4 h4 => ?_
    obtain ⟨Bs, eB, rfl, hBs⟩ := h4
    simp only [XA]
    refine hK _ ?_
    have ha4 := ha3.up hV4
    have hv4 := hv3.up hV4
    have hZ4 := hZ.up hV4
    refine XWP.row1 (bx := [_, _]) fun b6 e6 hb6 _ => ?_
    simp only [List.map_cons, List.map_nil, rowS_v, rowS_p, List.length_nil, List.length_cons, Nat.reduceAdd, Nat.reduceEqDiff, ↓reduceIte]
    refine XWP.row1 (bx := [_]) fun b4 e4 hb4 _ => ?_
    simp only [List.map_cons, List.map_nil, rowS_v, rowS_p, List.length_nil, List.length_cons, Nat.reduceAdd, Nat.reduceEqDiff, ↓reduceIte]
    refine XWP.row1 (bx := []) fun b3 e3 hb3 _ => ?_
    simp only [List.map_cons, List.map_nil, rowS_v, rowS_p, List.length_nil, List.length_cons, Nat.reduceAdd, ↓reduceIte]
    have n46 : b4 ≠ b6 := fun h => by subst h; simp [upd] at hb4
    have n34 : b3 ≠ b4 := fun h => by subst h; simp [upd] at hb3
    have n36 : b3 ≠ b6 := fun h => by subst h; simp [upd, n34] at hb3
    obtain ⟨f, hf, hfv⟩ : ∃ f : Nat → Value, (P.length = 0 ∨ ∃ b o, A0 = some ⟨b, o, none⟩ ∧ ∀ i, i < P.length → Loads Tryz.prog (fun _ => none) V4 48 b (o + i * 3) (f i)) ∧ ∀ i, i < P.length → RatC V4 (f i) (cf (qs P) i) ∧ ∃ m n d, f i = .agg #[m, n, d] ∧ isOne m = true ∧ isOne n = true ∧ isOne d = true := by
      rcases Nat.eq_zero_or_pos P.length with h0 | h0
      · exact ⟨fun _ => undef, .inl h0, fun i hi => by omega⟩
      · obtain ⟨b, o, rfl⟩ := SlAt.addr hv4 (by omega)
        obtain ⟨f, hf⟩ := SlAt.vals hv4
        refine ⟨f, .inr ⟨b, o, rfl, fun i hi => (hf i (by omega)).2.2 _⟩, fun i hi => ⟨?_, (hf i (by omega)).2.1⟩⟩
        have := (hf i (by omega)).1
        rw [cf_get (by omega)] at this
        exact this
    refine XWP.block (XWP.range hΓ (L := bwL P.length f) (I := fun r H' V' => V4.le V' ∧ H' b3 = some ⟨e3, [.int .i64 (n : Int), .int .i64 (n : Int), .slice A1 (flatG M n n).length c1], 3⟩ ∧ H' b4 = some ⟨e4, [.int .i64 0, .int .i64 0, .slice none 0 0], 3⟩ ∧ ∃ w, H' b6 = some ⟨e6, [.int .i64 (n : Int), .int .i64 (n : Int), w], 3⟩ ∧ SqM V' w n (hb C r) (horG M (qs P) n r)) (Ix := fun _ _ => False) rfl (by kernel_rfl) (fun args ha => ?_) (backward_it hBs (by omega) hf) ?_ (fun r H' V' h => h.1) (fun _ _ h => h.elim) ?_ ?_ (fun _ _ h => h.elim))
    · obtain ⟨r, _, rfl⟩ := List.mem_map.1 ha
      rfl
    · refine ⟨View.le_refl _, upd_at _ _ _, ?_, _, ?_, hZ4⟩
      · rw [upd_off (Ne.symm n34), upd_at]
      · rw [upd_off (Ne.symm n36), upd_off (Ne.symm n46), upd_at]
    · rintro Γ' r args H' V' hL ⟨hV', i3, i4, w, i6, hS⟩
      have hr : r < P.length := by
        have := (List.getElem?_eq_some_iff.1 hL).1
        rwa [bwL_len] at this
      rw [bwL_get hr] at hL
      cases hL
      obtain ⟨hfi, m6, n6, d6, ef6, p1, p2, p3⟩ := hfv (P.length - 1 - r) (by omega)
      rw [ef6] at hfi ⊢
      have hh := hhb (r + 1) (by omega)
      simp only [hb] at hh
      have ow := SlAt.one hS.hv
      have ha5 := ha4.up hV'
      simp only [XA, setPs]
      refine Gx.c (by kernel_rfl) fun K hK => ?_
      simp only [XA, XB]
      refine st_rat rfl rfl p1 p2 p3 ?_
      simp only [XA]
      refine hK _ ?_
      intro Γ''
      refine XWP.block ?_
      refine Gx.a (by kernel_rfl) fun K hK => ?_
      simp only [XA]
      refine ld_mem (loads_mat i3) ?_
      simp only [XA]
      refine ld_mem (loads_mat i6) ?_
      simp only [XA]
      refine call_go (by kernel_rfl) rfl (cmMul_c _ _ _ n 97 (hb C r) M _ ha5 hS hn5 (by omega)) fun v7 V7 hV7 h7 => ?_
      obtain ⟨w7, rfl, h7⟩ := h7
      have ow7 := SlAt.one h7
      simp only [XA]
      refine st_rowA shapeT_24 (all3 rfl rfl ow7) rfl i6 (by simp) ?_
      simp only [XA, splice3]
      refine hK _ ?_
      have hS7 : SqM V7 w7 n (5 * (97 + hb C r + 1)) (gmul M (horG M (qs P) n r) n) := ⟨h7, ha.hn, fun i k hi hk => gmul_QB hn5 ha.hq hS.hq hi hk⟩
      have i6' := upd_at H' b6 (some ⟨e6, [.int .i64 (n : Int), .int .i64 (n : Int), w7], 3⟩)
      refine Gx.c (by kernel_rfl) fun K hK => ?_
      simp only [XA]
      refine ld_mem (loads_mat i6') ?_
      simp only [XA, XB, Nat.reduceAdd, Nat.reduceLeDiff, ↓reduceIte]
      refine call_go (by kernel_rfl) rfl (cplus_c _ _ _ n (5 * (97 + hb C r + 1)) C _ _ hS7 (hfi.mono (View.le_trans hV' hV7)) (hC _) (by omega)) fun v8 V8 hV8 h8 => ?_
      obtain ⟨w8, rfl, h8⟩ := h8
      have ow8 := SlAt.one h8
      simp only [XA]
      refine st_rowA shapeT_24 (all3 rfl rfl ow8) rfl i6' (by simp) ?_
      simp only [XA, splice3]
      refine hK _ ⟨View.le_trans hV' (View.le_trans hV7 hV8), (upd_off n36).trans ((upd_off n36).trans i3), (upd_off n46).trans ((upd_off n46).trans i4), w8, upd_at _ _ _, ⟨?_, ha.hn, horG_hb hn5 ha.hq hC (r + 1)⟩⟩
      rw [flatG_congr (G' := horG M (qs P) n (r + 1))] at h8
      · exact h8
      · intro i k hi hk
        rw [horG_succ, hlq]; grind
    · rintro H' V' ⟨hV', i3, i4, w, i6, hS⟩
      rw [bwL_len] at hS
      exact ⟨V', H', b4, b6, e4, e6, w, StIs.of (by exact rfl), i4, i6, hS.hv, n46⟩
  rintro s ⟨V5, H5, b4, b6, e4, e6, w, hs, i4, i6, hw, n46⟩
  obtain ⟨z, rfl⟩ := hs.out
  try dsimp only
  clear hs
  have ow := SlAt.one hw
  refine Gx.a (by kernel_rfl) fun K hK => ?_
  simp only [XA]
  refine ld_mem (loads_mat i6) ?_
  simp only [XA]
  refine st_rowA shapeT_24 (all3 rfl rfl ow) rfl i4 (by simp) ?_
  simp only [XA, splice3]
  refine hK _ (XWP.ret ?_)
  try simp only [thenX_ret, inBlockX_ret]
  refine ret_go _ (by simp [resAll, resV, cellsV, upd_at, shapeT_24]; rfl) ⟨w, rfl, hw⟩
end Go.Proofs.YthoboehbadmlmaaGreat
end
section
namespace Go.Proofs.YthoboehbadmlmaaGreat
open Go Go.RowKit
set_option linter.unusedSimpArgs false
set_option linter.unusedVariables false
attribute [local irreducible] XWP Spec SpecO XPub XCall seqX clX apX stX ldX iaX slX
theorem mS_Sm (a b : List Rat) (n c i k : Nat) : ∀ j, mS a b n c i k j = Sm (fun t => cf a (i * n + t) * cf b (t * c + k)) j
  | 0 => rfl
  | j + 1 => by
    show mS a b n c i k j + cf a (i * n + j) * cf b (j * c + k) = _
    rw [mS_Sm a b n c i k j]; rfl
theorem mmul_flat (A B : Grid) (n : Nat) : mmul (flatG A n n) (flatG B n n) n n n = flatG (gmul A B n) n n := by
  unfold mmul
  show mk (n * n) _ = mk (n * n) _
  refine mk_congr fun p hp => ?_
  have hn : 0 < n := by
    rcases Nat.eq_zero_or_pos n with e | e
    · rw [e] at hp; omega
    · exact e
  have hi : p / n < n := Nat.div_lt_of_lt_mul hp
  have hk : p % n < n := Nat.mod_lt _ hn
  show mS (flatG A n n) (flatG B n n) n n (p / n) (p % n) n = _
  rw [mS_Sm]
  show _ = Sm (fun t => A (p / n) t * B t (p % n)) n
  exact Sm_congr _ fun t ht => by rw [flatG_at A hi ht, flatG_at B ht hk]
theorem SqM.cb {V : View} {s : Value} {n B : Nat} {G : Grid} (h : SqM V s n B G) (hn5 : n ≤ 5) : CB (25 * B) (qs ((flatG G n n).map toRaw)) := by
  rw [qs_toRaw]
  refine (CB_of _ h.mem).mono ?_
  rw [flatG_len]
  exact Nat.mul_le_mul_right _ (Nat.mul_le_mul hn5 hn5)
theorem dMul_c' (V : View) (s1 s2 : Value) (n B C : Nat) (G H : Grid) (ha : SqM V s1 n B G) (hb : SqM V s2 n C H) (hn5 : n ≤ 5) (hfit : 25 * B + 25 * C + 100 ≤ 17592186044416) :
    Spec Tryz.prog 52 [.agg #[.int .i64 (n : Int), .int .i64 (n : Int), s1], .agg #[.int .i64 (n : Int), .int .i64 (n : Int), s2]] V fun v' V' => ∃ w, v' = .tuple #[.agg #[.int .i64 (n : Int), .int .i64 (n : Int), w], .int .i64 0] ∧ Rats V' w (flatG (gmul G H n) n n) := by
  have := dmul_c V s1 s2 n n n _ _ (Rats.raws ha.hv) (Rats.raws hb.hv) (fitR_toRaw fun x hx => (ha.mem x hx).qf (by omega)) (fitR_toRaw fun x hx => (hb.mem x hx).qf (by omega)) ha.right hb.right _ _ (ha.cb hn5) (hb.cb hn5) hfit
  rw [qs_toRaw, qs_toRaw, mmul_flat] at this
  exact this
/-- bounds of the powers and of the sums -/
def vb : Nat → Nat × Nat
  | 0 => (0, 0)
  | t + 1 => (5 * ((vb t).1 + 97 + 1), (vb t).2 + ((vb t).1 + 97) + 1)
theorem vb_le {t : Nat} (ht : t ≤ 5) : (vb t).1 ≤ 500000 ∧ (vb t).2 ≤ 500000 := by
  have : t = 0 ∨ t = 1 ∨ t = 2 ∨ t = 3 ∨ t = 4 ∨ t = 5 := by omega
  rcases this with rfl | rfl | rfl | rfl | rfl | rfl <;> decide
theorem pow_vb {M : Grid} {n : Nat} (hn : n ≤ 5) (hM : ∀ i k, i < n → k < n → QB 97 (M i k)) : ∀ t i k, i < n → k < n → QB (vb t).1 (powG M n t i k)
  | 0, i, k, _, _ => gid_QB i k
  | t + 1, i, k, hi, hk => gmul_QB hn (pow_vb hn hM t) hM hi hk
theorem val_vb {M : Grid} {n : Nat} {p : List Rat} (hn : n ≤ 5) (hM : ∀ i k, i < n → k < n → QB 97 (M i k)) (hp : ∀ i, QB 97 (cf p i)) : ∀ t i k, i < n → k < n → QB (vb t).2 (valG M p n t i k)
  | 0, _, _, _, _ => QB_zero _
  | t + 1, i, k, hi, hk => by
    rw [valG_succ]
    exact (val_vb hn hM hp t i k hi hk).add ((pow_vb hn hM t i k hi hk).mul (hp t))
set_option maxHeartbeats 4000000 in
theorem dAt_c (V : View) (v s1 : Value) (n : Nat) (P : List Raw) (M : Grid) (hv : Raws V v P) (fP : fitR P) (hqP : qfR P) (hr : rightP P = true) (lP : P.length ≤ 5) (hC : ∀ i, QB 97 (cf (qs P) i)) (ha : SqM V s1 n 97 M) (hn5 : n ≤ 5) :
    Spec Tryz.prog 11 [v, .agg #[.int .i64 (n : Int), .int .i64 (n : Int), s1]] V fun v' V' => ∃ w, v' = .tuple #[.agg #[.int .i64 (n : Int), .int .i64 (n : Int), w], .int .i64 0] ∧ Rats V' w (flatG (valG M (qs P) n P.length) n n) := by
  obtain ⟨A1, c1, rfl, hc1, hm1⟩ := ha.hv.form
  have hok : okR P = true := (rightP_parts hr).1
  have hvr := Raws.rats hv hok
  have hlq : (qs P).length = P.length := by unfold qs; rw [List.length_map]
  obtain ⟨A0, c0, rfl, hc0, hm0⟩ := hv.form
  refine (Spec.enter Tryz.func11 rfl fun Γ => ?_)
  simp only [Tryz.ntmps11, List.map_cons, List.map_nil, List.length_cons, List.length_nil, Nat.reduceAdd, Nat.reduceSub, List.replicate_succ, List.replicate_zero, List.cons_append, List.nil_append]
  refine Gx.a (by kernel_rfl) fun K hK => ?_
  simp only [XM, XA]
  refine hK _ ?_
  refine XWP.cut (fun s => ∃ V2, StIs (fun Z => [.v (.slice A0 P.length c0), Z 1, Z 2, .p 0 0, .p 1 0, .v (.int .i64 0), Z 6,Z 7,Z 8,Z 9,Z 10,Z 11,Z 12,Z 13,Z 14,Z 15,Z 16,Z 17,Z 18,Z 19,Z 20,Z 21,Z 22,Z 23,Z 24,Z 25,Z 26,Z 27,Z 28,Z 29,Z 30,Z 31,Z 32,Z 33,Z 34,Z 35,Z 36,Z 37,Z 38,Z 39,Z 40,Z 41,Z 42,Z 43,Z 44,Z 45,Z 46,Z 47,Z 48,Z 49,Z 50,Z 51,Z 52,Z 53,Z 54,Z 55,Z 56,Z 57,Z 58,Z 59,Z 60,Z 61,Z 62,Z 63,Z 64,Z 65,Z 66,Z 67,Z 68,Z 69,Z 70]) [[.int .i64 (n : Int), .int .i64 (n : Int), .slice A1 (flatG M n n).length c1], [.int .i64 0, .int .i64 0, .slice none 0 0]] (fun _ => none) V2 s ∧ V.le V2) ?_ ?_
  · refine XWP.block ?_
    refine XWP.seq ?_
    refine Gx.c (by kernel_rfl) fun K hK => ?_
    simp only [XA]
    refine call_go (by kernel_rfl) rfl (dright_c _ _ P hv fP (by omega) hqP) fun v1 V1 hV1 h1 => ?_
    rw [hr] at h1
    subst h1
    simp only [XM, XA, gateX, Nat.reduceAdd, Nat.reduceLeDiff, ↓reduceIte, beq_self_eq_true]
    refine call_go (by kernel_rfl) rfl (dmr_c (ha.up hV1) (by omega)) fun v2 V2 hV2 h2 => ?_
    subst h2
    simp only [XA, gateX, ↓reduceIte, beq_self_eq_true]
    refine hK _ ?_
    refine Gx.f rfl ?_
    refine XWP.seq ?_
    refine Gx.c (by kernel_rfl) fun K hK => ?_
    simp only [XM, XA, XB, decide_true]
    refine hK _ ?_
    refine Gx.f rfl ?_
    refine XWP.skip ?_
    exact ⟨V2, StIs.of (by exact rfl), View.le_trans hV1 hV2⟩
  rintro s ⟨V2, hs, hV2⟩
  obtain ⟨z, rfl⟩ := hs.out
  try dsimp only
  clear hs
  have hvr := hvr.up hV2
  have ha := ha.up hV2
  refine Gx.a (by kernel_rfl) fun K hK => ?_
  simp only [XM, XA, XB]
  refine call_own (by kernel_rfl) rfl (dZero_o _ n n ha.hn ha.hn) fun v3 V3 o3 hV3 hs3 h3 => ?_
  obtain ⟨sl, cells, rfl, hown, hrow⟩ := h3
  have osl := own_isOne hown
  simp only [XM, XA, Nat.reduceAdd]
  refine st_mat shapeT_34 rfl rfl rfl rfl osl ?_
  simp only [XA]
  refine hK _ ?_
  refine XWP.pubR ratE_ok hown hrow fun H4 V4 hV4 hR4 _ => ?_
  have hZ : SqM V4 sl n (vb 0).2 (valG M (qs P) n 0) := ⟨hR4, ha.hn, fun i k hi hk => QB_zero _⟩
  refine Gx.a (by kernel_rfl) fun K hK => ?_
  simp only [XM, XA, XB]
  refine call_go (by kernel_rfl) rfl (dIdent_c _ n ha.hn) fun v5 V5 hV5 h5 => ?_
  obtain ⟨w5, rfl, h5⟩ := h5
  have ow5 := SlAt.one h5
  simp only [XM, XA, Nat.reduceAdd]
  refine st_mat shapeT_34 rfl rfl rfl rfl ow5 ?_
  simp only [XA]
  refine hK _ ?_
  have hP0 : SqM V5 w5 n (vb 0).1 (powG M n 0) := ⟨h5, ha.hn, fun i k hi hk => gid_QB i k⟩
  have hle5 := View.le_trans hV3 (View.le_trans hV4 hV5)
  refine XWP.cutD 4 (fun s => ∃ (V8 : View) (H8 : Heap) (w8 w9 : Value), StIs (fun Z => [Z 0,Z 1,Z 2, .p 0 0, .p 1 0, Z 5, .p 2 0, Z 7, .p 3 0, Z 9,Z 10,Z 11,Z 12,Z 13,Z 14,Z 15,Z 16,Z 17,Z 18,Z 19,Z 20,Z 21,Z 22,Z 23,Z 24,Z 25,Z 26,Z 27,Z 28,Z 29,Z 30,Z 31,Z 32,Z 33,Z 34,Z 35,Z 36,Z 37,Z 38,Z 39,Z 40,Z 41,Z 42,Z 43,Z 44,Z 45,Z 46,Z 47,Z 48,Z 49,Z 50,Z 51,Z 52,Z 53,Z 54,Z 55,Z 56,Z 57,Z 58,Z 59,Z 60,Z 61,Z 62,Z 63,Z 64,Z 65,Z 66,Z 67,Z 68,Z 69,Z 70]) [[.int .i64 (n : Int), .int .i64 (n : Int), .slice A1 (flatG M n n).length c1], [.int .i64 0, .int .i64 0, .slice none 0 0], [.int .i64 (n : Int), .int .i64 (n : Int), w8], [.int .i64 (n : Int), .int .i64 (n : Int), w9]] H8 V8 s ∧ Rats V8 w8 (flatG (valG M (qs P) n P.length) n n)) ?_ ?_
  · refine Gx.a (by kernel_rfl) fun K hK => ?_
    simp only [XA, XB]
    refine hK _ ?_
    clear hK
    refine XWP.block ?_
    refine XWP.loopD 4 (fun q s => ∃ (t : Nat) (V8 : View) (H8 : Heap) (w8 w9 : Value), StIs (fun Z => [Z 0,Z 1,Z 2, .p 0 0, .p 1 0, Z 5, .p 2 0, Z 7, .p 3 0, Z 9,Z 10,Z 11,Z 12,Z 13,Z 14,Z 15,Z 16,Z 17,Z 18,Z 19,Z 20,Z 21,Z 22,Z 23,Z 24,Z 25,Z 26,Z 27,Z 28,Z 29,Z 30,Z 31,Z 32,Z 33,Z 34,Z 35,Z 36,Z 37,Z 38,Z 39,Z 40,Z 41,Z 42,Z 43,Z 44, .v (.slice A0 P.length c0), .v (.int .i64 (P.length : Int)), .v (.int .i64 (t : Int)), Z 48,Z 49,Z 50,Z 51,Z 52,Z 53,Z 54,Z 55,Z 56,Z 57,Z 58,Z 59,Z 60,Z 61,Z 62,Z 63,Z 64,Z 65,Z 66,Z 67,Z 68,Z 69,Z 70]) [[.int .i64 (n : Int), .int .i64 (n : Int), .slice A1 (flatG M n n).length c1], [.int .i64 0, .int .i64 0, .slice none 0 0], [.int .i64 (n : Int), .int .i64 (n : Int), w8], [.int .i64 (n : Int), .int .i64 (n : Int), w9]] H8 V8 s ∧ q + t = P.length ∧ V2.le V8 ∧ SqM V8 w8 n (vb t).2 (valG M (qs P) n t) ∧ SqM V8 w9 n (vb t).1 (powG M n t)) P.length ⟨0, V5, H4, sl, w5, StIs.of (by exact rfl), by omega, hle5, hZ.up hV5, hP0⟩ ?_
    clear hZ hP0 h5 ow5 osl hown hrow hR4
    rintro q s ⟨t, V8, H8, w8, w9, hs, hq, hV8, hS, hPw⟩
    obtain ⟨z, rfl⟩ := hs.out
    try dsimp only
    clear hs
    by_cases ht : t < P.length
    rotate_left
    · obtain rfl : t = P.length := by omega
      have b1 : decide ((P.length : Int) < (P.length : Int)) = false := decide_eq_false (by omega)
      refine Gx.a (by kernel_rfl) fun K hK => ?_
      simp only [XA, XB, b1]
      refine hK _ ?_
      refine XWP.seq (Gx.f rfl ?_)
      refine XWP.exit ?_
      exact fun f => ⟨V8, H8, w8, w9, StIs.of (by exact rfl), hS.hv⟩
    have b1 : decide ((t : Int) < (P.length : Int)) = true := decide_eq_true (by omega)
    refine Gx.a (by kernel_rfl) fun K hK => ?_
    simp only [XA, XB, b1]
    refine hK _ ?_
    refine XWP.seq (Gx.t rfl ?_)
    refine XWP.skip ?_
    have hv8 := hvr.up hV8
    have ha8 := ha.up hV8
    obtain ⟨b, o, rfl⟩ := SlAt.addr hv8 (by omega)
    obtain ⟨m6, n6, d6, hx6, ⟨r1, r2, r3⟩, hld6⟩ := Rats.get hv8 t (by omega)
    have hvb := vb_le (t := t) (by omega)
    have o8 := SlAt.one hS.hv
    have o9 := SlAt.one hPw.hv
    refine XWP.seq ?_
    refine XWP.block ?_
    refine Gx.a (by kernel_rfl) fun K hK => ?_
    simp only [XA, XB]
    refine ⟨by omega, by omega, ld_mem (hld6 _) ?_⟩
    simp only [XA, XB, Nat.reduceAdd]
    refine st_rat rfl rfl r1 r2 r3 ?_
    simp only [XA]
    refine hK _ ?_
    refine Gx.a (by kernel_rfl) fun K hK => ?_
    simp only [XM, XA, XB, Nat.reduceAdd, Nat.reduceLeDiff, ↓reduceIte]
    refine call_go (by kernel_rfl) rfl (dScale_c' _ _ _ n (vb t).1 97 _ _ hPw hx6 (hC t) (by omega)) fun v10 V10 hV10 h10 => ?_
    obtain ⟨w10, rfl, h10⟩ := h10
    have ow10 := SlAt.one h10
    have hT : SqM V10 w10 n ((vb t).1 + 97) (fun i k => powG M n t i k * cf (qs P) t) := ⟨h10, ha.hn, fun i k hi hk => (hPw.hq i k hi hk).mul (hC t)⟩
    simp only [XM, XA, Nat.reduceAdd]
    refine st_mat shapeT_34 rfl rfl rfl rfl ow10 ?_
    simp only [XA]
    refine hK _ ?_
    refine Gx.a (by kernel_rfl) fun K hK => ?_
    simp only [XM, XA, Nat.reduceAdd, Nat.reduceLeDiff, ↓reduceIte]
    refine call_go (by kernel_rfl) rfl (dAdd_c' _ _ _ n (vb t).2 ((vb t).1 + 97) _ _ (hS.up hV10) hT (by omega)) fun v11 V11 hV11 h11 => ?_
    obtain ⟨w11, rfl, h11⟩ := h11
    have ow11 := SlAt.one h11
    have hS2 : SqM V11 w11 n (vb (t + 1)).2 (valG M (qs P) n (t + 1)) := ⟨h11, ha.hn, val_vb hn5 ha.hq hC (t + 1)⟩
    simp only [XA]
    refine st_mat shapeT_34 rfl rfl rfl rfl ow11 ?_
    simp only [XA]
    refine hK _ ?_
    refine Gx.c (by kernel_rfl) fun K hK => ?_
    simp only [XM, XA, Nat.reduceAdd, Nat.reduceLeDiff, ↓reduceIte]
    have hle11 := View.le_trans hV10 hV11
    refine call_go (by kernel_rfl) rfl (dMul_c' _ _ _ n (vb t).1 97 _ _ (hPw.up hle11) (ha8.up hle11) hn5 (by omega)) fun v12 V12 hV12 h12 => ?_
    obtain ⟨w12, rfl, h12⟩ := h12
    have ow12 := SlAt.one h12
    have hP2 : SqM V12 w12 n (vb (t + 1)).1 (powG M n (t + 1)) := ⟨h12, ha.hn, pow_vb hn5 ha.hq (t + 1)⟩
    simp only [XA]
    refine st_mat shapeT_34 rfl rfl rfl rfl ow12 ?_
    simp only [XA]
    refine hK _ ?_
    refine Gx.c (by kernel_rfl) fun K hK => ?_
    simp only [XA, XB, i64_succ t (by omega)]
    exact hK _ ⟨q - 1, by omega, fun f => ⟨t + 1, V12, H8, w11, w12, StIs.of (by exact rfl), by omega, View.le_trans hV8 (View.le_trans hle11 hV12), hS2.up hV12, hP2⟩⟩
  rintro s ⟨V8, H8, w8, w9, hs, hR⟩
  obtain ⟨z, rfl⟩ := hs.out
  try dsimp only
  have ow := SlAt.one hR
  refine Gx.a (by kernel_rfl) fun K hK => ?_
  simp only [XM, XA, Nat.reduceAdd, Nat.reduceLeDiff, ↓reduceIte]
  refine st_mat shapeT_34 rfl rfl rfl rfl ow ?_
  simp only [XA]
  refine hK _ (XWP.ret ?_)
  try simp only [thenX_ret, inBlockX_ret]
  exact ret_go _ (by simp [resAll, resV, cellsV, shapeT_34]; rfl) ⟨w8, rfl, hR⟩
end Go.Proofs.YthoboehbadmlmaaGreat
end
section
namespace Go.Proofs.YthoboehbadmlmaaGreat
open Go Go.RowKit
set_option linter.unusedSimpArgs false
set_option linter.unusedVariables false
attribute [local irreducible] XWP Spec SpecO XPub XCall seqX clX apX stX ldX iaX slX
theorem bd_mtxz : BuildsTo Tryz.prog 24 #[] (.agg #[.int .i64 0, .int .i64 0, .slice none 0 0]) := by
  refine bd_run placesT_24 zeroT_24 ?_
  rfl
def atE (P : List Raw) (r c : Int) (L : List Raw) : Int := if (rightP P && matR r c L) = true then (if r = c then 0 else 30) else 1
def atD (P : List Raw) (r c : Int) (L : List Raw) : Int := if atE P r c L = 0 then c else 0
def atR (P : List Raw) (r c : Int) (L : List Raw) : List Rat := if atE P r c L = 0 then flatG (horG (gridL (qs L) c.toNat) (qs P) c.toNat P.length) c.toNat c.toNat else []
theorem atE_bad {P : List Raw} {r c : Int} {L : List Raw} (h : (rightP P && matR r c L) = false) : atE P r c L = 1 ∧ atD P r c L = 0 ∧ atR P r c L = [] := by
  have e : atE P r c L = 1 := by unfold atE; rw [h]; rfl
  exact ⟨e, by unfold atD; rw [e]; rfl, by unfold atR; rw [e]; rfl⟩
theorem atE_shape {P : List Raw} {r c : Int} {L : List Raw} (h : (rightP P && matR r c L) = true) (hrc : r ≠ c) : atE P r c L = 30 ∧ atD P r c L = 0 ∧ atR P r c L = [] := by
  have e : atE P r c L = 30 := by unfold atE; rw [if_pos h, if_neg hrc]
  exact ⟨e, by unfold atD; rw [e]; rfl, by unfold atR; rw [e]; rfl⟩
theorem atE_good {P : List Raw} {n : Nat} {L : List Raw} (h : (rightP P && matR n n L) = true) : atE P n n L = 0 ∧ atD P n n L = n ∧ atR P n n L = flatG (horG (gridL (qs L) n) (qs P) n P.length) n n := by
  have e : atE P n n L = 0 := by unfold atE; rw [if_pos h, if_pos rfl]
  exact ⟨e, by unfold atD; rw [if_pos e], by unfold atR; rw [if_pos e, Int.toNat_natCast]⟩
/-- a small polynomial, as the law takes it -/
structure SmallP (P : List Raw) : Prop where
  fit : fitR P
  len : P.length ≤ 5
  qf : qfR P
  qb : ∀ i, QB 97 (cf (qs P) i)
theorem cAt_bad1 (V : View) (v s : Value) (r c : Int) (P L : List Raw) (hp : Raws V v P) (hv : Raws V s L) (sp : SmallP P) (h : Small r c L) (hr : rightP P = false) : Spec Tryz.prog 10 [v, .agg #[.int .i64 r, .int .i64 c, s]] V fun v' V' => ∃ w, v' = .tuple #[.agg #[.int .i64 0, .int .i64 0, w], .int .i64 1] ∧ Rats V' w [] := by
  obtain ⟨A, cp, rfl, _, _⟩ := hv.form
  have ov := SlAt.one hp
  refine (Spec.enter Tryz.func10 rfl fun Γ => ?_)
  simp only [Tryz.ntmps10, List.map_cons, List.map_nil, List.length_cons, List.length_nil, Nat.reduceAdd, Nat.reduceSub, List.replicate_succ, List.replicate_zero, List.cons_append, List.nil_append]
  refine Gx.a (by kernel_rfl) fun K hK => ?_
  simp only [XM, XA]
  refine hK _ ?_
  refine XWP.seq ?_
  refine Gx.a (by kernel_rfl) fun K hK => ?_
  simp only [XA]
  refine call_go (by kernel_rfl) rfl (cright_c _ _ P hp sp.fit (by have := sp.len; omega)) fun v1 V1 hV1 h1 => ?_
  rw [hr] at h1
  subst h1
  simp only [XA, gateX, ↓reduceIte]
  refine hK _ ?_
  refine Gx.t rfl ?_
  refine Gx.a (by kernel_rfl) fun K hK => ?_
  simp only []
  refine bd_go (by kernel_rfl) #[] (by simp) bd_mtxz ?_
  simp only [XA]
  refine st_mat shapeT_24 rfl rfl rfl rfl rfl ?_
  simp only [XA]
  refine hK _ (XWP.ret ?_)
  try simp only [thenX_ret, inBlockX_ret]
  exact ret_go _ (by simp [resAll, resV, cellsV, shapeT_24]; rfl) ⟨_, rfl, SlAt.nil _⟩
theorem cAt_bad2 (V : View) (v s : Value) (r c : Int) (P L : List Raw) (hp : Raws V v P) (hv : Raws V s L) (sp : SmallP P) (h : Small r c L) (hr : rightP P = true) (hm : matR r c L = false) : Spec Tryz.prog 10 [v, .agg #[.int .i64 r, .int .i64 c, s]] V fun v' V' => ∃ w, v' = .tuple #[.agg #[.int .i64 0, .int .i64 0, w], .int .i64 1] ∧ Rats V' w [] := by
  obtain ⟨A, cp, rfl, _, _⟩ := hv.form
  have ov := SlAt.one hp
  refine (Spec.enter Tryz.func10 rfl fun Γ => ?_)
  simp only [Tryz.ntmps10, List.map_cons, List.map_nil, List.length_cons, List.length_nil, Nat.reduceAdd, Nat.reduceSub, List.replicate_succ, List.replicate_zero, List.cons_append, List.nil_append]
  refine Gx.a (by kernel_rfl) fun K hK => ?_
  simp only [XM, XA]
  refine hK _ ?_
  refine XWP.seq ?_
  refine Gx.a (by kernel_rfl) fun K hK => ?_
  simp only [XA]
  refine call_go (by kernel_rfl) rfl (cright_c _ _ P hp sp.fit (by have := sp.len; omega)) fun v1 V1 hV1 h1 => ?_
  rw [hr] at h1
  subst h1
  simp only [XM, XA, gateX, Nat.reduceAdd, Nat.reduceLeDiff, ↓reduceIte, beq_self_eq_true]
  refine call_go (by kernel_rfl) rfl (cmright_c _ _ _ _ L (SlAt.mono rawE_ok hv hV1) h.fit (by have := h.len; omega)) fun v2 V2 hV2 h2 => ?_
  rw [hm] at h2
  subst h2
  simp only [XA, gateX, ↓reduceIte, beq_self_eq_true]
  refine hK _ ?_
  refine Gx.t rfl ?_
  refine Gx.a (by kernel_rfl) fun K hK => ?_
  simp only []
  refine bd_go (by kernel_rfl) #[] (by simp) bd_mtxz ?_
  simp only [XA]
  refine st_mat shapeT_24 rfl rfl rfl rfl rfl ?_
  simp only [XA]
  refine hK _ (XWP.ret ?_)
  try simp only [thenX_ret, inBlockX_ret]
  exact ret_go _ (by simp [resAll, resV, cellsV, shapeT_24]; rfl) ⟨_, rfl, SlAt.nil _⟩
theorem cAt_shape (V : View) (v s : Value) (r c : Int) (P L : List Raw) (hp : Raws V v P) (hv : Raws V s L) (sp : SmallP P) (h : Small r c L) (hr : rightP P = true) (hm : matR r c L = true) (hrc : r ≠ c) : Spec Tryz.prog 10 [v, .agg #[.int .i64 r, .int .i64 c, s]] V fun v' V' => ∃ w, v' = .tuple #[.agg #[.int .i64 0, .int .i64 0, w], .int .i64 30] ∧ Rats V' w [] := by
  have b1 : decide (r = c) = false := decide_eq_false hrc
  obtain ⟨A, cp, rfl, _, _⟩ := hv.form
  have ov := SlAt.one hp
  refine (Spec.enter Tryz.func10 rfl fun Γ => ?_)
  simp only [Tryz.ntmps10, List.map_cons, List.map_nil, List.length_cons, List.length_nil, Nat.reduceAdd, Nat.reduceSub, List.replicate_succ, List.replicate_zero, List.cons_append, List.nil_append]
  refine Gx.a (by kernel_rfl) fun K hK => ?_
  simp only [XM, XA]
  refine hK _ ?_
  refine XWP.seq ?_
  refine Gx.a (by kernel_rfl) fun K hK => ?_
  simp only [XA]
  refine call_go (by kernel_rfl) rfl (cright_c _ _ P hp sp.fit (by have := sp.len; omega)) fun v1 V1 hV1 h1 => ?_
  rw [hr] at h1
  subst h1
  simp only [XM, XA, gateX, Nat.reduceAdd, Nat.reduceLeDiff, ↓reduceIte, beq_self_eq_true]
  refine call_go (by kernel_rfl) rfl (cmright_c _ _ _ _ L (SlAt.mono rawE_ok hv hV1) h.fit (by have := h.len; omega)) fun v2 V2 hV2 h2 => ?_
  rw [hm] at h2
  subst h2
  simp only [XA, gateX, ↓reduceIte, beq_self_eq_true]
  refine hK _ ?_
  refine Gx.f rfl ?_
  refine XWP.skip ?_
  refine XWP.seq ?_
  refine Gx.a (by kernel_rfl) fun K hK => ?_
  simp only [XM, XA, XB, b1]
  refine hK _ ?_
  refine Gx.t rfl ?_
  refine Gx.a (by kernel_rfl) fun K hK => ?_
  simp only []
  refine bd_go (by kernel_rfl) #[] (by simp) bd_mtxz ?_
  simp only [XA]
  refine st_mat shapeT_24 rfl rfl rfl rfl rfl ?_
  simp only [XA]
  refine hK _ (XWP.ret ?_)
  try simp only [thenX_ret, inBlockX_ret]
  exact ret_go _ (by simp [resAll, resV, cellsV, shapeT_24]; rfl) ⟨_, rfl, SlAt.nil _⟩
theorem cAt2_c (V : View) (v s : Value) (r c : Int) (P L : List Raw) (hp : Raws V v P) (hv : Raws V s L) (sp : SmallP P) (h : Small r c L) : Spec Tryz.prog 10 [v, .agg #[.int .i64 r, .int .i64 c, s]] V fun v' V' => ∃ w, v' = .tuple #[.agg #[.int .i64 (atD P r c L), .int .i64 (atD P r c L), w], .int .i64 (atE P r c L)] ∧ Rats V' w (atR P r c L) := by
  cases hr : rightP P
  · obtain ⟨e1, e2, e3⟩ := atE_bad (P := P) (r := r) (c := c) (L := L) (by rw [hr]; rfl)
    rw [e1, e2, e3]
    exact cAt_bad1 V v s r c P L hp hv sp h hr
  cases hm : matR r c L
  · obtain ⟨e1, e2, e3⟩ := atE_bad (P := P) (r := r) (c := c) (L := L) (by rw [hr, hm]; rfl)
    rw [e1, e2, e3]
    exact cAt_bad2 V v s r c P L hp hv sp h hr hm
  by_cases hrc : r = c
  · obtain ⟨n, rfl, rfl, hn5, hs⟩ := h.sq hv hm hrc
    obtain ⟨e1, e2, e3⟩ := atE_good (P := P) (n := n) (L := L) (by rw [hr, hm]; rfl)
    rw [e1, e2, e3]
    exact cAt_c V v s n 97 P _ hp sp.fit hr (by have := sp.len; omega) sp.qb (by omega) hs hn5
  · obtain ⟨e1, e2, e3⟩ := atE_shape (P := P) (L := L) (by rw [hr, hm]; rfl) hrc
    rw [e1, e2, e3]
    exact cAt_shape V v s r c P L hp hv sp h hr hm hrc
theorem dAt_bad1 (V : View) (v s : Value) (r c : Int) (P L : List Raw) (hp : Raws V v P) (hv : Raws V s L) (sp : SmallP P) (h : Small r c L) (hr : rightP P = false) : Spec Tryz.prog 11 [v, .agg #[.int .i64 r, .int .i64 c, s]] V fun v' V' => ∃ w, v' = .tuple #[.agg #[.int .i64 0, .int .i64 0, w], .int .i64 1] ∧ Rats V' w [] := by
  obtain ⟨A, cp, rfl, _, _⟩ := hv.form
  have ov := SlAt.one hp
  refine (Spec.enter Tryz.func11 rfl fun Γ => ?_)
  simp only [Tryz.ntmps11, List.map_cons, List.map_nil, List.length_cons, List.length_nil, Nat.reduceAdd, Nat.reduceSub, List.replicate_succ, List.replicate_zero, List.cons_append, List.nil_append]
  refine Gx.a (by kernel_rfl) fun K hK => ?_
  simp only [XM, XA]
  refine hK _ ?_
  refine XWP.seq ?_
  refine XWP.block ?_
  refine XWP.seq ?_
  refine Gx.c (by kernel_rfl) fun K hK => ?_
  simp only [XA]
  refine call_go (by kernel_rfl) rfl (dright_c _ _ P hp sp.fit (by have := sp.len; omega) sp.qf) fun v1 V1 hV1 h1 => ?_
  rw [hr] at h1
  subst h1
  simp only [XA, gateX, ↓reduceIte]
  refine hK _ ?_
  refine Gx.t rfl ?_
  refine Gx.a (by kernel_rfl) fun K hK => ?_
  simp only []
  refine bd_go (by kernel_rfl) #[] (by simp) bd_mat0 ?_
  simp only [XA]
  refine st_mat shapeT_34 rfl rfl rfl rfl rfl ?_
  simp only [XA]
  refine hK _ (XWP.ret ?_)
  try simp only [thenX_ret, inBlockX_ret]
  exact ret_go _ (by simp [resAll, resV, cellsV, shapeT_34]; rfl) ⟨_, rfl, SlAt.nil _⟩
theorem dAt_bad2 (V : View) (v s : Value) (r c : Int) (P L : List Raw) (hp : Raws V v P) (hv : Raws V s L) (sp : SmallP P) (h : Small r c L) (hr : rightP P = true) (hm : matR r c L = false) : Spec Tryz.prog 11 [v, .agg #[.int .i64 r, .int .i64 c, s]] V fun v' V' => ∃ w, v' = .tuple #[.agg #[.int .i64 0, .int .i64 0, w], .int .i64 1] ∧ Rats V' w [] := by
  obtain ⟨A, cp, rfl, _, _⟩ := hv.form
  have ov := SlAt.one hp
  refine (Spec.enter Tryz.func11 rfl fun Γ => ?_)
  simp only [Tryz.ntmps11, List.map_cons, List.map_nil, List.length_cons, List.length_nil, Nat.reduceAdd, Nat.reduceSub, List.replicate_succ, List.replicate_zero, List.cons_append, List.nil_append]
  refine Gx.a (by kernel_rfl) fun K hK => ?_
  simp only [XM, XA]
  refine hK _ ?_
  refine XWP.seq ?_
  refine XWP.block ?_
  refine XWP.seq ?_
  refine Gx.c (by kernel_rfl) fun K hK => ?_
  simp only [XA]
  refine call_go (by kernel_rfl) rfl (dright_c _ _ P hp sp.fit (by have := sp.len; omega) sp.qf) fun v1 V1 hV1 h1 => ?_
  rw [hr] at h1
  subst h1
  simp only [XM, XA, gateX, Nat.reduceAdd, Nat.reduceLeDiff, ↓reduceIte, beq_self_eq_true]
  refine call_go (by kernel_rfl) rfl (dmright_c _ _ _ _ L (SlAt.mono rawE_ok hv hV1) h.fit (by have := h.len; omega)) fun v2 V2 hV2 h2 => ?_
  rw [hm] at h2
  subst h2
  simp only [XA, gateX, ↓reduceIte, beq_self_eq_true]
  refine hK _ ?_
  refine Gx.t rfl ?_
  refine Gx.a (by kernel_rfl) fun K hK => ?_
  simp only []
  refine bd_go (by kernel_rfl) #[] (by simp) bd_mat0 ?_
  simp only [XA]
  refine st_mat shapeT_34 rfl rfl rfl rfl rfl ?_
  simp only [XA]
  refine hK _ (XWP.ret ?_)
  try simp only [thenX_ret, inBlockX_ret]
  exact ret_go _ (by simp [resAll, resV, cellsV, shapeT_34]; rfl) ⟨_, rfl, SlAt.nil _⟩
theorem dAt_shape (V : View) (v s : Value) (r c : Int) (P L : List Raw) (hp : Raws V v P) (hv : Raws V s L) (sp : SmallP P) (h : Small r c L) (hr : rightP P = true) (hm : matR r c L = true) (hrc : r ≠ c) : Spec Tryz.prog 11 [v, .agg #[.int .i64 r, .int .i64 c, s]] V fun v' V' => ∃ w, v' = .tuple #[.agg #[.int .i64 0, .int .i64 0, w], .int .i64 30] ∧ Rats V' w [] := by
  have b1 : decide (r = c) = false := decide_eq_false hrc
  obtain ⟨A, cp, rfl, _, _⟩ := hv.form
  have ov := SlAt.one hp
  refine (Spec.enter Tryz.func11 rfl fun Γ => ?_)
  simp only [Tryz.ntmps11, List.map_cons, List.map_nil, List.length_cons, List.length_nil, Nat.reduceAdd, Nat.reduceSub, List.replicate_succ, List.replicate_zero, List.cons_append, List.nil_append]
  refine Gx.a (by kernel_rfl) fun K hK => ?_
  simp only [XM, XA]
  refine hK _ ?_
  refine XWP.seq ?_
  refine XWP.block ?_
  refine XWP.seq ?_
  refine Gx.c (by kernel_rfl) fun K hK => ?_
  simp only [XA]
  refine call_go (by kernel_rfl) rfl (dright_c _ _ P hp sp.fit (by have := sp.len; omega) sp.qf) fun v1 V1 hV1 h1 => ?_
  rw [hr] at h1
  subst h1
  simp only [XM, XA, gateX, Nat.reduceAdd, Nat.reduceLeDiff, ↓reduceIte, beq_self_eq_true]
  refine call_go (by kernel_rfl) rfl (dmright_c _ _ _ _ L (SlAt.mono rawE_ok hv hV1) h.fit (by have := h.len; omega)) fun v2 V2 hV2 h2 => ?_
  rw [hm] at h2
  subst h2
  simp only [XA, gateX, ↓reduceIte, beq_self_eq_true]
  refine hK _ ?_
  refine Gx.f rfl ?_
  refine XWP.seq ?_
  refine Gx.c (by kernel_rfl) fun K hK => ?_
  simp only [XM, XA, XB, b1]
  refine hK _ ?_
  refine Gx.t rfl ?_
  refine Gx.a (by kernel_rfl) fun K hK => ?_
  simp only []
  refine bd_go (by kernel_rfl) #[] (by simp) bd_mat0 ?_
  simp only [XA]
  refine st_mat shapeT_34 rfl rfl rfl rfl rfl ?_
  simp only [XA]
  refine hK _ (XWP.ret ?_)
  try simp only [thenX_ret, inBlockX_ret]
  exact ret_go _ (by simp [resAll, resV, cellsV, shapeT_34]; rfl) ⟨_, rfl, SlAt.nil _⟩
theorem dAt2_c (V : View) (v s : Value) (r c : Int) (P L : List Raw) (hp : Raws V v P) (hv : Raws V s L) (sp : SmallP P) (h : Small r c L) : Spec Tryz.prog 11 [v, .agg #[.int .i64 r, .int .i64 c, s]] V fun v' V' => ∃ w, v' = .tuple #[.agg #[.int .i64 (atD P r c L), .int .i64 (atD P r c L), w], .int .i64 (atE P r c L)] ∧ Rats V' w (atR P r c L) := by
  cases hr : rightP P
  · obtain ⟨e1, e2, e3⟩ := atE_bad (P := P) (r := r) (c := c) (L := L) (by rw [hr]; rfl)
    rw [e1, e2, e3]
    exact dAt_bad1 V v s r c P L hp hv sp h hr
  cases hm : matR r c L
  · obtain ⟨e1, e2, e3⟩ := atE_bad (P := P) (r := r) (c := c) (L := L) (by rw [hr, hm]; rfl)
    rw [e1, e2, e3]
    exact dAt_bad2 V v s r c P L hp hv sp h hr hm
  by_cases hrc : r = c
  · obtain ⟨n, rfl, rfl, hn5, hs⟩ := h.sq hv hm hrc
    obtain ⟨e1, e2, e3⟩ := atE_good (P := P) (n := n) (L := L) (by rw [hr, hm]; rfl)
    rw [e1, e2, e3]
    have := dAt_c V v s n P _ hp sp.fit sp.qf hr sp.len sp.qb hs hn5
    rw [flatG_congr (G' := horG (gridL (qs L) n) (qs P) n P.length)] at this
    · exact this
    · intro i k hi hk
      have e := horG_val (gridL (qs L) n) (qs P) n hi hk
      have hl : (qs P).length = P.length := by unfold qs; rw [List.length_map]
      rw [hl] at e
      exact e.symm
  · obtain ⟨e1, e2, e3⟩ := atE_shape (P := P) (L := L) (by rw [hr, hm]; rfl) hrc
    rw [e1, e2, e3]
    exact dAt_shape V v s r c P L hp hv sp h hr hm hrc
end Go.Proofs.YthoboehbadmlmaaGreat
end
section
namespace Go.Proofs.YthoboehbadmlmaaGreat
open Go Go.RowKit
set_option linter.unusedSimpArgs false
set_option linter.unusedVariables false
attribute [local irreducible] XWP Spec SpecO XPub XCall seqX clX apX stX ldX iaX slX
theorem fewR.small {r c : Int} {L : List Raw} {V : View} {w : Value} (h : fewR L) (hv : Raws V w L) (hl : L.length ≤ 4000) (h5 : matR r c L = true → r = c → c ≤ 5) : Small r c L :=
  ⟨h.fit, by omega, fun _ x hx => (fewR_QB h hv.dig x hx).mono (by omega), h5⟩
theorem fewR.append {l m : List Raw} (h1 : fewR l) (h2 : fewR m) : fewR (l ++ m) := fun r hr => by
  rcases List.mem_append.1 hr with h | h
  · exact h1 r h
  · exact h2 r h
theorem fewR.sub {l m : List Raw} (h : fewR l) (hs : ∀ r ∈ m, r ∈ l) : fewR m := fun r hr => h r (hs r hr)
set_option maxHeartbeats 4000000 in
theorem lsquare_c (V : View) (s : Value) (r c : Int) (L : List Raw) (hv : Raws V s L) : Spec Tryz.prog 6 [.agg #[.int .i64 r, .int .i64 c, s], .int .i64 5] V fun v' V' => ∃ r' c' w L', v' = .agg #[.int .i64 r', .int .i64 c', w] ∧ Raws V' w L' ∧ Small r' c' L' := by
  obtain ⟨A0, c0, rfl, _, _⟩ := hv.form
  have hfew := fewL_few L 4000
  have hflen := fewL_len L 4000
  refine (Spec.enter Tryz.func6 rfl fun Γ => ?_)
  simp only [Tryz.ntmps6, List.map_cons, List.map_nil, List.length_cons, List.length_nil, Nat.reduceAdd, Nat.reduceSub, List.replicate_succ, List.replicate_zero, List.cons_append, List.nil_append]
  refine Gx.a (by kernel_rfl) fun K hK => ?_
  simp only [XM, XA]
  refine hK _ ?_
  refine Gx.a (by kernel_rfl) fun K hK => ?_
  simp only [XM, XA, XB]
  refine call_go (by kernel_rfl) rfl (lfew_c _ _ L 4000 hv (by omega)) fun w1 V1 hV1 h1 => ?_
  obtain ⟨A1, c1, rfl, hc1, hm1⟩ := h1.form
  simp only [XM, XA]
  refine st_one shapeT_22 rfl rfl (by simp) ?_
  simp only [XA]
  refine hK _ ?_
  refine XWP.cut (fun s => ∃ V2, StIs (fun Z => [Z 0, .v (.int .i64 5), .p 0 0, Z 3, .p 1 0, Z 5,Z 6,Z 7,Z 8,Z 9,Z 10,Z 11,Z 12,Z 13,Z 14,Z 15,Z 16,Z 17,Z 18,Z 19,Z 20,Z 21,Z 22,Z 23,Z 24,Z 25,Z 26,Z 27,Z 28,Z 29,Z 30,Z 31,Z 32,Z 33,Z 34,Z 35,Z 36,Z 37,Z 38,Z 39,Z 40,Z 41,Z 42,Z 43,Z 44,Z 45,Z 46,Z 47,Z 48,Z 49,Z 50,Z 51,Z 52,Z 53]) [[.int .i64 r, .int .i64 c, .slice A1 (fewL L 4000).length c1], [.int .i64 0, .int .i64 0, .slice none 0 0]] (fun _ => none) V2 s ∧ V1.le V2 ∧ matR r c (fewL L 4000) = true ∧ r = c ∧ 5 < r) ?_ ?_
  · have fin : ∀ V2, V1.le V2 → (matR r c (fewL L 4000) = true → r = c → c ≤ 5) → ∃ r' c' w L', (Value.agg #[.int .i64 r, .int .i64 c, .slice A1 (fewL L 4000).length c1]) = .agg #[.int .i64 r', .int .i64 c', w] ∧ Raws V2 w L' ∧ Small r' c' L' := fun V2 hV2 h5 => ⟨r, c, _, _, rfl, SlAt.mono rawE_ok h1 hV2, hfew.small h1 hflen h5⟩
    refine Gx.a (by kernel_rfl) fun K hK => ?_
    simp only [XM, XA, Nat.reduceAdd, Nat.reduceLeDiff, ↓reduceIte]
    refine call_go (by kernel_rfl) rfl (dmright_c _ _ _ _ _ h1 hfew.fit (by omega)) fun v2 V2 hV2 h2 => ?_
    subst h2
    cases hm : matR r c (fewL L 4000)
    · simp only [XA, gateX, ↓reduceIte]
      refine hK _ ?_
      refine Gx.t rfl ?_
      refine Gx.a (by kernel_rfl) fun K hK => ?_
      simp only [XM, XA, Nat.reduceAdd, Nat.reduceLeDiff, ↓reduceIte]
      refine st_mat shapeT_24 rfl rfl rfl rfl rfl ?_
      simp only [XA]
      refine hK _ (XWP.ret ?_)
      try simp only [thenX_ret, inBlockX_ret]
      exact ret_go [.agg #[.int .i64 r, .int .i64 c, .slice A1 (fewL L 4000).length c1]] (by simp [resAll, resV, cellsV, shapeT_24]) (fin V2 hV2 fun h => by rw [hm] at h; cases h)
    by_cases hrc : r = c
    rotate_left
    · have b1 : decide (r = c) = false := decide_eq_false hrc
      simp only [XM, XA, XB, gateX, ↓reduceIte, beq_self_eq_true, b1]
      refine hK _ ?_
      refine Gx.t rfl ?_
      refine Gx.a (by kernel_rfl) fun K hK => ?_
      simp only [XM, XA, Nat.reduceAdd, Nat.reduceLeDiff, ↓reduceIte]
      refine st_mat shapeT_24 rfl rfl rfl rfl rfl ?_
      simp only [XA]
      refine hK _ (XWP.ret ?_)
      try simp only [thenX_ret, inBlockX_ret]
      exact ret_go [.agg #[.int .i64 r, .int .i64 c, .slice A1 (fewL L 4000).length c1]] (by simp [resAll, resV, cellsV, shapeT_24]) (fin V2 hV2 fun _ h => absurd h hrc)
    have b1 : decide (r = c) = true := decide_eq_true hrc
    by_cases h5 : r ≤ 5
    · have b2 : decide (r ≤ 5) = true := decide_eq_true h5
      simp only [XM, XA, XB, gateX, ↓reduceIte, beq_self_eq_true, b1, b2]
      refine hK _ ?_
      refine Gx.t rfl ?_
      refine Gx.a (by kernel_rfl) fun K hK => ?_
      simp only [XM, XA, Nat.reduceAdd, Nat.reduceLeDiff, ↓reduceIte]
      refine st_mat shapeT_24 rfl rfl rfl rfl rfl ?_
      simp only [XA]
      refine hK _ (XWP.ret ?_)
      try simp only [thenX_ret, inBlockX_ret]
      exact ret_go [.agg #[.int .i64 r, .int .i64 c, .slice A1 (fewL L 4000).length c1]] (by simp [resAll, resV, cellsV, shapeT_24]) (fin V2 hV2 fun _ h => by omega)
    · have b2 : decide (r ≤ 5) = false := decide_eq_false h5
      simp only [XM, XA, XB, gateX, ↓reduceIte, beq_self_eq_true, b1, b2]
      refine hK _ ?_
      refine Gx.f rfl ?_
      refine XWP.skip ?_
      exact ⟨V2, StIs.of (by exact rfl), hV2, hm, hrc, by omega⟩
  rintro s ⟨V2, hs, hV2, hm, hrc, h5⟩
  obtain ⟨z, rfl⟩ := hs.out
  try dsimp only
  clear hs
  subst hrc
  have h1 := SlAt.mono rawE_ok h1 hV2
  have hmm := hm
  unfold matR at hmm
  simp only [Bool.and_eq_true, decide_eq_true_eq] at hmm
  obtain ⟨⟨g1, g2, g3, g4, g5⟩, _⟩ := hmm
  obtain ⟨n, rfl⟩ : ∃ n : Nat, r = n := ⟨r.toNat, by omega⟩
  have g5 : (fewL L 4000).length = n * n := Int.ofNat.inj (by show ((fewL L 4000).length : Int) = ((n * n : Nat) : Int); rw [g5, Int.natCast_mul])
  generalize fewL L 4000 = L1 at *
  refine Gx.a (by kernel_rfl) fun K hK => ?_
  simp only [XA]
  refine bd_go (by kernel_rfl) #[(0, .int .i64 5), (1, .int .i64 5)] (by simp [ev_tmp, SV.val]) (bd_mtx2 rfl rfl) ?_
  simp only [XM, XA, Nat.reduceAdd]
  refine st_mat shapeT_24 rfl rfl rfl rfl rfl ?_
  simp only [XA]
  refine hK _ ?_
  refine XWP.cutD 3 (fun s => ∃ (V3 : View) (H3 : Heap) (so : Value) (cells : List Value) (Lo : List Raw), StIs (fun Z => [Z 0,Z 1,Z 2,Z 3, .p 1 0, .p 2 0, Z 6,Z 7,Z 8,Z 9,Z 10,Z 11,Z 12,Z 13,Z 14,Z 15,Z 16,Z 17,Z 18,Z 19,Z 20,Z 21,Z 22,Z 23,Z 24,Z 25,Z 26,Z 27,Z 28,Z 29,Z 30,Z 31,Z 32,Z 33,Z 34,Z 35,Z 36,Z 37,Z 38,Z 39,Z 40,Z 41,Z 42,Z 43,Z 44,Z 45,Z 46,Z 47,Z 48,Z 49,Z 50,Z 51,Z 52,Z 53]) [[.int .i64 (n : Int), .int .i64 (n : Int), .slice A1 L1.length c1], [.int .i64 0, .int .i64 0, .slice none 0 0], [.int .i64 5, .int .i64 5, so]] H3 V3 s ∧ Own H3 48 3 so 25 cells ∧ RowAt rawE V3 cells Lo ∧ fewR Lo ∧ Lo.length = 25) ?_ ?_
  · refine Gx.a (by kernel_rfl) fun K hK => ?_
    simp only [XA]
    refine hK _ ?_
    clear hK
    refine XWP.block ?_
    refine XWP.loopD 3 (fun q s => ∃ (i : Nat) (H3 : Heap) (so : Value) (cells : List Value) (Lo : List Raw), StIs (fun Z => [Z 0, .v (.int .i64 5), .p 0 0, Z 3, .p 1 0, .p 2 0, .v (.int .i64 (i : Int)), Z 7,Z 8,Z 9,Z 10,Z 11,Z 12,Z 13,Z 14,Z 15,Z 16,Z 17,Z 18,Z 19,Z 20,Z 21,Z 22,Z 23,Z 24,Z 25,Z 26,Z 27,Z 28,Z 29,Z 30,Z 31,Z 32,Z 33,Z 34,Z 35,Z 36,Z 37,Z 38,Z 39,Z 40,Z 41,Z 42,Z 43,Z 44,Z 45,Z 46,Z 47,Z 48,Z 49,Z 50,Z 51,Z 52,Z 53]) [[.int .i64 (n : Int), .int .i64 (n : Int), .slice A1 L1.length c1], [.int .i64 0, .int .i64 0, .slice none 0 0], [.int .i64 5, .int .i64 5, so]] H3 V2 s ∧ q + i = 5 ∧ Own H3 48 3 so (i * 5) cells ∧ RowAt rawE V2 cells Lo ∧ fewR Lo ∧ Lo.length = i * 5) 5 ⟨0, _, _, [], [], StIs.of (by exact rfl), by omega, own_nil, RowAt.nil V2, fun r hr => (by cases hr), rfl⟩ ?_
    rintro q s ⟨i, H3, so, cells, Lo, hs, hq, hown, hrow, hfo, hlo⟩
    obtain ⟨z, rfl⟩ := hs.out
    try dsimp only
    clear hs
    refine XWP.seq ?_
    by_cases hi : i < 5
    rotate_left
    · obtain rfl : i = 5 := by omega
      refine Gx.a (by kernel_rfl) fun K hK => ?_
      simp only [XA, XB]
      refine hK _ ?_
      refine Gx.f rfl ?_
      refine XWP.exit ?_
      exact fun f => ⟨V2, H3, so, cells, Lo, StIs.of (by exact rfl), hown, hrow, hfo, hlo⟩
    have b1 : decide ((i : Int) < 5) = true := decide_eq_true (by omega)
    refine Gx.a (by kernel_rfl) fun K hK => ?_
    simp only [XA, XB, b1]
    refine hK _ ?_
    refine Gx.t rfl ?_
    refine XWP.skip ?_
    refine XWP.seq ?_
    refine XWP.block ?_
    have hin : i * n + 5 ≤ n * n := by
      have := Nat.mul_le_mul_right n (show i + 1 ≤ n by omega)
      rw [Nat.add_mul, Nat.one_mul] at this
      omega
    have hnn : n * n ≤ 3600 := sq_le (by omega)
    have w1 := wr_mul (i := i) (C := n) (by omega) (by omega)
    have w2 : IntKind.i64.wrap (((i * n : Nat) : Int) + 5) = ((i * n + 5 : Nat) : Int) := by rw [wrap_id (by omega) (by omega)]; omega
    have hsl : Raws V2 (sliceV A1 c1 3 (i * n) (i * n + 5)) ((L1.take (i * n + 5)).drop (i * n)) := SlAt.drop (SlAt.take h1 (by omega)) (by rw [List.length_take]; omega)
    have hpl : ((L1.take (i * n + 5)).drop (i * n)).length = 5 := by rw [List.length_drop, List.length_take]; omega
    have hpf : fewR ((L1.take (i * n + 5)).drop (i * n)) := hfew.sub fun r hr => List.mem_of_mem_take (List.mem_of_mem_drop hr)
    generalize (L1.take (i * n + 5)).drop (i * n) = Lp at *
    obtain ⟨cs, hcs, hsrc⟩ := hsl.src
    rw [hpl] at hsrc
    obtain ⟨Ao, co, rfl⟩ : ∃ Ao co, so = .slice Ao (i * 5) co := by
      rcases own_parts hown with ⟨rfl, h0, _⟩ | ⟨g, cap, rfl, _⟩
      · exact ⟨none, 0, by rw [h0]⟩
      · exact ⟨_, cap, rfl⟩
    (refine XWP.drw1 [0, 1, 2, 3, 4, 5, 6, 7, 8, 9, 10, 11, 12, 13, 14, 15, 16, 17] (by kernel_rfl) (by kernel_rfl) (by kernel_rfl) fun K hK => ?_) <;> dsimp only [pickOps, List.getElem?_cons_zero, List.getElem?_cons_succ]
    simp only [XM, XA, XB, w1, w2]
    refine ⟨by omega, by omega, by omega, ?_⟩
    try simp only [XM, XN, XA, XB, gateX, Nat.reduceAdd, Nat.reduceLeDiff, Nat.reduceSub, Nat.reduceMul, ↓reduceIte, Int.reduceToNat, Int.reduceLE, beq_self_eq_true]
    refine ap_go elemT_22 (by kernel_rfl) zeroT_48 rfl (by omega) hown (hsrc _) (by omega) (by omega) fun v' H' hres => ?_
    have o' := own_isOne hres.1
    simp only [XM, XA]
    refine st_one shapeT_22 rfl o' (by simp) ?_
    simp only [XA]
    refine hK _ ?_
    have hrow' := hrow.append hcs
    refine Gx.c (by kernel_rfl) fun K hK => ?_
    simp only [XA, XB, i64_succ i (by omega)]
    exact hK _ ⟨q - 1, by omega, fun f => ⟨i + 1, H', v', _, Lo ++ Lp, StIs.of (by exact rfl), by omega, by rw [show (i + 1) * 5 = i * 5 + 5 by omega]; exact hres.1, hrow', hfo.append hpf, by rw [List.length_append]; omega⟩⟩
  rintro s ⟨V3, H3, so, cells, Lo, hs, hown, hrow, hfo, hlo⟩
  obtain ⟨z, rfl⟩ := hs.out
  try dsimp only
  have oso := own_isOne hown
  refine Gx.a (by kernel_rfl) fun K hK => ?_
  simp only [XM, XA, Nat.reduceAdd, Nat.reduceLeDiff, ↓reduceIte]
  refine st_mat shapeT_24 rfl rfl rfl rfl oso ?_
  simp only [XA]
  refine hK _ (XWP.ret ?_)
  try simp only [thenX_ret, inBlockX_ret]
  rcases own_parts hown with ⟨_, h0, _⟩ | ⟨g, cap, rfl, hg, hle, hcap, hcl⟩
  · omega
  · refine ret_pub g _ hg fun o ho hle' => ret_go [.agg #[.int .i64 5, .int .i64 5, .slice (some ⟨g, 0, none⟩) 25 cap]] (by simp [resAll, resV, cellsV, shapeT_24]) ?_
    have hR := hrow.pub rawE_ok ho hle' hlo hle (by unfold maxLen at hcap; omega)
    exact ⟨5, 5, _, Lo, rfl, hR, hfo.small hR (by omega) fun _ _ => by omega⟩
end Go.Proofs.YthoboehbadmlmaaGreat
end
section
namespace Go.Proofs.YthoboehbadmlmaaGreat
open Go Go.RowKit
set_option linter.unusedSimpArgs false
set_option linter.unusedVariables false
attribute [local irreducible] XWP Spec SpecO XPub XCall seqX clX apX stX ldX iaX slX
theorem fewR.smallP {P : List Raw} {V : View} {v : Value} (h : fewR P) (hv : Raws V v P) (hl : P.length ≤ 5) : SmallP P :=
  ⟨h.fit, hl, fun _ => fewR_qf h hv.dig, fun i => by
    by_cases hi : i < (qs P).length
    · exact (fewR_QB h hv.dig _ (cf_mem hi)).mono (by omega)
    · rw [cf_none (by omega)]; exact QB_zero _⟩
theorem ofR_QF {V : View} {s : Value} {r c : Int} {L : List Raw} (hv : Raws V s L) (h : Small r c L) : ∀ x ∈ ofR r c L, QF x := fun x hx => by
  cases hm : matR r c L
  · rw [(ofE_bad hm).2] at hx; cases hx
  by_cases hrc : r = c
  · obtain ⟨n, rfl, rfl, hn5, hs⟩ := h.sq hv hm hrc
    rw [(ofE_good hm).2] at hx
    obtain ⟨i, hi, rfl⟩ := List.mem_iff_getElem.1 hx
    rw [cf_get hi]
    exact (chrL_QB hn5 hs.hq i).qf (by omega)
  · rw [(ofE_shape hm hrc).2] at hx; cases hx
theorem atR_QF {V : View} {s : Value} {r c : Int} {P L : List Raw} (hv : Raws V s L) (sp : SmallP P) (h : Small r c L) : ∀ x ∈ atR P r c L, QF x := fun x hx => by
  cases hb : rightP P && matR r c L
  · rw [(atE_bad hb).2.2] at hx; cases hx
  by_cases hrc : r = c
  · have hm : matR r c L = true := by rw [Bool.and_eq_true] at hb; exact hb.2
    obtain ⟨n, rfl, rfl, hn5, hs⟩ := h.sq hv hm hrc
    rw [(atE_good hb).2.2] at hx
    obtain ⟨i, k, hi, hk, rfl⟩ := flatG_mem hx
    exact ((horG_hb hn5 hs.hq sp.qb _ i k hi hk).mono (hb_top (by omega) (by have := sp.len; omega))).qf (by omega)
  · rw [(atE_shape hb hrc).2.2] at hx; cases hx
set_option maxHeartbeats 4000000 in
theorem matrix_c (V : View) (s v : Value) (r c : Int) (L P : List Raw) (hv : Raws V s L) (hp : Raws V v P) : Spec Tryz.prog 3 [.agg #[.int .i64 r, .int .i64 c, s], v] V fun v' V' => v' = .bool true := by
  have os := SlAt.one hv
  refine (Spec.enter Tryz.func3 rfl fun Γ => ?_)
  simp only [Tryz.ntmps3, List.map_cons, List.map_nil, List.length_cons, List.length_nil, Nat.reduceAdd, Nat.reduceSub, List.replicate_succ, List.replicate_zero, List.cons_append, List.nil_append]
  refine Gx.a (by kernel_rfl) fun K hK => ?_
  simp only [XA]
  refine hK _ ?_
  refine Gx.a (by kernel_rfl) fun K hK => ?_
  simp only [XM, XA, Nat.reduceAdd, Nat.reduceLeDiff, ↓reduceIte]
  refine call_go (by kernel_rfl) rfl (lsquare_c _ _ r c L hv) fun v1 V1 hV1 h1 => ?_
  obtain ⟨r1, c1, w1, L1, rfl, h1, sm⟩ := h1
  simp only [XA]
  refine call_go (by kernel_rfl) rfl (lpoly_c _ _ P 5 (SlAt.mono rawE_ok hp hV1) (by omega)) fun v2 V2 hV2 h2 => ?_
  obtain ⟨P2, h2, l2, f2⟩ := h2
  have sp := f2.smallP h2 l2
  have h1 := SlAt.mono rawE_ok h1 hV2
  have ow1 := SlAt.one h1
  simp only [XA]
  refine st_mat shapeT_24 rfl rfl rfl rfl ow1 ?_
  simp only [XA]
  refine hK _ ?_
  refine Gx.a (by kernel_rfl) fun K hK => ?_
  simp only [XM, XA, Nat.reduceAdd, Nat.reduceLeDiff, ↓reduceIte]
  refine call_go (by kernel_rfl) rfl (cOf2_c _ _ r1 c1 L1 h1 sm) fun v3 V3 hV3 h3 => ?_
  obtain ⟨w3, rfl, h3⟩ := h3
  have h1 := SlAt.mono rawE_ok h1 hV3
  have h2 := SlAt.mono rawE_ok h2 hV3
  simp only [XA]
  refine hK _ ?_
  refine Gx.a (by kernel_rfl) fun K hK => ?_
  simp only [XM, XA, Nat.reduceAdd, Nat.reduceLeDiff, ↓reduceIte]
  refine call_go (by kernel_rfl) rfl (dOf2_c _ _ r1 c1 L1 h1 sm) fun v4 V4 hV4 h4 => ?_
  obtain ⟨w4, rfl, h4⟩ := h4
  have h1 := SlAt.mono rawE_ok h1 hV4
  have h2 := SlAt.mono rawE_ok h2 hV4
  simp only [XA]
  refine hK _ ?_
  refine Gx.a (by kernel_rfl) fun K hK => ?_
  simp only [XM, XA, Nat.reduceAdd, Nat.reduceLeDiff, ↓reduceIte]
  refine call_go (by kernel_rfl) rfl (cAt2_c _ _ _ r1 c1 P2 L1 h2 h1 sp sm) fun v5 V5 hV5 h5 => ?_
  obtain ⟨w5, rfl, h5⟩ := h5
  have h1 := SlAt.mono rawE_ok h1 hV5
  have h2 := SlAt.mono rawE_ok h2 hV5
  have ow5 := SlAt.one h5
  simp only [XM, XA]
  refine st_mat shapeT_24 rfl rfl rfl rfl ow5 ?_
  simp only [XA]
  refine hK _ ?_
  refine Gx.a (by kernel_rfl) fun K hK => ?_
  simp only [XM, XA, Nat.reduceAdd, Nat.reduceLeDiff, ↓reduceIte]
  refine call_go (by kernel_rfl) rfl (dAt2_c _ _ _ r1 c1 P2 L1 h2 h1 sp sm) fun v6 V6 hV6 h6 => ?_
  obtain ⟨w6, rfl, h6⟩ := h6
  have h1 := SlAt.mono rawE_ok h1 hV6
  have ow6 := SlAt.one h6
  simp only [XM, XA, Nat.reduceAdd]
  refine st_mat shapeT_34 rfl rfl rfl rfl ow6 ?_
  simp only [XA]
  refine hK _ ?_
  have q1 := ofR_QF h1 sm
  have q2 := atR_QF h1 sp sm
  refine Gx.a (by kernel_rfl) fun K hK => ?_
  simp only [XA]
  refine call_go (by kernel_rfl) rfl (lsameP_c _ _ _ _ _ _ _ (h3.up (View.le_trans hV4 (View.le_trans hV5 hV6))) (h4.up (View.le_trans hV5 hV6)) q1 q1) fun v7 V7 hV7 h7 => ?_
  rw [decide_eq_true rfl, decide_eq_true rfl] at h7
  subst h7
  simp only [XM, XA, XB, gateX, Nat.reduceAdd, Nat.reduceLeDiff, ↓reduceIte, decide_true]
  refine call_go (by kernel_rfl) rfl (dMsame_c _ _ _ _ _ _ _ _ _ (h5.up (View.le_trans hV6 hV7)) (h6.up hV7) q2 q2) fun v8 V8 hV8 h8 => ?_
  rw [decide_eq_true rfl, decide_eq_true rfl] at h8
  subst h8
  simp only [XA, gateX]
  refine call_go (by kernel_rfl) rfl (alive_c _) fun v9 V9 hV9 h9 => ?_
  subst h9
  simp only [XA]
  refine hK _ (XWP.ret ?_)
  try simp only [thenX_ret, inBlockX_ret]
  refine ret_go _ rfl ?_
  rfl
end Go.Proofs.YthoboehbadmlmaaGreat
end
section
namespace Go.Proofs.YthoboehbadmlmaaGreat.recurMatrix
open Go.ChangeShapes Go.WideShapes Go.ChangeAt Go.RowKit
set_option linter.unusedVariables false
theorem own : ownKnob Tryz.prog.godebug = none := by kernel_rfl
theorem laidOut : laidOutB Tryz.prog = true := by kernel_rfl
set_option maxRecDepth 100000 in
theorem lifted (os : Os) (started : os.Started) (H : Type) (enc : TypeId × Value → H) :
    ReturnsInHanded {} Tryz.checked os 3 .any (Rows.recurMatrixSpec.pre6 enc Tryz.prog Tryz.f3 Rows.recurMatrixRow.domain false) (Rows.recurMatrixSpec.post enc Tryz.prog Tryz.f3 false true false false) := by
  refine returnsInHanded_of_change_sized (C := Tryz.checked) own started (by kernel_rfl) Tryz.func3
    (ChangeSpec.witness6 (enc := enc) (C := Tryz.checked) false ⟨#[], #[.agg #[.int .i64 0, .int .i64 0, .slice none 0 0], .slice none 0 0], []⟩ 8 (by kernel_rfl) (by kernel_rfl) (by kernel_rfl) (by kernel_rfl)) ?_
  intro W base args ds gs before hval0 hW hcnd hsz0 _
  have hval : ∀ (j : Nat) t v, Tryz.f3.params[j]? = some t → args[j]? = some v → Value.okWide Tryz.prog W .any base t v := hval0
  have hW' := hW
  obtain ⟨p, q, hA0, hV, rfl, hfz, hnd⟩ := hW
  have hA : DataW.TrodAll enc Tryz.prog W 0 (fun _ => true) true Tryz.f3.params.toList args.toList ds p := hA0
  rw [Tryz.params3] at hA hval
  obtain ⟨v0, vs0, d0, ds0, p0, q0, hargs, rfl, rfl, h0, r0⟩ := trodAll_cons hA
  obtain ⟨v1, vs1, d1, ds1, p1, q1, rfl, rfl, rfl, h1, r1⟩ := trodAll_cons r0
  obtain ⟨rfl, rfl, rfl⟩ := trodAll_nil r1
  obtain rfl : args = #[v0, v1] := by cases args; simp_all
  obtain ⟨rfl, rfl⟩ := trodVars_none hV
  obtain ⟨c0, rfl, _⟩ := okWide_struct und_mat (hval 0 24 v0 rfl rfl)
  have k0 := h0
  have lt0 : ∀ x ∈ p0, x.block < W.heap.size := by obtain ⟨m, hm⟩ := k0; exact DataW.trod_lt m _ _ _ hm
  obtain ⟨fuel0, hf0⟩ := h0
  obtain ⟨r0r, r0c, s0, L0, j0, hL0⟩ := open_mat hf0
  obtain rfl : c0 = #[.int .i64 r0r, .int .i64 r0c, s0] := by cases c0; simpa [Value.cells] using j0
  obtain ⟨a1, len1, cap1, rfl⟩ := okWide_slice (und_elem (P := Tryz.prog) (e := 48) (by kernel_rfl)) (hval 1 25 v1 rfl rfl)
  have k1 := h1
  have lt1 : ∀ x ∈ p1, x.block < W.heap.size := by obtain ⟨m, hm⟩ := k1; exact DataW.trod_lt m _ _ _ hm
  obtain ⟨fuel1, hf1⟩ := h1
  obtain ⟨L1, hL1⟩ := open_raws (by kernel_rfl) hf1
  clear hA0 hval0 hsz0
  refine (matrix_c (viewW W) _ _ r0r r0c L0 L1 hL0 hL1 W (viewW_sub W)).mono fun e W' ⟨v, V', he, _, _, _, bel, hv⟩ => ?_
  subst hv
  subst he
  exact ⟨_, rfl, _, _, _, [], _, [], hW', trodAll_mk1 (shut_bool Tryz.underlying4 _), (trodAll_cons_mk (Below.trod laidOut (by kernel_rfl) (of_decide_eq_true (by kernel_rfl)) k0 bel lt0) (trodAll_cons_mk (Below.trod laidOut (by kernel_rfl) (of_decide_eq_true (by kernel_rfl)) k1 bel lt1) trodAll_mk0)), rfl, bel.frame _, fun h => by cases h⟩
theorem over : Rows.recurMatrixRow.holds Tryz.pinned (OpenSpec.ofChange Rows.recurMatrixSpec) :=
  OpenClaim.holds_of_wide 3 Tryz.f3 rfl rfl rfl rfl rfl rfl rfl ⟨rfl, rfl, rfl, rfl, rfl⟩ rfl rfl rfl rfl rfl (by kernel_rfl) Tryz.func3 (by kernel_rfl)
    (of_decide_eq_true (by kernel_rfl)) (by unfold Func.isWrapper; first | (rw [if_pos (by decide +kernel)]; kernel_rfl) | (rw [if_neg (by decide +kernel)]; exact ⟨rfl, rfl⟩))
    (fun os started H enc _ => lifted os started H enc)
theorem proved : Rows.RecurMatrixSaid := over
#print axioms proved
end Go.Proofs.YthoboehbadmlmaaGreat.recurMatrix
namespace Go.Proofs.YthoboehbadmlmaaGreat
/-- The row, under a short name, for the claim. -/
theorem recurMatrix_holds : Rows.RecurMatrixSaid := recurMatrix.proved
end Go.Proofs.YthoboehbadmlmaaGreat
end
