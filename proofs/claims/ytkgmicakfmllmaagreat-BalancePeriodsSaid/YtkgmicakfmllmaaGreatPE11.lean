/- The program's period of a class is that of its reference. (part 11 of 11) -/
import Derived.OrdersHeld
import Derived.Below
import Derived.Tactics
import Derived.KernelRfl
import Derived.RangeFuncCalls
import Derived.RangeFuncFrom
import Derived.RangeFuncLeaves
import Derived.OrdersIn
import Derived.Laws.AppendOwn
import Derived.Laws.MakeOwn
import Derived.Laws.CopyRow
import Derived.Laws.Cells
import Derived.Laws.World
import Derived.Laws.Alloc2
import Derived.Laws.NewBlocks
import Derived.Maps.AppendAt
import Derived.Test.YtkgmicakfmllmaaGreatProg
import Init.Data.List.Lemmas
import Init.Omega
import Derived.WalkKit
import Derived.ProofKit
import Derived.OpenShut
import Derived.ChangeOld
import Derived.SizedLaws
import Derived.ChangeSlices
import Derived.ChangeArms
import Derived.Deep.Slices
import Derived.MapKept
import Derived.Test.YtkgmicakfmllmaaGreatRows
import Derived.ShutString
import Derived.Test.YtkgmicakfmllmaaGreatPE10
section
namespace Go.Proofs.YtkgmicakfmllmaaGreat
open Go Go.RowKit
set_option linter.unusedSimpArgs false
set_option linter.unusedVariables false
attribute [local irreducible] XWP Spec SpecO XPub XCall seqX clX apX stX ldX iaX slX
end Go.Proofs.YtkgmicakfmllmaaGreat
end
section
namespace Go.Proofs.YtkgmicakfmllmaaGreat
open Go Go.RowKit
set_option linter.unusedSimpArgs false
set_option linter.unusedVariables false
attribute [local irreducible] XWP Spec SpecO XPub XCall seqX clX apX stX ldX iaX slX
end Go.Proofs.YtkgmicakfmllmaaGreat
end
section
namespace Go.Proofs.YtkgmicakfmllmaaGreat
open Go Go.RowKit
set_option linter.unusedSimpArgs false
set_option linter.unusedVariables false
attribute [local irreducible] XWP Spec SpecO XPub XCall seqX clX apX stX ldX iaX slX
end Go.Proofs.YtkgmicakfmllmaaGreat
end
section
namespace Go.Proofs.YtkgmicakfmllmaaGreat
open Go Go.RowKit
set_option linter.unusedSimpArgs false
set_option linter.unusedVariables false
attribute [local irreducible] XWP Spec SpecO XPub XCall seqX clX apX stX ldX iaX slX
end Go.Proofs.YtkgmicakfmllmaaGreat
end
section
namespace Go.Proofs.YtkgmicakfmllmaaGreat
open Go Go.RowKit
set_option linter.unusedSimpArgs false
set_option linter.unusedVariables false
attribute [local irreducible] XWP Spec SpecO XPub XCall seqX clX apX stX ldX iaX slX
end Go.Proofs.YtkgmicakfmllmaaGreat
end
section
namespace Go.Proofs.YtkgmicakfmllmaaGreat
set_option linter.unusedVariables false
def hf : Rat := 1 / 2
def pw : Nat → Rat
  | 0 => 1
  | k + 1 => pw k * hf
theorem hf_mk : hf = mkRat 1 2 := by decide +kernel
theorem pw_mk (k : Nat) : pw k = mkRat 1 (2 ^ k) := by
  induction k with
  | zero => decide +kernel
  | succ k ih => rw [pw, ih, hf_mk, Rat.mkRat_mul_mkRat, Nat.pow_succ]; rfl
theorem pw_over {n k : Nat} (h : k ≤ n) : Over (2 ^ n) n (pw k) := by
  refine ⟨((2 ^ (n - k) : Nat) : Int), ?_, ?_⟩
  · rw [Int.natAbs_natCast]; exact two_mono (by omega)
  · have e : 2 ^ n = 2 ^ k * 2 ^ (n - k) := by rw [← Nat.pow_add]; congr 1; omega
    have h2 : 2 ^ (n - k) ≠ 0 := by have := two_pos (n - k); omega
    rw [pw_mk, e]
    have := Rat.mkRat_mul_right (n := 1) (d := 2 ^ k) h2
    rw [Int.one_mul] at this
    exact this.symm
theorem pw_CB1 (n : Nat) : CB n [pw n] := by
  refine ⟨2 ^ n, two_pos n, Nat.le_refl _, fun i => ?_⟩
  cases i with
  | zero => exact pw_over (Nat.le_refl _)
  | succ i => rw [cf_none (by simp)]; exact Over.zero _ _
theorem hf_QB : QB 1 hf := by
  have := (pw_CB1 1).at 0
  have e : cf [pw 1] 0 = hf := by decide +kernel
  rw [e] at this; exact this
end Go.Proofs.YtkgmicakfmllmaaGreat
end
section
namespace Go.Proofs.YtkgmicakfmllmaaGreat
open Go Go.RowKit
set_option linter.unusedSimpArgs false
set_option linter.unusedVariables false
attribute [local irreducible] XWP Spec SpecO XPub XCall seqX clX apX stX ldX iaX slX
theorem dsize_c (V : View) (n : Nat) (hn : n < 4611686018427387904) : Spec Tryz.prog 64 [.int .i64 (n : Int)] V fun v' V' => ∃ w, v' = .tuple #[w, .bool false] ∧ NatC V' w n := by
  have b1 : decide ((n : Int) < 0) = false := decide_eq_false (by omega)
  have w1 : IntKind.u64.wrap (n : Int) = (n : Int) := w64_id (by omega) (by omega)
  refine (Spec.enter Tryz.func64 rfl fun Γ => ?_)
  simp only [Tryz.ntmps64, List.map_cons, List.map_nil, List.length_cons, List.length_nil, Nat.reduceAdd, Nat.reduceSub, List.replicate_succ, List.replicate_zero, List.cons_append, List.nil_append]
  refine Gx.a (by kernel_rfl) fun K hK => ?_
  simp only [XA]
  refine hK _ ?_
  refine XWP.seq ?_
  refine Gx.a (by kernel_rfl) fun K hK => ?_
  simp only [XA, XB, b1]
  refine hK _ ?_
  refine Gx.f rfl ?_
  refine XWP.skip ?_
  refine Gx.a (by kernel_rfl) fun K hK => ?_
  simp only [XA, XB, w1]
  refine call_go (by kernel_rfl) rfl (rof_c _ n (by omega)) fun v1 V1 hV1 h1 => ?_
  simp only [XA]
  refine hK _ (XWP.ret ?_)
  try simp only [thenX_ret, inBlockX_ret]
  refine ret_go _ rfl ?_
  exact ⟨_, rfl, h1⟩
theorem dmake_c (V : View) : Spec Tryz.prog 25 [.int .i64 1, .int .i64 2] V fun v' V' => ∃ w, v' = .tuple #[w, .int .i64 0] ∧ RatC V' w hf := by
  refine (Spec.enter Tryz.func25 rfl fun Γ => ?_)
  simp only [Tryz.ntmps25, List.map_cons, List.map_nil, List.length_cons, List.length_nil, Nat.reduceAdd, Nat.reduceSub, List.replicate_succ, List.replicate_zero, List.cons_append, List.nil_append]
  refine Gx.a (by kernel_rfl) fun K hK => ?_
  simp only [XA, XB]
  refine hK _ ?_
  refine Gx.a (by kernel_rfl) fun K hK => ?_
  simp only [XA]
  refine call_go (by kernel_rfl) rfl (dsize_c _ 1 (by omega)) fun v1 V1 hV1 h1 => ?_
  obtain ⟨w1, rfl, h1⟩ := h1
  simp only [XA]
  refine hK _ ?_
  refine Gx.a (by kernel_rfl) fun K hK => ?_
  simp only [XA]
  refine call_go (by kernel_rfl) rfl (dsize_c _ 2 (by omega)) fun v2 V2 hV2 h2 => ?_
  obtain ⟨w2, rfl, h2⟩ := h2
  simp only [XA]
  refine hK _ ?_
  refine Gx.a (by kernel_rfl) fun K hK => ?_
  simp only [XA, XB, beq_self_eq_true]
  refine call_go (by kernel_rfl) rfl (pof_c _ _ _ _ 1 2 (h1.mono hV2) h2 (Fit1.of_two (B := 1) (by decide) (by omega)) (Fit1.of_two (B := 1) (by decide) (by omega))) fun v3 V3 hV3 h3 => ?_
  obtain ⟨w3, rfl, r3⟩ := h3.2 (by omega)
  clear h3
  obtain ⟨x3, y3, rfl, o1, o2⟩ := r3.form
  simp only [XA]
  refine st_rat rfl rfl rfl o1 o2 ?_
  simp only [XA]
  refine hK _ (XWP.ret ?_)
  try simp only [thenX_ret, inBlockX_ret]
  refine ret_rat2 rfl rfl rfl rfl ⟨_, rfl, ?_⟩
  rw [show hf = rv false 1 2 by decide +kernel]
  exact r3
end Go.Proofs.YtkgmicakfmllmaaGreat
end
section
namespace Go.Proofs.YtkgmicakfmllmaaGreat
open Go Go.RowKit
set_option linter.unusedSimpArgs false
set_option linter.unusedVariables false
attribute [local irreducible] XWP Spec SpecO XPub XCall seqX clX apX stX ldX iaX slX
def swpL : List Rat := [0, 1, 1, 0]
theorem shutL_congr {w w' : Nat → Nat → Bool} {op : Nat → Bool} {n : Nat} (h : ∀ i k, i < n → k < n → w i k = w' i k) : shutL w op n = shutL w' op n := by
  have hr : ∀ x, x ∈ List.range n → x < n := fun x hx => List.mem_range.1 hx
  have e1 : ∀ i, i < n → (List.range n).filter (w i) = (List.range n).filter (w' i) := fun i hi => List.filter_congr fun k hk => h i k hi (hr k hk)
  have e2 : ∀ i, i < n → ((List.range n).all fun k => !w i k || (w k i && !op k && decide (i ≤ k))) = ((List.range n).all fun k => !w' i k || (w' k i && !op k && decide (i ≤ k))) := fun i hi => by
    rw [Bool.eq_iff_iff, List.all_eq_true, List.all_eq_true]
    exact ⟨fun g k hk => by rw [← h i k hi (hr k hk), ← h k i (hr k hk) hi]; exact g k hk, fun g k hk => by rw [h i k hi (hr k hk), h k i (hr k hk) hi]; exact g k hk⟩
  have gen : ∀ l : List Nat, (∀ x ∈ l, x < n) → (l.filterMap fun i => if ((List.range n).all fun k => !w i k || (w k i && !op k && decide (i ≤ k))) = true then some ((List.range n).filter (w i)) else none) = l.filterMap fun i => if ((List.range n).all fun k => !w' i k || (w' k i && !op k && decide (i ≤ k))) = true then some ((List.range n).filter (w' i)) else none := by
    intro l hl
    induction l with
    | nil => rfl
    | cons x l ih =>
      have hx := hl x (by simp)
      rw [List.filterMap_cons, List.filterMap_cons, e1 x hx, e2 x hx, ih fun y hy => hl y (by simp [hy])]
  exact gen _ hr
theorem swp_e : eM swpL 2 0 1 = true ∧ eM swpL 2 1 0 = true := by decide +kernel
theorem swp_w : ∀ i k, i < 2 → k < 2 → wR (eM swpL 2) 2 i k = true := fun i k hi hk => by
  rw [wR_iff]
  have h01 : Rch (fun a b => eM swpL 2 a b = true) 2 0 1 := .step (.refl (by omega)) (by omega) swp_e.1
  have h10 : Rch (fun a b => eM swpL 2 a b = true) 2 1 0 := .step (.refl (by omega)) (by omega) swp_e.2
  have : (i = 0 ∨ i = 1) ∧ (k = 0 ∨ k = 1) := by omega
  rcases this with ⟨rfl | rfl, rfl | rfl⟩
  · exact .refl (by omega)
  · exact h01
  · exact h10
  · exact .refl (by omega)
theorem swp_cls : clsL swpL 2 = [[0, 1]] := by
  unfold clsL
  rw [shutL_congr (w' := fun _ _ => true) swp_w]; rfl
theorem swp_sto : stoB 2 2 (swpL.map toRaw) = true := by
  unfold stoB
  rw [show matR 2 2 (swpL.map toRaw) = true from matR_rats (n := 2) (m := 2) rfl (by omega) (by omega), qs_toRaw]
  decide +kernel
theorem swp_law : lawC swpL 2 [0, 1] = [hf, hf] := by
  obtain ⟨n, h1, h2, _, _, _, hS⟩ := stoB_parts swp_sto
  obtain rfl : n = 2 := by omega
  rw [qs_toRaw] at hS
  have hc := cls_irr hS (C := [0, 1]) (by rw [swp_cls]; simp)
  have hX : LinG (lawG (subG (gridL swpL 2) [0, 1]) [0, 1].length) [0, 1].length [0, 1].length (oneB [0, 1].length) (fun _ => hf) := fun i hi => by
    have hi : i < 2 := hi
    have : i = 0 ∨ i = 1 := by omega
    rcases this with rfl | rfl
    · decide +kernel
    · decide +kernel
  have e := theX_eq (law_uni hc.sto hc.irr) hX
  unfold lawC
  rw [← scat_congr [0, 1].length e]
  decide +kernel
theorem swp_QB : ∀ x ∈ swpL, QB 2 x := by
  intro x hx
  simp only [swpL, List.mem_cons, List.not_mem_nil, or_false] at hx
  rcases hx with rfl | rfl | rfl | rfl
  · exact QB_zero 2
  · exact QB_one 2
  · exact QB_one 2
  · exact QB_zero 2
theorem hf2_law : lawB ([hf, hf].map toRaw) = true := by
  have h : wtB 2 ([hf, hf].map toRaw) = true := wtB_raw (n := 2) rfl fun j hj => by
    have : j = 0 ∨ j = 1 := by omega
    rcases this with rfl | rfl
    · decide +kernel
    · decide +kernel
  unfold wtB at h
  rw [Bool.and_eq_true] at h
  unfold lawB
  rw [h.2, qs_toRaw, Bool.true_and]
  decide +kernel
theorem swap34_c (V : View) : Spec Tryz.prog 59 [] V fun v' V' => ∃ w, v' = .agg #[.int .i64 2, .int .i64 2, w] ∧ Rats V' w swpL := by
  refine (Spec.enter Tryz.func59 rfl fun Γ => ?_)
  simp only [Tryz.ntmps59, List.map_nil, List.length_nil, Nat.reduceSub, List.replicate_succ, List.replicate_zero, List.nil_append]
  refine Gx.a (by kernel_rfl) fun K hK => ?_
  simp only [XM, XA]
  refine hK _ ?_
  refine Gx.a (by kernel_rfl) fun K hK => ?_
  simp only [XA]
  refine call_go (by kernel_rfl) rfl (pzero_c _) fun v1 V1 hV1 h1 => ?_
  simp only [XA]
  refine call_go (by kernel_rfl) rfl (pone_c _) fun v2 V2 hV2 h2 => ?_
  simp only [XA]
  refine call_go (by kernel_rfl) rfl (pone_c _) fun v3 V3 hV3 h3 => ?_
  simp only [XA]
  refine call_go (by kernel_rfl) rfl (pzero_c _) fun v4 V4 hV4 h4 => ?_
  have h1 := ((h1.mono hV2).mono hV3).mono hV4
  have h2 := (h2.mono hV3).mono hV4
  have h3 := h3.mono hV4
  obtain ⟨x1, y1, rfl, o1, q1⟩ := h1.form
  obtain ⟨x2, y2, rfl, o2, q2⟩ := h2.form
  obtain ⟨x3, y3, rfl, o3, q3⟩ := h3.form
  obtain ⟨x4, y4, rfl, o4, q4⟩ := h4.form
  simp only [XA]
  refine bs_go (by kernel_rfl) #[(0, .agg #[.bool (ng 0), x1, y1]), (1, .agg #[.bool (ng 1), x2, y2]), (2, .agg #[.bool (ng 1), x3, y3]), (3, .agg #[.bool (ng 0), x4, y4])] (by simp [ev_tmp, SV.val]) (bs_rat4 elemT_22) fun b hb1 hb2 => ?_
  simp only [XA, Nat.reduceAdd]
  refine bd_go (by kernel_rfl) #[(0, .int .i64 2), (1, .int .i64 2), (2, .slice (some ⟨b, 0, none⟩) 4 4)] (by simp [ev_tmp, ev_const, SV.val]) (bd_mtx3 rfl rfl rfl) ?_
  simp only [XA]
  refine st_mat shapeT_24 rfl rfl rfl rfl rfl ?_
  simp only [XA]
  have hrow := ((((RowAt.nil (E := ratE) V4).snoc (x := 0) (show isOne (.bool (ng 0)) = true from rfl) o1 q1 h1).snoc (x := 1) (show isOne (.bool (ng 1)) = true from rfl) o2 q2 h2).snoc (x := 1) (show isOne (.bool (ng 1)) = true from rfl) o3 q3 h3).snoc (x := 0) (show isOne (.bool (ng 0)) = true from rfl) o4 q4 h4
  simp only [List.nil_append, List.cons_append] at hrow
  refine hK _ (XWP.ret ?_)
  try simp only [thenX_ret, inBlockX_ret]
  refine ret_pub b ⟨49, [.bool (ng 0), x1, y1, .bool (ng 1), x2, y2, .bool (ng 1), x3, y3, .bool (ng 0), x4, y4], 12⟩ (by simp only [upd_at]) fun o ho hle => ret_go _ (by simp [resAll, resV, cellsV, shapeT_24]; rfl) ⟨_, rfl, ?_⟩
  exact hrow.pub ratE_ok ho hle (n := 4) (c := 4) rfl (Nat.le_refl _) (by omega)
attribute [local irreducible] swpL
theorem alive34_c (V : View) : Spec Tryz.prog 22 [] V fun v' V' => v' = .bool true := by
  have hl4 : (swpL.map toRaw).length = 4 := by rw [List.length_map]; with_unfolding_all rfl
  refine (Spec.enter Tryz.func22 rfl fun Γ => ?_)
  simp only [Tryz.ntmps22, List.map_nil, List.length_nil, Nat.reduceSub, List.replicate_succ, List.replicate_zero, List.nil_append]
  refine Gx.a (by kernel_rfl) fun K hK => ?_
  simp only [XA]
  refine hK _ ?_
  refine Gx.a (by kernel_rfl) fun K hK => ?_
  simp only [XA]
  refine call_go (by kernel_rfl) rfl (swap34_c _) fun v1 V1 hV1 h1 => ?_
  obtain ⟨w, rfl, hw⟩ := h1
  simp only [XA]
  refine call_go (by kernel_rfl) rfl (balone1_c _ _ 2 2 (swpL.map toRaw) 2 (Rats.raws hw) (fitR_toRaw fun x hx => (swp_QB x hx).qf (by omega)) (by omega) (fun _ => by rw [qs_toRaw]; exact swp_QB) (by omega) (fun _ => by decide)) fun v2 V2 hV2 h2 => ?_
  have h2 := (h2.2 swp_sto).2.2
  rw [qs_toRaw] at h2
  obtain ⟨w2, rfl, hw2⟩ := h2 [0, 1] swp_cls
  have hw2 : Rats V2 w2 [hf, hf] := by have e := swp_law; rw [← e]; exact hw2
  obtain ⟨A2, c2, rfl, q1, q2⟩ := SlAt.form hw2
  simp only [XA, Nat.reduceAdd]
  refine hK _ ?_
  refine Gx.a (by kernel_rfl) fun K hK => ?_
  simp only [XA]
  refine call_go (by kernel_rfl) rfl (dmake_c _) fun v3 V3 hV3 h3 => ?_
  obtain ⟨w3, rfl, h3⟩ := h3
  obtain ⟨x3, y3, rfl, o1, o2⟩ := h3.form
  simp only [XA, XB]
  refine st_rat rfl rfl rfl o1 o2 ?_
  simp only [XA]
  refine hK _ ?_
  have hw3 := hw2.up hV3
  obtain ⟨b, o, rfl⟩ := SlAt.addr hw3 (by simp)
  obtain ⟨m4, n4, d4, hx4, ⟨r1, r2, r3⟩, hld⟩ := Rats.get hw3 0 (by simp)
  have hx4 : RatC V3 (.agg #[m4, n4, d4]) hf := hx4
  have qh : QF hf := hf_QB.qf (by omega)
  (refine XWP.drw [0, 1, 2, 3, 4, 5, 6, 7, 8, 9, 10, 11, 12, 13, 14, 15, 16, 17, 18] (by kernel_rfl) (by kernel_rfl) (by kernel_rfl) fun K hK => ?_) <;> dsimp only [pickOps, List.getElem?_cons_zero, List.getElem?_cons_succ]
  have b2 : decide (((2 : Nat) : Int) = 2) = true := rfl
  simp only [XA, XB, gateX, Nat.reduceAdd, Nat.reduceLeDiff, Nat.reduceMul, ↓reduceIte, Int.reduceLE, b2]
  refine ⟨by omega, ?_⟩
  refine ld_mem (by simpa using hld _) ?_
  simp only [XA, XB, gateX, Nat.reduceAdd, Nat.reduceLeDiff, ↓reduceIte]
  refine call_go (by kernel_rfl) rfl (psame_c _ _ _ _ _ (hx4.toV qh) (h3.toV qh) qh qh) fun v5 V5 hV5 h5 => ?_
  subst h5
  simp only [XA, gateX, ↓reduceIte, beq_self_eq_true, decide_true, beq_self_eq_true]
  refine call_go (by kernel_rfl) rfl (blaw_c _ _ ([hf, hf].map toRaw) 1 (Rats.raws (hw3.up hV5)) (fitR_toRaw fun x hx => by (simp only [List.mem_cons, List.not_mem_nil, or_false, or_self] at hx; rw [hx]; exact qh)) (by simp) (fun _ => by rw [qs_toRaw]; exact fun x hx => by (simp only [List.mem_cons, List.not_mem_nil, or_false, or_self] at hx; rw [hx]; exact hf_QB)) (by omega)) fun v6 V6 hV6 h6 => ?_
  subst h6
  rw [hf2_law]
  simp only [XA, ↓reduceIte]
  refine hK _ (XWP.ret ?_)
  try simp only [thenX_ret, inBlockX_ret]
  refine ret_go _ rfl ?_
  rfl
end Go.Proofs.YtkgmicakfmllmaaGreat
end
section
namespace Go.Proofs.YtkgmicakfmllmaaGreat
open Go Go.RowKit
set_option linter.unusedSimpArgs false
set_option linter.unusedVariables false
attribute [local irreducible] XWP Spec SpecO XPub XCall seqX clX apX stX ldX iaX slX
theorem fineB_few {r c : Int} {M : List Raw} (h : fineB r c M = true) : r ≤ 8 ∧ c ≤ 8 ∧ M.length ≤ 70 ∧ fewR M := by
  unfold fineB at h
  rw [Bool.and_eq_true, Bool.and_eq_true, decide_eq_true_eq, decide_eq_true_eq] at h
  have := fewB_few h.2
  exact ⟨h.1.1, h.1.2, this.1, this.2⟩
end Go.Proofs.YtkgmicakfmllmaaGreat
end
section
namespace Go.Proofs.YtkgmicakfmllmaaGreat
open Go Go.RowKit
set_option linter.unusedSimpArgs false
set_option linter.unusedVariables false
attribute [local irreducible] XWP Spec SpecO XPub XCall seqX clX apX stX ldX iaX slX
end Go.Proofs.YtkgmicakfmllmaaGreat
end
section
namespace Go.Proofs.YtkgmicakfmllmaaGreat
open Go Go.RowKit
set_option linter.unusedSimpArgs false
set_option linter.unusedVariables false
attribute [local irreducible] XWP Spec SpecO XPub XCall seqX clX apX stX ldX iaX slX
end Go.Proofs.YtkgmicakfmllmaaGreat
end
section
namespace Go.Proofs.YtkgmicakfmllmaaGreat
open Go Go.RowKit
set_option linter.unusedSimpArgs false
set_option linter.unusedVariables false
attribute [local irreducible] XWP Spec SpecO XPub XCall seqX clX apX stX ldX iaX slX
theorem sgI_pos {q : Rat} (h : 0 ≤ q) : decide (0 < sgI q) = decide (q ≠ 0) := by
  unfold sgI
  have e := (ng_iff q).2 h
  rw [e]
  by_cases h0 : q = 0
  · rw [if_pos h0, h0]; rfl
  · rw [if_neg h0, decide_eq_true h0]; rfl
end Go.Proofs.YtkgmicakfmllmaaGreat
end
section
namespace Go.Proofs.YtkgmicakfmllmaaGreat
set_option linter.unusedVariables false
structure PassI (e : Nat → Nat → Bool) (n i c0 : Nat) (r : Nat → Bool) (more : Bool) (a b : Nat) : Prop where
  lt : i < n
  root : r i = true
  sound : ∀ k, k < n → r k = true → Rch (fun a b => e a b = true) n i k
  clos : more = false → ∀ a' b', a' < n → b' < n → (a' < a ∨ (a' = a ∧ b' < b)) → r a' = true → e a' b' = true → r b' = true
  cnt : cntF r n + (if more = true then 1 else 0) ≤ c0
theorem PassI.start (e : Nat → Nat → Bool) {n i : Nat} (hi : i < n) : PassI e n i (cntF (bset (fun _ => false) i) n) (bset (fun _ => false) i) false 0 0 := by
  have h := DfsI.start e hi
  exact ⟨hi, h.root, h.sound, fun _ a' b' _ _ h => by omega, by simp⟩
theorem PassI.again {e : Nat → Nat → Bool} {n i c0 a b : Nat} {r : Nat → Bool} {m : Bool} (h : PassI e n i c0 r m a b) : PassI e n i (cntF r n) r false 0 0 :=
  ⟨h.lt, h.root, h.sound, fun _ a' b' _ _ h => by omega, by simp⟩
theorem PassI.skip {e : Nat → Nat → Bool} {n i c0 a b : Nat} {r : Nat → Bool} {m : Bool} (h : PassI e n i c0 r m a b) (hs : r a = true → r b = false → e a b = false) : PassI e n i c0 r m a (b + 1) :=
  ⟨h.lt, h.root, h.sound, fun hm a' b' ha hb hp hr he => by
    rcases hp with hp | ⟨rfl, hp⟩
    · exact h.clos hm a' b' ha hb (.inl hp) hr he
    · by_cases e1 : b' = b
      · subst e1
        cases e2 : r b'
        · rw [hs hr e2] at he; cases he
        · rfl
      · exact h.clos hm a' b' ha hb (.inr ⟨rfl, by omega⟩) hr he, h.cnt⟩
theorem PassI.put {e : Nat → Nat → Bool} {n i c0 a b : Nat} {r : Nat → Bool} {m : Bool} (h : PassI e n i c0 r m a b) (ha : a < n) (hb : b < n) (h1 : r a = true) (h2 : r b = false) (h3 : e a b = true) : PassI e n i c0 (bset r b) true a (b + 1) := by
  have up : ∀ j, r j = true → bset r b j = true := fun j hj => by unfold bset; split <;> simp_all
  refine ⟨h.lt, up _ h.root, fun k hk hr => ?_, fun hm => (by cases hm), ?_⟩
  · unfold bset at hr
    split at hr
    · rename_i e1; subst e1; exact .step (h.sound a ha h1) hk h3
    · exact h.sound k hk hr
  · have c1 := cntF_set hb h2
    have c2 := h.cnt
    rw [if_pos rfl]
    split at c2 <;> omega
theorem PassI.row {e : Nat → Nat → Bool} {n i c0 a : Nat} {r : Nat → Bool} {m : Bool} (h : PassI e n i c0 r m a n) : PassI e n i c0 r m (a + 1) 0 :=
  ⟨h.lt, h.root, h.sound, fun hm a' b' ha hb hp => h.clos hm a' b' ha hb (by omega), h.cnt⟩
theorem PassI.all {e : Nat → Nat → Bool} {n i c0 : Nat} {r : Nat → Bool} (h : PassI e n i c0 r false n 0) : ∀ k, k < n → (r k = true ↔ Rch (fun a b => e a b = true) n i k) := fun k hk =>
  ⟨h.sound k hk, fun hr => (Rch.sub (S := fun k => k < n ∧ r k = true) ⟨h.lt, h.root⟩ (fun a b ha hb hab => ⟨hb, h.clos rfl a b ha.1 hb (.inl ha.1) ha.2 hab⟩) hr).2⟩
end Go.Proofs.YtkgmicakfmllmaaGreat
end
section
namespace Go.Proofs.YtkgmicakfmllmaaGreat
open Go Go.RowKit
set_option linter.unusedSimpArgs false
set_option linter.unusedVariables false
attribute [local irreducible] XWP Spec SpecO XPub XCall seqX clX apX stX ldX iaX slX
set_option maxHeartbeats 4000000 in
theorem dreach_c (V : View) (s : Value) (n B : Nat) (l : List Rat) (h : Rats V s l) (ll : l.length = n * n) (hn : n ≤ 60) (hS : StoG (gridL l n) n) (ql : ∀ x ∈ l, QB B x) (hB : B ≤ 17592186044416) :
    Spec Tryz.prog 122 [.agg #[.int .i64 (n : Int), .int .i64 (n : Int), s]] V fun v' V' => Sl1 (Sl1 booE) V' v' (mkB n (wR (eM l n) n)) := by
  obtain ⟨A, c, rfl, hc, hm⟩ := h.form
  have hnn : n * n ≤ 3600 := Nat.le_trans (Nat.mul_le_mul hn hn) (by decide)
  refine (Spec.enter Tryz.func122 rfl fun Γ => ?_)
  simp only [Tryz.ntmps122, List.map_cons, List.map_nil, List.length_cons, List.length_nil, Nat.reduceAdd, Nat.reduceSub, List.replicate_succ, List.replicate_zero, List.cons_append, List.nil_append]
  refine Gx.a (by kernel_rfl) fun K hK => ?_
  simp only [XA]
  refine hK _ ?_
  refine Gx.a (by kernel_rfl) fun K hK => ?_
  simp only [XM, XA, XB]
  refine mk_go rfl rfl elemT_138 zeroT_117 (by omega) (by omega) (by omega) (by omega) rfl (by omega) fun b3 hb1 hb2 => ?_
  simp only [XA, flat_one]
  refine hK _ ?_
  refine XWP.cutD 1 (fun s => ∃ (V2 : View) (H2 : Heap) (outs : List Value), StIs (fun Z => [Z 0,Z 1,Z 2, .v (.slice (some ⟨b3, 0, none⟩) n n), Z 4,Z 5,Z 6,Z 7,Z 8,Z 9,Z 10,Z 11,Z 12,Z 13,Z 14,Z 15,Z 16,Z 17,Z 18,Z 19,Z 20,Z 21,Z 22,Z 23,Z 24,Z 25,Z 26,Z 27,Z 28,Z 29,Z 30,Z 31,Z 32,Z 33,Z 34,Z 35,Z 36,Z 37,Z 38,Z 39,Z 40,Z 41,Z 42,Z 43,Z 44,Z 45,Z 46,Z 47,Z 48,Z 49,Z 50,Z 51,Z 52,Z 53,Z 54,Z 55,Z 56,Z 57,Z 58,Z 59,Z 60,Z 61,Z 62,Z 63,Z 64,Z 65,Z 66,Z 67,Z 68,Z 69,Z 70,Z 71,Z 72,Z 73,Z 74,Z 75,Z 76,Z 77,Z 78,Z 79]) [[.int .i64 (n : Int), .int .i64 (n : Int), .slice A l.length c]] H2 V2 s ∧ H2 b3 = some ⟨117, outs, n⟩ ∧ outs.length = n ∧ ∀ j, j < n → ∃ v, outs[j]? = some v ∧ Sl1 booE V2 v ((List.range n).map (wR (eM l n) n j))) ?_ ?_
  · refine Gx.a (by kernel_rfl) fun K hK => ?_
    simp only [XN, XA]
    refine hK _ ?_
    clear hK
    refine XWP.block ?_
    refine XWP.loopD 1 (fun q s => ∃ (i : Nat) (V2 : View) (H2 : Heap) (outs : List Value), StIs (fun Z => [Z 0, .p 0 0, Z 2, .v (.slice (some ⟨b3, 0, none⟩) n n), Z 4,Z 5,Z 6,Z 7,Z 8,Z 9,Z 10,Z 11, .v (.int .i64 (n : Int)), .v (.int .i64 (i : Int)), Z 14,Z 15,Z 16,Z 17,Z 18,Z 19,Z 20,Z 21,Z 22,Z 23,Z 24,Z 25,Z 26,Z 27,Z 28,Z 29,Z 30,Z 31,Z 32,Z 33,Z 34,Z 35,Z 36,Z 37,Z 38,Z 39,Z 40,Z 41,Z 42,Z 43,Z 44,Z 45,Z 46,Z 47,Z 48,Z 49,Z 50,Z 51,Z 52,Z 53,Z 54,Z 55,Z 56,Z 57,Z 58,Z 59,Z 60,Z 61,Z 62,Z 63,Z 64,Z 65,Z 66,Z 67,Z 68,Z 69,Z 70,Z 71,Z 72,Z 73,Z 74,Z 75,Z 76,Z 77,Z 78,Z 79]) [[.int .i64 (n : Int), .int .i64 (n : Int), .slice A l.length c]] H2 V2 s ∧ q + i = n ∧ V.le V2 ∧ H2 b3 = some ⟨117, outs, n⟩ ∧ outs.length = n ∧ ∀ j, j < i → ∃ v, outs[j]? = some v ∧ Sl1 booE V2 v ((List.range n).map (wR (eM l n) n j))) n ⟨0, V, _, _, StIs.of (by exact rfl), by omega, View.le_refl _, upd_at _ _ _, List.length_replicate, fun j hj => by omega⟩ ?_
    rintro q s ⟨i, V2, H2, outs, hs, hq, hV2, hH, hol, hout⟩
    obtain ⟨z, rfl⟩ := hs.out
    try dsimp only
    clear hs
    by_cases hi : i < n
    rotate_left
    · obtain rfl : i = n := by omega
      have b1 : decide ((i : Int) < (i : Int)) = false := decide_eq_false (by omega)
      refine Gx.a (by kernel_rfl) fun K hK => ?_
      simp only [XA, XB, b1]
      refine hK _ ?_
      refine XWP.seq (Gx.f rfl ?_)
      refine XWP.exit ?_
      exact fun f => ⟨V2, H2, outs, StIs.of (by exact rfl), hH, hol, hout⟩
    have b1 : decide ((i : Int) < (n : Int)) = true := decide_eq_true (by omega)
    refine Gx.a (by kernel_rfl) fun K hK => ?_
    simp only [XA, XB, b1]
    refine hK _ ?_
    refine XWP.seq (Gx.t rfl ?_)
    refine XWP.skip ?_
    refine XWP.cutD 1 (fun s => ∃ (V3 : View) (H3 : Heap) (outs : List Value) (bi : Nat) (r : Nat → Bool), StIs (fun Z => [Z 0, .p 0 0, Z 2, .v (.slice (some ⟨b3, 0, none⟩) n n), Z 4,Z 5,Z 6,Z 7,Z 8,Z 9,Z 10,Z 11, .v (.int .i64 (n : Int)), .v (.int .i64 (i : Int)), Z 14,Z 15,Z 16,Z 17,Z 18,Z 19,Z 20,Z 21,Z 22,Z 23,Z 24,Z 25,Z 26,Z 27,Z 28,Z 29,Z 30,Z 31,Z 32,Z 33,Z 34,Z 35,Z 36,Z 37,Z 38,Z 39,Z 40,Z 41,Z 42,Z 43,Z 44,Z 45,Z 46,Z 47,Z 48,Z 49,Z 50,Z 51,Z 52,Z 53,Z 54,Z 55,Z 56,Z 57,Z 58,Z 59,Z 60,Z 61,Z 62,Z 63,Z 64,Z 65,Z 66,Z 67,Z 68,Z 69,Z 70,Z 71,Z 72,Z 73,Z 74,Z 75,Z 76,Z 77,Z 78,Z 79]) [[.int .i64 (n : Int), .int .i64 (n : Int), .slice A l.length c]] H3 V3 s ∧ V2.le V3 ∧ H3 b3 = some ⟨117, outs, n⟩ ∧ outs.length = n ∧ (∀ j, j < i → ∃ v, outs[j]? = some v ∧ Sl1 booE V3 v ((List.range n).map (wR (eM l n) n j))) ∧ outs[i]? = some (.slice (some ⟨bi, 0, none⟩) n n) ∧ H3 bi = some ⟨4, bvs n r, n⟩ ∧ ∀ k, k < n → r k = wR (eM l n) n i k) ?_ ?_
    · refine XWP.block ?_
      refine Gx.a (by kernel_rfl) fun K hK => ?_
      simp only [XA]
      refine hK _ ?_
      refine Gx.a (by kernel_rfl) fun K hK => ?_
      simp only [XM, XA, XB]
      refine mk_go rfl rfl elemT_117 zeroT_4 (by omega) (by omega) (by omega) (by omega) rfl (by omega) fun bi hbi1 hbi2 => ?_
      have n3i := new_ne hbi1 hH
      simp only [XN, XA, bvs_none]
      refine ⟨by omega, by omega, ?_⟩
      refine st_row shapeT_117 rfl rfl ((upd_off n3i).trans hH) (by dsimp only; omega) ?_
      simp only [XA]
      refine hK _ ?_
      have hg1 : (outs.set i (.slice (some ⟨bi, 0, none⟩) n n))[i]? = some (.slice (some ⟨bi, 0, none⟩) n n) := List.getElem?_set_self (by omega)
      refine Gx.a (by kernel_rfl) fun K hK => ?_
      simp only [XN, XA]
      refine ⟨by omega, by omega, ?_⟩
      refine ld_mem (ldH1 (upd_at _ _ _) hg1 shapeT_117) ?_
      simp only [XN, XA, XB]
      refine ⟨by omega, by omega, ?_⟩
      refine st_row shapeT_4 rfl rfl ((upd_off (Ne.symm n3i)).trans (upd_at _ _ _)) (by dsimp only; rw [bvs_len]; omega) ?_
      simp only [XA, bvs_set]
      refine hK _ ?_
      have f3 : upd (upd (upd H2 bi (some ⟨4, bvs n fun _ => false, n⟩)) b3 (some ⟨117, outs.set i (.slice (some ⟨bi, 0, none⟩) n n), n⟩)) bi (some ⟨4, bvs n (bset (fun _ => false) i), n⟩) b3 = some ⟨117, outs.set i (.slice (some ⟨bi, 0, none⟩) n n), n⟩ := (upd_off n3i).trans (upd_at _ _ _)
      have fi : upd (upd (upd H2 bi (some ⟨4, bvs n fun _ => false, n⟩)) b3 (some ⟨117, outs.set i (.slice (some ⟨bi, 0, none⟩) n n), n⟩)) bi (some ⟨4, bvs n (bset (fun _ => false) i), n⟩) bi = some ⟨4, bvs n (bset (fun _ => false) i), n⟩ := upd_at _ _ _
      generalize upd (upd (upd H2 bi _) b3 _) bi _ = H4 at *
      have hout2 : ∀ j, j < i → ∃ v, (outs.set i (.slice (some ⟨bi, 0, none⟩) n n))[j]? = some v ∧ Sl1 booE V2 v ((List.range n).map (wR (eM l n) n j)) := fun j hj => by
        rw [List.getElem?_set_ne (by omega)]; exact hout j hj
      have hol2 : (outs.set i (.slice (some ⟨bi, 0, none⟩) n n)).length = n := by rw [List.length_set]; exact hol
      generalize outs.set i (.slice (some ⟨bi, 0, none⟩) n n) = outs2 at *
      clear hbi1 hbi2 hH hol hout
      have hP0 := PassI.start (eM l n) hi
      generalize bset (fun _ => false) i = r0 at *
      refine Gx.a (by kernel_rfl) fun K hK => ?_
      simp only [XA]
      refine hK _ ?_
      refine XWP.block ?_
      refine XWP.loopD 1 (fun m s => ∃ (V4 : View) (H4 : Heap) (r : Nat → Bool) (more mf : Bool) (c0 a b : Nat), StIs (fun Z => [Z 0, .p 0 0, Z 2, .v (.slice (some ⟨b3, 0, none⟩) n n), .v (.int .i64 (i : Int)), .v (.bool more), Z 6,Z 7,Z 8,Z 9,Z 10,Z 11, .v (.int .i64 (n : Int)), .v (.int .i64 (i : Int)), Z 14,Z 15,Z 16,Z 17,Z 18,Z 19,Z 20,Z 21,Z 22,Z 23,Z 24,Z 25,Z 26,Z 27,Z 28,Z 29,Z 30,Z 31,Z 32,Z 33,Z 34,Z 35,Z 36,Z 37,Z 38,Z 39,Z 40,Z 41,Z 42,Z 43,Z 44,Z 45,Z 46,Z 47,Z 48,Z 49,Z 50,Z 51,Z 52,Z 53,Z 54,Z 55,Z 56,Z 57,Z 58,Z 59,Z 60,Z 61,Z 62,Z 63,Z 64,Z 65,Z 66,Z 67,Z 68,Z 69,Z 70,Z 71,Z 72,Z 73,Z 74,Z 75,Z 76,Z 77,Z 78,Z 79]) [[.int .i64 (n : Int), .int .i64 (n : Int), .slice A l.length c]] H4 V4 s ∧ (more = true → cntF r n + 1 ≤ m) ∧ V2.le V4 ∧ H4 b3 = some ⟨117, outs2, n⟩ ∧ H4 bi = some ⟨4, bvs n r, n⟩ ∧ PassI (eM l n) n i c0 r mf a b ∧ (more = false → mf = false ∧ a = n ∧ b = 0)) (cntF r0 n + 1) ⟨V2, H4, r0, true, false, _, 0, 0, StIs.of (by exact rfl), fun _ => Nat.le_refl _, View.le_refl _, f3, fi, hP0, fun h => by cases h⟩ ?_
      clear f3 fi hP0
      rintro m s ⟨V4, H4, r, more, mf, c0, a0, b0, hs, hm, hV4, f3, fi, hI, hfin⟩
      obtain ⟨z, rfl⟩ := hs.out
      try dsimp only
      clear hs
      refine XWP.seq ?_
      cases more
      · obtain ⟨q1, q2, q3⟩ := hfin rfl
        rw [q1, q2, q3] at hI
        refine Gx.a (by kernel_rfl) fun K hK => ?_
        simp only [XA]
        refine hK _ ?_
        refine Gx.f rfl ?_
        refine XWP.exit ?_
        exact fun f => ⟨V4, H4, outs2, bi, r, StIs.of (by exact rfl), hV4, f3, hol2, fun j hj => by obtain ⟨v, h1, h2⟩ := hout2 j hj; exact ⟨v, h1, h2.mono booE_ok hV4⟩, hg1, fi, fun k hk => by
          have := hI.all k hk
          rw [← wR_iff] at this
          cases h1 : r k <;> cases h2 : wR (eM l n) n i k <;> simp_all⟩
      have hm := hm rfl
      have hI := hI.again
      clear hfin
      refine Gx.a (by kernel_rfl) fun K hK => ?_
      simp only [XA]
      refine hK _ ?_
      refine Gx.t rfl ?_
      refine XWP.skip ?_
      refine XWP.block ?_
      refine Gx.a (by kernel_rfl) fun K hK => ?_
      simp only [XA]
      refine hK _ ?_
      refine Gx.a (by kernel_rfl) fun K hK => ?_
      simp only [XN, XA]
      refine hK _ ?_
      clear hK
      refine XWP.block ?_
      refine XWP.loopD 1 (fun p s => ∃ (a : Nat) (V5 : View) (H5 : Heap) (r2 : Nat → Bool) (mf : Bool), StIs (fun Z => [Z 0, .p 0 0, Z 2, .v (.slice (some ⟨b3, 0, none⟩) n n), .v (.int .i64 (i : Int)), .v (.bool mf), Z 6,Z 7,Z 8,Z 9,Z 10,Z 11, .v (.int .i64 (n : Int)), .v (.int .i64 (i : Int)), Z 14,Z 15,Z 16,Z 17,Z 18,Z 19,Z 20,Z 21,Z 22,Z 23,Z 24,Z 25,Z 26,Z 27,Z 28,Z 29, .v (.int .i64 (n : Int)), .v (.int .i64 (a : Int)), Z 32,Z 33,Z 34,Z 35,Z 36,Z 37,Z 38,Z 39,Z 40,Z 41,Z 42,Z 43,Z 44,Z 45,Z 46,Z 47,Z 48,Z 49,Z 50,Z 51,Z 52,Z 53,Z 54,Z 55,Z 56,Z 57,Z 58,Z 59,Z 60,Z 61,Z 62,Z 63,Z 64,Z 65,Z 66,Z 67,Z 68,Z 69,Z 70,Z 71,Z 72,Z 73,Z 74,Z 75,Z 76,Z 77,Z 78,Z 79]) [[.int .i64 (n : Int), .int .i64 (n : Int), .slice A l.length c]] H5 V5 s ∧ p + a = n ∧ V2.le V5 ∧ H5 b3 = some ⟨117, outs2, n⟩ ∧ H5 bi = some ⟨4, bvs n r2, n⟩ ∧ PassI (eM l n) n i (cntF r n) r2 mf a 0) n ⟨0, V4, H4, r, false, StIs.of (by exact rfl), by omega, hV4, f3, fi, hI⟩ ?_
      clear f3 fi hI
      rintro p s ⟨a, V5, H5, r2, mf, hs, hp, hV5, f3, fi, hI⟩
      obtain ⟨z, rfl⟩ := hs.out
      try dsimp only
      clear hs
      by_cases ha : a < n
      rotate_left
      · obtain rfl : a = n := by omega
        have b4 : decide ((a : Int) < (a : Int)) = false := decide_eq_false (by omega)
        refine Gx.a (by kernel_rfl) fun K hK => ?_
        simp only [XA, XB, b4]
        refine hK _ ?_
        refine XWP.seq (Gx.f rfl ?_)
        refine XWP.exit ?_
        have hcnt := hI.cnt
        exact ⟨m - 1, by omega, fun f => ⟨V5, H5, r2, mf, mf, _, _, _, StIs.of (by exact rfl), fun e => by rw [e, if_pos rfl] at hcnt; omega, hV5, f3, fi, hI, fun e => ⟨e, rfl, rfl⟩⟩⟩
      have b4 : decide ((a : Int) < (n : Int)) = true := decide_eq_true (by omega)
      refine Gx.a (by kernel_rfl) fun K hK => ?_
      simp only [XA, XB, b4]
      refine hK _ ?_
      refine XWP.seq (Gx.t rfl ?_)
      refine XWP.skip ?_
      refine XWP.cutD 1 (fun s => ∃ (V6 : View) (H6 : Heap) (r2 : Nat → Bool) (mf : Bool), StIs (fun Z => [Z 0, .p 0 0, Z 2, .v (.slice (some ⟨b3, 0, none⟩) n n), .v (.int .i64 (i : Int)), .v (.bool mf), Z 6,Z 7,Z 8,Z 9,Z 10,Z 11, .v (.int .i64 (n : Int)), .v (.int .i64 (i : Int)), Z 14,Z 15,Z 16,Z 17,Z 18,Z 19,Z 20,Z 21,Z 22,Z 23,Z 24,Z 25,Z 26,Z 27,Z 28,Z 29, .v (.int .i64 (n : Int)), .v (.int .i64 (a : Int)), Z 32,Z 33,Z 34,Z 35,Z 36,Z 37,Z 38,Z 39,Z 40,Z 41,Z 42,Z 43,Z 44,Z 45,Z 46,Z 47,Z 48,Z 49,Z 50,Z 51,Z 52,Z 53,Z 54,Z 55,Z 56,Z 57,Z 58,Z 59,Z 60,Z 61,Z 62,Z 63,Z 64,Z 65,Z 66,Z 67,Z 68,Z 69,Z 70,Z 71,Z 72,Z 73,Z 74,Z 75,Z 76,Z 77,Z 78,Z 79]) [[.int .i64 (n : Int), .int .i64 (n : Int), .slice A l.length c]] H6 V6 s ∧ V2.le V6 ∧ H6 b3 = some ⟨117, outs2, n⟩ ∧ H6 bi = some ⟨4, bvs n r2, n⟩ ∧ PassI (eM l n) n i (cntF r n) r2 mf (a + 1) 0) ?_ ?_
      · refine XWP.block ?_
        refine Gx.a (by kernel_rfl) fun K hK => ?_
        simp only [XA]
        refine hK _ ?_
        refine Gx.a (by kernel_rfl) fun K hK => ?_
        simp only [XN, XA]
        refine hK _ ?_
        clear hK
        refine XWP.block ?_
        refine XWP.loopD 1 (fun p s => ∃ (b : Nat) (V5 : View) (H5 : Heap) (r2 : Nat → Bool) (mf : Bool), StIs (fun Z => [Z 0, .p 0 0, Z 2, .v (.slice (some ⟨b3, 0, none⟩) n n), .v (.int .i64 (i : Int)), .v (.bool mf), .v (.int .i64 (a : Int)), Z 7,Z 8,Z 9,Z 10,Z 11, .v (.int .i64 (n : Int)), .v (.int .i64 (i : Int)), Z 14,Z 15,Z 16,Z 17,Z 18,Z 19,Z 20,Z 21,Z 22,Z 23,Z 24,Z 25,Z 26,Z 27,Z 28,Z 29, .v (.int .i64 (n : Int)), .v (.int .i64 (a : Int)), Z 32,Z 33,Z 34, .v (.int .i64 (n : Int)), .v (.int .i64 (b : Int)), Z 37,Z 38,Z 39,Z 40,Z 41,Z 42,Z 43,Z 44,Z 45,Z 46,Z 47,Z 48,Z 49,Z 50,Z 51,Z 52,Z 53,Z 54,Z 55,Z 56,Z 57,Z 58,Z 59,Z 60,Z 61,Z 62,Z 63,Z 64,Z 65,Z 66,Z 67,Z 68,Z 69,Z 70,Z 71,Z 72,Z 73,Z 74,Z 75,Z 76,Z 77,Z 78,Z 79]) [[.int .i64 (n : Int), .int .i64 (n : Int), .slice A l.length c]] H5 V5 s ∧ p + b = n ∧ V2.le V5 ∧ H5 b3 = some ⟨117, outs2, n⟩ ∧ H5 bi = some ⟨4, bvs n r2, n⟩ ∧ PassI (eM l n) n i (cntF r n) r2 mf a b) n ⟨0, V5, H5, r2, mf, StIs.of (by exact rfl), by omega, hV5, f3, fi, hI⟩ ?_
        clear f3 fi hI hV5
        rintro p s ⟨b, V5, H5, r2, mf, hs, hp, hV5, f3, fi, hI⟩
        obtain ⟨z, rfl⟩ := hs.out
        try dsimp only
        clear hs
        by_cases hb : b < n
        rotate_left
        · obtain rfl : b = n := by omega
          have b5 : decide ((b : Int) < (b : Int)) = false := decide_eq_false (by omega)
          refine Gx.a (by kernel_rfl) fun K hK => ?_
          simp only [XA, XB, b5]
          refine hK _ ?_
          refine XWP.seq (Gx.f rfl ?_)
          refine XWP.exit ?_
          exact fun f => ⟨V5, H5, r2, mf, StIs.of (by exact rfl), hV5, f3, fi, hI.row⟩
        have b5 : decide ((b : Int) < (n : Int)) = true := decide_eq_true (by omega)
        refine Gx.a (by kernel_rfl) fun K hK => ?_
        simp only [XA, XB, b5]
        refine hK _ ?_
        refine XWP.seq (Gx.t rfl ?_)
        refine XWP.skip ?_
        refine XWP.cutD 1 (fun s => ∃ (V6 : View) (H6 : Heap) (r2 : Nat → Bool) (mf : Bool), StIs (fun Z => [Z 0, .p 0 0, Z 2, .v (.slice (some ⟨b3, 0, none⟩) n n), .v (.int .i64 (i : Int)), .v (.bool mf), .v (.int .i64 (a : Int)), Z 7,Z 8,Z 9,Z 10,Z 11, .v (.int .i64 (n : Int)), .v (.int .i64 (i : Int)), Z 14,Z 15,Z 16,Z 17,Z 18,Z 19,Z 20,Z 21,Z 22,Z 23,Z 24,Z 25,Z 26,Z 27,Z 28,Z 29, .v (.int .i64 (n : Int)), .v (.int .i64 (a : Int)), Z 32,Z 33,Z 34, .v (.int .i64 (n : Int)), .v (.int .i64 (b : Int)), Z 37,Z 38,Z 39,Z 40,Z 41,Z 42,Z 43,Z 44,Z 45,Z 46,Z 47,Z 48,Z 49,Z 50,Z 51,Z 52,Z 53,Z 54,Z 55,Z 56,Z 57,Z 58,Z 59,Z 60,Z 61,Z 62,Z 63,Z 64,Z 65,Z 66,Z 67,Z 68,Z 69,Z 70,Z 71,Z 72,Z 73,Z 74,Z 75,Z 76,Z 77,Z 78,Z 79]) [[.int .i64 (n : Int), .int .i64 (n : Int), .slice A l.length c]] H6 V6 s ∧ V2.le V6 ∧ H6 b3 = some ⟨117, outs2, n⟩ ∧ H6 bi = some ⟨4, bvs n r2, n⟩ ∧ PassI (eM l n) n i (cntF r n) r2 mf a (b + 1)) ?_ ?_
        · refine XWP.block ?_
          refine Gx.a (by kernel_rfl) fun K hK => ?_
          simp only [XA]
          refine hK _ ?_
          have hp2 := pos_lt ha hb
          have hv5 := (h.up hV2).up hV5
          obtain ⟨bA, oA, rfl⟩ := SlAt.addr hv5 (by omega)
          obtain ⟨m8, n8, d8, hx8, _, hld8⟩ := Rats.get hv5 (a * n + b) (by omega)
          have w1 := wr_mul (i := a) (C := n) (by omega) (by omega)
          have w2 := wr_add (p := a * n) (k := b) (by omega) (by omega)
          have q8 := (ql _ (cf_mem (l := l) (i := a * n + b) (by omega))).qf hB
          refine Gx.a (by kernel_rfl) fun K hK => ?_
          simp only [XN, XA]
          refine ⟨by omega, by omega, ?_⟩
          refine ld_mem (ldH1 f3 (by simpa using hg1) shapeT_117) ?_
          simp only [XN, XA, XB]
          refine ⟨by omega, by omega, ?_⟩
          refine ld_mem (ldH1 fi (by simpa using bvs_get (r := r2) ha) shapeT_4) ?_
          cases hra : r2 a
          · simp only [XA, gateX, ↓reduceIte]
            refine hK _ ?_
            refine Gx.f rfl ?_
            refine XWP.skip ?_
            exact fun f => ⟨V5, H5, r2, mf, StIs.of (by exact rfl), hV5, f3, fi, hI.skip fun e => by rw [hra] at e; cases e⟩
          simp only [XN, XA, gateX, ↓reduceIte, beq_self_eq_true]
          refine ⟨by omega, by omega, ?_⟩
          refine ld_mem (ldH1 f3 (by simpa using hg1) shapeT_117) ?_
          simp only [XN, XA, XB, gateX, ↓reduceIte, beq_self_eq_true]
          refine ⟨by omega, by omega, ?_⟩
          refine ld_mem (ldH1 fi (by simpa using bvs_get (r := r2) hb) shapeT_4) ?_
          cases hrb : r2 b
          rotate_left
          · simp only [XA, gateX, ↓reduceIte, beq_self_eq_true]
            refine hK _ ?_
            refine Gx.f rfl ?_
            refine XWP.skip ?_
            exact fun f => ⟨V5, H5, r2, mf, StIs.of (by exact rfl), hV5, f3, fi, hI.skip fun _ e => by rw [hrb] at e; cases e⟩
          simp only [XM, XA, XB, gateX, ↓reduceIte, beq_self_eq_true, w1, w2]
          refine ⟨by omega, by omega, ld_mem (hld8 _) ?_⟩
          simp only [XA, gateX, ↓reduceIte, beq_self_eq_true]
          refine call_go (by kernel_rfl) rfl (psign_c _ _ _ (hx8.toV q8)) fun v6 V6 hV6 h6 => ?_
          subst h6
          have es := sgI_pos (hS.nn a b ha hb)
          unfold gridL at es
          have hV6 := View.le_trans hV5 hV6
          by_cases hz : cf l (a * n + b) = 0
          · rw [show decide (cf l (a * n + b) ≠ 0) = false from decide_eq_false (fun g => g hz)] at es
            simp only [XA, XB, gateX, ↓reduceIte, beq_self_eq_true, es]
            refine hK _ ?_
            refine Gx.f rfl ?_
            refine XWP.skip ?_
            exact fun f => ⟨V6, H5, r2, mf, StIs.of (by exact rfl), hV6, f3, fi, hI.skip fun _ _ => by unfold eM; exact decide_eq_false (fun h => h hz)⟩
          rw [show decide (cf l (a * n + b) ≠ 0) = true from decide_eq_true hz] at es
          simp only [XA, XB, gateX, ↓reduceIte, beq_self_eq_true, es]
          refine hK _ ?_
          refine Gx.t rfl ?_
          refine Gx.a (by kernel_rfl) fun K hK => ?_
          simp only [XN, XA]
          refine ⟨by omega, by omega, ?_⟩
          refine ld_mem (ldH1 f3 (by simpa using hg1) shapeT_117) ?_
          simp only [XN, XA, XB]
          refine ⟨by omega, by omega, ?_⟩
          refine st_row shapeT_4 rfl rfl fi (by dsimp only; rw [bvs_len]; omega) ?_
          simp only [XA, bvs_set]
          refine hK _ ?_
          have n3i : b3 ≠ bi := fun e => by rw [e, fi] at f3; cases f3
          have f3' : upd H5 bi (some ⟨4, bvs n (bset r2 b), n⟩) b3 = some ⟨117, outs2, n⟩ := (upd_off n3i).trans f3
          have fi' := upd_at H5 bi (some ⟨4, bvs n (bset r2 b), n⟩)
          generalize upd H5 bi (some ⟨4, bvs n (bset r2 b), n⟩) = H6 at *
          refine Gx.c (by kernel_rfl) fun K hK => ?_
          simp only [XA]
          exact hK _ fun f => ⟨V6, H6, bset r2 b, true, StIs.of (by exact rfl), hV6, f3', fi', hI.put ha hb hra hrb (by unfold eM; exact decide_eq_true hz)⟩
        clear f3 fi hI
        rintro s ⟨V6, H6, r2, mf, hs, hV6, f3, fi, hI⟩
        obtain ⟨z, rfl⟩ := hs.out
        try dsimp only
        refine Gx.c (by kernel_rfl) fun K hK => ?_
        simp only [XA, XB, i64_succ b (by omega)]
        exact hK _ ⟨p - 1, by omega, fun f => ⟨b + 1, V6, H6, r2, mf, StIs.of (by exact rfl), by omega, hV6, f3, fi, hI⟩⟩
      clear f3 fi hI
      rintro s ⟨V6, H6, r2, mf, hs, hV6, f3, fi, hI⟩
      obtain ⟨z, rfl⟩ := hs.out
      try dsimp only
      refine Gx.c (by kernel_rfl) fun K hK => ?_
      simp only [XA, XB, i64_succ a (by omega)]
      exact hK _ ⟨p - 1, by omega, fun f => ⟨a + 1, V6, H6, r2, mf, StIs.of (by exact rfl), by omega, hV6, f3, fi, hI⟩⟩
    rintro s ⟨V3, H3, outs, bi, r, hs, hV3, hH, hol, hout, hoi, hbi, hr⟩
    obtain ⟨z, rfl⟩ := hs.out
    try dsimp only
    clear hs
    have n3i : b3 ≠ bi := fun e => by rw [e, hbi] at hH; cases hH
    refine XWP.pub bi _ hbi fun o ho hle => ?_
    have er : (List.range n).map r = (List.range n).map (wR (eM l n) n i) := List.map_congr_left fun k hk => hr k (List.mem_range.1 hk)
    have hpub := (R1At.bvs V3 n r).pub booE_ok ho hle (n := n) (c := n) (by simp) (Nat.le_refl _) (by omega)
    rw [er] at hpub
    refine Gx.c (by kernel_rfl) fun K hK => ?_
    simp only [XA, XB, i64_succ i (by omega)]
    exact hK _ ⟨q - 1, by omega, fun f => ⟨i + 1, _, _, outs, StIs.of (by exact rfl), by omega, View.le_trans hV2 (View.le_trans hV3 hle), (upd_off n3i).trans hH, hol, fun j hj => by
      by_cases e : j = i
      · subst e; exact ⟨_, hoi, hpub⟩
      · obtain ⟨v, h1, h2⟩ := hout j (by omega)
        exact ⟨v, h1, h2.mono booE_ok hle⟩⟩⟩
  rintro s ⟨V2, H2, outs, hs, hH, hol, hout⟩
  obtain ⟨z, rfl⟩ := hs.out
  try dsimp only
  refine Gx.a (by kernel_rfl) fun K hK => ?_
  simp only [XA]
  refine hK _ (XWP.ret ?_)
  try simp only [thenX_ret, inBlockX_ret]
  have hrow : R1At (Sl1 booE) V2 outs (mkB n (wR (eM l n) n)) := by
    refine ⟨by rw [hol]; simp [mkB], fun i x hx => ?_⟩
    have hlt : i < n := by
      rcases Nat.lt_or_ge i n with h | h
      · exact h
      · rw [List.getElem?_eq_none (by simpa [mkB] using h)] at hx; cases hx
    have : x = (List.range n).map (wR (eM l n) n i) := by simpa [mkB, hlt] using hx.symm
    obtain ⟨v, h1, h2⟩ := hout i hlt
    exact ⟨v, h1, h2.one, by rw [this]; exact h2⟩
  refine ret_pub b3 _ hH fun o ho hle => ret_go _ rfl ?_
  exact hrow.pub (Sl1_ok booE_ok) ho hle (by simp [mkB]) (Nat.le_refl _) (by omega)
end Go.Proofs.YtkgmicakfmllmaaGreat
end
section
namespace Go.Proofs.YtkgmicakfmllmaaGreat
open Go Go.RowKit
set_option linter.unusedSimpArgs false
set_option linter.unusedVariables false
attribute [local irreducible] XWP Spec SpecO XPub XCall seqX clX apX stX ldX iaX slX
end Go.Proofs.YtkgmicakfmllmaaGreat
end
section
namespace Go.Proofs.YtkgmicakfmllmaaGreat
open Go Go.RowKit
set_option linter.unusedSimpArgs false
set_option linter.unusedVariables false
attribute [local irreducible] XWP Spec SpecO XPub XCall seqX clX apX stX ldX iaX slX
end Go.Proofs.YtkgmicakfmllmaaGreat
end
section
namespace Go.Proofs.YtkgmicakfmllmaaGreat
open Go Go.RowKit
set_option linter.unusedSimpArgs false
set_option linter.unusedVariables false
attribute [local irreducible] XWP Spec SpecO XPub XCall seqX clX apX stX ldX iaX slX
end Go.Proofs.YtkgmicakfmllmaaGreat
end
section
namespace Go.Proofs.YtkgmicakfmllmaaGreat
open Go Go.RowKit
set_option linter.unusedSimpArgs false
set_option linter.unusedVariables false
attribute [local irreducible] XWP Spec SpecO XPub XCall seqX clX apX stX ldX iaX slX
end Go.Proofs.YtkgmicakfmllmaaGreat
end
section
namespace Go.Proofs.YtkgmicakfmllmaaGreat
open Go Go.RowKit
set_option linter.unusedSimpArgs false
set_option linter.unusedVariables false
attribute [local irreducible] XWP Spec SpecO XPub XCall seqX clX apX stX ldX iaX slX
end Go.Proofs.YtkgmicakfmllmaaGreat
end
section
namespace Go.Proofs.YtkgmicakfmllmaaGreat
open Go Go.RowKit
set_option linter.unusedSimpArgs false
set_option linter.unusedVariables false
attribute [local irreducible] XWP Spec SpecO XPub XCall seqX clX apX stX ldX iaX slX
def bothC (w : Nat → Nat → Bool) (i k : Nat) : Bool := (List.range k).all fun k => !w i k || w k i
theorem shut_head {w : Nat → Nat → Bool} {n i : Nat} (hi : i < n) (hii : w i i = true) : shutC w (fun _ => false) n i = (bothC w i n && decide (((List.range n).filter (w i)).getD 0 0 = i)) := by
  have mem : ∀ k, k ∈ (List.range n).filter (w i) ↔ k < n ∧ w i k = true := fun k => by rw [List.mem_filter, List.mem_range]
  have hp : ((List.range n).filter (w i)).Pairwise (· < ·) := List.pairwise_lt_range.filter _
  have hmi := (mem i).2 ⟨hi, hii⟩
  unfold shutC bothC
  generalize (List.range n).filter (w i) = S at *
  rw [Bool.eq_iff_iff, Bool.and_eq_true, decide_eq_true_eq, List.all_eq_true, List.all_eq_true]
  cases S with
  | nil => cases hmi
  | cons a t =>
    have ha := (mem a).1 (by simp)
    have hle : ∀ k, k ∈ a :: t → a ≤ k := fun k hk => by
      rcases List.mem_cons.1 hk with e | e
      · omega
      · exact Nat.le_of_lt (List.rel_of_pairwise_cons hp e)
    show _ ↔ _ ∧ a = i
    constructor
    · intro g
      refine ⟨fun k hk => ?_, ?_⟩
      · have := g k hk
        cases e : w i k
        · rfl
        · rw [e] at this
          simp only [Bool.not_true, Bool.false_or, Bool.and_eq_true] at this
          rw [this.1.1]; rfl
      · have h1 := g a (List.mem_range.2 ha.1)
        rw [ha.2] at h1
        simp only [Bool.not_true, Bool.false_or, Bool.and_eq_true, decide_eq_true_eq] at h1
        have h2 := hle i hmi
        omega
    · rintro ⟨g, rfl⟩ k hk
      have h1 := g k hk
      cases e : w a k
      · rfl
      · rw [e] at h1
        simp only [Bool.not_true, Bool.false_or] at h1
        have h2 := hle k ((mem k).2 ⟨List.mem_range.1 hk, e⟩)
        simp only [h1, Bool.not_true, Bool.false_or, Bool.not_false, Bool.true_and, Bool.and_true, decide_eq_true_eq]
        exact h2
theorem bothC_succ (w : Nat → Nat → Bool) (i k : Nat) : bothC w i (k + 1) = (bothC w i k && (!w i k || w k i)) := by
  unfold bothC; rw [List.range_succ, List.all_append]; simp
set_option maxHeartbeats 4000000 in
theorem dclasses_c (V : View) (s : Value) (n B : Nat) (l : List Rat) (h : Rats V s l) (ll : l.length = n * n) (hn : n ≤ 60) (hS : StoG (gridL l n) n) (ql : ∀ x ∈ l, QB B x) (hB : B ≤ 17592186044416) :
    Spec Tryz.prog 56 [.agg #[.int .i64 (n : Int), .int .i64 (n : Int), s]] V fun v' V' => Sl1 (Sl1 natE) V' v' (clsL l n) := by
  obtain ⟨A, cp, rfl, hc, hm⟩ := h.form
  refine (Spec.enter Tryz.func56 rfl fun Γ => ?_)
  simp only [Tryz.ntmps56, List.map_cons, List.map_nil, List.length_cons, List.length_nil, Nat.reduceAdd, Nat.reduceSub, List.replicate_succ, List.replicate_zero, List.cons_append, List.nil_append]
  refine Gx.a (by kernel_rfl) fun K hK => ?_
  simp only [XA]
  refine hK _ ?_
  refine Gx.a (by kernel_rfl) fun K hK => ?_
  simp only [XM, XA, Nat.reduceAdd, Nat.reduceLeDiff, ↓reduceIte]
  refine call_go (by kernel_rfl) rfl (dreach_c _ _ n B l h ll hn hS ql hB) fun v1 V1 hV1 hw => ?_
  have hww : ∀ i, i < n → wR (eM l n) n i i = true := fun i hi => (wR_iff _ _ _ _).2 (.refl hi)
  have ecl : clsL l n = shutP (wR (eM l n) n) (fun _ => false) n n := rfl
  generalize wR (eM l n) n = w at *
  obtain ⟨A1, c1, rfl, hc1, hm1⟩ := hw.form
  have lw : (mkB n w).length = n := by simp [mkB]
  rw [lw] at hw hc1 ⊢
  simp only [XA]
  refine hK _ ?_
  refine Gx.a (by kernel_rfl) fun K hK => ?_
  simp only [XA]
  refine hK _ ?_
  refine XWP.cutD 1 (fun s => ∃ (V2 : View) (H2 : Heap) (wo : Value) (outs : List Value), StIs (fun Z => [Z 0,Z 1,Z 2,Z 3, .v wo, Z 5,Z 6,Z 7,Z 8,Z 9,Z 10,Z 11,Z 12,Z 13,Z 14,Z 15,Z 16,Z 17,Z 18,Z 19,Z 20,Z 21,Z 22,Z 23,Z 24,Z 25,Z 26,Z 27,Z 28,Z 29,Z 30,Z 31,Z 32,Z 33,Z 34,Z 35,Z 36,Z 37,Z 38,Z 39,Z 40,Z 41,Z 42,Z 43,Z 44,Z 45,Z 46,Z 47,Z 48,Z 49,Z 50,Z 51,Z 52,Z 53,Z 54,Z 55,Z 56]) [[.int .i64 (n : Int), .int .i64 (n : Int), .slice A l.length cp]] H2 V2 s ∧ Own H2 34 1 wo (shutP w (fun _ => false) n n).length outs ∧ R1At (Sl1 natE) V2 outs (shutP w (fun _ => false) n n)) ?_ ?_
  · refine Gx.a (by kernel_rfl) fun K hK => ?_
    simp only [XN, XA]
    refine hK _ ?_
    clear hK
    refine XWP.block ?_
    refine XWP.loopD 1 (fun q s => ∃ (i : Nat) (V2 : View) (H2 : Heap) (wo : Value) (outs : List Value), StIs (fun Z => [Z 0,Z 1,Z 2, .v (.slice A1 n c1), .v wo, Z 5,Z 6,Z 7,Z 8,Z 9,Z 10,Z 11, .v (.int .i64 (n : Int)), .v (.int .i64 (i : Int)), Z 14,Z 15,Z 16,Z 17,Z 18,Z 19,Z 20,Z 21,Z 22,Z 23,Z 24,Z 25,Z 26,Z 27,Z 28,Z 29,Z 30,Z 31,Z 32,Z 33,Z 34,Z 35,Z 36,Z 37,Z 38,Z 39,Z 40,Z 41,Z 42,Z 43,Z 44,Z 45,Z 46,Z 47,Z 48,Z 49,Z 50,Z 51,Z 52,Z 53,Z 54,Z 55,Z 56]) [[.int .i64 (n : Int), .int .i64 (n : Int), .slice A l.length cp]] H2 V2 s ∧ q + i = n ∧ V1.le V2 ∧ Own H2 34 1 wo (shutP w (fun _ => false) n i).length outs ∧ R1At (Sl1 natE) V2 outs (shutP w (fun _ => false) n i)) n ⟨0, V1, _, _, [], StIs.of (by exact rfl), by omega, View.le_refl _, own_nil, R1At.nil _⟩ ?_
    rintro q s ⟨i, V2, H2, wo, outs, hs, hq, hV2, hown, hrow⟩
    obtain ⟨z, rfl⟩ := hs.out
    try dsimp only
    clear hs
    by_cases hi : i < n
    rotate_left
    · obtain rfl : i = n := by omega
      have b1 : decide ((i : Int) < (i : Int)) = false := decide_eq_false (by omega)
      refine Gx.a (by kernel_rfl) fun K hK => ?_
      simp only [XA, XB, b1]
      refine hK _ ?_
      refine XWP.seq (Gx.f rfl ?_)
      refine XWP.exit ?_
      exact fun f => ⟨V2, H2, wo, outs, StIs.of (by exact rfl), hown, hrow⟩
    have b1 : decide ((i : Int) < (n : Int)) = true := decide_eq_true (by omega)
    refine Gx.a (by kernel_rfl) fun K hK => ?_
    simp only [XA, XB, b1]
    refine hK _ ?_
    refine XWP.seq (Gx.t rfl ?_)
    refine XWP.skip ?_
    obtain ⟨ba, oa, rfl⟩ := hw.addr (by omega)
    have hsh := shut_head (n := n) hi (hww i hi)
    refine XWP.cutD 1 (fun s => ∃ (V3 : View) (H3 : Heap) (wo : Value) (outs : List Value), StIs (fun Z => [Z 0,Z 1,Z 2, .v (.slice (some ⟨ba, oa, none⟩) n c1), .v wo, Z 5,Z 6,Z 7,Z 8,Z 9,Z 10,Z 11, .v (.int .i64 (n : Int)), .v (.int .i64 (i : Int)), Z 14,Z 15,Z 16,Z 17,Z 18,Z 19,Z 20,Z 21,Z 22,Z 23,Z 24,Z 25,Z 26,Z 27,Z 28,Z 29,Z 30,Z 31,Z 32,Z 33,Z 34,Z 35,Z 36,Z 37,Z 38,Z 39,Z 40,Z 41,Z 42,Z 43,Z 44,Z 45,Z 46,Z 47,Z 48,Z 49,Z 50,Z 51,Z 52,Z 53,Z 54,Z 55,Z 56]) [[.int .i64 (n : Int), .int .i64 (n : Int), .slice A l.length cp]] H3 V3 s ∧ V2.le V3 ∧ Own H3 34 1 wo (shutP w (fun _ => false) n (i + 1)).length outs ∧ R1At (Sl1 natE) V3 outs (shutP w (fun _ => false) n (i + 1))) ?_ ?_
    · refine XWP.block ?_
      refine Gx.a (by kernel_rfl) fun K hK => ?_
      simp only [XA]
      refine hK _ ?_
      refine Gx.a (by kernel_rfl) fun K hK => ?_
      simp only [XA]
      refine hK _ ?_
      refine Gx.a (by kernel_rfl) fun K hK => ?_
      simp only [XA]
      refine hK _ ?_
      refine XWP.cutD 1 (fun s => ∃ (H3 : Heap) (w6 : Value), StIs (fun Z => [Z 0,Z 1,Z 2, .v (.slice (some ⟨ba, oa, none⟩) n c1), .v wo, .v (.int .i64 (i : Int)), .v w6, .v (.bool (bothC w i n)), Z 8,Z 9,Z 10,Z 11, .v (.int .i64 (n : Int)), .v (.int .i64 (i : Int)), Z 14,Z 15,Z 16,Z 17,Z 18,Z 19,Z 20,Z 21,Z 22,Z 23,Z 24,Z 25,Z 26,Z 27,Z 28,Z 29,Z 30,Z 31,Z 32,Z 33,Z 34,Z 35,Z 36,Z 37,Z 38,Z 39,Z 40,Z 41,Z 42,Z 43,Z 44,Z 45,Z 46,Z 47,Z 48,Z 49,Z 50,Z 51,Z 52,Z 53,Z 54,Z 55,Z 56]) [[.int .i64 (n : Int), .int .i64 (n : Int), .slice A l.length cp]] H3 V2 s ∧ Own H3 34 1 wo (shutP w (fun _ => false) n i).length outs ∧ Own H3 3 1 w6 ((List.range n).filter (w i)).length (ivs ((List.range n).filter (w i)))) ?_ ?_
      · refine Gx.a (by kernel_rfl) fun K hK => ?_
        simp only [XN, XA]
        refine hK _ ?_
        clear hK
        refine XWP.block ?_
        refine XWP.loopD 1 (fun p s => ∃ (k : Nat) (H3 : Heap) (w6 : Value), StIs (fun Z => [Z 0,Z 1,Z 2, .v (.slice (some ⟨ba, oa, none⟩) n c1), .v wo, .v (.int .i64 (i : Int)), .v w6, .v (.bool (bothC w i k)), Z 8,Z 9,Z 10,Z 11, .v (.int .i64 (n : Int)), .v (.int .i64 (i : Int)), Z 14,Z 15,Z 16, .v (.int .i64 (n : Int)), .v (.int .i64 (k : Int)), Z 19,Z 20,Z 21,Z 22,Z 23,Z 24,Z 25,Z 26,Z 27,Z 28,Z 29,Z 30,Z 31,Z 32,Z 33,Z 34,Z 35,Z 36,Z 37,Z 38,Z 39,Z 40,Z 41,Z 42,Z 43,Z 44,Z 45,Z 46,Z 47,Z 48,Z 49,Z 50,Z 51,Z 52,Z 53,Z 54,Z 55,Z 56]) [[.int .i64 (n : Int), .int .i64 (n : Int), .slice A l.length cp]] H3 V2 s ∧ p + k = n ∧ Own H3 34 1 wo (shutP w (fun _ => false) n i).length outs ∧ Own H3 3 1 w6 ((List.range k).filter (w i)).length (ivs ((List.range k).filter (w i)))) n ⟨0, H2, _, StIs.of (by exact rfl), by omega, hown, own_nil⟩ ?_
        clear hown
        rintro p s ⟨k, H3, w6, hs, hp, hown, hown7⟩
        obtain ⟨z, rfl⟩ := hs.out
        try dsimp only
        clear hs
        by_cases hk : k < n
        rotate_left
        · obtain rfl : k = n := by omega
          have b2 : decide ((k : Int) < (k : Int)) = false := decide_eq_false (by omega)
          refine Gx.a (by kernel_rfl) fun K hK => ?_
          simp only [XA, XB, b2]
          refine hK _ ?_
          refine XWP.seq (Gx.f rfl ?_)
          refine XWP.exit ?_
          exact fun f => ⟨H3, w6, StIs.of (by exact rfl), hown, hown7⟩
        have b2 : decide ((k : Int) < (n : Int)) = true := decide_eq_true (by omega)
        refine Gx.a (by kernel_rfl) fun K hK => ?_
        simp only [XA, XB, b2]
        refine hK _ ?_
        refine XWP.seq (Gx.t rfl ?_)
        refine XWP.skip ?_
        obtain ⟨b5, o5, c5, l5, l6⟩ := ways_at (hw.mono (Sl1_ok booE_ok) hV2) hi hk
        obtain ⟨b7, o7, c7, l7, l8⟩ := ways_at (hw.mono (Sl1_ok booE_ok) hV2) hk hi
        have esuc := bothC_succ w i k
        refine XWP.cutD 1 (fun s => ∃ (H3 : Heap) (w6 : Value), StIs (fun Z => [Z 0,Z 1,Z 2, .v (.slice (some ⟨ba, oa, none⟩) n c1), .v wo, .v (.int .i64 (i : Int)), .v w6, .v (.bool (bothC w i (k + 1))), Z 8,Z 9,Z 10,Z 11, .v (.int .i64 (n : Int)), .v (.int .i64 (i : Int)), Z 14,Z 15,Z 16, .v (.int .i64 (n : Int)), .v (.int .i64 (k : Int)), Z 19,Z 20,Z 21,Z 22,Z 23,Z 24,Z 25,Z 26,Z 27,Z 28,Z 29,Z 30,Z 31,Z 32,Z 33,Z 34,Z 35,Z 36,Z 37,Z 38,Z 39,Z 40,Z 41,Z 42,Z 43,Z 44,Z 45,Z 46,Z 47,Z 48,Z 49,Z 50,Z 51,Z 52,Z 53,Z 54,Z 55,Z 56]) [[.int .i64 (n : Int), .int .i64 (n : Int), .slice A l.length cp]] H3 V2 s ∧ Own H3 34 1 wo (shutP w (fun _ => false) n i).length outs ∧ Own H3 3 1 w6 ((List.range (k + 1)).filter (w i)).length (ivs ((List.range (k + 1)).filter (w i)))) ?_ ?_
        · refine XWP.block ?_
          refine Gx.a (by kernel_rfl) fun K hK => ?_
          simp only [XA]
          refine hK _ ?_
          cases hwik : w i k
          · rw [hwik] at l6
            refine Gx.a (by kernel_rfl) fun K hK => ?_
            simp only [XN, XA]
            refine ⟨by omega, by omega, ?_⟩
            refine ld_mem (by simpa using l5 _) ?_
            simp only [XN, XA, XB]
            refine ⟨by omega, by omega, ?_⟩
            refine ld_mem (by simpa using l6 _) ?_
            simp only [XA]
            refine hK _ ?_
            refine Gx.f rfl ?_
            refine XWP.skip ?_
            rw [hwik, Bool.not_false, Bool.true_or, Bool.and_true] at esuc
            rw [esuc]
            exact fun f => ⟨H3, w6, StIs.of (by exact rfl), hown, by rw [List.range_succ, List.filter_append]; simpa [hwik] using hown7⟩
          rw [hwik] at l6
          rw [hwik, Bool.not_true, Bool.false_or] at esuc
          refine Gx.a (by kernel_rfl) fun K hK => ?_
          simp only [XN, XA]
          refine ⟨by omega, by omega, ?_⟩
          refine ld_mem (by simpa using l5 _) ?_
          simp only [XN, XA, XB]
          refine ⟨by omega, by omega, ?_⟩
          refine ld_mem (by simpa using l6 _) ?_
          simp only [XA]
          refine hK _ ?_
          refine Gx.t rfl ?_
          have hlk : ((List.range k).filter (w i)).length ≤ 60 := by
            have := List.length_filter_le (w i) (List.range k)
            rw [List.length_range] at this; omega
          refine Gx.a (by kernel_rfl) fun K hK => ?_
          simp only [XA]
          refine bs_go (by kernel_rfl) #[(0, .int .i64 (k : Int))] (by simp [ev_tmp, SV.val]) (bs_one elemT_34 zeroT_3 rfl) fun bq hbq1 hbq2 => ?_
          simp only [XA]
          have hdj : ∀ b, wo.ownBlock = some b → w6.ownBlock ≠ some b := fun b e1 e2 => by
            rcases own_parts hown with ⟨rfl, _, _⟩ | ⟨g, cap, rfl, hg, _⟩
            · cases e1
            · rcases own_parts hown7 with ⟨rfl, _, _⟩ | ⟨g', cap', rfl, hg', _⟩
              · cases e2
              · have h1 : g = b := by simpa [Value.ownBlock] using e1
                have h2 : g' = b := by simpa [Value.ownBlock] using e2
                rw [h1] at hg; rw [h2, hg] at hg'; cases hg'
          refine ap_go elemT_34 (by kernel_rfl) zeroT_3 rfl (by omega) (own_upd hown7 hbq1) (src_one (upd_at _ _ _) rfl) (by omega) (by omega) fun v' H' hres => ?_
          have howno : Own H' 34 1 wo (shutP w (fun _ => false) n i).length outs := by
            have h0 := own_upd (r := some ⟨3, [.int .i64 (k : Int)], 1⟩) hown hbq1
            refine ⟨h0.1, ?_⟩
            rcases h0.2 with h | ⟨g, cap, e, hg, h⟩
            · exact .inl h
            · exact .inr ⟨g, cap, e, (app_keep hres hg (hdj g (by rw [e]; rfl))).1, h⟩
          simp only [XA]
          refine hK _ ?_
          have ef : (List.range (k + 1)).filter (w i) = (List.range k).filter (w i) ++ [k] := by rw [List.range_succ, List.filter_append]; simp [hwik]
          have eiv : ivs ((List.range k).filter (w i)) ++ [Value.int .i64 (k : Int)] = ivs ((List.range k).filter (w i) ++ [k]) := by simp [ivs]
          have hown8 := hres.1
          rw [eiv] at hown8
          have hown9 : Own H' 3 1 v' ((List.range (k + 1)).filter (w i)).length (ivs ((List.range (k + 1)).filter (w i))) := by rw [ef]; simpa using hown8
          cases hb : bothC w i k
          · rw [hb, Bool.false_and] at esuc
            rw [esuc]
            refine Gx.c (by kernel_rfl) fun K hK => ?_
            simp only [XA, gateX, ↓reduceIte]
            exact hK _ fun f => ⟨H', v', StIs.of (by exact rfl), howno, hown9⟩
          · rw [hb, Bool.true_and] at esuc
            rw [esuc]
            refine Gx.c (by kernel_rfl) fun K hK => ?_
            simp only [XN, XA, gateX, ↓reduceIte, beq_self_eq_true]
            refine ⟨by omega, by omega, ?_⟩
            refine ld_mem (by simpa using l7 _) ?_
            simp only [XN, XA, XB, gateX, ↓reduceIte, beq_self_eq_true]
            refine ⟨by omega, by omega, ?_⟩
            refine ld_mem (by simpa using l8 _) ?_
            simp only [XA, ↓reduceIte]
            exact hK _ fun f => ⟨H', v', StIs.of (by exact rfl), howno, hown9⟩
        rintro s ⟨H3, w6, hs, hown, hown7⟩
        obtain ⟨z, rfl⟩ := hs.out
        try dsimp only
        refine Gx.c (by kernel_rfl) fun K hK => ?_
        simp only [XA, XB, i64_succ k (by omega)]
        exact hK _ ⟨p - 1, by omega, fun f => ⟨k + 1, H3, w6, StIs.of (by exact rfl), by omega, hown, hown7⟩⟩
      clear hown
      rintro s ⟨H3, w6, hs, hown, hown7⟩
      obtain ⟨z, rfl⟩ := hs.out
      try dsimp only
      clear hs
      have hmi : i ∈ (List.range n).filter (w i) := by rw [List.mem_filter, List.mem_range]; exact ⟨hi, hww i hi⟩
      have hpos : 0 < ((List.range n).filter (w i)).length := List.length_pos_of_mem hmi
      have hdj : ∀ b, wo.ownBlock = some b → w6.ownBlock ≠ some b := fun b e1 e2 => by
        rcases own_parts hown with ⟨rfl, _, _⟩ | ⟨g, cap, rfl, hg, _⟩
        · cases e1
        · rcases own_parts hown7 with ⟨rfl, _, _⟩ | ⟨g', cap', rfl, hg', _⟩
          · cases e2
          · have h1 : g = b := by simpa [Value.ownBlock] using e1
            have h2 : g' = b := by simpa [Value.ownBlock] using e2
            rw [h1] at hg; rw [h2, hg] at hg'; cases hg'
      obtain ⟨a0, ha0⟩ : ∃ a0, a0 = ((List.range n).filter (w i)).getD 0 0 := ⟨_, rfl⟩
      have hg0 : (ivs ((List.range n).filter (w i)))[0]? = some (.int .i64 (a0 : Int)) := by
        rw [ha0]
        unfold ivs
        rw [List.getElem?_map, List.getD_eq_getElem?_getD, List.getElem?_eq_getElem hpos]; rfl
      rw [← ha0] at hsh
      refine XWP.cut (fun s => ∃ b : Bool, b = shutC w (fun _ => false) n i ∧ StIs (fun Z => [Z 0,Z 1,Z 2, .v (.slice (some ⟨ba, oa, none⟩) n c1), .v wo, .v (.int .i64 (i : Int)), .v w6, Z 7,Z 8,Z 9,Z 10,Z 11, .v (.int .i64 (n : Int)), .v (.int .i64 (i : Int)), Z 14,Z 15,Z 16,Z 17,Z 18,Z 19,Z 20,Z 21,Z 22,Z 23,Z 24,Z 25,Z 26,Z 27,Z 28,Z 29,Z 30,Z 31,Z 32,Z 33,Z 34,Z 35,Z 36,Z 37,Z 38,Z 39,Z 40,Z 41,Z 42,Z 43,Z 44,Z 45,Z 46,Z 47,Z 48,Z 49, .v (.bool b), Z 51,Z 52,Z 53,Z 54,Z 55,Z 56]) [[.int .i64 (n : Int), .int .i64 (n : Int), .slice A l.length cp]] H3 V2 s) ?_ ?_
      · rcases own_parts hown7 with ⟨_, h0, _⟩ | ⟨g', cap', rfl, hg', _⟩
        · omega
        cases hb : bothC w i n
        · rw [hb, Bool.false_and] at hsh
          refine Gx.c (by kernel_rfl) fun K hK => ?_
          simp only [XA, gateX, ↓reduceIte]
          exact hK _ ⟨_, hsh.symm, StIs.of (by exact rfl)⟩
        · rw [hb, Bool.true_and] at hsh
          by_cases e0 : a0 = i
          · have b3 : decide ((a0 : Int) = (i : Int)) = true := decide_eq_true (by omega)
            rw [decide_eq_true e0] at hsh
            refine Gx.c (by kernel_rfl) fun K hK => ?_
            simp only [XN, XA, XB, gateX, ↓reduceIte, Int.reduceLE, beq_self_eq_true]
            refine ⟨by omega, ?_⟩
            refine ld_mem (ldH1 hg' (by simpa using hg0) shapeT_3) ?_
            simp only [XA, XB, gateX, ↓reduceIte, beq_self_eq_true, b3]
            exact hK _ ⟨_, hsh.symm, StIs.of (by exact rfl)⟩
          · have b3 : decide ((a0 : Int) = (i : Int)) = false := decide_eq_false (by omega)
            rw [decide_eq_false e0] at hsh
            refine Gx.c (by kernel_rfl) fun K hK => ?_
            simp only [XN, XA, XB, gateX, ↓reduceIte, Int.reduceLE, beq_self_eq_true]
            refine ⟨by omega, ?_⟩
            refine ld_mem (ldH1 hg' (by simpa using hg0) shapeT_3) ?_
            simp only [XA, XB, gateX, ↓reduceIte, beq_self_eq_true, b3]
            exact hK _ ⟨_, hsh.symm, StIs.of (by exact rfl)⟩
      rintro s ⟨b, hb, hs⟩
      obtain ⟨z, rfl⟩ := hs.out
      try dsimp only
      clear hs
      cases b
      · refine Gx.f rfl ?_
        refine XWP.skip ?_
        exact fun f => ⟨V2, H3, wo, outs, StIs.of (by exact rfl), View.le_refl _, by rw [shutP_no hb.symm]; exact hown, by rw [shutP_no hb.symm]; exact hrow⟩
      have hyes := hb.symm
      refine Gx.t rfl ?_
      refine XWP.pub1 natE_ok hown7 (R1At.ivs V2 _) fun H4 V4 hV4 hs7 hk4 => ?_
      have hown4 : Own H4 34 1 wo (shutP w (fun _ => false) n i).length outs := by
        refine ⟨hown.1, ?_⟩
        rcases hown.2 with h | ⟨g, cap, e, hg, h⟩
        · exact .inl h
        · exact .inr ⟨g, cap, e, by rw [hk4 g (hdj g (by rw [e]; rfl))]; exact hg, h⟩
      have o7 := hs7.one
      have hle := shutP_len w (fun _ => false) n i
      refine Gx.c (by kernel_rfl) fun K hK => ?_
      simp only [XA]
      refine bs_go (by kernel_rfl) #[(0, w6)] (by simp [ev_tmp, SV.val]) (bs_one elemT_26 zeroT_34 o7) fun bq hbq1 hbq2 => ?_
      simp only [XA]
      refine ap_go elemT_26 (by kernel_rfl) zeroT_34 rfl (by omega) (own_upd hown4 hbq1) (src_one (upd_at _ _ _) o7) (by omega) (by omega) fun v' H' hres => ?_
      simp only [XA]
      have hrow' := (hrow.mono (Sl1_ok natE_ok) hV4).snoc o7 hs7
      have hown8 := hres.1
      rw [← shutP_yes hyes] at hrow'
      have el : (shutP w (fun _ => false) n (i + 1)).length = (shutP w (fun _ => false) n i).length + 1 := by rw [shutP_yes hyes]; simp
      exact hK _ fun f => ⟨V4, H', v', outs ++ [w6], StIs.of (by exact rfl), hV4, by rw [el]; exact hown8, hrow'⟩
    clear hown hrow
    rintro s ⟨V3, H3, wo, outs, hs, hV3, hown, hrow⟩
    obtain ⟨z, rfl⟩ := hs.out
    try dsimp only
    refine Gx.c (by kernel_rfl) fun K hK => ?_
    simp only [XA, XB, i64_succ i (by omega)]
    exact hK _ ⟨q - 1, by omega, fun f => ⟨i + 1, V3, H3, wo, outs, StIs.of (by exact rfl), by omega, View.le_trans hV2 hV3, hown, hrow⟩⟩
  rintro s ⟨V2, H2, wo, outs, hs, hown, hrow⟩
  obtain ⟨z, rfl⟩ := hs.out
  try dsimp only
  refine XWP.pub1 (Sl1_ok natE_ok) hown hrow fun H4 V4 hV4 hs4 _ => ?_
  refine Gx.a (by kernel_rfl) fun K hK => ?_
  simp only [XA]
  refine hK _ (XWP.ret ?_)
  try simp only [thenX_ret, inBlockX_ret]
  exact ret_go _ rfl (by rw [ecl]; exact hs4)
end Go.Proofs.YtkgmicakfmllmaaGreat
end
section
namespace Go.Proofs.YtkgmicakfmllmaaGreat
open Go Go.RowKit
set_option linter.unusedSimpArgs false
set_option linter.unusedVariables false
attribute [local irreducible] XWP Spec SpecO XPub XCall seqX clX apX stX ldX iaX slX
end Go.Proofs.YtkgmicakfmllmaaGreat
end
section
namespace Go.Proofs.YtkgmicakfmllmaaGreat
open Go Go.RowKit
set_option linter.unusedSimpArgs false
set_option linter.unusedVariables false
attribute [local irreducible] XWP Spec SpecO XPub XCall seqX clX apX stX ldX iaX slX
theorem bvs_put {n : Nat} {r : Nat → Bool} {k : Nat} {x : Bool} : (bvs n r).set k (.bool x) = bvs n (fun j => if j = k then x else r j) := by
  refine List.ext_getElem? fun j => ?_
  by_cases hj : j < n
  · by_cases e : k = j
    · subst e
      rw [List.getElem?_set_self (by rw [bvs_len]; exact hj), bvs_get hj, if_pos rfl]
    · rw [List.getElem?_set_ne e, bvs_get hj, bvs_get hj, if_neg (Ne.symm e)]
  · rw [List.getElem?_eq_none (by rw [List.length_set, bvs_len]; omega), List.getElem?_eq_none (by rw [bvs_len]; omega)]
theorem bvs_congr {n : Nat} {r t : Nat → Bool} (h : ∀ k, k < n → r k = t k) : bvs n r = bvs n t := by
  unfold bvs
  exact List.map_congr_left fun k hk => by rw [h k (List.mem_range.1 hk)]
noncomputable def setF (E : Nat → Nat → Bool) (C : List Nat) (m k : Nat) : Bool := @decide (Wk E C (C.getD 0 0) m k) (Classical.propDecidable _)
theorem setF_iff {E : Nat → Nat → Bool} {C : List Nat} {m k : Nat} : setF E C m k = true ↔ Wk E C (C.getD 0 0) m k := by unfold setF; exact @decide_eq_true_iff _ (Classical.propDecidable _)
/-- the states one step on, as far as they have been looked for -/
def NxP (E : Nat → Nat → Bool) (C : List Nat) (S : Nat → Bool) (i k : Nat) (t : Nat → Bool) : Prop :=
  ∀ j, t j = true ↔ (j ∈ C ∧ ∃ a, a < i ∧ S (C.getD a 0) = true ∧ E (C.getD a 0) j = true) ∨ ((∃ b, b < k ∧ b < C.length ∧ C.getD b 0 = j) ∧ S (C.getD i 0) = true ∧ E (C.getD i 0) j = true)
theorem NxP.start (E : Nat → Nat → Bool) (C : List Nat) (S : Nat → Bool) : NxP E C S 0 0 (fun _ => false) := fun j => by
  constructor
  · intro h; cases h
  · rintro (⟨_, a, h, _⟩ | ⟨⟨b, h, _⟩, _⟩) <;> omega
theorem NxP.step {E : Nat → Nat → Bool} {C : List Nat} {S t : Nat → Bool} {i k : Nat} (h : NxP E C S i k t) (hk : k < C.length) {x : Bool} (hx : x = (t (C.getD k 0) || (S (C.getD i 0) && E (C.getD i 0) (C.getD k 0)))) : NxP E C S i (k + 1) (fun j => if j = C.getD k 0 then x else t j) := fun j => by
  have hj := h j
  show (if j = C.getD k 0 then x else t j) = true ↔ _
  by_cases e : j = C.getD k 0
  · rw [if_pos e, hx, ← e, Bool.or_eq_true, Bool.and_eq_true, hj]
    constructor
    · rintro ((g | ⟨_, g⟩) | g)
      · exact .inl g
      · exact .inr ⟨⟨k, by omega, hk, e.symm⟩, g⟩
      · exact .inr ⟨⟨k, by omega, hk, e.symm⟩, g⟩
    · rintro (g | ⟨_, g⟩)
      · exact .inl (.inl g)
      · exact .inr g
  · rw [if_neg e, hj]
    constructor
    · rintro (g | ⟨⟨b, h1, h2, h3⟩, g⟩)
      · exact .inl g
      · exact .inr ⟨⟨b, by omega, h2, h3⟩, g⟩
    · rintro (g | ⟨⟨b, h1, h2, h3⟩, g⟩)
      · exact .inl g
      · refine .inr ⟨⟨b, ?_, h2, h3⟩, g⟩
        rcases Nat.lt_or_ge b k with q | q
        · exact q
        · have : b = k := by omega
          subst this
          exact absurd h3.symm e
theorem NxP.row {E : Nat → Nat → Bool} {C : List Nat} {S t : Nat → Bool} {i : Nat} (h : NxP E C S i C.length t) : NxP E C S (i + 1) 0 t := fun j => by
  rw [h j]
  constructor
  · rintro (⟨g, a, h1, h2⟩ | ⟨⟨b, h1, h2, h3⟩, g⟩)
    · exact .inl ⟨g, a, by omega, h2⟩
    · refine .inl ⟨?_, i, by omega, g⟩
      rw [← h3, List.getD_eq_getElem?_getD, List.getElem?_eq_getElem h2]; exact List.getElem_mem h2
  · rintro (⟨g, a, h1, h2⟩ | ⟨⟨b, h1, _⟩, _⟩)
    · rcases Nat.lt_or_ge a i with q | q
      · exact .inl ⟨g, a, q, h2⟩
      · have : a = i := by omega
        subst this
        obtain ⟨b, hb, eb⟩ := List.mem_iff_getElem.1 g
        exact .inr ⟨⟨b, hb, hb, by rw [List.getD_eq_getElem?_getD, List.getElem?_eq_getElem hb]; exact eb⟩, h2⟩
    · omega
theorem NxP.done {E : Nat → Nat → Bool} {C : List Nat} {t : Nat → Bool} {m : Nat} (hC : 1 ≤ C.length) (h : NxP E C (setF E C m) C.length 0 t) (k : Nat) : t k = setF E C (m + 1) k := by
  have hr : C.getD 0 0 ∈ C := by rw [List.getD_eq_getElem?_getD, List.getElem?_eq_getElem (by omega)]; exact List.getElem_mem (by omega)
  rw [Bool.eq_iff_iff, h k]
  refine Iff.trans ?_ (setF_iff.trans Wk.succ).symm
  constructor
  · rintro (⟨g, a, h1, h2, h3⟩ | ⟨⟨b, h1, _⟩, _⟩)
    · exact ⟨g, _, setF_iff.1 h2, h3⟩
    · omega
  · rintro ⟨g, s, h1, h2⟩
    obtain ⟨a, ha, ea⟩ := List.mem_iff_getElem.1 (h1.mem hr)
    have e : C.getD a 0 = s := by rw [List.getD_eq_getElem?_getD, List.getElem?_eq_getElem ha]; exact ea
    exact .inl ⟨g, a, ha, by rw [e]; exact setF_iff.2 h1, by rw [e]; exact h2⟩
theorem pG_le (P : Nat → Prop) : ∀ m, pG P m ≤ m
  | 0 => Nat.le_refl _
  | m + 1 => by
    have ih := pG_le P m
    unfold pG
    split
    · exact Nat.gcd_le_right _ (by omega)
    · omega
theorem pG_yes {P : Nat → Prop} {m : Nat} (h : P (m + 1)) : pG P (m + 1) = Nat.gcd (pG P m) (m + 1) := by
  show (open Classical in if P (m + 1) then Nat.gcd (pG P m) (m + 1) else pG P m) = _
  rw [if_pos h]
theorem pG_no {P : Nat → Prop} {m : Nat} (h : ¬ P (m + 1)) : pG P (m + 1) = pG P m := by
  show (open Classical in if P (m + 1) then Nat.gcd (pG P m) (m + 1) else pG P m) = _
  rw [if_neg h]
set_option maxHeartbeats 4000000 in
theorem dperiod_c (V : View) (s u : Value) (r c : Int) (L : List Raw) (B : Nat) (ws : List Int) (h : Raws V s L) (hu : Sl1 intE V u ws) (lw : ws.length ≤ 20) (f : fitR L) (ll : L.length ≤ 100000) (hq : ∀ x ∈ qs L, QB B x) (hB : 1001 * (B + 1) ≤ 17592186044416) :
    Spec Tryz.prog 38 [.agg #[.int .i64 r, .int .i64 c, s], u] V fun v' V' => (perB r c L ws = false → v' = .tuple #[.int .i64 0, .int .i64 1]) ∧ (perB r c L ws = true → ∀ C, zs C = ws → v' = .tuple #[.int .i64 (pG (homeP (qs L) r.toNat C) (2 * C.length * C.length + 2) : Nat), .int .i64 0]) := by
  obtain ⟨A, cp, rfl, hc, hm⟩ := h.form
  obtain ⟨Au, cu, rfl, hcu, hmu⟩ := hu.form
  have hpe : perB r c L ws = (stoB r c L && (clsL (qs L) r.toNat).any fun l => decide (zs l = ws)) := rfl
  refine (Spec.enter Tryz.func38 rfl fun Γ => ?_)
  simp only [Tryz.ntmps38, List.map_cons, List.map_nil, List.length_cons, List.length_nil, Nat.reduceAdd, Nat.reduceSub, List.replicate_succ, List.replicate_zero, List.cons_append, List.nil_append]
  refine Gx.a (by kernel_rfl) fun K hK => ?_
  simp only [XA]
  refine hK _ ?_
  refine XWP.seq ?_
  refine Gx.a (by kernel_rfl) fun K hK => ?_
  simp only [XM, XA, Nat.reduceAdd, Nat.reduceLeDiff, ↓reduceIte]
  refine call_go (by kernel_rfl) rfl (dsto_c _ _ r c L B h f ll hq hB) fun v1 V1 hV1 h1 => ?_
  subst h1
  cases est : stoB r c L
  · simp only [XA]
    refine hK _ ?_
    refine Gx.t rfl ?_
    refine Gx.a (by kernel_rfl) fun K hK => ?_
    simp only [XA]
    refine hK _ (XWP.ret ?_)
    try simp only [thenX_ret, inBlockX_ret]
    refine ret_go _ rfl ?_
    exact ⟨fun _ => rfl, fun g => (by rw [hpe, est] at g; cases g)⟩
  rw [est, Bool.true_and] at hpe
  obtain ⟨n, rfl, rfl, hn, kl, ok, hS⟩ := stoB_parts est
  rw [Int.toNat_natCast] at *
  have hr : Rats V1 (.slice A L.length cp) (qs L) := (Raws.rats h ok).up hV1
  have hlen := qs_len L
  have hu := hu.mono intE_ok hV1
  simp only [XA]
  refine hK _ ?_
  refine Gx.f rfl ?_
  refine XWP.skip ?_
  refine Gx.a (by kernel_rfl) fun K hK => ?_
  simp only [XA]
  refine hK _ ?_
  clear hK
  have hlc := clsL_len (qs L) n
  have hcl : ∀ l ∈ clsL (qs L) n, l.length ≤ n := fun l hl => (cls_con hl).2.2.2
  obtain ⟨af, haf⟩ : ∃ af : List Nat → Bool, af = fun l => decide (zs l = ws) := ⟨_, rfl⟩
  rw [← haf] at hpe
  refine XWP.cut (fun s => ∃ (V2 : View), StIs (fun Z => [Z 0, .v (.slice Au ws.length cu), .p 0 0, Z 3,Z 4,Z 5, .v (.bool ((clsL (qs L) n).any af)), Z 7,Z 8,Z 9,Z 10,Z 11,Z 12,Z 13,Z 14,Z 15,Z 16,Z 17,Z 18,Z 19,Z 20,Z 21,Z 22,Z 23,Z 24,Z 25,Z 26,Z 27,Z 28,Z 29,Z 30,Z 31,Z 32,Z 33,Z 34,Z 35,Z 36,Z 37,Z 38,Z 39,Z 40,Z 41,Z 42,Z 43,Z 44,Z 45,Z 46,Z 47,Z 48,Z 49,Z 50,Z 51,Z 52,Z 53,Z 54,Z 55,Z 56,Z 57,Z 58,Z 59,Z 60,Z 61,Z 62,Z 63,Z 64,Z 65,Z 66,Z 67,Z 68,Z 69,Z 70,Z 71,Z 72,Z 73,Z 74,Z 75,Z 76,Z 77,Z 78,Z 79,Z 80,Z 81,Z 82,Z 83,Z 84,Z 85,Z 86,Z 87,Z 88,Z 89,Z 90,Z 91,Z 92,Z 93,Z 94,Z 95,Z 96,Z 97,Z 98,Z 99,Z 100,Z 101,Z 102,Z 103,Z 104,Z 105,Z 106,Z 107,Z 108,Z 109,Z 110,Z 111,Z 112,Z 113,Z 114,Z 115,Z 116,Z 117,Z 118,Z 119,Z 120,Z 121,Z 122,Z 123,Z 124,Z 125,Z 126,Z 127,Z 128,Z 129,Z 130,Z 131,Z 132]) [[.int .i64 (n : Int), .int .i64 (n : Int), .slice A L.length cp]] (fun _ => none) V2 s ∧ V1.le V2) ?_ ?_
  · refine Gx.a (by kernel_rfl) fun K hK => ?_
    simp only [XM, XA, Nat.reduceAdd, Nat.reduceLeDiff, ↓reduceIte]
    refine call_go (by kernel_rfl) rfl (dclasses_c _ _ n B (qs L) hr (by omega) hn hS hq (by omega)) fun v2 V2 hV2 h2 => ?_
    obtain ⟨A2, c2, rfl, hc2, hm2⟩ := h2.form
    simp only [XN, XA]
    refine hK _ ?_
    refine XWP.block ?_
    refine XWP.loop (fun q s => ∃ (i : Nat), StIs (fun Z => [Z 0, .v (.slice Au ws.length cu), .p 0 0, Z 3,Z 4,Z 5, .v (.bool (((clsL (qs L) n).take i).any af)), Z 7,Z 8,Z 9,Z 10,Z 11,Z 12,Z 13,Z 14,Z 15,Z 16,Z 17,Z 18,Z 19,Z 20,Z 21,Z 22, .v (.slice A2 (clsL (qs L) n).length c2), .v (.int .i64 ((clsL (qs L) n).length : Int)), .v (.int .i64 (i : Int)), Z 26,Z 27,Z 28,Z 29,Z 30,Z 31,Z 32,Z 33,Z 34,Z 35,Z 36,Z 37,Z 38,Z 39,Z 40,Z 41,Z 42,Z 43,Z 44,Z 45,Z 46,Z 47,Z 48,Z 49,Z 50,Z 51,Z 52,Z 53,Z 54,Z 55,Z 56,Z 57,Z 58,Z 59,Z 60,Z 61,Z 62,Z 63,Z 64,Z 65,Z 66,Z 67,Z 68,Z 69,Z 70,Z 71,Z 72,Z 73,Z 74,Z 75,Z 76,Z 77,Z 78,Z 79,Z 80,Z 81,Z 82,Z 83,Z 84,Z 85,Z 86,Z 87,Z 88,Z 89,Z 90,Z 91,Z 92,Z 93,Z 94,Z 95,Z 96,Z 97,Z 98,Z 99,Z 100,Z 101,Z 102,Z 103,Z 104,Z 105,Z 106,Z 107,Z 108,Z 109,Z 110,Z 111,Z 112,Z 113,Z 114,Z 115,Z 116,Z 117,Z 118,Z 119,Z 120,Z 121,Z 122,Z 123,Z 124,Z 125,Z 126,Z 127,Z 128,Z 129,Z 130,Z 131,Z 132]) [[.int .i64 (n : Int), .int .i64 (n : Int), .slice A L.length cp]] (fun _ => none) V2 s ∧ q + i = (clsL (qs L) n).length) (clsL (qs L) n).length ⟨0, StIs.of (by exact rfl), by omega⟩ ?_
    rintro q s ⟨i, hs, hqi⟩
    obtain ⟨z, rfl⟩ := hs.out
    try dsimp only
    clear hs
    by_cases hi : i < (clsL (qs L) n).length
    rotate_left
    · have ei : i = (clsL (qs L) n).length := by omega
      have b1 : decide ((i : Int) < ((clsL (qs L) n).length : Int)) = false := decide_eq_false (by omega)
      refine Gx.a (by kernel_rfl) fun K hK => ?_
      simp only [XA, XB, b1]
      refine hK _ ?_
      refine XWP.seq (Gx.f rfl ?_)
      refine XWP.exit ?_
      rw [List.take_of_length_le (by omega)]
      exact ⟨V2, StIs.of (by exact rfl), hV2⟩
    have b1 : decide ((i : Int) < ((clsL (qs L) n).length : Int)) = true := decide_eq_true (by omega)
    refine Gx.a (by kernel_rfl) fun K hK => ?_
    simp only [XA, XB, b1]
    refine hK _ ?_
    refine XWP.seq (Gx.t rfl ?_)
    refine XWP.skip ?_
    obtain ⟨b2, o2, rfl⟩ := h2.addr (by omega)
    obtain ⟨x, hx, p1, hld⟩ := h2.load i hi
    obtain ⟨l, hl⟩ : ∃ l, l = (clsL (qs L) n)[i] := ⟨_, rfl⟩
    have hlm : l ∈ clsL (qs L) n := by rw [hl]; exact List.getElem_mem hi
    have hln := hcl l hlm
    rw [← hl] at hx
    obtain ⟨Al, kl2, rfl, hkl1, hkl2⟩ := hx.form
    have e7 : decide ((l.length : Int) = (ws.length : Int)) = decide (l.length = ws.length) := by rw [decide_eq_decide]; omega
    refine XWP.seq (XWP.block ?_)
    refine Gx.a (by kernel_rfl) fun K hK => ?_
    simp only [XN, XA]
    refine ⟨by omega, by omega, ld_mem (by simpa using hld _ 34 1 shapeT_34) ?_⟩
    simp only [XA]
    refine hK _ ?_
    refine Gx.a (by kernel_rfl) fun K hK => ?_
    simp only [XN, XA, XB, e7]
    refine hK _ ?_
    refine XWP.cut (fun s => ∃ (x : Nat), StIs (fun Z => [Z 0, .v (.slice Au ws.length cu), .p 0 0, Z 3,Z 4,Z 5, .v (.bool (((clsL (qs L) n).take i).any af)), Z 7,Z 8, .v (.bool (af l)), Z 10,Z 11,Z 12,Z 13,Z 14,Z 15,Z 16,Z 17,Z 18,Z 19,Z 20,Z 21,Z 22, .v (.slice (some ⟨b2, o2, none⟩) (clsL (qs L) n).length c2), .v (.int .i64 ((clsL (qs L) n).length : Int)), .v (.int .i64 (i : Int)), Z 26,Z 27,Z 28,Z 29,Z 30,Z 31,Z 32,Z 33,Z 34,Z 35,Z 36,Z 37,Z 38,Z 39,Z 40,Z 41,Z 42,Z 43,Z 44,Z 45,Z 46,Z 47,Z 48,Z 49,Z 50,Z 51,Z 52,Z 53,Z 54,Z 55,Z 56,Z 57,Z 58,Z 59,Z 60,Z 61,Z 62,Z 63,Z 64,Z 65,Z 66,Z 67,Z 68,Z 69,Z 70,Z 71,Z 72,Z 73,Z 74,Z 75,Z 76,Z 77,Z 78,Z 79,Z 80,Z 81,Z 82,Z 83,Z 84,Z 85,Z 86,Z 87,Z 88,Z 89,Z 90,Z 91,Z 92,Z 93,Z 94,Z 95,Z 96,Z 97,Z 98,Z 99,Z 100,Z 101,Z 102,Z 103,Z 104,Z 105,Z 106,Z 107,Z 108,Z 109,Z 110,Z 111,Z 112,Z 113,Z 114,Z 115,Z 116,Z 117,Z 118,Z 119,Z 120,Z 121,Z 122,Z 123,Z 124,Z 125,Z 126,Z 127,Z 128,Z 129,Z 130,Z 131,Z 132]) [[.int .i64 (n : Int), .int .i64 (n : Int), .slice A L.length cp]] (fun _ => none) V2 s) ?_ ?_
    · refine Gx.a (by kernel_rfl) fun K hK => ?_
      simp only [XA]
      refine hK _ ?_
      clear hK
      refine XWP.block ?_
      refine XWP.loop (fun q2 s => ∃ (j : Nat) (sm : Bool), StIs (fun Z => [Z 0, .v (.slice Au ws.length cu), .p 0 0, Z 3,Z 4,Z 5, .v (.bool (((clsL (qs L) n).take i).any af)), Z 7, .v (.slice Al l.length kl2), .v (.bool sm), .v (.int .i64 (j : Int)), Z 11,Z 12,Z 13,Z 14,Z 15,Z 16,Z 17,Z 18,Z 19,Z 20,Z 21,Z 22, .v (.slice (some ⟨b2, o2, none⟩) (clsL (qs L) n).length c2), .v (.int .i64 ((clsL (qs L) n).length : Int)), .v (.int .i64 (i : Int)), Z 26,Z 27,Z 28,Z 29,Z 30,Z 31,Z 32,Z 33,Z 34,Z 35,Z 36,Z 37,Z 38,Z 39,Z 40,Z 41,Z 42,Z 43,Z 44,Z 45,Z 46,Z 47,Z 48,Z 49,Z 50,Z 51,Z 52,Z 53,Z 54,Z 55,Z 56,Z 57,Z 58,Z 59,Z 60,Z 61,Z 62,Z 63,Z 64,Z 65,Z 66,Z 67,Z 68,Z 69,Z 70,Z 71,Z 72,Z 73,Z 74,Z 75,Z 76,Z 77,Z 78,Z 79,Z 80,Z 81,Z 82,Z 83,Z 84,Z 85,Z 86,Z 87,Z 88,Z 89,Z 90,Z 91,Z 92,Z 93,Z 94,Z 95,Z 96,Z 97,Z 98,Z 99,Z 100,Z 101,Z 102,Z 103,Z 104,Z 105,Z 106,Z 107,Z 108,Z 109,Z 110,Z 111,Z 112,Z 113,Z 114,Z 115,Z 116,Z 117,Z 118,Z 119,Z 120,Z 121,Z 122,Z 123,Z 124,Z 125,Z 126,Z 127,Z 128,Z 129,Z 130,Z 131,Z 132]) [[.int .i64 (n : Int), .int .i64 (n : Int), .slice A L.length cp]] (fun _ => none) V2 s ∧ q2 + j = l.length ∧ (sm = true → l.length = ws.length ∧ ∀ j', j' < j → (zs l)[j']? = ws[j']?) ∧ (sm = false → zs l ≠ ws)) l.length ⟨0, _, StIs.of (by exact rfl), by omega, fun g => ⟨of_decide_eq_true g, fun j' hj' => by omega⟩, fun g e => of_decide_eq_false g (by rw [← e]; simp [zs])⟩ ?_
      rintro q2 s ⟨j, sm, hs, hj, g1, g2⟩
      obtain ⟨z, rfl⟩ := hs.out
      try dsimp only
      clear hs
      refine XWP.seq ?_
      cases sm with
      | false =>
        have ef : af l = false := by rw [haf]; exact decide_eq_false (g2 rfl)
        refine Gx.a (by kernel_rfl) fun K hK => ?_
        simp only [XA, gateX, ↓reduceIte]
        refine hK _ ?_
        refine Gx.f rfl ?_
        refine XWP.exit ?_
        rw [ef]
        exact ⟨0, StIs.of (by exact rfl)⟩
      | true =>
      obtain ⟨g3, g4⟩ := g1 rfl
      by_cases hjl : j < l.length
      rotate_left
      · have ef : af l = true := by
          rw [haf]
          refine decide_eq_true (List.ext_getElem? fun j' => ?_)
          rcases Nat.lt_or_ge j' j with q | q
          · exact g4 j' q
          · rw [List.getElem?_eq_none (by simp [zs]; omega), List.getElem?_eq_none (by omega)]
        have b2 : decide ((j : Int) < (l.length : Int)) = false := decide_eq_false (by omega)
        refine Gx.a (by kernel_rfl) fun K hK => ?_
        simp only [XN, XA, XB, gateX, ↓reduceIte, beq_self_eq_true, b2]
        refine hK _ ?_
        refine Gx.f rfl ?_
        refine XWP.exit ?_
        rw [ef]
        exact ⟨0, StIs.of (by exact rfl)⟩
      have b2 : decide ((j : Int) < (l.length : Int)) = true := decide_eq_true (by omega)
      refine Gx.a (by kernel_rfl) fun K hK => ?_
      simp only [XN, XA, XB, gateX, ↓reduceIte, beq_self_eq_true, b2]
      refine hK _ ?_
      refine Gx.t rfl ?_
      refine XWP.skip ?_
      have hu2 := hu.mono intE_ok hV2
      obtain ⟨b3, o3, rfl⟩ := hx.addr (by omega)
      obtain ⟨b4, o4, rfl⟩ := hu2.addr (by omega)
      obtain ⟨y, rfl, p2, hy⟩ := hx.load j hjl
      obtain ⟨y', rfl, p3, hy'⟩ := hu2.load j (by omega)
      refine XWP.seq (XWP.block ?_)
      (refine XWP.drw1 [0, 1, 2, 3, 4, 5, 6, 7, 8, 9] (by kernel_rfl) (by kernel_rfl) (by kernel_rfl) fun K hK => ?_) <;> dsimp only [pickOps, List.getElem?_cons_zero, List.getElem?_cons_succ]
      simp only [XN, XA, XB]
      refine ⟨by omega, by omega, ld_mem (by simpa using hy _ 3 1 shapeT_3) ?_⟩
      simp only [XN, XA, XB]
      refine ⟨by omega, by omega, ld_mem (by simpa using hy' _ 3 1 shapeT_3) ?_⟩
      by_cases he : ((l[j] : Nat) : Int) = ws[j]'(by omega)
      · have b5 : decide (((l[j] : Nat) : Int) = ws[j]'(by omega)) = true := decide_eq_true he
        simp only [XA, XB, b5]
        refine hK _ ?_
        refine Gx.c (by kernel_rfl) fun K hK => ?_
        simp only [XA, XB, i64_succ j (by omega)]
        refine hK _ ⟨q2 - 1, by omega, j + 1, true, StIs.of (by exact rfl), by omega, fun _ => ⟨g3, fun j' hj' => ?_⟩, fun g => (by cases g)⟩
        by_cases ej : j' = j
        · subst ej
          unfold zs
          rw [List.getElem?_map, List.getElem?_eq_getElem hjl, List.getElem?_eq_getElem (by omega), Option.map_some, he]
        · exact g4 j' (by omega)
      · have b5 : decide (((l[j] : Nat) : Int) = ws[j]'(by omega)) = false := decide_eq_false he
        simp only [XA, XB, b5]
        refine hK _ ?_
        refine Gx.c (by kernel_rfl) fun K hK => ?_
        simp only [XA, XB, i64_succ j (by omega)]
        refine hK _ ⟨q2 - 1, by omega, j + 1, false, StIs.of (by exact rfl), by omega, fun g => (by cases g), fun _ e => he ?_⟩
        have := congrArg (fun l => l[j]?) e
        unfold zs at this
        simp only [List.getElem?_map, List.getElem?_eq_getElem hjl, List.getElem?_eq_getElem (show j < ws.length by omega), Option.map_some, Option.some.injEq] at this
        exact this
    rintro s ⟨_, hs⟩
    obtain ⟨z, rfl⟩ := hs.out
    try dsimp only
    clear hs
    have et : ((clsL (qs L) n).take (i + 1)).any af = (((clsL (qs L) n).take i).any af || af l) := by
      rw [List.take_succ_eq_append_getElem hi, List.any_append, ← hl]; simp
    cases ea : ((clsL (qs L) n).take i).any af
    · rw [ea, Bool.false_or] at et
      refine Gx.c (by kernel_rfl) fun K hK => ?_
      simp only [XA, gateX, ↓reduceIte, beq_self_eq_true]
      refine hK _ ?_
      refine Gx.c (by kernel_rfl) fun K hK => ?_
      simp only [XA, XB, i64_succ i (by omega)]
      exact hK _ ⟨q - 1, by omega, i + 1, StIs.of (by rw [et]; exact rfl), by omega⟩
    · rw [ea, Bool.true_or] at et
      refine Gx.c (by kernel_rfl) fun K hK => ?_
      simp only [XA, gateX, ↓reduceIte]
      refine hK _ ?_
      refine Gx.c (by kernel_rfl) fun K hK => ?_
      simp only [XA, XB, i64_succ i (by omega)]
      exact hK _ ⟨q - 1, by omega, i + 1, StIs.of (by rw [et]; exact rfl), by omega⟩
  rintro s ⟨V2, hs, hV2⟩
  obtain ⟨z, rfl⟩ := hs.out
  try dsimp only
  clear hs
  have hpe' := hpe
  cases ep : (clsL (qs L) n).any af
  · rw [ep] at hpe
    refine XWP.seq ?_
    refine Gx.a (by kernel_rfl) fun K hK => ?_
    simp only [XA]
    refine hK _ ?_
    refine Gx.t rfl ?_
    refine Gx.a (by kernel_rfl) fun K hK => ?_
    simp only [XA]
    refine hK _ (XWP.ret ?_)
    try simp only [thenX_ret, inBlockX_ret]
    refine ret_go _ rfl ?_
    exact ⟨fun _ => rfl, fun g => (by rw [hpe] at g; cases g)⟩
  rw [ep] at hpe
  refine XWP.seq ?_
  refine Gx.a (by kernel_rfl) fun K hK => ?_
  simp only [XA]
  refine hK _ ?_
  refine Gx.f rfl ?_
  refine XWP.skip ?_
  obtain ⟨C, hCm, hCe⟩ := List.any_eq_true.1 ep
  rw [haf] at hCe
  have hCe : zs C = ws := of_decide_eq_true hCe
  subst hCe
  have hC := (hu.mono intE_ok hV2).nats
  obtain ⟨hcon, hlt, h1C, hCn⟩ := cls_con hCm
  have lC : (zs C).length = C.length := by simp [zs]
  rw [lC] at hC lw hcu
  obtain ⟨bu, ou, rfl⟩ := hC.addr (by omega)
  have hck : ∀ i, i < C.length → ∀ V', V2.le V' → ∀ H', Loads Tryz.prog H' V' 3 bu (ou + i) (.int .i64 ((C.getD i 0 : Nat) : Int)) := fun i hi V' hV' H' => by
    obtain ⟨x, hx, _, hld⟩ := hC.load i hi
    have e0 : x = .int .i64 ((C.getD i 0 : Nat) : Int) := by rw [List.getD_eq_getElem?_getD, List.getElem?_eq_getElem hi]; exact hx
    subst e0
    exact Loads_up (fun H' => by simpa using hld H' 3 1 shapeT_3) hV' H'
  have hml : ∀ i, i < C.length → C.getD i 0 ∈ C := fun i hi => by rw [List.getD_eq_getElem?_getD, List.getElem?_eq_getElem hi]; exact List.getElem_mem hi
  obtain ⟨c0, hc0e⟩ : ∃ c0, c0 = C.getD 0 0 := ⟨_, rfl⟩
  have hc0n := hlt c0 (by rw [hc0e]; exact hml 0 (by omega))
  have hc0 : ∀ V', V2.le V' → ∀ H', Loads Tryz.prog H' V' 3 bu ou (.int .i64 (c0 : Int)) := fun V' hV' H' => by rw [hc0e]; exact hck 0 (by omega) V' hV' H'
  refine Gx.a (by kernel_rfl) fun K hK => ?_
  simp only [XM, XA, XB]
  refine mk_go rfl rfl elemT_117 zeroT_4 (by omega) (by omega) (by omega) (by omega) rfl (by omega) fun g hg1 hg2 => ?_
  simp only [XA, bvs_none]
  refine hK _ ?_
  refine Gx.a (by kernel_rfl) fun K hK => ?_
  simp only [XN, XA, XB, Int.reduceLE, lC]
  refine ⟨by omega, ?_⟩
  refine ld_mem (by simpa using hc0 V2 (View.le_refl _) _) ?_
  simp only [XN, XA, XB]
  refine ⟨by omega, by omega, ?_⟩
  have hg0 : upd (fun _ => none) g (some ⟨4, bvs n fun _ => false, n⟩) g = some ⟨4, bvs n fun _ => false, n⟩ := upd_at _ _ _
  refine st_row shapeT_4 rfl rfl hg0 (by dsimp only; rw [bvs_len]; omega) ?_
  simp only [XA, bvs_put]
  refine hK _ ?_
  have eS : bvs n (fun j => if j = c0 then true else false) = bvs n (setF (eM (qs L) n) C 0) := bvs_congr fun k _ => by
    rw [Bool.eq_iff_iff, setF_iff, ← hc0e]
    constructor
    · intro e
      have : k = c0 := by simpa using e
      rw [this]; exact .nil
    · intro e
      cases e
      simp
  rw [eS]
  have hg := upd_at (upd (fun _ => none) g (some ⟨4, bvs n fun _ => false, n⟩)) g (some ⟨4, bvs n (setF (eM (qs L) n) C 0), n⟩)
  generalize upd (upd (fun _ => none) g (some ⟨4, bvs n fun _ => false, n⟩)) g (some ⟨4, bvs n (setF (eM (qs L) n) C 0), n⟩) = H1 at *
  clear hg1 hg2 eS
  refine Gx.a (by kernel_rfl) fun K hK => ?_
  simp only [XA]
  refine hK _ ?_
  have hKK : C.length * C.length ≤ 400 := Nat.le_trans (Nat.mul_le_mul lw lw) (by decide)
  obtain ⟨M, hM⟩ : ∃ M, M = 2 * C.length * C.length + 2 := ⟨_, rfl⟩
  have hM2 : M ≤ 802 := by rw [hM, Nat.mul_assoc]; omega
  have w1 : IntKind.i64.wrap (2 * (C.length : Int)) = ((2 * C.length : Nat) : Int) := by rw [wrap_id (by omega) (by omega)]; omega
  have w2 : IntKind.i64.wrap (((2 * C.length : Nat) : Int) * (C.length : Int)) = ((2 * C.length * C.length : Nat) : Int) := by
    rw [← Int.natCast_mul, wrap_id (by omega) (by omega)]
  have w3 : IntKind.i64.wrap (((2 * C.length * C.length : Nat) : Int) + 2) = (M : Int) := by rw [wrap_id (by omega) (by omega)]; omega
  refine XWP.cutD 1 (fun s => ∃ (V5 : View) (H5 : Heap), StIs (fun Z => [Z 0,Z 1,Z 2,Z 3,Z 4,Z 5,Z 6,Z 7,Z 8,Z 9,Z 10,Z 11, .v (.int .i64 (pG (homeP (qs L) n C) M : Nat)), Z 13,Z 14,Z 15,Z 16,Z 17,Z 18,Z 19,Z 20,Z 21,Z 22,Z 23,Z 24,Z 25,Z 26,Z 27,Z 28,Z 29,Z 30,Z 31,Z 32,Z 33,Z 34,Z 35,Z 36,Z 37,Z 38,Z 39,Z 40,Z 41,Z 42,Z 43,Z 44,Z 45,Z 46,Z 47,Z 48,Z 49,Z 50,Z 51,Z 52,Z 53,Z 54,Z 55,Z 56,Z 57,Z 58,Z 59,Z 60,Z 61,Z 62,Z 63,Z 64,Z 65,Z 66,Z 67,Z 68,Z 69,Z 70,Z 71,Z 72,Z 73,Z 74,Z 75,Z 76,Z 77,Z 78,Z 79,Z 80,Z 81,Z 82,Z 83,Z 84,Z 85,Z 86,Z 87,Z 88,Z 89,Z 90,Z 91,Z 92,Z 93,Z 94,Z 95,Z 96,Z 97,Z 98,Z 99,Z 100,Z 101,Z 102,Z 103,Z 104,Z 105,Z 106,Z 107,Z 108,Z 109,Z 110,Z 111,Z 112,Z 113,Z 114,Z 115,Z 116,Z 117,Z 118,Z 119,Z 120,Z 121,Z 122,Z 123,Z 124,Z 125,Z 126,Z 127,Z 128,Z 129,Z 130,Z 131,Z 132]) [[.int .i64 (n : Int), .int .i64 (n : Int), .slice A L.length cp]] H5 V5 s) ?_ ?_
  · refine Gx.a (by kernel_rfl) fun K hK => ?_
    simp only [XA]
    refine hK _ ?_
    clear hK
    refine XWP.block ?_
    refine XWP.loopD 1 (fun q s => ∃ (m : Nat) (V5 : View) (H5 : Heap) (g : Nat), StIs (fun Z => [Z 0, .v (.slice (some ⟨bu, ou, none⟩) C.length cu), .p 0 0, Z 3,Z 4,Z 5,Z 6,Z 7,Z 8,Z 9,Z 10, .v (.slice (some ⟨g, 0, none⟩) n n), .v (.int .i64 (pG (homeP (qs L) n C) m : Nat)), .v (.int .i64 ((m + 1 : Nat) : Int)), Z 14,Z 15,Z 16,Z 17,Z 18,Z 19,Z 20,Z 21,Z 22,Z 23,Z 24,Z 25,Z 26,Z 27,Z 28,Z 29,Z 30,Z 31,Z 32,Z 33,Z 34,Z 35,Z 36,Z 37,Z 38,Z 39,Z 40,Z 41,Z 42,Z 43,Z 44,Z 45,Z 46,Z 47,Z 48,Z 49,Z 50,Z 51,Z 52,Z 53,Z 54,Z 55,Z 56,Z 57,Z 58,Z 59,Z 60,Z 61,Z 62,Z 63,Z 64,Z 65,Z 66,Z 67,Z 68,Z 69,Z 70,Z 71,Z 72,Z 73,Z 74,Z 75,Z 76,Z 77,Z 78,Z 79,Z 80,Z 81,Z 82,Z 83,Z 84,Z 85,Z 86,Z 87,Z 88,Z 89,Z 90,Z 91,Z 92,Z 93,Z 94,Z 95,Z 96,Z 97,Z 98,Z 99,Z 100,Z 101,Z 102,Z 103,Z 104,Z 105,Z 106,Z 107,Z 108,Z 109,Z 110,Z 111,Z 112,Z 113,Z 114,Z 115,Z 116,Z 117,Z 118,Z 119,Z 120,Z 121,Z 122,Z 123,Z 124,Z 125,Z 126,Z 127,Z 128,Z 129,Z 130,Z 131,Z 132]) [[.int .i64 (n : Int), .int .i64 (n : Int), .slice A L.length cp]] H5 V5 s ∧ q + m = M ∧ V2.le V5 ∧ H5 g = some ⟨4, bvs n (setF (eM (qs L) n) C m), n⟩) M ⟨0, V2, H1, g, StIs.of (by exact rfl), by omega, View.le_refl _, hg⟩ ?_
    clear hg
    rintro q s ⟨m, V5, H5, g, hs, hqm, hV5, hg⟩
    obtain ⟨z, rfl⟩ := hs.out
    try dsimp only
    clear hs
    refine XWP.seq ?_
    by_cases hm : m < M
    rotate_left
    · have em : m = M := by omega
      have b1 : decide (((m + 1 : Nat) : Int) ≤ (M : Int)) = false := decide_eq_false (by omega)
      refine Gx.a (by kernel_rfl) fun K hK => ?_
      simp only [XN, XA, XB, w1, w2, w3, b1]
      refine hK _ ?_
      refine Gx.f rfl ?_
      refine XWP.exit ?_
      subst em
      exact fun f => ⟨V5, H5, StIs.of (by exact rfl)⟩
    have b1 : decide (((m + 1 : Nat) : Int) ≤ (M : Int)) = true := decide_eq_true (by omega)
    refine Gx.a (by kernel_rfl) fun K hK => ?_
    simp only [XN, XA, XB, w1, w2, w3, b1]
    refine hK _ ?_
    refine Gx.t rfl ?_
    refine XWP.skip ?_
    refine XWP.cutD 1 (fun s => ∃ (V6 : View) (H6 : Heap) (g : Nat), StIs (fun Z => [Z 0, .v (.slice (some ⟨bu, ou, none⟩) C.length cu), .p 0 0, Z 3,Z 4,Z 5,Z 6,Z 7,Z 8,Z 9,Z 10, .v (.slice (some ⟨g, 0, none⟩) n n), .v (.int .i64 (pG (homeP (qs L) n C) (m + 1) : Nat)), .v (.int .i64 ((m + 1 : Nat) : Int)), Z 14,Z 15,Z 16,Z 17,Z 18,Z 19,Z 20,Z 21,Z 22,Z 23,Z 24,Z 25,Z 26,Z 27,Z 28,Z 29,Z 30,Z 31,Z 32,Z 33,Z 34,Z 35,Z 36,Z 37,Z 38,Z 39,Z 40,Z 41,Z 42,Z 43,Z 44,Z 45,Z 46,Z 47,Z 48,Z 49,Z 50,Z 51,Z 52,Z 53,Z 54,Z 55,Z 56,Z 57,Z 58,Z 59,Z 60,Z 61,Z 62,Z 63,Z 64,Z 65,Z 66,Z 67,Z 68,Z 69,Z 70,Z 71,Z 72,Z 73,Z 74,Z 75,Z 76,Z 77,Z 78,Z 79,Z 80,Z 81,Z 82,Z 83,Z 84,Z 85,Z 86,Z 87,Z 88,Z 89,Z 90,Z 91,Z 92,Z 93,Z 94,Z 95,Z 96,Z 97,Z 98,Z 99,Z 100,Z 101,Z 102,Z 103,Z 104,Z 105,Z 106,Z 107,Z 108,Z 109,Z 110,Z 111,Z 112,Z 113,Z 114,Z 115,Z 116,Z 117,Z 118,Z 119,Z 120,Z 121,Z 122,Z 123,Z 124,Z 125,Z 126,Z 127,Z 128,Z 129,Z 130,Z 131,Z 132]) [[.int .i64 (n : Int), .int .i64 (n : Int), .slice A L.length cp]] H6 V6 s ∧ V2.le V6 ∧ H6 g = some ⟨4, bvs n (setF (eM (qs L) n) C (m + 1)), n⟩) ?_ ?_
    · refine XWP.block ?_
      refine Gx.a (by kernel_rfl) fun K hK => ?_
      simp only [XM, XA, XB]
      refine mk_go rfl rfl elemT_117 zeroT_4 (by omega) (by omega) (by omega) (by omega) rfl (by omega) fun g2 hg21 hg22 => ?_
      simp only [XA, bvs_none]
      refine hK _ ?_
      have hne : g ≠ g2 := new_ne hg21 hg
      have fg : upd H5 g2 (some ⟨4, bvs n fun _ => false, n⟩) g = some ⟨4, bvs n (setF (eM (qs L) n) C m), n⟩ := (upd_off hne).trans hg
      have f2 := upd_at H5 g2 (some ⟨4, bvs n fun _ => false, n⟩)
      generalize upd H5 g2 (some ⟨4, bvs n fun _ => false, n⟩) = H6 at *
      clear hg21 hg22 hg
      refine XWP.cutD 1 (fun s => ∃ (V6 : View) (H6 : Heap) (t : Nat → Bool), StIs (fun Z => [Z 0, .v (.slice (some ⟨bu, ou, none⟩) C.length cu), .p 0 0, Z 3,Z 4,Z 5,Z 6,Z 7,Z 8,Z 9,Z 10,Z 11, .v (.int .i64 (pG (homeP (qs L) n C) m : Nat)), .v (.int .i64 ((m + 1 : Nat) : Int)), .v (.slice (some ⟨g2, 0, none⟩) n n), Z 15,Z 16,Z 17,Z 18,Z 19,Z 20,Z 21,Z 22,Z 23,Z 24,Z 25,Z 26,Z 27,Z 28,Z 29,Z 30,Z 31,Z 32,Z 33,Z 34,Z 35,Z 36,Z 37,Z 38,Z 39,Z 40,Z 41,Z 42,Z 43,Z 44,Z 45,Z 46,Z 47,Z 48,Z 49,Z 50,Z 51,Z 52,Z 53,Z 54,Z 55,Z 56,Z 57,Z 58,Z 59,Z 60,Z 61,Z 62,Z 63,Z 64,Z 65,Z 66,Z 67,Z 68,Z 69,Z 70,Z 71,Z 72,Z 73,Z 74,Z 75,Z 76,Z 77,Z 78,Z 79,Z 80,Z 81,Z 82,Z 83,Z 84,Z 85,Z 86,Z 87,Z 88,Z 89,Z 90,Z 91,Z 92,Z 93,Z 94,Z 95,Z 96,Z 97,Z 98,Z 99,Z 100,Z 101,Z 102,Z 103,Z 104,Z 105,Z 106,Z 107,Z 108,Z 109,Z 110,Z 111,Z 112,Z 113,Z 114,Z 115,Z 116,Z 117,Z 118,Z 119,Z 120,Z 121,Z 122,Z 123,Z 124,Z 125,Z 126,Z 127,Z 128,Z 129,Z 130,Z 131,Z 132]) [[.int .i64 (n : Int), .int .i64 (n : Int), .slice A L.length cp]] H6 V6 s ∧ V2.le V6 ∧ H6 g2 = some ⟨4, bvs n t, n⟩ ∧ NxP (eM (qs L) n) C (setF (eM (qs L) n) C m) C.length 0 t) ?_ ?_
      · refine Gx.a (by kernel_rfl) fun K hK => ?_
        simp only [XN, XA]
        refine hK _ ?_
        clear hK
        refine XWP.block ?_
        refine XWP.loopD 1 (fun q s => ∃ (i : Nat) (V6 : View) (H6 : Heap) (t : Nat → Bool), StIs (fun Z => [Z 0, .v (.slice (some ⟨bu, ou, none⟩) C.length cu), .p 0 0, Z 3,Z 4,Z 5,Z 6,Z 7,Z 8,Z 9,Z 10, .v (.slice (some ⟨g, 0, none⟩) n n), .v (.int .i64 (pG (homeP (qs L) n C) m : Nat)), .v (.int .i64 ((m + 1 : Nat) : Int)), .v (.slice (some ⟨g2, 0, none⟩) n n), Z 15,Z 16,Z 17,Z 18,Z 19,Z 20,Z 21,Z 22,Z 23,Z 24,Z 25,Z 26,Z 27,Z 28,Z 29,Z 30,Z 31,Z 32,Z 33,Z 34,Z 35,Z 36,Z 37,Z 38,Z 39,Z 40,Z 41,Z 42,Z 43,Z 44,Z 45,Z 46,Z 47,Z 48,Z 49,Z 50,Z 51,Z 52,Z 53,Z 54,Z 55,Z 56,Z 57,Z 58,Z 59,Z 60,Z 61,Z 62,Z 63,Z 64,Z 65,Z 66,Z 67,Z 68,Z 69,Z 70,Z 71,Z 72,Z 73,Z 74,Z 75,Z 76,Z 77,Z 78,Z 79,Z 80, .v (.slice (some ⟨bu, ou, none⟩) C.length cu), .v (.int .i64 (C.length : Int)), .v (.int .i64 (i : Int)), Z 84,Z 85,Z 86,Z 87,Z 88,Z 89,Z 90,Z 91,Z 92,Z 93,Z 94,Z 95,Z 96,Z 97,Z 98,Z 99,Z 100,Z 101,Z 102,Z 103,Z 104,Z 105,Z 106,Z 107,Z 108,Z 109,Z 110,Z 111,Z 112,Z 113,Z 114,Z 115,Z 116,Z 117,Z 118,Z 119,Z 120,Z 121,Z 122,Z 123,Z 124,Z 125,Z 126,Z 127,Z 128,Z 129,Z 130,Z 131,Z 132]) [[.int .i64 (n : Int), .int .i64 (n : Int), .slice A L.length cp]] H6 V6 s ∧ q + i = C.length ∧ V2.le V6 ∧ H6 g = some ⟨4, bvs n (setF (eM (qs L) n) C m), n⟩ ∧ H6 g2 = some ⟨4, bvs n t, n⟩ ∧ NxP (eM (qs L) n) C (setF (eM (qs L) n) C m) i 0 t) C.length ⟨0, V5, H6, _, StIs.of (by exact rfl), by omega, hV5, fg, f2, NxP.start _ _ _⟩ ?_
        clear fg f2
        rintro p s ⟨i, V6, H6, t, hs, hp, hV6, fg, f2, hN⟩
        obtain ⟨z, rfl⟩ := hs.out
        try dsimp only
        clear hs
        by_cases hi : i < C.length
        rotate_left
        · obtain rfl : i = C.length := by omega
          have b2 : decide ((C.length : Int) < (C.length : Int)) = false := decide_eq_false (by omega)
          refine Gx.a (by kernel_rfl) fun K hK => ?_
          simp only [XA, XB, b2]
          refine hK _ ?_
          refine XWP.seq (Gx.f rfl ?_)
          refine XWP.exit ?_
          exact fun f => ⟨V6, H6, t, StIs.of (by exact rfl), hV6, f2, hN⟩
        have b2 : decide ((i : Int) < (C.length : Int)) = true := decide_eq_true (by omega)
        refine Gx.a (by kernel_rfl) fun K hK => ?_
        simp only [XA, XB, b2]
        refine hK _ ?_
        refine XWP.seq (Gx.t rfl ?_)
        refine XWP.skip ?_
        obtain ⟨ci, hcie⟩ : ∃ ci, ci = C.getD i 0 := ⟨_, rfl⟩
        have hcin := hlt ci (by rw [hcie]; exact hml i hi)
        have hcil : ∀ V', V2.le V' → ∀ H', Loads Tryz.prog H' V' 3 bu (ou + i) (.int .i64 (ci : Int)) := fun V' hV' H' => by rw [hcie]; exact hck i hi V' hV' H'
        refine XWP.cutD 1 (fun s => ∃ (V6 : View) (H6 : Heap) (t : Nat → Bool), StIs (fun Z => [Z 0, .v (.slice (some ⟨bu, ou, none⟩) C.length cu), .p 0 0, Z 3,Z 4,Z 5,Z 6,Z 7,Z 8,Z 9,Z 10, .v (.slice (some ⟨g, 0, none⟩) n n), .v (.int .i64 (pG (homeP (qs L) n C) m : Nat)), .v (.int .i64 ((m + 1 : Nat) : Int)), .v (.slice (some ⟨g2, 0, none⟩) n n), Z 15,Z 16,Z 17,Z 18,Z 19,Z 20,Z 21,Z 22,Z 23,Z 24,Z 25,Z 26,Z 27,Z 28,Z 29,Z 30,Z 31,Z 32,Z 33,Z 34,Z 35,Z 36,Z 37,Z 38,Z 39,Z 40,Z 41,Z 42,Z 43,Z 44,Z 45,Z 46,Z 47,Z 48,Z 49,Z 50,Z 51,Z 52,Z 53,Z 54,Z 55,Z 56,Z 57,Z 58,Z 59,Z 60,Z 61,Z 62,Z 63,Z 64,Z 65,Z 66,Z 67,Z 68,Z 69,Z 70,Z 71,Z 72,Z 73,Z 74,Z 75,Z 76,Z 77,Z 78,Z 79,Z 80, .v (.slice (some ⟨bu, ou, none⟩) C.length cu), .v (.int .i64 (C.length : Int)), .v (.int .i64 (i : Int)), Z 84,Z 85,Z 86,Z 87,Z 88,Z 89,Z 90,Z 91,Z 92,Z 93,Z 94,Z 95,Z 96,Z 97,Z 98,Z 99,Z 100,Z 101,Z 102,Z 103,Z 104,Z 105,Z 106,Z 107,Z 108,Z 109,Z 110,Z 111,Z 112,Z 113,Z 114,Z 115,Z 116,Z 117,Z 118,Z 119,Z 120,Z 121,Z 122,Z 123,Z 124,Z 125,Z 126,Z 127,Z 128,Z 129,Z 130,Z 131,Z 132]) [[.int .i64 (n : Int), .int .i64 (n : Int), .slice A L.length cp]] H6 V6 s ∧ V2.le V6 ∧ H6 g = some ⟨4, bvs n (setF (eM (qs L) n) C m), n⟩ ∧ H6 g2 = some ⟨4, bvs n t, n⟩ ∧ NxP (eM (qs L) n) C (setF (eM (qs L) n) C m) (i + 1) 0 t) ?_ ?_
        · refine XWP.block ?_
          refine Gx.a (by kernel_rfl) fun K hK => ?_
          simp only [XN, XA, XB]
          refine ⟨by omega, by omega, ld_mem (by simpa using hcil V6 hV6 _) ?_⟩
          simp only [XA]
          refine hK _ ?_
          refine Gx.a (by kernel_rfl) fun K hK => ?_
          simp only [XN, XA]
          refine hK _ ?_
          clear hK
          refine XWP.block ?_
          refine XWP.loopD 1 (fun q s => ∃ (k : Nat) (V6 : View) (H6 : Heap) (t : Nat → Bool), StIs (fun Z => [Z 0, .v (.slice (some ⟨bu, ou, none⟩) C.length cu), .p 0 0, Z 3,Z 4,Z 5,Z 6,Z 7,Z 8,Z 9,Z 10, .v (.slice (some ⟨g, 0, none⟩) n n), .v (.int .i64 (pG (homeP (qs L) n C) m : Nat)), .v (.int .i64 ((m + 1 : Nat) : Int)), .v (.slice (some ⟨g2, 0, none⟩) n n), Z 15, .v (.int .i64 (ci : Int)), Z 17,Z 18,Z 19,Z 20,Z 21,Z 22,Z 23,Z 24,Z 25,Z 26,Z 27,Z 28,Z 29,Z 30,Z 31,Z 32,Z 33,Z 34,Z 35,Z 36,Z 37,Z 38,Z 39,Z 40,Z 41,Z 42,Z 43,Z 44,Z 45,Z 46,Z 47,Z 48,Z 49,Z 50,Z 51,Z 52,Z 53,Z 54,Z 55,Z 56,Z 57,Z 58,Z 59,Z 60,Z 61,Z 62,Z 63,Z 64,Z 65,Z 66,Z 67,Z 68,Z 69,Z 70,Z 71,Z 72,Z 73,Z 74,Z 75,Z 76,Z 77,Z 78,Z 79,Z 80, .v (.slice (some ⟨bu, ou, none⟩) C.length cu), .v (.int .i64 (C.length : Int)), .v (.int .i64 (i : Int)), Z 84,Z 85,Z 86, .v (.slice (some ⟨bu, ou, none⟩) C.length cu), .v (.int .i64 (C.length : Int)), .v (.int .i64 (k : Int)), Z 90,Z 91,Z 92,Z 93,Z 94,Z 95,Z 96,Z 97,Z 98,Z 99,Z 100,Z 101,Z 102,Z 103,Z 104,Z 105,Z 106,Z 107,Z 108,Z 109,Z 110,Z 111,Z 112,Z 113,Z 114,Z 115,Z 116,Z 117,Z 118,Z 119,Z 120,Z 121,Z 122,Z 123,Z 124,Z 125,Z 126,Z 127,Z 128,Z 129,Z 130,Z 131,Z 132]) [[.int .i64 (n : Int), .int .i64 (n : Int), .slice A L.length cp]] H6 V6 s ∧ q + k = C.length ∧ V2.le V6 ∧ H6 g = some ⟨4, bvs n (setF (eM (qs L) n) C m), n⟩ ∧ H6 g2 = some ⟨4, bvs n t, n⟩ ∧ NxP (eM (qs L) n) C (setF (eM (qs L) n) C m) i k t) C.length ⟨0, V6, H6, t, StIs.of (by exact rfl), by omega, hV6, fg, f2, hN⟩ ?_
          clear fg f2 hN hV6
          rintro p2 s ⟨k, V6, H6, t, hs, hp2, hV6, fg, f2, hN⟩
          obtain ⟨z, rfl⟩ := hs.out
          try dsimp only
          clear hs
          by_cases hk : k < C.length
          rotate_left
          · obtain rfl : k = C.length := by omega
            have b3 : decide ((C.length : Int) < (C.length : Int)) = false := decide_eq_false (by omega)
            refine Gx.a (by kernel_rfl) fun K hK => ?_
            simp only [XA, XB, b3]
            refine hK _ ?_
            refine XWP.seq (Gx.f rfl ?_)
            refine XWP.exit ?_
            exact fun f => ⟨V6, H6, t, StIs.of (by exact rfl), hV6, fg, f2, hN.row⟩
          have b3 : decide ((k : Int) < (C.length : Int)) = true := decide_eq_true (by omega)
          refine Gx.a (by kernel_rfl) fun K hK => ?_
          simp only [XA, XB, b3]
          refine hK _ ?_
          refine XWP.seq (Gx.t rfl ?_)
          refine XWP.skip ?_
          obtain ⟨ck, hcke⟩ : ∃ ck, ck = C.getD k 0 := ⟨_, rfl⟩
          have hckn := hlt ck (by rw [hcke]; exact hml k hk)
          have hckl : ∀ V', V2.le V' → ∀ H', Loads Tryz.prog H' V' 3 bu (ou + k) (.int .i64 (ck : Int)) := fun V' hV' H' => by rw [hcke]; exact hck k hk V' hV' H'
          refine XWP.cutD 1 (fun s => ∃ (V6 : View) (H6 : Heap) (t : Nat → Bool), StIs (fun Z => [Z 0, .v (.slice (some ⟨bu, ou, none⟩) C.length cu), .p 0 0, Z 3,Z 4,Z 5,Z 6,Z 7,Z 8,Z 9,Z 10, .v (.slice (some ⟨g, 0, none⟩) n n), .v (.int .i64 (pG (homeP (qs L) n C) m : Nat)), .v (.int .i64 ((m + 1 : Nat) : Int)), .v (.slice (some ⟨g2, 0, none⟩) n n), Z 15, .v (.int .i64 (ci : Int)), Z 17,Z 18,Z 19,Z 20,Z 21,Z 22,Z 23,Z 24,Z 25,Z 26,Z 27,Z 28,Z 29,Z 30,Z 31,Z 32,Z 33,Z 34,Z 35,Z 36,Z 37,Z 38,Z 39,Z 40,Z 41,Z 42,Z 43,Z 44,Z 45,Z 46,Z 47,Z 48,Z 49,Z 50,Z 51,Z 52,Z 53,Z 54,Z 55,Z 56,Z 57,Z 58,Z 59,Z 60,Z 61,Z 62,Z 63,Z 64,Z 65,Z 66,Z 67,Z 68,Z 69,Z 70,Z 71,Z 72,Z 73,Z 74,Z 75,Z 76,Z 77,Z 78,Z 79,Z 80, .v (.slice (some ⟨bu, ou, none⟩) C.length cu), .v (.int .i64 (C.length : Int)), .v (.int .i64 (i : Int)), Z 84,Z 85,Z 86, .v (.slice (some ⟨bu, ou, none⟩) C.length cu), .v (.int .i64 (C.length : Int)), .v (.int .i64 (k : Int)), Z 90,Z 91,Z 92,Z 93,Z 94,Z 95,Z 96,Z 97,Z 98,Z 99,Z 100,Z 101,Z 102,Z 103,Z 104,Z 105,Z 106,Z 107,Z 108,Z 109,Z 110,Z 111,Z 112,Z 113,Z 114,Z 115,Z 116,Z 117,Z 118,Z 119,Z 120,Z 121,Z 122,Z 123,Z 124,Z 125,Z 126,Z 127,Z 128,Z 129,Z 130,Z 131,Z 132]) [[.int .i64 (n : Int), .int .i64 (n : Int), .slice A L.length cp]] H6 V6 s ∧ V2.le V6 ∧ H6 g = some ⟨4, bvs n (setF (eM (qs L) n) C m), n⟩ ∧ H6 g2 = some ⟨4, bvs n t, n⟩ ∧ NxP (eM (qs L) n) C (setF (eM (qs L) n) C m) i (k + 1) t) ?_ ?_
          · refine XWP.block ?_
            refine Gx.a (by kernel_rfl) fun K hK => ?_
            simp only [XN, XA, XB]
            refine ⟨by omega, by omega, ld_mem (by simpa using hckl V6 hV6 _) ?_⟩
            simp only [XA]
            refine hK _ ?_
            refine Gx.c (by kernel_rfl) fun K hK => ?_
            simp only [XN, XA, XB]
            refine ⟨by omega, by omega, ?_⟩
            refine ld_mem (ldH1 f2 (by simpa using bvs_get (r := t) hckn) shapeT_4) ?_
            cases ht : t ck
            rotate_left
            · simp (maxSteps := 2000000) only [XM, XN, XA, XB, gateX, Nat.reduceAdd, Nat.reduceLeDiff, Nat.reduceSub, Nat.reduceMul, ↓reduceIte, Int.reduceToNat, Int.reduceLE, beq_self_eq_true]
              refine ⟨by omega, by omega, ?_⟩
              refine st_row shapeT_4 rfl rfl f2 (by dsimp only; rw [bvs_len]; omega) ?_
              simp only [XA, bvs_put]
              have hN' := hN.step hk (x := true) (by rw [← hcke, ht]; rfl)
              rw [← hcke] at hN'
              exact hK _ fun f => ⟨V6, _, _, StIs.of (by exact rfl), hV6, (upd_off hne).trans fg, upd_at _ _ _, hN'⟩
            simp only [XN, XA, XB, gateX, ↓reduceIte, beq_self_eq_true]
            refine ⟨by omega, by omega, ?_⟩
            refine ld_mem (ldH1 fg (by simpa using bvs_get (r := setF (eM (qs L) n) C m) hcin) shapeT_4) ?_
            cases hsi : setF (eM (qs L) n) C m ci
            · simp only [XN, XA, XB, gateX, ↓reduceIte, beq_self_eq_true]
              refine ⟨by omega, by omega, ?_⟩
              refine st_row shapeT_4 rfl rfl f2 (by dsimp only; rw [bvs_len]; omega) ?_
              simp only [XA, bvs_put]
              have hN' := hN.step hk (x := false) (by rw [← hcke, ← hcie, ht, hsi]; rfl)
              rw [← hcke] at hN'
              exact hK _ fun f => ⟨V6, _, _, StIs.of (by exact rfl), hV6, (upd_off hne).trans fg, upd_at _ _ _, hN'⟩
            have hp3 := pos_lt hcin hckn
            have hv6 := (hr.up hV2).up hV6
            obtain ⟨bA, oA, rfl⟩ := SlAt.addr hv6 (by omega)
            obtain ⟨m8, n8, d8, hx8, _, hld8⟩ := Rats.get hv6 (ci * n + ck) (by omega)
            have w4 := wr_mul (i := ci) (C := n) (by omega) (by omega)
            have w5 := wr_add (p := ci * n) (k := ck) (by omega) (by omega)
            have q8 := (hq _ (cf_mem (l := qs L) (i := ci * n + ck) (by omega))).qf (by omega)
            simp only [XM, XA, XB, gateX, ↓reduceIte, beq_self_eq_true, w4, w5]
            refine ⟨by omega, by omega, ld_mem (hld8 _) ?_⟩
            simp only [XA, gateX, ↓reduceIte, beq_self_eq_true]
            refine call_go (by kernel_rfl) rfl (psign_c _ _ _ (hx8.toV q8)) fun v8 V8 hV8 h8 => ?_
            subst h8
            have es := sgI_pos (hS.nn ci ck hcin hckn)
            unfold gridL at es
            have hx' : decide (cf (qs L) (ci * n + ck) ≠ 0) = eM (qs L) n ci ck := rfl
            rw [hx'] at es
            simp only [XN, XA, XB, gateX, ↓reduceIte, beq_self_eq_true, es]
            refine ⟨by omega, by omega, ?_⟩
            refine st_row shapeT_4 rfl rfl f2 (by dsimp only; rw [bvs_len]; omega) ?_
            simp only [XA, bvs_put]
            have hN' := hN.step hk (x := eM (qs L) n ci ck) (by rw [← hcke, ← hcie, ht, hsi]; simp)
            rw [← hcke] at hN'
            exact hK _ fun f => ⟨V8, _, _, StIs.of (by exact rfl), View.le_trans hV6 hV8, (upd_off hne).trans fg, upd_at _ _ _, hN'⟩
          rintro s ⟨V7, H7, t, hs, hV7, fg, f2, hN⟩
          obtain ⟨z, rfl⟩ := hs.out
          try dsimp only
          refine Gx.c (by kernel_rfl) fun K hK => ?_
          simp only [XA, XB, i64_succ k (by omega)]
          exact hK _ ⟨p2 - 1, by omega, fun f => ⟨k + 1, V7, H7, t, StIs.of (by exact rfl), by omega, hV7, fg, f2, hN⟩⟩
        rintro s ⟨V7, H7, t, hs, hV7, fg, f2, hN⟩
        obtain ⟨z, rfl⟩ := hs.out
        try dsimp only
        refine Gx.c (by kernel_rfl) fun K hK => ?_
        simp only [XA, XB, i64_succ i (by omega)]
        exact hK _ ⟨p - 1, by omega, fun f => ⟨i + 1, V7, H7, t, StIs.of (by exact rfl), by omega, hV7, fg, f2, hN⟩⟩
      clear fg f2
      rintro s ⟨V6, H6, t, hs, hV6, f2, hN⟩
      obtain ⟨z, rfl⟩ := hs.out
      try dsimp only
      clear hs
      rw [bvs_congr fun k _ => hN.done h1C k] at f2
      have hgl := pG_le (homeP (qs L) n C) m
      refine Gx.a (by kernel_rfl) fun K hK => ?_
      simp only [XA]
      refine hK _ ?_
      refine Gx.a (by kernel_rfl) fun K hK => ?_
      simp only [XN, XA, XB, Int.reduceLE]
      refine ⟨by omega, ?_⟩
      refine ld_mem (by simpa using hc0 V6 hV6 _) ?_
      simp only [XN, XA, XB]
      refine ⟨by omega, by omega, ?_⟩
      refine ld_mem (ldH1 f2 (by simpa using bvs_get (r := setF (eM (qs L) n) C (m + 1)) hc0n) shapeT_4) ?_
      cases hs0 : setF (eM (qs L) n) C (m + 1) c0
      · have e0 : pG (homeP (qs L) n C) (m + 1) = pG (homeP (qs L) n C) m := pG_no fun g => by
          rw [setF_iff.2 (show Wk (eM (qs L) n) C (C.getD 0 0) (m + 1) c0 by rw [hc0e]; exact g)] at hs0
          cases hs0
        simp only [XA]
        refine hK _ ?_
        refine Gx.f rfl ?_
        refine XWP.skip ?_
        rw [e0]
        exact fun f => ⟨V6, H6, g2, StIs.of (by exact rfl), hV6, f2⟩
      · have e0 : pG (homeP (qs L) n C) (m + 1) = Nat.gcd (pG (homeP (qs L) n C) m) (m + 1) := pG_yes (by
          have := setF_iff.1 hs0
          rw [hc0e] at this; exact this)
        simp only [XA]
        refine hK _ ?_
        refine Gx.t rfl ?_
        refine Gx.c (by kernel_rfl) fun K hK => ?_
        simp only [XA]
        refine call_go (by kernel_rfl) rfl (dgcd_c _ _ (m + 1) (by omega) (by omega)) fun v8 V8 hV8 h8 => ?_
        subst h8
        simp only [XA]
        refine hK _ ?_
        rw [e0]
        exact fun f => ⟨V8, H6, g2, StIs.of (by exact rfl), View.le_trans hV6 hV8, f2⟩
    rintro s ⟨V6, H6, g2, hs, hV6, hg⟩
    obtain ⟨z, rfl⟩ := hs.out
    try dsimp only
    refine Gx.c (by kernel_rfl) fun K hK => ?_
    simp only [XA, XB, i64_succ (m + 1) (by omega)]
    exact hK _ ⟨q - 1, by omega, fun f => ⟨m + 1, V6, H6, g2, StIs.of (by exact rfl), by omega, hV6, hg⟩⟩
  rintro s ⟨V5, H5, hs⟩
  obtain ⟨z, rfl⟩ := hs.out
  try dsimp only
  refine Gx.a (by kernel_rfl) fun K hK => ?_
  simp only [XA]
  refine hK _ (XWP.ret ?_)
  try simp only [thenX_ret, inBlockX_ret]
  refine ret_go _ rfl ?_
  refine ⟨fun g => (by rw [hpe] at g; cases g), fun _ D hD => ?_⟩
  have : D = C := zs_inj hD
  subst this
  rw [hM]
  rfl
end Go.Proofs.YtkgmicakfmllmaaGreat
end
section
namespace Go.Proofs.YtkgmicakfmllmaaGreat
set_option linter.unusedVariables false
end Go.Proofs.YtkgmicakfmllmaaGreat
end
section
namespace Go.Proofs.YtkgmicakfmllmaaGreat
end Go.Proofs.YtkgmicakfmllmaaGreat
end
section
namespace Go.Proofs.YtkgmicakfmllmaaGreat
end Go.Proofs.YtkgmicakfmllmaaGreat
end
section
namespace Go.Proofs.YtkgmicakfmllmaaGreat
open Go Go.RowKit
set_option linter.unusedSimpArgs false
set_option linter.unusedVariables false
attribute [local irreducible] XWP Spec SpecO XPub XCall seqX clX apX stX ldX iaX slX
end Go.Proofs.YtkgmicakfmllmaaGreat
end
section
namespace Go.Proofs.YtkgmicakfmllmaaGreat
open Go Go.RowKit
set_option linter.unusedSimpArgs false
set_option linter.unusedVariables false
attribute [local irreducible] XWP Spec SpecO XPub XCall seqX clX apX stX ldX iaX slX
noncomputable def perV (r c : Int) (L : List Raw) (ws : List Int) : Nat := if perB r c L ws = true then pG (homeP (qs L) r.toNat (ws.map Int.toNat)) (2 * (ws.map Int.toNat).length * (ws.map Int.toNat).length + 2) else 0
noncomputable def perE (r c : Int) (L : List Raw) (ws : List Int) : Int := if perB r c L ws = true then 0 else 1
theorem per_norm {r c : Int} {L : List Raw} {ws : List Int} {v : Value} (h : (perB r c L ws = false → v = .tuple #[.int .i64 0, .int .i64 1]) ∧ (perB r c L ws = true → ∀ C, zs C = ws → v = .tuple #[.int .i64 (pG (homeP (qs L) r.toNat C) (2 * C.length * C.length + 2) : Nat), .int .i64 0])) :
    v = .tuple #[.int .i64 (perV r c L ws : Int), .int .i64 (perE r c L ws)] := by
  unfold perV perE
  cases e : perB r c L ws
  · rw [h.1 e, if_neg (by decide), if_neg (by decide)]; rfl
  · have e2 := e
    unfold perB at e2
    rw [Bool.and_eq_true] at e2
    obtain ⟨C, _, hC⟩ := List.any_eq_true.1 e2.2
    have hC : zs C = ws := of_decide_eq_true hC
    have em : ws.map Int.toNat = C := by
      rw [← hC]
      unfold zs
      rw [List.map_map]
      have : Int.toNat ∘ (fun (k : Nat) => (k : Int)) = id := by funext k; simp
      rw [this, List.map_id]
    rw [h.2 e C hC, if_pos rfl, if_pos rfl, em]
set_option maxHeartbeats 4000000 in
theorem periods34_c (V : View) (s u : Value) (r c : Int) (M : List Raw) (ws : List Int) (hs : Raws V s M) (hu : Sl1 intE V u ws) : Spec Tryz.prog 6 [.agg #[.int .i64 r, .int .i64 c, s], u] V fun v' V' => v' = .bool true := by
  obtain ⟨A1, c1, rfl, _, _⟩ := hs.form
  obtain ⟨Au, cu, rfl, hcu, hmu⟩ := hu.form
  refine (Spec.enter Tryz.func6 rfl fun Γ => ?_)
  simp only [Tryz.ntmps6, List.map_cons, List.map_nil, List.length_cons, List.length_nil, Nat.reduceAdd, Nat.reduceSub, List.replicate_succ, List.replicate_zero, List.cons_append, List.nil_append]
  refine Gx.a (by kernel_rfl) fun K hK => ?_
  simp only [XA]
  refine hK _ ?_
  refine XWP.seq ?_
  refine Gx.a (by kernel_rfl) fun K hK => ?_
  simp only [XM, XA, Nat.reduceAdd, Nat.reduceLeDiff, ↓reduceIte]
  refine call_go (by kernel_rfl) rfl (fine34_c _ _ r c M hs) fun v1 V1 hV1 k1 => ?_
  subst k1
  cases e1 : fineB r c M
  · simp only [XA, gateX, ↓reduceIte]
    refine hK _ ?_
    refine Gx.t rfl ?_
    refine Gx.a (by kernel_rfl) fun K hK => ?_
    simp only [XA]
    refine hK _ (XWP.ret ?_)
    try simp only [thenX_ret, inBlockX_ret]
    refine ret_go _ rfl ?_
    rfl
  obtain ⟨f1, f2, f3, f4⟩ := fineB_few e1
  have fM := f4.fit
  have qM := fewR_QB f4 (Raws.dig hs)
  have hs := hs.up hV1
  have hu := hu.mono intE_ok hV1
  by_cases lw : ws.length ≤ 20
  rotate_left
  · have b1 : decide ((20 : Int) < (ws.length : Int)) = true := decide_eq_true (by omega)
    simp only [XN, XA, XB, gateX, ↓reduceIte, beq_self_eq_true, b1]
    refine hK _ ?_
    refine Gx.t rfl ?_
    refine Gx.a (by kernel_rfl) fun K hK => ?_
    simp only [XA]
    refine hK _ (XWP.ret ?_)
    try simp only [thenX_ret, inBlockX_ret]
    refine ret_go _ rfl ?_
    rfl
  have b1 : decide ((20 : Int) < (ws.length : Int)) = false := decide_eq_false (by omega)
  simp only [XN, XA, XB, gateX, ↓reduceIte, beq_self_eq_true, b1]
  refine hK _ ?_
  refine Gx.f rfl ?_
  refine XWP.skip ?_
  refine Gx.a (by kernel_rfl) fun K hK => ?_
  simp only [XM, XA, Nat.reduceAdd, Nat.reduceLeDiff, ↓reduceIte]
  refine call_go (by kernel_rfl) rfl (bperiod_c _ _ _ r c M 96 ws hs hu lw fM (by omega) (fun _ => qM) (by omega)) fun v2 V2 hV2 k2 => ?_
  have k2 := per_norm k2
  subst k2
  simp only [XA]
  refine hK _ ?_
  have hs := hs.up hV2
  have hu := hu.mono intE_ok hV2
  refine Gx.a (by kernel_rfl) fun K hK => ?_
  simp only [XM, XA, Nat.reduceAdd, Nat.reduceLeDiff, ↓reduceIte]
  refine call_go (by kernel_rfl) rfl (of34_c _ _ _ _ rfl rfl rfl) fun v4 V4 hV4 h4 => ?_
  subst h4
  simp only [XA]
  refine call_go (by kernel_rfl) rfl (dperiod_c _ _ _ r c M 96 ws (hs.up hV4) (hu.mono intE_ok hV4) lw fM (by omega) qM (by omega)) fun v5 V5 hV5 k5 => ?_
  have k5 := per_norm k5
  subst k5
  simp only [XA]
  refine hK _ ?_
  refine Gx.a (by kernel_rfl) fun K hK => ?_
  simp only [XA, XB, gateX, ↓reduceIte, beq_self_eq_true, decide_true]
  refine call_go (by kernel_rfl) rfl (alive34_c _) fun v6 V6 hV6 k6 => ?_
  subst k6
  simp only [XA, ↓reduceIte]
  refine hK _ (XWP.ret ?_)
  try simp only [thenX_ret, inBlockX_ret]
  refine ret_go _ rfl ?_
  rfl
end Go.Proofs.YtkgmicakfmllmaaGreat
end
section
namespace Go.Proofs.YtkgmicakfmllmaaGreat.balancePeriods
open Go.ChangeShapes Go.WideShapes Go.ChangeAt Go.RowKit
set_option linter.unusedVariables false
theorem own : ownKnob Tryz.prog.godebug = none := by kernel_rfl
theorem laidOut : laidOutB Tryz.prog = true := by kernel_rfl
set_option maxRecDepth 100000 in
theorem lifted (os : Os) (started : os.Started) (H : Type) (enc : TypeId × Value → H) :
    ReturnsInHanded {} Tryz.checked os 6 .any (Rows.balancePeriodsSpec.pre6 enc Tryz.prog Tryz.f6 Rows.balancePeriodsRow.domain false) (Rows.balancePeriodsSpec.post enc Tryz.prog Tryz.f6 false true false false) := by
  refine returnsInHanded_of_change_sized (C := Tryz.checked) own started (by kernel_rfl) Tryz.func6
    (ChangeSpec.witness6 (enc := enc) (C := Tryz.checked) false ⟨#[], #[.agg #[.int .i64 0, .int .i64 0, .slice none 0 0], .slice none 0 0], []⟩ 8 (by kernel_rfl) (by kernel_rfl) (by kernel_rfl) (by kernel_rfl)) ?_
  intro W base args ds gs before hval0 hW hcnd hsz0 _
  have hval : ∀ (j : Nat) t v, Tryz.f6.params[j]? = some t → args[j]? = some v → Value.okWide Tryz.prog W .any base t v := hval0
  have hW' := hW
  obtain ⟨p, q, hA0, hV, rfl, hfz, hnd⟩ := hW
  have hA : DataW.TrodAll enc Tryz.prog W 0 (fun _ => true) true Tryz.f6.params.toList args.toList ds p := hA0
  rw [Tryz.params6] at hA hval
  obtain ⟨v0, vs0, d0, ds0, p0, q0, hargs, rfl, rfl, h0, r0⟩ := trodAll_cons hA
  obtain ⟨v1, vs1, d1, ds1, p1, q1, rfl, rfl, rfl, h1, r1⟩ := trodAll_cons r0
  obtain ⟨rfl, rfl, rfl⟩ := trodAll_nil r1
  obtain rfl : args = #[v0, v1] := by cases args; simp_all
  obtain ⟨rfl, rfl⟩ := trodVars_none hV
  obtain ⟨c0, rfl, _⟩ := okWide_struct und_mat (hval 0 24 v0 rfl rfl)
  have k0 := h0
  have lt0 : ∀ x ∈ p0, x.block < W.heap.size := by obtain ⟨m, hm⟩ := k0; exact DataW.trod_lt m _ _ _ hm
  obtain ⟨fuel0, hf0⟩ := h0
  obtain ⟨r0r, r0c, s0, L0, j0, hL0⟩ := open_mat hf0
  obtain rfl : c0 = #[.int .i64 r0r, .int .i64 r0c, s0] := by cases c0; simpa [Value.cells] using j0
  obtain ⟨a1, len1, cap1, rfl⟩ := okWide_slice (und_elem (P := Tryz.prog) (e := 3) (by kernel_rfl)) (hval 1 34 v1 rfl rfl)
  have k1 := h1
  have lt1 : ∀ x ∈ p1, x.block < W.heap.size := by obtain ⟨m, hm⟩ := k1; exact DataW.trod_lt m _ _ _ hm
  obtain ⟨fuel1, hf1⟩ := h1
  obtain ⟨L1, hL1⟩ := open_ilist hf1
  clear hA0 hval0 hsz0
  refine (periods34_c (viewW W) _ _ r0r r0c L0 L1 hL0 hL1 W (viewW_sub W)).mono fun e W' ⟨v, V', he, _, _, _, bel, hv⟩ => ?_
  subst hv
  subst he
  exact ⟨_, rfl, _, _, _, [], _, [], hW', trodAll_mk1 (shut_bool Tryz.underlying4 _), (trodAll_cons_mk (Below.trod laidOut (by kernel_rfl) (of_decide_eq_true (by kernel_rfl)) k0 bel lt0) (trodAll_cons_mk (Below.trod laidOut (by kernel_rfl) (of_decide_eq_true (by kernel_rfl)) k1 bel lt1) trodAll_mk0)), rfl, bel.frame _, fun h => by cases h⟩
theorem over : Rows.balancePeriodsRow.holds Tryz.pinned (OpenSpec.ofChange Rows.balancePeriodsSpec) :=
  OpenClaim.holds_of_wide 6 Tryz.f6 rfl rfl rfl rfl rfl rfl rfl ⟨rfl, rfl, rfl, rfl, rfl⟩ rfl rfl rfl rfl rfl (by kernel_rfl) Tryz.func6 (by kernel_rfl)
    (of_decide_eq_true (by kernel_rfl)) (by unfold Func.isWrapper; first | (rw [if_pos (by decide +kernel)]; kernel_rfl) | (rw [if_neg (by decide +kernel)]; exact ⟨rfl, rfl⟩))
    (fun os started H enc _ => lifted os started H enc)
theorem proved : Rows.BalancePeriodsSaid := over
#print axioms proved
end Go.Proofs.YtkgmicakfmllmaaGreat.balancePeriods
namespace Go.Proofs.YtkgmicakfmllmaaGreat
/-- The row, under a short name, for the claim. -/
theorem balancePeriods_holds : Rows.BalancePeriodsSaid := balancePeriods.proved
end Go.Proofs.YtkgmicakfmllmaaGreat
end
