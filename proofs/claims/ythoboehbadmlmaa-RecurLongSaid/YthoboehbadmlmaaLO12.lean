/- The law RecurLong of the program answers true at every input. (part 12 of 12) -/
import Derived.OrdersHeld
import Derived.Below
import Derived.Tactics
import Derived.KernelRfl
import Derived.RangeFuncCalls
import Derived.RangeFuncFrom
import Derived.RangeFuncLeaves
import Derived.OrdersIn
import Derived.Laws.AppendOwn
import Derived.Laws.MakeOwn
import Derived.Laws.CopyRow
import Derived.Laws.Cells
import Derived.Laws.World
import Derived.Laws.Alloc2
import Derived.Laws.NewBlocks
import Derived.Maps.AppendAt
import Derived.Test.YthoboehbadmlmaaProg
import Init.Data.List.Lemmas
import Init.Omega
import Derived.WalkKit
import Derived.ProofKit
import Derived.OpenShut
import Derived.ChangeOld
import Derived.SizedLaws
import Derived.ChangeSlices
import Derived.ChangeArms
import Derived.Deep.Slices
import Derived.Test.YthoboehbadmlmaaRows
import Derived.ShutString
import Derived.Test.YthoboehbadmlmaaLO11
section
namespace Go.Proofs.Ythoboehbadmlmaa
open Go Go.RowKit
set_option linter.unusedSimpArgs false
set_option linter.unusedVariables false
attribute [local irreducible] XWP Spec SpecO XPub XCall seqX clX apX stX ldX iaX slX
theorem tmod_pos {a : Int} : ∃ n : Nat, (a.tmod 401 + 401).tmod 401 = (n : Int) ∧ n ≤ 400 := by
  have h1 := Int.tmod_lt_of_pos a (show (0 : Int) < 401 by omega)
  have h2 : -401 < a.tmod 401 := by
    have := Int.tmod_lt_of_pos (-a) (show (0 : Int) < 401 by omega)
    rw [Int.neg_tmod] at this; omega
  have h3 := Int.tmod_lt_of_pos (a.tmod 401 + 401) (show (0 : Int) < 401 by omega)
  have h4 := Int.tmod_nonneg 401 (show 0 ≤ a.tmod 401 + 401 by omega)
  exact ⟨((a.tmod 401 + 401).tmod 401).toNat, by omega, by omega⟩
theorem pwL_qf (n : Nat) (h : n ≤ 401) : ∀ x ∈ pwL n, QF x := (pwL_CB n).qf (by omega)
theorem pwS_qf (n : Nat) (h : n ≤ 401) : ∀ x ∈ (mk n fun k => pw (k + 1)), QF x := (mk_pw_CB (m := n) (c := 1) (n := n) (by omega)).qf (by omega)
set_option maxHeartbeats 4000000 in
theorem long_c (V : View) (N : Int) : Spec Try.prog 11 [.int .i64 N] V fun v' V' => v' = .bool true := by
  obtain ⟨n, hn, h4⟩ := tmod_pos (a := N)
  have w1 : IntKind.i64.wrap (N.tmod 401 + 401) = N.tmod 401 + 401 := by
    have h1 := Int.tmod_lt_of_pos N (show (0 : Int) < 401 by omega)
    have h2 := Int.tmod_lt_of_pos (-N) (show (0 : Int) < 401 by omega)
    rw [Int.neg_tmod] at h2
    exact wrap_id (by omega) (by omega)
  refine (Spec.enter Try.func11 rfl fun Γ => ?_)
  simp only [Try.ntmps11, List.map_cons, List.map_nil, List.length_cons, List.length_nil, Nat.reduceAdd, Nat.reduceSub, List.replicate_succ, List.replicate_zero, List.cons_append, List.nil_append]
  first | refine Gx.a (by kernel_rfl) fun K hK => ?_ | refine Gx.b (by kernel_rfl) fun K hK => ?_ | refine Gx.c (by kernel_rfl) fun K hK => ?_
  simp only [XM, XA, XB, gateX, Nat.reduceAdd, Nat.reduceLeDiff, Nat.reduceSub, Nat.reduceMul, ↓reduceIte, Int.reduceToNat, Int.reduceLE, beq_self_eq_true]
  refine hK _ ?_
  first | refine Gx.a (by kernel_rfl) fun K hK => ?_ | refine Gx.b (by kernel_rfl) fun K hK => ?_ | refine Gx.c (by kernel_rfl) fun K hK => ?_
  simp only [XM, XA, XB, gateX, Nat.reduceAdd, Nat.reduceLeDiff, Nat.reduceSub, Nat.reduceMul, ↓reduceIte, Int.reduceToNat, Int.reduceLE, beq_self_eq_true, bin_rem _ _ N 401 (by decide), w1, bin_rem _ _ (N.tmod 401 + 401) 401 (by decide), hn]
  refine hK _ ?_
  first | refine Gx.a (by kernel_rfl) fun K hK => ?_ | refine Gx.b (by kernel_rfl) fun K hK => ?_ | refine Gx.c (by kernel_rfl) fun K hK => ?_
  simp only [XM, XA, XB, gateX, Nat.reduceAdd, Nat.reduceLeDiff, Nat.reduceSub, Nat.reduceMul, ↓reduceIte, Int.reduceToNat, Int.reduceLE, beq_self_eq_true]
  refine call_go (by kernel_rfl) rfl (dmake_c _) fun v1 V1 hV1 h1 => ?_
  obtain ⟨wh, rfl, h1⟩ := h1
  obtain ⟨hx, hy, rfl, p1, p2⟩ := h1.form
  simp only [XM, XA, XB, gateX, Nat.reduceAdd, Nat.reduceLeDiff, Nat.reduceSub, Nat.reduceMul, ↓reduceIte, Int.reduceToNat, Int.reduceLE, beq_self_eq_true]
  refine st_rat rfl rfl rfl p1 p2 ?_
  simp only [XM, XA, XB, gateX, Nat.reduceAdd, Nat.reduceLeDiff, Nat.reduceSub, Nat.reduceMul, ↓reduceIte, Int.reduceToNat, Int.reduceLE, beq_self_eq_true]
  refine hK _ ?_
  first | refine Gx.a (by kernel_rfl) fun K hK => ?_ | refine Gx.b (by kernel_rfl) fun K hK => ?_ | refine Gx.c (by kernel_rfl) fun K hK => ?_
  simp only [XM, XA, XB, gateX, Nat.reduceAdd, Nat.reduceLeDiff, Nat.reduceSub, Nat.reduceMul, ↓reduceIte, Int.reduceToNat, Int.reduceLE, beq_self_eq_true]
  refine call_go (by kernel_rfl) rfl (pone_c _) fun v2 V2 hV2 h2 => ?_
  obtain ⟨x2, y2, rfl, o1, o2⟩ := h2.form
  have h1 := h1.mono hV2
  simp only [XM, XA, XB, gateX, Nat.reduceAdd, Nat.reduceLeDiff, Nat.reduceSub, Nat.reduceMul, ↓reduceIte, Int.reduceToNat, Int.reduceLE, beq_self_eq_true]
  refine bs_go (by kernel_rfl) #[(0, .agg #[.bool (ng 1), x2, y2])] (by simp [ev_tmp, SV.val]) (bs_rat elemT_22) fun b0 hb1 hb2 => ?_
  simp only [XM, XA, XB, gateX, Nat.reduceAdd, Nat.reduceLeDiff, Nat.reduceSub, Nat.reduceMul, ↓reduceIte, Int.reduceToNat, Int.reduceLE, beq_self_eq_true]
  refine hK _ ?_
  have hrow0 := (RowAt.nil (E := ratE) V2).snoc (x := 1) (show isOne (.bool (ng 1)) = true from rfl) o1 o2 h2
  simp only [List.nil_append] at hrow0
  refine XWP.cutD 1 (fun s => ∃ (V5 : View) (H5 : Heap) (w : Value) (cells : List Value), StIs (fun Z => [.v (.int .i64 (n : Int)), Z 1,Z 2, .p 0 0, Z 4, .v w, Z 6,Z 7,Z 8,Z 9,Z 10,Z 11,Z 12,Z 13,Z 14,Z 15,Z 16,Z 17,Z 18,Z 19,Z 20,Z 21,Z 22,Z 23,Z 24,Z 25,Z 26,Z 27,Z 28,Z 29,Z 30,Z 31,Z 32,Z 33,Z 34,Z 35,Z 36,Z 37,Z 38,Z 39,Z 40,Z 41,Z 42,Z 43,Z 44,Z 45,Z 46,Z 47,Z 48,Z 49,Z 50,Z 51,Z 52,Z 53,Z 54,Z 55,Z 56,Z 57,Z 58,Z 59,Z 60,Z 61,Z 62,Z 63,Z 64,Z 65,Z 66,Z 67,Z 68,Z 69,Z 70,Z 71,Z 72,Z 73,Z 74,Z 75,Z 76,Z 77,Z 78,Z 79,Z 80,Z 81,Z 82,Z 83,Z 84,Z 85,Z 86,Z 87,Z 88,Z 89,Z 90,Z 91,Z 92,Z 93,Z 94,Z 95,Z 96,Z 97,Z 98,Z 99,Z 100,Z 101,Z 102,Z 103,Z 104,Z 105,Z 106,Z 107,Z 108,Z 109,Z 110,Z 111,Z 112,Z 113,Z 114,Z 115,Z 116,Z 117,Z 118,Z 119,Z 120,Z 121,Z 122,Z 123,Z 124,Z 125,Z 126]) [[.bool (ng hf), hx, hy]] H5 V5 s ∧ RatC V5 (.agg #[.bool (ng hf), hx, hy]) hf ∧ Own H5 34 3 w (n + 1) cells ∧ RowAt ratE V5 cells (pwL (n + 1))) ?_ ?_
  · first | refine Gx.a (by kernel_rfl) fun K hK => ?_ | refine Gx.b (by kernel_rfl) fun K hK => ?_ | refine Gx.c (by kernel_rfl) fun K hK => ?_
    simp only [XM, XA, XB, gateX, Nat.reduceAdd, Nat.reduceLeDiff, Nat.reduceSub, Nat.reduceMul, ↓reduceIte, Int.reduceToNat, Int.reduceLE, beq_self_eq_true]
    refine hK _ ?_
    clear hK
    first | refine XWP.block ?_ | refine XWP.seq (XWP.block ?_)
    refine XWP.loopD 1 (fun m s => ∃ (k : Nat) (V5 : View) (H5 : Heap) (w : Value) (cells : List Value), StIs (fun Z => [.v (.int .i64 (n : Int)), Z 1,Z 2, .p 0 0, Z 4, .v w, .v (.int .i64 (k : Int)), Z 7,Z 8,Z 9,Z 10,Z 11,Z 12,Z 13,Z 14,Z 15,Z 16,Z 17,Z 18,Z 19,Z 20,Z 21,Z 22,Z 23,Z 24,Z 25,Z 26,Z 27,Z 28,Z 29,Z 30,Z 31,Z 32,Z 33,Z 34,Z 35,Z 36,Z 37,Z 38,Z 39,Z 40,Z 41,Z 42,Z 43,Z 44,Z 45,Z 46,Z 47,Z 48,Z 49,Z 50,Z 51,Z 52,Z 53,Z 54,Z 55,Z 56,Z 57,Z 58,Z 59,Z 60,Z 61,Z 62,Z 63,Z 64,Z 65,Z 66,Z 67,Z 68,Z 69,Z 70,Z 71,Z 72,Z 73,Z 74,Z 75,Z 76,Z 77,Z 78,Z 79,Z 80,Z 81,Z 82,Z 83,Z 84,Z 85,Z 86,Z 87,Z 88,Z 89,Z 90,Z 91,Z 92,Z 93,Z 94,Z 95,Z 96,Z 97,Z 98,Z 99,Z 100,Z 101,Z 102,Z 103,Z 104,Z 105,Z 106,Z 107,Z 108,Z 109,Z 110,Z 111,Z 112,Z 113,Z 114,Z 115,Z 116,Z 117,Z 118,Z 119,Z 120,Z 121,Z 122,Z 123,Z 124,Z 125,Z 126]) [[.bool (ng hf), hx, hy]] H5 V5 s ∧ m + k = n ∧ RatC V5 (.agg #[.bool (ng hf), hx, hy]) hf ∧ Own H5 34 3 w (k + 1) cells ∧ RowAt ratE V5 cells (pwL (k + 1))) n ⟨0, V2, _, _, _, StIs.of (by exact rfl), by omega, h1, ⟨rfl, .inr ⟨b0, 1, rfl, upd_at _ _ _, by omega, by unfold maxLen; omega⟩⟩, hrow0⟩ ?_
    rintro m s ⟨k, V5, H5, w, cells, hs, hm, h5, hown, hrow⟩
    obtain ⟨z, rfl⟩ := hs.out
    try dsimp only
    refine XWP.seq ?_
    by_cases hk : k < n
    rotate_left
    · obtain rfl : k = n := by omega
      have b1 : decide ((k : Int) < (k : Int)) = false := decide_eq_false (by omega)
      first | refine Gx.a (by kernel_rfl) fun K hK => ?_ | refine Gx.b (by kernel_rfl) fun K hK => ?_ | refine Gx.c (by kernel_rfl) fun K hK => ?_
      simp only [XM, XA, XB, gateX, Nat.reduceAdd, Nat.reduceLeDiff, Nat.reduceSub, Nat.reduceMul, ↓reduceIte, Int.reduceToNat, Int.reduceLE, beq_self_eq_true, b1]
      refine hK _ ?_
      first | refine Gx.f rfl ?_ | refine XWP.seq (Gx.f rfl ?_)
      refine XWP.exit ?_
      exact fun f => ⟨V5, H5, w, cells, StIs.of (by exact rfl), h5, hown, hrow⟩
    have b1 : decide ((k : Int) < (n : Int)) = true := decide_eq_true (by omega)
    first | refine Gx.a (by kernel_rfl) fun K hK => ?_ | refine Gx.b (by kernel_rfl) fun K hK => ?_ | refine Gx.c (by kernel_rfl) fun K hK => ?_
    simp only [XM, XA, XB, gateX, Nat.reduceAdd, Nat.reduceLeDiff, Nat.reduceSub, Nat.reduceMul, ↓reduceIte, Int.reduceToNat, Int.reduceLE, beq_self_eq_true, b1]
    refine hK _ ?_
    first | refine Gx.t rfl ?_ | refine XWP.seq (Gx.t rfl ?_)
    refine XWP.skip ?_
    refine XWP.seq ?_
    first | refine XWP.block ?_ | refine XWP.seq (XWP.block ?_)
    rcases own_parts hown with ⟨_, h0, _⟩ | ⟨g, cap, rfl, hg, hle, hcap, hcl⟩
    · omega
    obtain ⟨m4, n4', d4, hx4, ⟨s1, s2, s3⟩, hld4⟩ := rowQ_load hg hrow k (by rw [pwL_len]; omega)
    rw [cf_pwL (by omega)] at hx4
    (first | refine XWP.drw [0, 1, 2, 3, 4, 5, 6, 7, 8, 9] (by kernel_rfl) (by kernel_rfl) (by kernel_rfl) fun K hK => ?_ | refine XWP.seq (XWP.drw [0, 1, 2, 3, 4, 5, 6, 7, 8, 9] (by kernel_rfl) (by kernel_rfl) (by kernel_rfl) fun K hK => ?_) | refine XWP.drw1 [0, 1, 2, 3, 4, 5, 6, 7, 8, 9] (by kernel_rfl) (by kernel_rfl) (by kernel_rfl) fun K hK => ?_) <;> dsimp only [pickOps, List.getElem?_cons_zero, List.getElem?_cons_succ]
    simp only [XM, XA, XB, gateX, Nat.reduceAdd, Nat.reduceLeDiff, Nat.reduceSub, Nat.reduceMul, ↓reduceIte, Int.reduceToNat, Int.reduceLE, beq_self_eq_true]
    refine ⟨by omega, by omega, ?_⟩
    simp only [Nat.zero_add] at *
    refine ld_mem hld4 ?_
    simp only [XM, XA, XB, gateX, Nat.reduceAdd, Nat.reduceLeDiff, Nat.reduceSub, Nat.reduceMul, ↓reduceIte, Int.reduceToNat, Int.reduceLE, beq_self_eq_true]
    refine call_go (by kernel_rfl) rfl (pmul_c _ _ _ _ _ (hx4.toV (qf_pw k (by omega))) (h5.toV hf_qf) (qf_pw k (by omega)) hf_qf) fun v6 V6 hV6 h6 => ?_
    obtain ⟨x6, y6, rfl, o3, o4⟩ := h6.form
    simp only [XM, XA, XB, gateX, Nat.reduceAdd, Nat.reduceLeDiff, Nat.reduceSub, Nat.reduceMul, ↓reduceIte, Int.reduceToNat, Int.reduceLE, beq_self_eq_true]
    refine bs_go (by kernel_rfl) #[(0, .agg #[.bool (ng (pw k * hf)), x6, y6])] (by simp [ev_tmp, SV.val]) (bs_rat elemT_22) fun b3 hb3 hb4 => ?_
    simp only [XM, XA, XB, gateX, Nat.reduceAdd, Nat.reduceLeDiff, Nat.reduceSub, Nat.reduceMul, ↓reduceIte, Int.reduceToNat, Int.reduceLE, beq_self_eq_true]
    refine ap_go elemT_22 (by kernel_rfl) zeroT_34 rfl (by omega) (own_upd hown hb3) (src3 (upd_at _ _ _) rfl o3 o4) (by omega) (by omega) fun v' H' hres => ?_
    simp only [XM, XA, XB, gateX, Nat.reduceAdd, Nat.reduceLeDiff, Nat.reduceSub, Nat.reduceMul, ↓reduceIte, Int.reduceToNat, Int.reduceLE, beq_self_eq_true]
    refine hK _ ?_
    first | refine Gx.a (by kernel_rfl) fun K hK => ?_ | refine Gx.b (by kernel_rfl) fun K hK => ?_ | refine Gx.c (by kernel_rfl) fun K hK => ?_
    simp only [XM, XA, XB, gateX, Nat.reduceAdd, Nat.reduceLeDiff, Nat.reduceSub, Nat.reduceMul, ↓reduceIte, Int.reduceToNat, Int.reduceLE, beq_self_eq_true, i64_succ k (by omega)]
    have hrow' := (hrow.mono ratE_ok hV6).snoc (show isOne (.bool (ng (pw k * hf))) = true from rfl) o3 o4 h6
    rw [show pw k * hf = pw (k + 1) from rfl, ← pwL_succ] at hrow'
    exact hK _ ⟨m - 1, by omega, fun f => ⟨k + 1, V6, _, _, _, StIs.of (by exact rfl), by omega, h5.mono hV6, hres.1, hrow'⟩⟩
  rintro s ⟨V5, H5, w, cells, hs, h5, hown, hrow⟩
  obtain ⟨z, rfl⟩ := hs.out
  try dsimp only
  clear hs hrow0 hb1 hb2 h2 hV2 hV1 h1
  rcases own_parts hown with ⟨_, h0, _⟩ | ⟨g, cap, rfl, hg, hle, hcap, hcl⟩
  · omega
  refine XWP.pub g _ hg fun og hog hleg => ?_
  have hP : Rats (addV V5 g og) (.slice (some ⟨g, 0, none⟩) (n + 1) cap) (pwL (n + 1)) := hrow.pub ratE_ok hog hleg (n := n + 1) (c := cap) (pwL_len _) hle (by unfold maxLen at hcap; omega)
  have h5 := h5.mono hleg
  generalize upd H5 g none = H6
  generalize addV V5 g og = V6 at *
  clear hog hrow hown hg hleg
  have hPL := pwL_len (n + 1)
  generalize hPP : pwL (n + 1) = PP at *
  obtain ⟨gp, op, egp⟩ := SlAt.addr hP (by omega)
  first | refine Gx.a (by kernel_rfl) fun K hK => ?_ | refine Gx.b (by kernel_rfl) fun K hK => ?_ | refine Gx.c (by kernel_rfl) fun K hK => ?_
  simp only [XM, XA, XB, gateX, Nat.reduceAdd, Nat.reduceLeDiff, Nat.reduceSub, Nat.reduceMul, ↓reduceIte, Int.reduceToNat, Int.reduceLE, beq_self_eq_true]
  refine bs_go (by kernel_rfl) #[(0, .agg #[.bool (ng hf), hx, hy])] (by simp [ev_tmp, SV.val]) (bs_rat elemT_22) fun b7 hb7 hb7' => ?_
  simp only [XM, XA, XB, gateX, Nat.reduceAdd, Nat.reduceLeDiff, Nat.reduceSub, Nat.reduceMul, ↓reduceIte, Int.reduceToNat, Int.reduceLE, beq_self_eq_true]
  refine bd_go (by kernel_rfl) #[(0, .int .i64 1), (1, .int .i64 1), (2, .slice (some ⟨b7, 0, none⟩) 1 1)] (by simp [ev_tmp, ev_const, SV.val]) (bd_mtx3 rfl rfl rfl) ?_
  simp only [XM, XA, XB, gateX, Nat.reduceAdd, Nat.reduceLeDiff, Nat.reduceSub, Nat.reduceMul, ↓reduceIte, Int.reduceToNat, Int.reduceLE, beq_self_eq_true]
  refine st_mat shapeT_61 rfl rfl rfl rfl rfl ?_
  simp only [XM, XA, XB, gateX, Nat.reduceAdd, Nat.reduceLeDiff, Nat.reduceSub, Nat.reduceMul, ↓reduceIte, Int.reduceToNat, Int.reduceLE, beq_self_eq_true]
  refine hK _ ?_
  refine XWP.cutD 1 (fun s => ∃ (V7 : View) (H7 : Heap) (w8 : Value), StIs (fun Z => [.v (.int .i64 (n : Int)), Z 1,Z 2, .p 0 0, Z 4, .v (.slice (some ⟨g, 0, none⟩) (n + 1) cap), Z 6,Z 7, .v w8, .v (.int .i64 0), Z 10,Z 11,Z 12,Z 13,Z 14,Z 15,Z 16,Z 17,Z 18,Z 19,Z 20,Z 21,Z 22,Z 23,Z 24,Z 25,Z 26,Z 27,Z 28,Z 29,Z 30,Z 31,Z 32,Z 33,Z 34,Z 35,Z 36,Z 37,Z 38,Z 39,Z 40,Z 41,Z 42,Z 43,Z 44,Z 45,Z 46,Z 47,Z 48,Z 49,Z 50,Z 51,Z 52,Z 53,Z 54,Z 55,Z 56,Z 57,Z 58,Z 59,Z 60,Z 61,Z 62,Z 63,Z 64,Z 65,Z 66,Z 67,Z 68,Z 69,Z 70,Z 71,Z 72,Z 73,Z 74,Z 75,Z 76,Z 77,Z 78,Z 79,Z 80,Z 81,Z 82,Z 83,Z 84,Z 85,Z 86,Z 87,Z 88,Z 89,Z 90,Z 91,Z 92,Z 93,Z 94,Z 95,Z 96,Z 97,Z 98,Z 99,Z 100,Z 101,Z 102,Z 103,Z 104,Z 105,Z 106,Z 107,Z 108,Z 109,Z 110,Z 111,Z 112,Z 113,Z 114,Z 115,Z 116,Z 117,Z 118,Z 119,Z 120,Z 121,Z 122,Z 123,Z 124,Z 125,Z 126]) [[.bool (ng hf), hx, hy]] H7 V7 s ∧ V6.le V7 ∧ Rats V7 w8 (mk n fun k => pw (k + 1))) ?_ ?_
  · (first | refine XWP.drw [0, 1, 2, 5, 3, 4, 6, 7, 8, 9, 10, 11] (by kernel_rfl) (by kernel_rfl) (by kernel_rfl) fun K hK => ?_ | refine XWP.seq (XWP.drw [0, 1, 2, 5, 3, 4, 6, 7, 8, 9, 10, 11] (by kernel_rfl) (by kernel_rfl) (by kernel_rfl) fun K hK => ?_) | refine XWP.drw1 [0, 1, 2, 5, 3, 4, 6, 7, 8, 9, 10, 11] (by kernel_rfl) (by kernel_rfl) (by kernel_rfl) fun K hK => ?_) <;> dsimp only [pickOps, List.getElem?_cons_zero, List.getElem?_cons_succ]
    simp only [XM, XA, XB, gateX, Nat.reduceAdd, Nat.reduceLeDiff, Nat.reduceSub, Nat.reduceMul, ↓reduceIte, Int.reduceToNat, Int.reduceLE, beq_self_eq_true]
    refine bd_go (by kernel_rfl) #[(0, .agg #[.int .i64 1, .int .i64 1, .slice (some ⟨b7, 0, none⟩) 1 1]), (1, .agg #[.int .i64 1, .int .i64 1, .slice (some ⟨b7, 0, none⟩) 1 1])] (by simp [ev_tmp, SV.val]) bd_chn ?_
    simp only [XM, XA, XB, gateX, Nat.reduceAdd, Nat.reduceLeDiff, Nat.reduceSub, Nat.reduceMul, ↓reduceIte, Int.reduceToNat, Int.reduceLE, beq_self_eq_true]
    refine call_go (by kernel_rfl) rfl (pone_c _) fun v7 V7 hV7 h7 => ?_
    obtain ⟨x7, y7, rfl, o3, o4⟩ := h7.form
    simp only [XM, XA, XB, gateX, Nat.reduceAdd, Nat.reduceLeDiff, Nat.reduceSub, Nat.reduceMul, ↓reduceIte, Int.reduceToNat, Int.reduceLE, beq_self_eq_true]
    refine bs_go (by kernel_rfl) #[(0, .agg #[.bool (ng 1), x7, y7])] (by simp [ev_tmp, SV.val]) (bs_rat elemT_22) fun b8 hb8 hb8' => ?_
    simp only [XM, XA, XB, gateX, Nat.reduceAdd, Nat.reduceLeDiff, Nat.reduceSub, Nat.reduceMul, ↓reduceIte, Int.reduceToNat, Int.reduceLE, beq_self_eq_true]
    have n78 : b7 ≠ b8 := new_ne (H := upd H6 b7 (some _)) hb8 (upd_at _ _ _)
    refine call_pub b8 ⟨34, [.bool (ng 1), x7, y7], 3⟩ (by simp only [upd_at]) (fun o8 ho8 hle8 => ?_) (by kernel_rfl) rfl
    have r8 := ((RowAt.nil (E := ratE) V7).snoc (x := 1) (show isOne (.bool (ng 1)) = true from rfl) o3 o4 h7).pub ratE_ok ho8 hle8 (n := 1) (c := 1) rfl (Nat.le_refl _) (by omega)
    refine call_pub b7 ⟨34, [.bool (ng hf), hx, hy], 3⟩ ((upd_off n78).trans ((upd_off n78).trans (upd_at _ _ _))) (fun o9 ho9 hle9 => ?_) (by kernel_rfl) rfl
    have h59 := (h5.mono hV7).mono hle8
    have r7 := ((RowAt.nil (E := ratE) _).snoc (x := hf) (show isOne (.bool (ng hf)) = true from rfl) p1 p2 h59).pub ratE_ok ho9 hle9 (n := 1) (c := 1) rfl (Nat.le_refl _) (by omega)
    have hle89 := View.le_trans hle8 hle9
    simp only [List.nil_append] at r7 r8
    refine call_go (by kernel_rfl) rfl (ends_half _ _ _ n h4 r7 (Rats.up r8 hle9)) fun v9 V9 hV9 h9 => ?_
    obtain ⟨w9, rfl, h9⟩ := h9
    simp only [XM, XA, XB, gateX, Nat.reduceAdd, Nat.reduceLeDiff, Nat.reduceSub, Nat.reduceMul, ↓reduceIte, Int.reduceToNat, Int.reduceLE, beq_self_eq_true]
    exact hK _ fun f => ⟨V9, _, w9, StIs.of (by exact rfl), View.le_trans hV7 (View.le_trans hle89 hV9), h9⟩
  rintro s ⟨V7, H7, w8, hs, hV7, h8⟩
  obtain ⟨z, rfl⟩ := hs.out
  try dsimp only
  clear hs
  have hP := hP.up hV7
  have h5 := h5.mono hV7
  clear hV7
  refine XWP.cutD 1 (fun s => ∃ (V8 : View) (H8 : Heap) (w10 : Value), StIs (fun Z => [.v (.int .i64 (n : Int)), Z 1,Z 2, .p 0 0, Z 4, .v (.slice (some ⟨g, 0, none⟩) (n + 1) cap), Z 6,Z 7, .v w8, .v (.int .i64 0), .v w10, .v (.int .i64 0), Z 12,Z 13,Z 14,Z 15,Z 16,Z 17,Z 18,Z 19,Z 20,Z 21,Z 22,Z 23,Z 24,Z 25,Z 26,Z 27,Z 28,Z 29,Z 30,Z 31,Z 32,Z 33,Z 34,Z 35,Z 36,Z 37,Z 38,Z 39,Z 40,Z 41,Z 42,Z 43,Z 44,Z 45,Z 46,Z 47,Z 48,Z 49,Z 50,Z 51,Z 52,Z 53,Z 54,Z 55,Z 56,Z 57,Z 58,Z 59,Z 60,Z 61,Z 62,Z 63,Z 64,Z 65,Z 66,Z 67,Z 68,Z 69,Z 70,Z 71,Z 72,Z 73,Z 74,Z 75,Z 76,Z 77,Z 78,Z 79,Z 80,Z 81,Z 82,Z 83,Z 84,Z 85,Z 86,Z 87,Z 88,Z 89,Z 90,Z 91,Z 92,Z 93,Z 94,Z 95,Z 96,Z 97,Z 98,Z 99,Z 100,Z 101,Z 102,Z 103,Z 104,Z 105,Z 106,Z 107,Z 108,Z 109,Z 110,Z 111,Z 112,Z 113,Z 114,Z 115,Z 116,Z 117,Z 118,Z 119,Z 120,Z 121,Z 122,Z 123,Z 124,Z 125,Z 126]) [[.bool (ng hf), hx, hy]] H8 V8 s ∧ V7.le V8 ∧ Rats V8 w10 (mk n fun k => pw (k + 1))) ?_ ?_
  · (first | refine XWP.drwT (.lin [2, 4] (.two (.lin [0] (.two (.lin [1, 3, 5, 6, 7, 8, 9, 10] .nil) (.lin [3, 1, 5, 6, 7, 8, 9, 10] .nil))) (.lin [3, 0, 1, 5, 6, 7, 8, 9, 10] .nil))) (by kernel_rfl) (by kernel_rfl) (by kernel_rfl) fun K hK => ?_ | refine XWP.seq (XWP.drwT (.lin [2, 4] (.two (.lin [0] (.two (.lin [1, 3, 5, 6, 7, 8, 9, 10] .nil) (.lin [3, 1, 5, 6, 7, 8, 9, 10] .nil))) (.lin [3, 0, 1, 5, 6, 7, 8, 9, 10] .nil))) (by kernel_rfl) (by kernel_rfl) (by kernel_rfl) fun K hK => ?_) | refine XWP.drwT1 (.lin [2, 4] (.two (.lin [0] (.two (.lin [1, 3, 5, 6, 7, 8, 9, 10] .nil) (.lin [3, 1, 5, 6, 7, 8, 9, 10] .nil))) (.lin [3, 0, 1, 5, 6, 7, 8, 9, 10] .nil))) (by kernel_rfl) (by kernel_rfl) (by kernel_rfl) fun K hK => ?_)
    simp only [XM, XA, XB, gateX, Nat.reduceAdd, Nat.reduceLeDiff, Nat.reduceSub, Nat.reduceMul, ↓reduceIte, Int.reduceToNat, Int.reduceLE, beq_self_eq_true]
    refine And.intro ?_ ?_
    · refine call_go (by kernel_rfl) rfl (pone_c _) fun v1 V1 hV1 h1 => ?_
      obtain ⟨x1, y1, rfl, oa, ob⟩ := h1.form
      have h5 := h5.mono hV1
      simp only [XM, XA, XB, gateX, Nat.reduceAdd, Nat.reduceLeDiff, Nat.reduceSub, Nat.reduceMul, ↓reduceIte, Int.reduceToNat, Int.reduceLE, beq_self_eq_true]
      refine And.intro ?_ ?_
      · refine bs_go (by kernel_rfl) #[(0, .agg #[.bool (ng 1), x1, y1])] (by simp [ev_tmp, SV.val]) (bs_rat elemT_22) fun b1 hb1 hb1' => ?_
        simp only [XM, XA, XB, gateX, Nat.reduceAdd, Nat.reduceLeDiff, Nat.reduceSub, Nat.reduceMul, ↓reduceIte, Int.reduceToNat, Int.reduceLE, beq_self_eq_true]
        refine bs_go (by kernel_rfl) #[(0, .agg #[.bool (ng hf), hx, hy])] (by simp [ev_tmp, SV.val]) (bs_rat elemT_22) fun b2 hb2 hb2' => ?_
        simp only [XM, XA, XB, gateX, Nat.reduceAdd, Nat.reduceLeDiff, Nat.reduceSub, Nat.reduceMul, ↓reduceIte, Int.reduceToNat, Int.reduceLE, beq_self_eq_true]
        have n12 : b1 ≠ b2 := new_ne (H := upd H7 b1 (some _)) hb2 (upd_at _ _ _)
        refine call_pub b2 ⟨34, [.bool (ng hf), hx, hy], 3⟩ (by simp only [upd_at]) (fun o8 ho8 hle8 => ?_) (by kernel_rfl) rfl
        refine call_pub b1 ⟨34, [.bool (ng 1), x1, y1], 3⟩ ((upd_off n12).trans ((upd_off n12).trans (upd_at _ _ _))) (fun o9 ho9 hle9 => ?_) (by kernel_rfl) rfl
        have r8 := ((RowAt.nil (E := ratE) _).snoc (x := hf) (show isOne (.bool (ng hf)) = true from rfl) p1 p2 (h5)).pub ratE_ok ho8 hle8 (n := 1) (c := 1) rfl (Nat.le_refl _) (by omega)
        have r9 := ((RowAt.nil (E := ratE) _).snoc (x := 1) (show isOne (.bool (ng 1)) = true from rfl) oa ob (h1.mono hle8)).pub ratE_ok ho9 hle9 (n := 1) (c := 1) rfl (Nat.le_refl _) (by omega)
        simp only [List.nil_append] at r8 r9
        have r8 := Rats.up r8 hle9
        refine call_go (by kernel_rfl) rfl (next_half _ _ _ n h4 r9 r8) fun v3 V3 hV3 h3 => ?_
        obtain ⟨w3, rfl, h3⟩ := h3
        simp only [XM, XA, XB, gateX, Nat.reduceAdd, Nat.reduceLeDiff, Nat.reduceSub, Nat.reduceMul, ↓reduceIte, Int.reduceToNat, Int.reduceLE, beq_self_eq_true]
        exact hK _ fun f => ⟨V3, _, w3, StIs.of (by exact rfl), View.le_trans hV1 (View.le_trans hle8 (View.le_trans hle9 hV3)), h3⟩
      · refine bs_go (by kernel_rfl) #[(0, .agg #[.bool (ng hf), hx, hy])] (by simp [ev_tmp, SV.val]) (bs_rat elemT_22) fun b2 hb2 hb2' => ?_
        simp only [XM, XA, XB, gateX, Nat.reduceAdd, Nat.reduceLeDiff, Nat.reduceSub, Nat.reduceMul, ↓reduceIte, Int.reduceToNat, Int.reduceLE, beq_self_eq_true]
        refine bs_go (by kernel_rfl) #[(0, .agg #[.bool (ng 1), x1, y1])] (by simp [ev_tmp, SV.val]) (bs_rat elemT_22) fun b1 hb1 hb1' => ?_
        simp only [XM, XA, XB, gateX, Nat.reduceAdd, Nat.reduceLeDiff, Nat.reduceSub, Nat.reduceMul, ↓reduceIte, Int.reduceToNat, Int.reduceLE, beq_self_eq_true]
        have n12 : b1 ≠ b2 := Ne.symm (new_ne (H := upd H7 b2 (some _)) hb1 (upd_at _ _ _))
        refine call_pub b1 ⟨34, [.bool (ng 1), x1, y1], 3⟩ (by simp only [upd_at]) (fun o8 ho8 hle8 => ?_) (by kernel_rfl) rfl
        refine call_pub b2 ⟨34, [.bool (ng hf), hx, hy], 3⟩ ((upd_off (Ne.symm n12)).trans ((upd_off (Ne.symm n12)).trans (upd_at _ _ _))) (fun o9 ho9 hle9 => ?_) (by kernel_rfl) rfl
        have r8 := ((RowAt.nil (E := ratE) _).snoc (x := 1) (show isOne (.bool (ng 1)) = true from rfl) oa ob (h1)).pub ratE_ok ho8 hle8 (n := 1) (c := 1) rfl (Nat.le_refl _) (by omega)
        have r9 := ((RowAt.nil (E := ratE) _).snoc (x := hf) (show isOne (.bool (ng hf)) = true from rfl) p1 p2 (h5.mono hle8)).pub ratE_ok ho9 hle9 (n := 1) (c := 1) rfl (Nat.le_refl _) (by omega)
        simp only [List.nil_append] at r8 r9
        have r8 := Rats.up r8 hle9
        refine call_go (by kernel_rfl) rfl (next_half _ _ _ n h4 r8 r9) fun v3 V3 hV3 h3 => ?_
        obtain ⟨w3, rfl, h3⟩ := h3
        simp only [XM, XA, XB, gateX, Nat.reduceAdd, Nat.reduceLeDiff, Nat.reduceSub, Nat.reduceMul, ↓reduceIte, Int.reduceToNat, Int.reduceLE, beq_self_eq_true]
        exact hK _ fun f => ⟨V3, _, w3, StIs.of (by exact rfl), View.le_trans hV1 (View.le_trans hle8 (View.le_trans hle9 hV3)), h3⟩
    · refine bs_go (by kernel_rfl) #[(0, .agg #[.bool (ng hf), hx, hy])] (by simp [ev_tmp, SV.val]) (bs_rat elemT_22) fun b2 hb2 hb2' => ?_
      simp only [XM, XA, XB, gateX, Nat.reduceAdd, Nat.reduceLeDiff, Nat.reduceSub, Nat.reduceMul, ↓reduceIte, Int.reduceToNat, Int.reduceLE, beq_self_eq_true]
      refine call_go (by kernel_rfl) rfl (pone_c _) fun v1 V1 hV1 h1 => ?_
      obtain ⟨x1, y1, rfl, oa, ob⟩ := h1.form
      have h5 := h5.mono hV1
      simp only [XM, XA, XB, gateX, Nat.reduceAdd, Nat.reduceLeDiff, Nat.reduceSub, Nat.reduceMul, ↓reduceIte, Int.reduceToNat, Int.reduceLE, beq_self_eq_true]
      refine bs_go (by kernel_rfl) #[(0, .agg #[.bool (ng 1), x1, y1])] (by simp [ev_tmp, SV.val]) (bs_rat elemT_22) fun b1 hb1 hb1' => ?_
      simp only [XM, XA, XB, gateX, Nat.reduceAdd, Nat.reduceLeDiff, Nat.reduceSub, Nat.reduceMul, ↓reduceIte, Int.reduceToNat, Int.reduceLE, beq_self_eq_true]
      have n12 : b1 ≠ b2 := Ne.symm (new_ne (H := upd H7 b2 (some _)) hb1 (upd_at _ _ _))
      refine call_pub b1 ⟨34, [.bool (ng 1), x1, y1], 3⟩ (by simp only [upd_at]) (fun o8 ho8 hle8 => ?_) (by kernel_rfl) rfl
      refine call_pub b2 ⟨34, [.bool (ng hf), hx, hy], 3⟩ ((upd_off (Ne.symm n12)).trans ((upd_off (Ne.symm n12)).trans (upd_at _ _ _))) (fun o9 ho9 hle9 => ?_) (by kernel_rfl) rfl
      have r8 := ((RowAt.nil (E := ratE) _).snoc (x := 1) (show isOne (.bool (ng 1)) = true from rfl) oa ob (h1)).pub ratE_ok ho8 hle8 (n := 1) (c := 1) rfl (Nat.le_refl _) (by omega)
      have r9 := ((RowAt.nil (E := ratE) _).snoc (x := hf) (show isOne (.bool (ng hf)) = true from rfl) p1 p2 (h5.mono hle8)).pub ratE_ok ho9 hle9 (n := 1) (c := 1) rfl (Nat.le_refl _) (by omega)
      simp only [List.nil_append] at r8 r9
      have r8 := Rats.up r8 hle9
      refine call_go (by kernel_rfl) rfl (next_half _ _ _ n h4 r8 r9) fun v3 V3 hV3 h3 => ?_
      obtain ⟨w3, rfl, h3⟩ := h3
      simp only [XM, XA, XB, gateX, Nat.reduceAdd, Nat.reduceLeDiff, Nat.reduceSub, Nat.reduceMul, ↓reduceIte, Int.reduceToNat, Int.reduceLE, beq_self_eq_true]
      exact hK _ fun f => ⟨V3, _, w3, StIs.of (by exact rfl), View.le_trans hV1 (View.le_trans hle8 (View.le_trans hle9 hV3)), h3⟩
  rintro s ⟨V8, H8, w10, hs, hV8, h10⟩
  obtain ⟨z, rfl⟩ := hs.out
  try dsimp only
  clear hs
  have hP := hP.up hV8
  have h5 := h5.mono hV8
  have h8 := h8.up hV8
  clear hV8
  refine XWP.cutD 1 (fun s => ∃ (V9 : View) (H9 : Heap) (w12 : Value), StIs (fun Z => [.v (.int .i64 (n : Int)), Z 1,Z 2, .p 0 0, Z 4, .v (.slice (some ⟨g, 0, none⟩) (n + 1) cap), Z 6,Z 7, .v w8, .v (.int .i64 0), .v w10, .v (.int .i64 0), .v w12, .v (.int .i64 0), Z 14,Z 15,Z 16,Z 17,Z 18,Z 19,Z 20,Z 21,Z 22,Z 23,Z 24,Z 25,Z 26,Z 27,Z 28,Z 29,Z 30,Z 31,Z 32,Z 33,Z 34,Z 35,Z 36,Z 37,Z 38,Z 39,Z 40,Z 41,Z 42,Z 43,Z 44,Z 45,Z 46,Z 47,Z 48,Z 49,Z 50,Z 51,Z 52,Z 53,Z 54,Z 55,Z 56,Z 57,Z 58,Z 59,Z 60,Z 61,Z 62,Z 63,Z 64,Z 65,Z 66,Z 67,Z 68,Z 69,Z 70,Z 71,Z 72,Z 73,Z 74,Z 75,Z 76,Z 77,Z 78,Z 79,Z 80,Z 81,Z 82,Z 83,Z 84,Z 85,Z 86,Z 87,Z 88,Z 89,Z 90,Z 91,Z 92,Z 93,Z 94,Z 95,Z 96,Z 97,Z 98,Z 99,Z 100,Z 101,Z 102,Z 103,Z 104,Z 105,Z 106,Z 107,Z 108,Z 109,Z 110,Z 111,Z 112,Z 113,Z 114,Z 115,Z 116,Z 117,Z 118,Z 119,Z 120,Z 121,Z 122,Z 123,Z 124,Z 125,Z 126]) [[.bool (ng hf), hx, hy]] H9 V9 s ∧ V8.le V9 ∧ Rats V9 w12 (pwL n)) ?_ ?_
  · (first | refine XWP.drwT (.lin [4, 7, 0] (.two (.lin [1, 2, 3, 5, 6, 8, 9, 10, 11, 12, 13] .nil) (.lin [2] (.two (.lin [1, 3, 5, 6, 8, 9, 10, 11, 12, 13] .nil) (.lin [3] (.two (.lin [1, 5, 6, 8, 9, 10, 11, 12, 13] .nil) (.lin [5] (.two (.lin [1, 6, 8, 9, 10, 11, 12, 13] .nil) (.lin [6, 1, 8, 9, 10, 11, 12, 13] .nil))))))))) (by kernel_rfl) (by kernel_rfl) (by kernel_rfl) fun K hK => ?_ | refine XWP.seq (XWP.drwT (.lin [4, 7, 0] (.two (.lin [1, 2, 3, 5, 6, 8, 9, 10, 11, 12, 13] .nil) (.lin [2] (.two (.lin [1, 3, 5, 6, 8, 9, 10, 11, 12, 13] .nil) (.lin [3] (.two (.lin [1, 5, 6, 8, 9, 10, 11, 12, 13] .nil) (.lin [5] (.two (.lin [1, 6, 8, 9, 10, 11, 12, 13] .nil) (.lin [6, 1, 8, 9, 10, 11, 12, 13] .nil))))))))) (by kernel_rfl) (by kernel_rfl) (by kernel_rfl) fun K hK => ?_) | refine XWP.drwT1 (.lin [4, 7, 0] (.two (.lin [1, 2, 3, 5, 6, 8, 9, 10, 11, 12, 13] .nil) (.lin [2] (.two (.lin [1, 3, 5, 6, 8, 9, 10, 11, 12, 13] .nil) (.lin [3] (.two (.lin [1, 5, 6, 8, 9, 10, 11, 12, 13] .nil) (.lin [5] (.two (.lin [1, 6, 8, 9, 10, 11, 12, 13] .nil) (.lin [6, 1, 8, 9, 10, 11, 12, 13] .nil))))))))) (by kernel_rfl) (by kernel_rfl) (by kernel_rfl) fun K hK => ?_)
    simp only [XM, XA, XB, gateX, Nat.reduceAdd, Nat.reduceLeDiff, Nat.reduceSub, Nat.reduceMul, ↓reduceIte, Int.reduceToNat, Int.reduceLE, beq_self_eq_true]
    refine call_go (by kernel_rfl) rfl (pone_c _) fun v21 V21 hV21 ha => ?_
    have h5 := h5.mono hV21
    obtain ⟨xa, ya, rfl, a1, a2⟩ := ha.form
    simp only [XM, XA, XB, gateX, Nat.reduceAdd, Nat.reduceLeDiff, Nat.reduceSub, Nat.reduceMul, ↓reduceIte, Int.reduceToNat, Int.reduceLE, beq_self_eq_true]
    refine And.intro ?_ ?_
    · refine bs_go (by kernel_rfl) #[(0, .agg #[.bool (ng 1), xa, ya])] (by simp [ev_tmp, SV.val]) (bs_rat elemT_36) fun e1 he1 he1' => ?_
      simp only [XM, XA, XB, gateX, Nat.reduceAdd, Nat.reduceLeDiff, Nat.reduceSub, Nat.reduceMul, ↓reduceIte, Int.reduceToNat, Int.reduceLE, beq_self_eq_true]
      refine call_go (by kernel_rfl) rfl (pone_c _) fun v22 V22 hV22 hb => ?_
      have h5 := h5.mono hV22
      have ha := ha.mono hV22
      obtain ⟨xb, yb, rfl, b1, b2⟩ := hb.form
      simp only [XM, XA, XB, gateX, Nat.reduceAdd, Nat.reduceLeDiff, Nat.reduceSub, Nat.reduceMul, ↓reduceIte, Int.reduceToNat, Int.reduceLE, beq_self_eq_true]
      refine call_go (by kernel_rfl) rfl (pzero_c _) fun v23 V23 hV23 hc => ?_
      have h5 := h5.mono hV23
      have ha := ha.mono hV23
      have hb := hb.mono hV23
      simp only [XM, XA, XB, gateX, Nat.reduceAdd, Nat.reduceLeDiff, Nat.reduceSub, Nat.reduceMul, ↓reduceIte, Int.reduceToNat, Int.reduceLE, beq_self_eq_true]
      refine call_go (by kernel_rfl) rfl (psub_c _ _ _ _ _ (hc.toV QF_zero) (h5.toV hf_qf) QF_zero hf_qf) fun v24 V24 hV24 hd => ?_
      have h5 := h5.mono hV24
      have ha := ha.mono hV24
      have hb := hb.mono hV24
      have hc := hc.mono hV24
      rw [show (0 : Rat) - hf = -hf by rw [Rat.sub_eq_add_neg, Rat.zero_add]] at hd
      obtain ⟨xd, yd, rfl, d1, d2⟩ := hd.form
      simp only [XM, XA, XB, gateX, Nat.reduceAdd, Nat.reduceLeDiff, Nat.reduceSub, Nat.reduceMul, ↓reduceIte, Int.reduceToNat, Int.reduceLE, beq_self_eq_true]
      refine bs_go (by kernel_rfl) #[(0, .agg #[.bool (ng 1), xb, yb]), (1, .agg #[.bool (ng (-hf)), xd, yd])] (by simp [ev_tmp, SV.val]) (bs_rat2 elemT_36) fun e2 he2 he2' => ?_
      simp only [XM, XA, XB, gateX, Nat.reduceAdd, Nat.reduceLeDiff, Nat.reduceSub, Nat.reduceMul, ↓reduceIte, Int.reduceToNat, Int.reduceLE, beq_self_eq_true]
      have n12 : e1 ≠ e2 := new_ne (H := upd H8 e1 (some _)) he2 (upd_at _ _ _)
      refine call_pub e2 ⟨34, [.bool (ng 1), xb, yb, .bool (ng (-hf)), xd, yd], 6⟩ (by simp only [upd_at]) (fun o8 ho8 hle8 => ?_) (by kernel_rfl) rfl
      refine call_pub e1 ⟨34, [.bool (ng 1), xa, ya], 3⟩ ((upd_off n12).trans ((upd_off n12).trans (upd_at _ _ _))) (fun o9 ho9 hle9 => ?_) (by kernel_rfl) rfl
      have r8 := (((RowAt.nil (E := ratE) _).snoc (x := 1) (show isOne (.bool (ng 1)) = true from rfl) b1 b2 (hb)).snoc (x := -hf) (show isOne (.bool (ng (-hf))) = true from rfl) d1 d2 (hd)).pub ratE_ok ho8 hle8 (n := 2) (c := 2) rfl (Nat.le_refl _) (by omega)
      have r9 := ((RowAt.nil (E := ratE) _).snoc (x := 1) (show isOne (.bool (ng 1)) = true from rfl) a1 a2 (ha.mono hle8)).pub ratE_ok ho9 hle9 (n := 1) (c := 1) rfl (Nat.le_refl _) (by omega)
      simp only [List.nil_append, List.cons_append] at r8 r9
      have r8 := Rats.up r8 hle9
      refine call_go (by kernel_rfl) rfl (ser_half _ _ _ n h4 r9 r8) fun v3 V3 hV3 h3 => ?_
      obtain ⟨w3, rfl, h3⟩ := h3
      simp only [XM, XA, XB, gateX, Nat.reduceAdd, Nat.reduceLeDiff, Nat.reduceSub, Nat.reduceMul, ↓reduceIte, Int.reduceToNat, Int.reduceLE, beq_self_eq_true]
      exact hK _ fun f => ⟨V3, _, w3, StIs.of (by exact rfl), View.le_trans hV21 (View.le_trans hV22 (View.le_trans hV23 (View.le_trans hV24 (View.le_trans hle8 (View.le_trans hle9 hV3))))), h3⟩
    · refine call_go (by kernel_rfl) rfl (pone_c _) fun v22 V22 hV22 hb => ?_
      have h5 := h5.mono hV22
      have ha := ha.mono hV22
      obtain ⟨xb, yb, rfl, b1, b2⟩ := hb.form
      simp only [XM, XA, XB, gateX, Nat.reduceAdd, Nat.reduceLeDiff, Nat.reduceSub, Nat.reduceMul, ↓reduceIte, Int.reduceToNat, Int.reduceLE, beq_self_eq_true]
      refine And.intro ?_ ?_
      · refine bs_go (by kernel_rfl) #[(0, .agg #[.bool (ng 1), xa, ya])] (by simp [ev_tmp, SV.val]) (bs_rat elemT_36) fun e1 he1 he1' => ?_
        simp only [XM, XA, XB, gateX, Nat.reduceAdd, Nat.reduceLeDiff, Nat.reduceSub, Nat.reduceMul, ↓reduceIte, Int.reduceToNat, Int.reduceLE, beq_self_eq_true]
        refine call_go (by kernel_rfl) rfl (pzero_c _) fun v23 V23 hV23 hc => ?_
        have h5 := h5.mono hV23
        have ha := ha.mono hV23
        have hb := hb.mono hV23
        simp only [XM, XA, XB, gateX, Nat.reduceAdd, Nat.reduceLeDiff, Nat.reduceSub, Nat.reduceMul, ↓reduceIte, Int.reduceToNat, Int.reduceLE, beq_self_eq_true]
        refine call_go (by kernel_rfl) rfl (psub_c _ _ _ _ _ (hc.toV QF_zero) (h5.toV hf_qf) QF_zero hf_qf) fun v24 V24 hV24 hd => ?_
        have h5 := h5.mono hV24
        have ha := ha.mono hV24
        have hb := hb.mono hV24
        have hc := hc.mono hV24
        rw [show (0 : Rat) - hf = -hf by rw [Rat.sub_eq_add_neg, Rat.zero_add]] at hd
        obtain ⟨xd, yd, rfl, d1, d2⟩ := hd.form
        simp only [XM, XA, XB, gateX, Nat.reduceAdd, Nat.reduceLeDiff, Nat.reduceSub, Nat.reduceMul, ↓reduceIte, Int.reduceToNat, Int.reduceLE, beq_self_eq_true]
        refine bs_go (by kernel_rfl) #[(0, .agg #[.bool (ng 1), xb, yb]), (1, .agg #[.bool (ng (-hf)), xd, yd])] (by simp [ev_tmp, SV.val]) (bs_rat2 elemT_36) fun e2 he2 he2' => ?_
        simp only [XM, XA, XB, gateX, Nat.reduceAdd, Nat.reduceLeDiff, Nat.reduceSub, Nat.reduceMul, ↓reduceIte, Int.reduceToNat, Int.reduceLE, beq_self_eq_true]
        have n12 : e1 ≠ e2 := new_ne (H := upd H8 e1 (some _)) he2 (upd_at _ _ _)
        refine call_pub e2 ⟨34, [.bool (ng 1), xb, yb, .bool (ng (-hf)), xd, yd], 6⟩ (by simp only [upd_at]) (fun o8 ho8 hle8 => ?_) (by kernel_rfl) rfl
        refine call_pub e1 ⟨34, [.bool (ng 1), xa, ya], 3⟩ ((upd_off n12).trans ((upd_off n12).trans (upd_at _ _ _))) (fun o9 ho9 hle9 => ?_) (by kernel_rfl) rfl
        have r8 := (((RowAt.nil (E := ratE) _).snoc (x := 1) (show isOne (.bool (ng 1)) = true from rfl) b1 b2 (hb)).snoc (x := -hf) (show isOne (.bool (ng (-hf))) = true from rfl) d1 d2 (hd)).pub ratE_ok ho8 hle8 (n := 2) (c := 2) rfl (Nat.le_refl _) (by omega)
        have r9 := ((RowAt.nil (E := ratE) _).snoc (x := 1) (show isOne (.bool (ng 1)) = true from rfl) a1 a2 (ha.mono hle8)).pub ratE_ok ho9 hle9 (n := 1) (c := 1) rfl (Nat.le_refl _) (by omega)
        simp only [List.nil_append, List.cons_append] at r8 r9
        have r8 := Rats.up r8 hle9
        refine call_go (by kernel_rfl) rfl (ser_half _ _ _ n h4 r9 r8) fun v3 V3 hV3 h3 => ?_
        obtain ⟨w3, rfl, h3⟩ := h3
        simp only [XM, XA, XB, gateX, Nat.reduceAdd, Nat.reduceLeDiff, Nat.reduceSub, Nat.reduceMul, ↓reduceIte, Int.reduceToNat, Int.reduceLE, beq_self_eq_true]
        exact hK _ fun f => ⟨V3, _, w3, StIs.of (by exact rfl), View.le_trans hV21 (View.le_trans hV22 (View.le_trans hV23 (View.le_trans hV24 (View.le_trans hle8 (View.le_trans hle9 hV3))))), h3⟩
      · refine call_go (by kernel_rfl) rfl (pzero_c _) fun v23 V23 hV23 hc => ?_
        have h5 := h5.mono hV23
        have ha := ha.mono hV23
        have hb := hb.mono hV23
        simp only [XM, XA, XB, gateX, Nat.reduceAdd, Nat.reduceLeDiff, Nat.reduceSub, Nat.reduceMul, ↓reduceIte, Int.reduceToNat, Int.reduceLE, beq_self_eq_true]
        refine And.intro ?_ ?_
        · refine bs_go (by kernel_rfl) #[(0, .agg #[.bool (ng 1), xa, ya])] (by simp [ev_tmp, SV.val]) (bs_rat elemT_36) fun e1 he1 he1' => ?_
          simp only [XM, XA, XB, gateX, Nat.reduceAdd, Nat.reduceLeDiff, Nat.reduceSub, Nat.reduceMul, ↓reduceIte, Int.reduceToNat, Int.reduceLE, beq_self_eq_true]
          refine call_go (by kernel_rfl) rfl (psub_c _ _ _ _ _ (hc.toV QF_zero) (h5.toV hf_qf) QF_zero hf_qf) fun v24 V24 hV24 hd => ?_
          have h5 := h5.mono hV24
          have ha := ha.mono hV24
          have hb := hb.mono hV24
          have hc := hc.mono hV24
          rw [show (0 : Rat) - hf = -hf by rw [Rat.sub_eq_add_neg, Rat.zero_add]] at hd
          obtain ⟨xd, yd, rfl, d1, d2⟩ := hd.form
          simp only [XM, XA, XB, gateX, Nat.reduceAdd, Nat.reduceLeDiff, Nat.reduceSub, Nat.reduceMul, ↓reduceIte, Int.reduceToNat, Int.reduceLE, beq_self_eq_true]
          refine bs_go (by kernel_rfl) #[(0, .agg #[.bool (ng 1), xb, yb]), (1, .agg #[.bool (ng (-hf)), xd, yd])] (by simp [ev_tmp, SV.val]) (bs_rat2 elemT_36) fun e2 he2 he2' => ?_
          simp only [XM, XA, XB, gateX, Nat.reduceAdd, Nat.reduceLeDiff, Nat.reduceSub, Nat.reduceMul, ↓reduceIte, Int.reduceToNat, Int.reduceLE, beq_self_eq_true]
          have n12 : e1 ≠ e2 := new_ne (H := upd H8 e1 (some _)) he2 (upd_at _ _ _)
          refine call_pub e2 ⟨34, [.bool (ng 1), xb, yb, .bool (ng (-hf)), xd, yd], 6⟩ (by simp only [upd_at]) (fun o8 ho8 hle8 => ?_) (by kernel_rfl) rfl
          refine call_pub e1 ⟨34, [.bool (ng 1), xa, ya], 3⟩ ((upd_off n12).trans ((upd_off n12).trans (upd_at _ _ _))) (fun o9 ho9 hle9 => ?_) (by kernel_rfl) rfl
          have r8 := (((RowAt.nil (E := ratE) _).snoc (x := 1) (show isOne (.bool (ng 1)) = true from rfl) b1 b2 (hb)).snoc (x := -hf) (show isOne (.bool (ng (-hf))) = true from rfl) d1 d2 (hd)).pub ratE_ok ho8 hle8 (n := 2) (c := 2) rfl (Nat.le_refl _) (by omega)
          have r9 := ((RowAt.nil (E := ratE) _).snoc (x := 1) (show isOne (.bool (ng 1)) = true from rfl) a1 a2 (ha.mono hle8)).pub ratE_ok ho9 hle9 (n := 1) (c := 1) rfl (Nat.le_refl _) (by omega)
          simp only [List.nil_append, List.cons_append] at r8 r9
          have r8 := Rats.up r8 hle9
          refine call_go (by kernel_rfl) rfl (ser_half _ _ _ n h4 r9 r8) fun v3 V3 hV3 h3 => ?_
          obtain ⟨w3, rfl, h3⟩ := h3
          simp only [XM, XA, XB, gateX, Nat.reduceAdd, Nat.reduceLeDiff, Nat.reduceSub, Nat.reduceMul, ↓reduceIte, Int.reduceToNat, Int.reduceLE, beq_self_eq_true]
          exact hK _ fun f => ⟨V3, _, w3, StIs.of (by exact rfl), View.le_trans hV21 (View.le_trans hV22 (View.le_trans hV23 (View.le_trans hV24 (View.le_trans hle8 (View.le_trans hle9 hV3))))), h3⟩
        · refine call_go (by kernel_rfl) rfl (psub_c _ _ _ _ _ (hc.toV QF_zero) (h5.toV hf_qf) QF_zero hf_qf) fun v24 V24 hV24 hd => ?_
          have h5 := h5.mono hV24
          have ha := ha.mono hV24
          have hb := hb.mono hV24
          have hc := hc.mono hV24
          rw [show (0 : Rat) - hf = -hf by rw [Rat.sub_eq_add_neg, Rat.zero_add]] at hd
          obtain ⟨xd, yd, rfl, d1, d2⟩ := hd.form
          simp only [XM, XA, XB, gateX, Nat.reduceAdd, Nat.reduceLeDiff, Nat.reduceSub, Nat.reduceMul, ↓reduceIte, Int.reduceToNat, Int.reduceLE, beq_self_eq_true]
          refine And.intro ?_ ?_
          · refine bs_go (by kernel_rfl) #[(0, .agg #[.bool (ng 1), xa, ya])] (by simp [ev_tmp, SV.val]) (bs_rat elemT_36) fun e1 he1 he1' => ?_
            simp only [XM, XA, XB, gateX, Nat.reduceAdd, Nat.reduceLeDiff, Nat.reduceSub, Nat.reduceMul, ↓reduceIte, Int.reduceToNat, Int.reduceLE, beq_self_eq_true]
            refine bs_go (by kernel_rfl) #[(0, .agg #[.bool (ng 1), xb, yb]), (1, .agg #[.bool (ng (-hf)), xd, yd])] (by simp [ev_tmp, SV.val]) (bs_rat2 elemT_36) fun e2 he2 he2' => ?_
            simp only [XM, XA, XB, gateX, Nat.reduceAdd, Nat.reduceLeDiff, Nat.reduceSub, Nat.reduceMul, ↓reduceIte, Int.reduceToNat, Int.reduceLE, beq_self_eq_true]
            have n12 : e1 ≠ e2 := new_ne (H := upd H8 e1 (some _)) he2 (upd_at _ _ _)
            refine call_pub e2 ⟨34, [.bool (ng 1), xb, yb, .bool (ng (-hf)), xd, yd], 6⟩ (by simp only [upd_at]) (fun o8 ho8 hle8 => ?_) (by kernel_rfl) rfl
            refine call_pub e1 ⟨34, [.bool (ng 1), xa, ya], 3⟩ ((upd_off n12).trans ((upd_off n12).trans (upd_at _ _ _))) (fun o9 ho9 hle9 => ?_) (by kernel_rfl) rfl
            have r8 := (((RowAt.nil (E := ratE) _).snoc (x := 1) (show isOne (.bool (ng 1)) = true from rfl) b1 b2 (hb)).snoc (x := -hf) (show isOne (.bool (ng (-hf))) = true from rfl) d1 d2 (hd)).pub ratE_ok ho8 hle8 (n := 2) (c := 2) rfl (Nat.le_refl _) (by omega)
            have r9 := ((RowAt.nil (E := ratE) _).snoc (x := 1) (show isOne (.bool (ng 1)) = true from rfl) a1 a2 (ha.mono hle8)).pub ratE_ok ho9 hle9 (n := 1) (c := 1) rfl (Nat.le_refl _) (by omega)
            simp only [List.nil_append, List.cons_append] at r8 r9
            have r8 := Rats.up r8 hle9
            refine call_go (by kernel_rfl) rfl (ser_half _ _ _ n h4 r9 r8) fun v3 V3 hV3 h3 => ?_
            obtain ⟨w3, rfl, h3⟩ := h3
            simp only [XM, XA, XB, gateX, Nat.reduceAdd, Nat.reduceLeDiff, Nat.reduceSub, Nat.reduceMul, ↓reduceIte, Int.reduceToNat, Int.reduceLE, beq_self_eq_true]
            exact hK _ fun f => ⟨V3, _, w3, StIs.of (by exact rfl), View.le_trans hV21 (View.le_trans hV22 (View.le_trans hV23 (View.le_trans hV24 (View.le_trans hle8 (View.le_trans hle9 hV3))))), h3⟩
          · refine bs_go (by kernel_rfl) #[(0, .agg #[.bool (ng 1), xb, yb]), (1, .agg #[.bool (ng (-hf)), xd, yd])] (by simp [ev_tmp, SV.val]) (bs_rat2 elemT_36) fun e2 he2 he2' => ?_
            simp only [XM, XA, XB, gateX, Nat.reduceAdd, Nat.reduceLeDiff, Nat.reduceSub, Nat.reduceMul, ↓reduceIte, Int.reduceToNat, Int.reduceLE, beq_self_eq_true]
            refine bs_go (by kernel_rfl) #[(0, .agg #[.bool (ng 1), xa, ya])] (by simp [ev_tmp, SV.val]) (bs_rat elemT_36) fun e1 he1 he1' => ?_
            simp only [XM, XA, XB, gateX, Nat.reduceAdd, Nat.reduceLeDiff, Nat.reduceSub, Nat.reduceMul, ↓reduceIte, Int.reduceToNat, Int.reduceLE, beq_self_eq_true]
            have n12 : e1 ≠ e2 := Ne.symm (new_ne (H := upd H8 e2 (some _)) he1 (upd_at _ _ _))
            refine call_pub e1 ⟨34, [.bool (ng 1), xa, ya], 3⟩ (by simp only [upd_at]) (fun o8 ho8 hle8 => ?_) (by kernel_rfl) rfl
            refine call_pub e2 ⟨34, [.bool (ng 1), xb, yb, .bool (ng (-hf)), xd, yd], 6⟩ ((upd_off (Ne.symm n12)).trans ((upd_off (Ne.symm n12)).trans (upd_at _ _ _))) (fun o9 ho9 hle9 => ?_) (by kernel_rfl) rfl
            have r8 := ((RowAt.nil (E := ratE) _).snoc (x := 1) (show isOne (.bool (ng 1)) = true from rfl) a1 a2 (ha)).pub ratE_ok ho8 hle8 (n := 1) (c := 1) rfl (Nat.le_refl _) (by omega)
            have r9 := (((RowAt.nil (E := ratE) _).snoc (x := 1) (show isOne (.bool (ng 1)) = true from rfl) b1 b2 (hb.mono hle8)).snoc (x := -hf) (show isOne (.bool (ng (-hf))) = true from rfl) d1 d2 (hd.mono hle8)).pub ratE_ok ho9 hle9 (n := 2) (c := 2) rfl (Nat.le_refl _) (by omega)
            simp only [List.nil_append, List.cons_append] at r8 r9
            have r8 := Rats.up r8 hle9
            refine call_go (by kernel_rfl) rfl (ser_half _ _ _ n h4 r8 r9) fun v3 V3 hV3 h3 => ?_
            obtain ⟨w3, rfl, h3⟩ := h3
            simp only [XM, XA, XB, gateX, Nat.reduceAdd, Nat.reduceLeDiff, Nat.reduceSub, Nat.reduceMul, ↓reduceIte, Int.reduceToNat, Int.reduceLE, beq_self_eq_true]
            exact hK _ fun f => ⟨V3, _, w3, StIs.of (by exact rfl), View.le_trans hV21 (View.le_trans hV22 (View.le_trans hV23 (View.le_trans hV24 (View.le_trans hle8 (View.le_trans hle9 hV3))))), h3⟩
  rintro s ⟨V9, H9, w12, hs, hV9, h12⟩
  obtain ⟨z, rfl⟩ := hs.out
  try dsimp only
  clear hs
  have hP := hP.up hV9
  have h5 := h5.mono hV9
  have h8 := h8.up hV9
  have h10 := h10.up hV9
  clear hV9
  have hP1 : Rats _ _ _ := SlAt.drop hP (k := 1) (by omega)
  have hP0 : Rats _ _ _ := SlAt.take hP (k := n) (by omega)
  rw [← hPP] at hP1 hP0
  have e1 : (pwL (n + 1)).drop 1 = mk n fun k => pw (k + 1) := by rw [pw_next]; rfl
  have e0 : (pwL (n + 1)).take n = pwL n := by rw [pwL_succ, List.take_append_of_le_length (by rw [pwL_len]; omega), List.take_of_length_le (by rw [pwL_len]; omega)]
  rw [e1] at hP1
  rw [e0] at hP0
  have qS := pwS_qf n (by omega)
  have q0 := pwL_qf n (by omega)
  refine XWP.seq ?_
  first | refine Gx.a (by kernel_rfl) fun K hK => ?_ | refine Gx.b (by kernel_rfl) fun K hK => ?_ | refine Gx.c (by kernel_rfl) fun K hK => ?_
  simp only [XM, XA, XB, gateX, Nat.reduceAdd, Nat.reduceLeDiff, Nat.reduceSub, Nat.reduceMul, ↓reduceIte, Int.reduceToNat, Int.reduceLE, beq_self_eq_true, decide_true]
  refine ⟨by omega, by omega, ?_⟩
  try simp only [XM, XA, XB, gateX, Nat.reduceAdd, Nat.reduceLeDiff, Nat.reduceSub, Nat.reduceMul, ↓reduceIte, Int.reduceToNat, Int.reduceLE, beq_self_eq_true, decide_true]
  refine call_go (by kernel_rfl) rfl (lsame_c _ _ _ _ _ h8 hP1 qS qS) fun v10 V10 hV10 g10 => ?_
  subst g10
  simp only [XM, XA, XB, gateX, Nat.reduceAdd, Nat.reduceLeDiff, Nat.reduceSub, Nat.reduceMul, ↓reduceIte, Int.reduceToNat, Int.reduceLE, beq_self_eq_true, decide_true]
  refine ⟨by omega, by omega, ?_⟩
  try simp only [XM, XA, XB, gateX, Nat.reduceAdd, Nat.reduceLeDiff, Nat.reduceSub, Nat.reduceMul, ↓reduceIte, Int.reduceToNat, Int.reduceLE, beq_self_eq_true, decide_true]
  refine call_go (by kernel_rfl) rfl (lsame_c _ _ _ _ _ (h10.up hV10) (hP1.up hV10) qS qS) fun v11 V11 hV11 g11 => ?_
  subst g11
  simp only [XM, XA, XB, gateX, Nat.reduceAdd, Nat.reduceLeDiff, Nat.reduceSub, Nat.reduceMul, ↓reduceIte, Int.reduceToNat, Int.reduceLE, beq_self_eq_true, decide_true]
  refine ⟨by omega, by omega, by omega, ?_⟩
  try simp only [XM, XA, XB, gateX, Nat.reduceAdd, Nat.reduceLeDiff, Nat.reduceSub, Nat.reduceMul, ↓reduceIte, Int.reduceToNat, Int.reduceLE, beq_self_eq_true, decide_true]
  refine call_go (by kernel_rfl) rfl (lsame_c _ _ _ _ _ ((h12.up hV10).up hV11) ((hP0.up hV10).up hV11) q0 q0) fun v12 V12 hV12 g12 => ?_
  subst g12
  simp only [XM, XA, XB, gateX, Nat.reduceAdd, Nat.reduceLeDiff, Nat.reduceSub, Nat.reduceMul, ↓reduceIte, Int.reduceToNat, Int.reduceLE, beq_self_eq_true, decide_true]
  refine hK _ ?_
  first | refine Gx.f rfl ?_ | refine XWP.seq (Gx.f rfl ?_)
  refine XWP.skip ?_
  have hle := View.le_trans hV10 (View.le_trans hV11 hV12)
  refine XWP.seq ?_
  by_cases h2 : n < 2
  · have b1 : decide ((n : Int) < 2) = true := decide_eq_true (by omega)
    first | refine Gx.a (by kernel_rfl) fun K hK => ?_ | refine Gx.b (by kernel_rfl) fun K hK => ?_ | refine Gx.c (by kernel_rfl) fun K hK => ?_
    simp only [XM, XA, XB, gateX, Nat.reduceAdd, Nat.reduceLeDiff, Nat.reduceSub, Nat.reduceMul, ↓reduceIte, Int.reduceToNat, Int.reduceLE, beq_self_eq_true, b1]
    refine hK _ ?_
    first | refine Gx.t rfl ?_ | refine XWP.seq (Gx.t rfl ?_)
    first | refine Gx.a (by kernel_rfl) fun K hK => ?_ | refine Gx.b (by kernel_rfl) fun K hK => ?_ | refine Gx.c (by kernel_rfl) fun K hK => ?_
    simp only [XM, XA, XB, gateX, Nat.reduceAdd, Nat.reduceLeDiff, Nat.reduceSub, Nat.reduceMul, ↓reduceIte, Int.reduceToNat, Int.reduceLE, beq_self_eq_true]
    refine call_go (by kernel_rfl) rfl (alive_c _) fun v13 V13 hV13 g13 => ?_
    subst g13
    simp only [XM, XA, XB, gateX, Nat.reduceAdd, Nat.reduceLeDiff, Nat.reduceSub, Nat.reduceMul, ↓reduceIte, Int.reduceToNat, Int.reduceLE, beq_self_eq_true]
    refine hK _ (XWP.ret ?_)
    try simp only [thenX_ret, inBlockX_ret]
    refine ret_go _ rfl ?_
    rfl
  have b1 : decide ((n : Int) < 2) = false := decide_eq_false (by omega)
  first | refine Gx.a (by kernel_rfl) fun K hK => ?_ | refine Gx.b (by kernel_rfl) fun K hK => ?_ | refine Gx.c (by kernel_rfl) fun K hK => ?_
  simp only [XM, XA, XB, gateX, Nat.reduceAdd, Nat.reduceLeDiff, Nat.reduceSub, Nat.reduceMul, ↓reduceIte, Int.reduceToNat, Int.reduceLE, beq_self_eq_true, b1]
  refine hK _ ?_
  first | refine Gx.f rfl ?_ | refine XWP.seq (Gx.f rfl ?_)
  refine XWP.skip ?_
  first | refine Gx.a (by kernel_rfl) fun K hK => ?_ | refine Gx.b (by kernel_rfl) fun K hK => ?_ | refine Gx.c (by kernel_rfl) fun K hK => ?_
  simp only [XM, XA, XB, gateX, Nat.reduceAdd, Nat.reduceLeDiff, Nat.reduceSub, Nat.reduceMul, ↓reduceIte, Int.reduceToNat, Int.reduceLE, beq_self_eq_true]
  refine ⟨by omega, by omega, by omega, ?_⟩
  try simp only [XM, XA, XB, gateX, Nat.reduceAdd, Nat.reduceLeDiff, Nat.reduceSub, Nat.reduceMul, ↓reduceIte, Int.reduceToNat, Int.reduceLE, beq_self_eq_true]
  refine call_go (by kernel_rfl) rfl (rec_half _ _ n (by omega) h4 (hP0.up hle)) fun v13 V13 hV13 g13 => ?_
  obtain ⟨w14, rfl, g13⟩ := g13
  simp only [XM, XA, XB, gateX, Nat.reduceAdd, Nat.reduceLeDiff, Nat.reduceSub, Nat.reduceMul, ↓reduceIte, Int.reduceToNat, Int.reduceLE, beq_self_eq_true]
  refine hK _ ?_
  first | refine Gx.a (by kernel_rfl) fun K hK => ?_ | refine Gx.b (by kernel_rfl) fun K hK => ?_ | refine Gx.c (by kernel_rfl) fun K hK => ?_
  simp only [XM, XA, XB, gateX, Nat.reduceAdd, Nat.reduceLeDiff, Nat.reduceSub, Nat.reduceMul, ↓reduceIte, Int.reduceToNat, Int.reduceLE, beq_self_eq_true, decide_true]
  refine bs_go (by kernel_rfl) #[(0, .agg #[.bool (ng hf), hx, hy])] (by simp [ev_tmp, SV.val]) (bs_rat elemT_22) fun b7 hb7 hb7' => ?_
  simp only [XM, XA, XB, gateX, Nat.reduceAdd, Nat.reduceLeDiff, Nat.reduceSub, Nat.reduceMul, ↓reduceIte, Int.reduceToNat, Int.reduceLE, beq_self_eq_true, decide_true]
  refine call_pub b7 ⟨34, [.bool (ng hf), hx, hy], 3⟩ (by simp only [upd_at]) (fun o9 ho9 hle9 => ?_) (by kernel_rfl) rfl
  have r7 := ((RowAt.nil (E := ratE) _).snoc (x := hf) (show isOne (.bool (ng hf)) = true from rfl) p1 p2 ((h5.mono hle).mono hV13)).pub ratE_ok ho9 hle9 (n := 1) (c := 1) rfl (Nat.le_refl _) (by omega)
  simp only [List.nil_append] at r7
  have qh : ∀ x ∈ [hf], QF x := hf_CB.qf (by omega)
  refine call_go (by kernel_rfl) rfl (lsame_c _ _ _ _ _ (Rats.up g13 hle9) r7 qh qh) fun v14 V14 hV14 g14 => ?_
  subst g14
  simp only [XM, XA, XB, gateX, Nat.reduceAdd, Nat.reduceLeDiff, Nat.reduceSub, Nat.reduceMul, ↓reduceIte, Int.reduceToNat, Int.reduceLE, beq_self_eq_true, decide_true]
  refine call_go (by kernel_rfl) rfl (alive_c _) fun v15 V15 hV15 g15 => ?_
  subst g15
  simp only [XM, XA, XB, gateX, Nat.reduceAdd, Nat.reduceLeDiff, Nat.reduceSub, Nat.reduceMul, ↓reduceIte, Int.reduceToNat, Int.reduceLE, beq_self_eq_true]
  refine hK _ (XWP.ret ?_)
  try simp only [thenX_ret, inBlockX_ret]
  refine ret_go _ rfl ?_
  rfl
end Go.Proofs.Ythoboehbadmlmaa
end
section
namespace Go.Proofs.Ythoboehbadmlmaa.recurLong
open Go.ChangeShapes Go.WideShapes Go.ChangeAt Go.RowKit
set_option linter.unusedVariables false
theorem own : ownKnob Try.prog.godebug = none := by kernel_rfl
theorem laidOut : laidOutB Try.prog = true := by kernel_rfl
set_option maxRecDepth 100000 in
theorem lifted (os : Os) (started : os.Started) (H : Type) (enc : TypeId × Value → H) :
    ReturnsInHanded {} Try.checked os 11 .any (Rows.recurLongSpec.pre6 enc Try.prog Try.f11 Rows.recurLongRow.domain false) (Rows.recurLongSpec.post enc Try.prog Try.f11 false true false false) := by
  refine returnsInHanded_of_change_sized (C := Try.checked) own started (by kernel_rfl) Try.func11
    (ChangeSpec.witness6 (enc := enc) (C := Try.checked) false ⟨#[], #[.int .i64 0], []⟩ 8 (by kernel_rfl) (by kernel_rfl) (by kernel_rfl) (by kernel_rfl)) ?_
  intro W base args ds gs before hval0 hW hcnd hsz0 _
  have hval : ∀ (j : Nat) t v, Try.f11.params[j]? = some t → args[j]? = some v → Value.okWide Try.prog W .any base t v := hval0
  have hW' := hW
  obtain ⟨p, q, hA0, hV, rfl, hfz, hnd⟩ := hW
  have hA : DataW.TrodAll enc Try.prog W 0 (fun _ => true) true Try.f11.params.toList args.toList ds p := hA0
  rw [Try.params11] at hA hval
  obtain ⟨v0, vs0, d0, ds0, p0, q0, hargs, rfl, rfl, h0, r0⟩ := trodAll_cons hA
  obtain ⟨rfl, rfl, rfl⟩ := trodAll_nil r0
  obtain rfl : args = #[v0] := by cases args; simp_all
  obtain ⟨rfl, rfl⟩ := trodVars_none hV
  obtain ⟨a0, rfl, rfl, rfl, w0⟩ := open_int (k := .i64) (by kernel_rfl) (hval 0 3 v0 rfl rfl) h0
  clear hA0 hval0 hsz0
  refine (long_c (viewW W)  a0  W (viewW_sub W)).mono fun e W' ⟨v, V', he, _, _, _, bel, hv⟩ => ?_
  subst hv
  subst he
  exact ⟨_, rfl, _, _, _, [], _, [], hW', trodAll_mk1 (shut_bool Try.underlying4 _), (trodAll_cons_mk (shut_int (k := .i64) (by kernel_rfl) w0) trodAll_mk0), rfl, bel.frame _, fun h => by cases h⟩
theorem over : Rows.recurLongRow.holds Try.pinned (OpenSpec.ofChange Rows.recurLongSpec) :=
  OpenClaim.holds_of_wide 11 Try.f11 rfl rfl rfl rfl rfl rfl rfl ⟨rfl, rfl, rfl, rfl, rfl⟩ rfl rfl rfl rfl rfl (by kernel_rfl) Try.func11 (by kernel_rfl)
    (of_decide_eq_true (by kernel_rfl)) (by unfold Func.isWrapper; first | (rw [if_pos (by decide +kernel)]; kernel_rfl) | (rw [if_neg (by decide +kernel)]; exact ⟨rfl, rfl⟩))
    (fun os started H enc _ => lifted os started H enc)
theorem proved : Rows.RecurLongSaid := over
#print axioms proved
end Go.Proofs.Ythoboehbadmlmaa.recurLong
namespace Go.Proofs.Ythoboehbadmlmaa
/-- The row, under a short name, for the claim. -/
theorem recurLong_holds : Rows.RecurLongSaid := recurLong.proved
end Go.Proofs.Ythoboehbadmlmaa
end
