/- KernelMixes answers true at every input: a mixture of two kernels, errors and their order included. (part 11 of 11) -/
import Derived.OrdersHeld
import Derived.Below
import Derived.Tactics
import Derived.KernelRfl
import Derived.RangeFuncCalls
import Derived.RangeFuncFrom
import Derived.RangeFuncLeaves
import Derived.OrdersIn
import Derived.Laws.AppendOwn
import Derived.Laws.MakeOwn
import Derived.Laws.CopyRow
import Derived.Laws.Cells
import Derived.Laws.World
import Derived.Laws.Alloc2
import Derived.Laws.NewBlocks
import Derived.Maps.AppendAt
import Derived.Test.YtobjjdnfgamgcaaProg
import Init.Data.List.Lemmas
import Init.Omega
import Derived.WalkKit
import Derived.ProofKit
import Derived.OpenShut
import Derived.ChangeOld
import Derived.SizedLaws
import Derived.ChangeSlices
import Derived.ChangeArms
import Derived.Deep.Slices
import Derived.MapKept
import Derived.Maps.RangeRun
import Derived.Test.YtobjjdnfgamgcaaRows
import Derived.ShutString
import Derived.Test.YtobjjdnfgamgcaaMX10
section
namespace Go.Proofs.Ytobjjdnfgamgcaa
open Go Go.RowKit
set_option linter.unusedSimpArgs false
set_option linter.unusedVariables false
attribute [local irreducible] XWP Spec SpecO XPub XCall seqX clX apX stX ldX iaX slX
theorem flat_add (G H : Grid) (n : Nat) : mk (n * n) (fun p => cf (flatG G n n) p + cf (flatG H n n) p) = flatG (fun i k => G i k + H i k) n n := by
  refine mk_congr fun p hp => ?_
  unfold flatG
  rw [cf_mk, cf_mk, if_pos hp, if_pos hp]; rfl
theorem flat_scale (G : Grid) (q : Rat) (n : Nat) : mk (n * n) (fun p => cf (flatG G n n) p * q) = flatG (fun i k => G i k * q) n n := by
  refine mk_congr fun p hp => ?_
  unfold flatG
  rw [cf_mk, if_pos hp]; rfl
theorem SqM.cfq {V : View} {s : Value} {n B : Nat} {G : Grid} (h : SqM V s n B G) (p : Nat) : QB B (cf (flatG G n n) p) := by
  by_cases hp : p < (flatG G n n).length
  · exact h.mem _ (cf_mem hp)
  · rw [cf_none (by omega)]; exact QB_zero _
theorem dAdd_c' (V : View) (s1 s2 : Value) (n B C : Nat) (G H : Grid) (ha : SqM V s1 n B G) (hb : SqM V s2 n C H) (hfit : B + C + 1 ≤ 17592186044416) :
    Spec Try.prog 38 [.agg #[.int .i64 (n : Int), .int .i64 (n : Int), s1], .agg #[.int .i64 (n : Int), .int .i64 (n : Int), s2]] V fun v' V' => ∃ w, v' = .tuple #[.agg #[.int .i64 (n : Int), .int .i64 (n : Int), w], .int .i64 0] ∧ Rats V' w (flatG (fun i k => G i k + H i k) n n) := by
  obtain ⟨A1, c1, rfl, hc1, hm1⟩ := ha.hv.form
  obtain ⟨A2, c2, rfl, hc2, hm2⟩ := hb.hv.form
  have hn := ha.hn
  have hnn := sq_le hn
  have la := flatG_len G n n
  have lb := flatG_len H n n
  rw [la] at ha ⊢
  rw [lb] at hb ⊢
  have hml := flatG_len (fun i k => G i k + H i k) n n
  refine (Spec.enter Try.func38 rfl fun Γ => ?_)
  simp only [Try.ntmps38, List.map_cons, List.map_nil, List.length_cons, List.length_nil, Nat.reduceAdd, Nat.reduceSub, List.replicate_succ, List.replicate_zero, List.cons_append, List.nil_append]
  refine Gx.a (by kernel_rfl) fun K hK => ?_
  simp only [XM, XA, Nat.reduceAdd]
  refine hK _ ?_
  refine XWP.cut (fun s => ∃ V2, StIs (fun Z => [Z 0,Z 1, .p 0 0, .p 1 0, .p 2 0, .v (.int .i64 0), Z 6,Z 7,Z 8,Z 9,Z 10,Z 11,Z 12,Z 13,Z 14,Z 15,Z 16,Z 17,Z 18,Z 19,Z 20,Z 21,Z 22,Z 23,Z 24,Z 25,Z 26,Z 27,Z 28,Z 29,Z 30,Z 31,Z 32,Z 33,Z 34,Z 35,Z 36,Z 37,Z 38,Z 39,Z 40,Z 41,Z 42,Z 43,Z 44,Z 45,Z 46,Z 47,Z 48,Z 49,Z 50,Z 51,Z 52,Z 53,Z 54,Z 55,Z 56,Z 57,Z 58,Z 59]) [[.int .i64 (n : Int), .int .i64 (n : Int), .slice A1 (n * n) c1], [.int .i64 (n : Int), .int .i64 (n : Int), .slice A2 (n * n) c2], [.int .i64 0, .int .i64 0, .slice none 0 0]] (fun _ => none) V2 s ∧ V.le V2) ?_ ?_
  · refine XWP.block ?_
    refine XWP.seq ?_
    refine Gx.c (by kernel_rfl) fun K hK => ?_
    simp only [XM, XA, Nat.reduceAdd, Nat.reduceLeDiff, ↓reduceIte]
    refine call_go (by kernel_rfl) rfl (dmr_c ha (by omega)) fun v5 V5 hV5 h5 => ?_
    subst h5
    simp only [XM, XA, gateX, Nat.reduceAdd, Nat.reduceLeDiff, ↓reduceIte, beq_self_eq_true]
    refine call_go (by kernel_rfl) rfl (dmr_c (hb.up hV5) (by omega)) fun v6 V6 hV6 h6 => ?_
    subst h6
    simp only [XA, gateX, ↓reduceIte, beq_self_eq_true]
    refine hK _ ?_
    refine Gx.f rfl ?_
    refine XWP.seq ?_
    refine Gx.c (by kernel_rfl) fun K hK => ?_
    simp only [XM, XA, XB, gateX, ↓reduceIte, beq_self_eq_true, decide_true]
    refine hK _ ?_
    refine Gx.f rfl ?_
    refine XWP.skip ?_
    exact ⟨V6, StIs.of (by exact rfl), View.le_trans hV5 hV6⟩
  rintro s ⟨V2, hs, hV2⟩
  obtain ⟨z, rfl⟩ := hs.out
  try dsimp only
  clear hs
  refine Gx.a (by kernel_rfl) fun K hK => ?_
  simp only [XM, XA, XB]
  refine call_own (by kernel_rfl) rfl (dzeros_o _ n n hn hn) fun v1 V1 o1 hV1 hs1 h1 => ?_
  obtain ⟨sl, cells1, rfl, hown1, hrow1⟩ := h1
  generalize addRow (fun _ => none) o1 = H1 at *
  have osl := own_isOne hown1
  obtain ⟨As, cs, rfl⟩ : ∃ As cs, sl = .slice As (n * n) cs := by
    rcases own_parts hown1 with ⟨rfl, h0, _⟩ | ⟨g, cap, rfl, _⟩
    · exact ⟨none, 0, by rw [h0]⟩
    · exact ⟨_, cap, rfl⟩
  simp only [XM, XA, Nat.reduceAdd]
  refine st_mat shapeT_36 rfl rfl rfl rfl osl ?_
  simp only [XA]
  refine hK _ ?_
  clear hK
  refine XWP.cut (fun s => ∃ (V2 : View) (H5 : Heap) (cells : List Value), StIs (fun Z => [Z 0,Z 1, .p 0 0, .p 1 0, .p 2 0, Z 5, .p 3 0, Z 7,Z 8,Z 9,Z 10,Z 11,Z 12,Z 13,Z 14,Z 15,Z 16,Z 17,Z 18,Z 19,Z 20,Z 21,Z 22,Z 23,Z 24,Z 25,Z 26,Z 27,Z 28,Z 29,Z 30,Z 31,Z 32,Z 33,Z 34,Z 35,Z 36,Z 37,Z 38,Z 39,Z 40,Z 41,Z 42,Z 43,Z 44,Z 45,Z 46,Z 47,Z 48,Z 49,Z 50,Z 51,Z 52,Z 53,Z 54,Z 55,Z 56,Z 57,Z 58,Z 59]) [[.int .i64 (n : Int), .int .i64 (n : Int), .slice A1 (n * n) c1], [.int .i64 (n : Int), .int .i64 (n : Int), .slice A2 (n * n) c2], [.int .i64 0, .int .i64 0, .slice none 0 0], [.int .i64 (n : Int), .int .i64 (n : Int), .slice As (n * n) cs]] H5 V2 s ∧ Own H5 31 3 (.slice As (n * n) cs) (n * n) cells ∧ RowAt ratE V2 cells (flatG (fun i k => G i k + H i k) n n)) ?_ ?_
  · refine Gx.a (by kernel_rfl) fun K hK => ?_
    simp only [XM, XA, XB]
    refine hK _ ?_
    clear hK
    refine XWP.block ?_
    refine XWP.loop (fun x s => ∃ (i : Nat) (V2 : View) (H5 : Heap) (cells : List Value), StIs (fun Z => [Z 0,Z 1, .p 0 0, .p 1 0, .p 2 0, Z 5, .p 3 0, Z 7,Z 8,Z 9,Z 10,Z 11,Z 12,Z 13,Z 14,Z 15,Z 16,Z 17,Z 18,Z 19,Z 20,Z 21,Z 22,Z 23,Z 24,Z 25,Z 26,Z 27,Z 28,Z 29,Z 30,Z 31,Z 32,Z 33,Z 34,Z 35,Z 36,Z 37,Z 38, .v (.int .i64 ((n * n : Nat) : Int)), .v (.int .i64 (i : Int)), Z 41,Z 42,Z 43,Z 44,Z 45,Z 46,Z 47,Z 48,Z 49,Z 50,Z 51,Z 52,Z 53,Z 54,Z 55,Z 56,Z 57,Z 58,Z 59]) [[.int .i64 (n : Int), .int .i64 (n : Int), .slice A1 (n * n) c1], [.int .i64 (n : Int), .int .i64 (n : Int), .slice A2 (n * n) c2], [.int .i64 0, .int .i64 0, .slice none 0 0], [.int .i64 (n : Int), .int .i64 (n : Int), .slice As (n * n) cs]] H5 V2 s ∧ V.le V2 ∧ x + i = n * n ∧ Own H5 31 3 (.slice As (n * n) cs) (n * n) cells ∧ RowAt ratE V2 cells (mk (n * n) (fzP (fun p => cf (flatG G n n) p + cf (flatG H n n) p) i))) (n * n) ⟨0, V1, H1, cells1, StIs.of (by exact rfl), View.le_trans hV2 hV1, by omega, hown1, by rw [fzP_zero]; exact hrow1⟩ ?_
    clear hown1 hrow1
    rintro x s ⟨i, V2, H5, cells, hs, hV2, hx, hown, hrow⟩
    obtain ⟨z, rfl⟩ := hs.out
    try dsimp only
    clear hs
    by_cases hi : i < n * n
    rotate_left
    · obtain rfl : i = n * n := by omega
      have b1 : decide (((n * n : Nat) : Int) < ((n * n : Nat) : Int)) = false := decide_eq_false (by omega)
      refine Gx.a (by kernel_rfl) fun K hK => ?_
      simp only [XA, XB, b1]
      refine hK _ ?_
      refine XWP.seq (Gx.f rfl ?_)
      refine XWP.exit ?_
      rw [fzP_all, flat_add] at hrow
      exact ⟨V2, H5, cells, StIs.of (by exact rfl), hown, hrow⟩
    have b1 : decide ((i : Int) < ((n * n : Nat) : Int)) = true := decide_eq_true (by omega)
    refine Gx.a (by kernel_rfl) fun K hK => ?_
    simp only [XA, XB, b1]
    refine hK _ ?_
    refine XWP.seq (Gx.t rfl ?_)
    refine XWP.skip ?_
    refine XWP.seq ?_
    refine XWP.block ?_
    refine Gx.a (by kernel_rfl) fun K hK => ?_
    simp only [XA]
    refine hK _ ?_
    rcases own_parts hown with ⟨_, h0, _⟩ | ⟨g, cap, esl, hg, hle, hcap, hcl⟩
    · omega
    cases esl
    have ha4 := ha.hv.up hV2
    have hb4 := hb.hv.up hV2
    obtain ⟨ba, oa, rfl⟩ := SlAt.addr ha4 (by omega)
    obtain ⟨bb', ob, rfl⟩ := SlAt.addr hb4 (by omega)
    obtain ⟨m3, n3, d3, hx3, _, hld3⟩ := Rats.get ha4 i (by omega)
    obtain ⟨m4, n4, d4, hx4, _, hld4⟩ := Rats.get hb4 i (by omega)
    have q3 := (ha.cfq i).qf (show B ≤ 17592186044416 by omega)
    have q4 := (hb.cfq i).qf (show C ≤ 17592186044416 by omega)
    (refine XWP.drw1 [0, 1, 2, 3, 4, 5, 6, 7, 8, 9, 10, 11, 12, 13, 14, 15] (by kernel_rfl) (by kernel_rfl) (by kernel_rfl) fun K hK => ?_) <;> dsimp only [pickOps, List.getElem?_cons_zero, List.getElem?_cons_succ]
    simp only [XM, XA, XB]
    refine ⟨by omega, by omega, ld_mem (hld3 _) ?_⟩
    simp only [XM, XA, XB]
    refine ⟨by omega, by omega, ld_mem (hld4 _) ?_⟩
    simp only [XA]
    refine call_go (by kernel_rfl) rfl (padd_c _ _ _ _ _ (hx3.toV q3) (hx4.toV q4) q3 q4) fun v10 V10 hV10 h10 => ?_
    obtain ⟨x10, y10, rfl, o5, o6⟩ := h10.form
    have hrow9 := hrow.mono ratE_ok hV10
    have hl9 := hrow9.1
    rw [mk_len] at hl9
    simp only [XA, XB]
    refine ⟨by omega, by omega, ?_⟩
    refine st_rowA shapeT_31 (all3 rfl o5 o6) rfl hg (by dsimp only; omega) ?_
    simp only [XA]
    refine hK _ ?_
    have hrow10 := hrow9.set i (by rw [mk_len]; exact hi) (show isOne (.bool (ng (cf (flatG G n n) i + cf (flatG H n n) i))) = true from rfl) o5 o6 h10
    rw [fzP_step (fun p => cf (flatG G n n) p + cf (flatG H n n) p) hi] at hrow10
    have hl10 := hrow10.1
    rw [mk_len] at hl10
    refine Gx.c (by kernel_rfl) fun K hK => ?_
    simp only [XA, XB, i64_succ i (by omega)]
    exact hK _ ⟨x - 1, by omega, i + 1, V10, _, _, StIs.of (by exact rfl), View.le_trans hV2 hV10, by omega, own3 (upd_at _ _ _) hl10 hle (by unfold maxLen at hcap; omega), hrow10⟩
  rintro s ⟨V2, H5, cells, hs, hown, hrow⟩
  obtain ⟨z, rfl⟩ := hs.out
  try dsimp only
  refine Gx.a (by kernel_rfl) fun K hK => ?_
  simp only [XM, XA, Nat.reduceAdd, Nat.reduceLeDiff, ↓reduceIte]
  refine st_mat shapeT_36 rfl rfl rfl rfl osl ?_
  simp only [XA]
  refine hK _ (XWP.ret ?_)
  try simp only [thenX_ret, inBlockX_ret]
  rcases own_parts hown with ⟨esl, h0, rfl⟩ | ⟨g, cap, esl, hg, hle, hcap, hcl⟩
  · simp only [Value.slice.injEq] at esl
    obtain ⟨rfl, _, rfl⟩ := esl
    refine ret_go _ (by simp [resAll, resV, cellsV, shapeT_36]; rfl) ⟨_, rfl, ?_⟩
    rw [List.length_eq_zero_iff.1 (hml.trans h0), h0]; exact SlAt.nil _
  · cases esl
    refine ret_pub g _ hg fun o ho hle' => ret_go _ (by simp [resAll, resV, cellsV, shapeT_36]; rfl) ⟨_, rfl, ?_⟩
    exact hrow.pub ratE_ok ho hle' hml hle (by unfold maxLen at hcap; omega)
theorem dScale_c' (V : View) (s1 r : Value) (n B C : Nat) (G : Grid) (q : Rat) (ha : SqM V s1 n B G) (hb : RatC V r q) (hC : QB C q) (hfit : B + C + 1 ≤ 17592186044416) :
    Spec Try.prog 36 [.agg #[.int .i64 (n : Int), .int .i64 (n : Int), s1], r] V fun v' V' => ∃ w, v' = .tuple #[.agg #[.int .i64 (n : Int), .int .i64 (n : Int), w], .int .i64 0] ∧ Rats V' w (flatG (fun i k => G i k * q) n n) := by
  obtain ⟨A1, c1, rfl, hc1, hm1⟩ := ha.hv.form
  obtain ⟨xq, yq, rfl, oq1, oq2⟩ := hb.form
  have qq := hC.qf (show C ≤ 17592186044416 by omega)
  have hn := ha.hn
  have hnn := sq_le hn
  have la := flatG_len G n n
  rw [la] at ha ⊢
  have hml := flatG_len (fun i k => G i k * q) n n
  refine (Spec.enter Try.func36 rfl fun Γ => ?_)
  simp only [Try.ntmps36, List.map_cons, List.map_nil, List.length_cons, List.length_nil, Nat.reduceAdd, Nat.reduceSub, List.replicate_succ, List.replicate_zero, List.cons_append, List.nil_append]
  refine Gx.a (by kernel_rfl) fun K hK => ?_
  simp only [XM, XA, Nat.reduceAdd]
  refine hK _ ?_
  refine XWP.seq ?_
  refine Gx.a (by kernel_rfl) fun K hK => ?_
  simp only [XM, XA, Nat.reduceAdd, Nat.reduceLeDiff, ↓reduceIte]
  refine call_go (by kernel_rfl) rfl (dmr_c ha (by omega)) fun v5 V5 hV5 h5 => ?_
  subst h5
  simp only [XA, XB, gateX, Nat.reduceAdd, Nat.reduceLeDiff, ↓reduceIte, beq_self_eq_true]
  refine call_go (by kernel_rfl) rfl (dqr_c (hb.mono hV5) qq) fun v6 V6 hV6 h6 => ?_
  subst h6
  simp only [XA, gateX, ↓reduceIte, beq_self_eq_true]
  refine hK _ ?_
  refine Gx.f rfl ?_
  refine XWP.skip ?_
  have hV6 := View.le_trans hV5 hV6
  refine Gx.a (by kernel_rfl) fun K hK => ?_
  simp only [XM, XA, XB]
  refine call_own (by kernel_rfl) rfl (dzeros_o _ n n hn hn) fun v1 V1 o1 hV1 hs1 h1 => ?_
  obtain ⟨sl, cells1, rfl, hown1, hrow1⟩ := h1
  generalize addRow (fun _ => none) o1 = H1 at *
  have osl := own_isOne hown1
  obtain ⟨As, cs, rfl⟩ : ∃ As cs, sl = .slice As (n * n) cs := by
    rcases own_parts hown1 with ⟨rfl, h0, _⟩ | ⟨g, cap, rfl, _⟩
    · exact ⟨none, 0, by rw [h0]⟩
    · exact ⟨_, cap, rfl⟩
  simp only [XM, XA, Nat.reduceAdd]
  refine st_mat shapeT_36 rfl rfl rfl rfl osl ?_
  simp only [XA]
  refine hK _ ?_
  clear hK
  refine XWP.cut (fun s => ∃ (V2 : View) (H5 : Heap) (cells : List Value), StIs (fun Z => [Z 0,Z 1, .p 0 0, .p 1 0, .p 2 0, Z 5, .p 3 0, Z 7,Z 8,Z 9,Z 10,Z 11,Z 12,Z 13,Z 14,Z 15,Z 16,Z 17,Z 18,Z 19,Z 20,Z 21,Z 22,Z 23,Z 24,Z 25,Z 26,Z 27,Z 28,Z 29,Z 30,Z 31,Z 32,Z 33,Z 34,Z 35,Z 36,Z 37,Z 38,Z 39,Z 40]) [[.int .i64 (n : Int), .int .i64 (n : Int), .slice A1 (n * n) c1], [.bool (ng q), xq, yq], [.int .i64 0, .int .i64 0, .slice none 0 0], [.int .i64 (n : Int), .int .i64 (n : Int), .slice As (n * n) cs]] H5 V2 s ∧ Own H5 31 3 (.slice As (n * n) cs) (n * n) cells ∧ RowAt ratE V2 cells (flatG (fun i k => G i k * q) n n)) ?_ ?_
  · refine Gx.a (by kernel_rfl) fun K hK => ?_
    simp only [XM, XA, XB]
    refine hK _ ?_
    clear hK
    refine XWP.block ?_
    refine XWP.loop (fun x s => ∃ (i : Nat) (V2 : View) (H5 : Heap) (cells : List Value), StIs (fun Z => [Z 0,Z 1, .p 0 0, .p 1 0, .p 2 0, Z 5, .p 3 0, Z 7,Z 8,Z 9,Z 10,Z 11,Z 12,Z 13,Z 14,Z 15,Z 16,Z 17,Z 18,Z 19,Z 20,Z 21,Z 22,Z 23, .v (.int .i64 ((n * n : Nat) : Int)), .v (.int .i64 (i : Int)), Z 26,Z 27,Z 28,Z 29,Z 30,Z 31,Z 32,Z 33,Z 34,Z 35,Z 36,Z 37,Z 38,Z 39,Z 40]) [[.int .i64 (n : Int), .int .i64 (n : Int), .slice A1 (n * n) c1], [.bool (ng q), xq, yq], [.int .i64 0, .int .i64 0, .slice none 0 0], [.int .i64 (n : Int), .int .i64 (n : Int), .slice As (n * n) cs]] H5 V2 s ∧ V.le V2 ∧ x + i = n * n ∧ Own H5 31 3 (.slice As (n * n) cs) (n * n) cells ∧ RowAt ratE V2 cells (mk (n * n) (fzP (fun p => cf (flatG G n n) p * q) i))) (n * n) ⟨0, V1, H1, cells1, StIs.of (by exact rfl), View.le_trans hV6 hV1, by omega, hown1, by rw [fzP_zero]; exact hrow1⟩ ?_
    clear hown1 hrow1
    rintro x s ⟨i, V2, H5, cells, hs, hV2, hx, hown, hrow⟩
    obtain ⟨z, rfl⟩ := hs.out
    try dsimp only
    clear hs
    by_cases hi : i < n * n
    rotate_left
    · obtain rfl : i = n * n := by omega
      have b1 : decide (((n * n : Nat) : Int) < ((n * n : Nat) : Int)) = false := decide_eq_false (by omega)
      refine Gx.a (by kernel_rfl) fun K hK => ?_
      simp only [XA, XB, b1]
      refine hK _ ?_
      refine XWP.seq (Gx.f rfl ?_)
      refine XWP.exit ?_
      rw [fzP_all, flat_scale] at hrow
      exact ⟨V2, H5, cells, StIs.of (by exact rfl), hown, hrow⟩
    have b1 : decide ((i : Int) < ((n * n : Nat) : Int)) = true := decide_eq_true (by omega)
    refine Gx.a (by kernel_rfl) fun K hK => ?_
    simp only [XA, XB, b1]
    refine hK _ ?_
    refine XWP.seq (Gx.t rfl ?_)
    refine XWP.skip ?_
    refine XWP.seq ?_
    refine XWP.block ?_
    refine Gx.a (by kernel_rfl) fun K hK => ?_
    simp only [XA]
    refine hK _ ?_
    rcases own_parts hown with ⟨_, h0, _⟩ | ⟨g, cap, esl, hg, hle, hcap, hcl⟩
    · omega
    cases esl
    have ha4 := ha.hv.up hV2
    have hb4 := hb.mono hV2
    obtain ⟨ba, oa, rfl⟩ := SlAt.addr ha4 (by omega)
    obtain ⟨m3, n3, d3, hx3, _, hld3⟩ := Rats.get ha4 i (by omega)
    have q3 := (ha.cfq i).qf (show B ≤ 17592186044416 by omega)
    (refine XWP.drw1 [0, 1, 2, 3, 4, 5, 6, 7, 8, 9, 10, 11] (by kernel_rfl) (by kernel_rfl) (by kernel_rfl) fun K hK => ?_) <;> dsimp only [pickOps, List.getElem?_cons_zero, List.getElem?_cons_succ]
    simp only [XM, XA, XB]
    refine ⟨by omega, by omega, ld_mem (hld3 _) ?_⟩
    simp only [XA, XB, Nat.reduceAdd, Nat.reduceLeDiff, ↓reduceIte]
    refine call_go (by kernel_rfl) rfl (pmul_c _ _ _ _ _ (hx3.toV q3) (hb4.toV qq) q3 qq) fun v10 V10 hV10 h10 => ?_
    obtain ⟨x10, y10, rfl, o5, o6⟩ := h10.form
    have hrow9 := hrow.mono ratE_ok hV10
    have hl9 := hrow9.1
    rw [mk_len] at hl9
    simp only [XA, XB]
    refine ⟨by omega, by omega, ?_⟩
    refine st_rowA shapeT_31 (all3 rfl o5 o6) rfl hg (by dsimp only; omega) ?_
    simp only [XA]
    refine hK _ ?_
    have hrow10 := hrow9.set i (by rw [mk_len]; exact hi) (show isOne (.bool (ng (cf (flatG G n n) i * q))) = true from rfl) o5 o6 h10
    rw [fzP_step (fun p => cf (flatG G n n) p * q) hi] at hrow10
    have hl10 := hrow10.1
    rw [mk_len] at hl10
    refine Gx.c (by kernel_rfl) fun K hK => ?_
    simp only [XA, XB, i64_succ i (by omega)]
    exact hK _ ⟨x - 1, by omega, i + 1, V10, _, _, StIs.of (by exact rfl), View.le_trans hV2 hV10, by omega, own3 (upd_at _ _ _) hl10 hle (by unfold maxLen at hcap; omega), hrow10⟩
  rintro s ⟨V2, H5, cells, hs, hown, hrow⟩
  obtain ⟨z, rfl⟩ := hs.out
  try dsimp only
  refine Gx.a (by kernel_rfl) fun K hK => ?_
  simp only [XM, XA, Nat.reduceAdd, Nat.reduceLeDiff, ↓reduceIte]
  refine st_mat shapeT_36 rfl rfl rfl rfl osl ?_
  simp only [XA]
  refine hK _ (XWP.ret ?_)
  try simp only [thenX_ret, inBlockX_ret]
  rcases own_parts hown with ⟨esl, h0, rfl⟩ | ⟨g, cap, esl, hg, hle, hcap, hcl⟩
  · simp only [Value.slice.injEq] at esl
    obtain ⟨rfl, _, rfl⟩ := esl
    refine ret_go _ (by simp [resAll, resV, cellsV, shapeT_36]; rfl) ⟨_, rfl, ?_⟩
    rw [List.length_eq_zero_iff.1 (hml.trans h0), h0]; exact SlAt.nil _
  · cases esl
    refine ret_pub g _ hg fun o ho hle' => ret_go _ (by simp [resAll, resV, cellsV, shapeT_36]; rfl) ⟨_, rfl, ?_⟩
    exact hrow.pub ratE_ok ho hle' hml hle (by unfold maxLen at hcap; omega)
end Go.Proofs.Ytobjjdnfgamgcaa
end
section
namespace Go.Proofs.Ytobjjdnfgamgcaa
open Go Go.RowKit
set_option linter.unusedSimpArgs false
set_option linter.unusedVariables false
attribute [local irreducible] XWP Spec SpecO XPub XCall seqX clX apX stX ldX iaX slX
theorem ret_mat2R {t i k : Nat} {s : XS} {R : Value → View → Prop} {vs : List Value} {e : Value} (ht : s.t[t]? = some (.p i 0)) (hb : s.bx[i]? = some vs) (hk : s.t[k]? = some (.v e)) (hl : vs.length = 3) (hR : R (.tuple #[.agg vs.toArray, e]) s.V) : XPost Try.prog [.cell t 36, .tmp k] R .ret s := by
  refine ret_go [.agg vs.toArray, e] ?_ hR
  simp [resAll, resV, cellsV, ht, hb, hk, shapeT_36, hl]
set_option maxHeartbeats 4000000 in
set_option maxRecDepth 100000 in
theorem rmix_c (V : View) (s1 s2 u : Value) (r1 c1 r2 c2 : Int) (L1 L2 : List Raw) (W : Raw) (h1 : Raws V s1 L1) (h2 : Raws V s2 L2) (hu : rawE V u W) (f1 : fitR L1) (f2 : fitR L2) (fw : W.fit) (l1 : L1.length ≤ 100000) (l2 : L2.length ≤ 100000) (q1 : ∀ x ∈ qs L1, QB 96 x) (q2 : ∀ x ∈ qs L2, QB 96 x) (qw : QB 96 W.q) :
    Spec Try.prog 11 [.agg #[.int .i64 r1, .int .i64 c1, s1], .agg #[.int .i64 r2, .int .i64 c2, s2], u] V fun v' V' =>
      (mixE r1 c1 r2 c2 L1 L2 W ≠ 0 → v' = .tuple #[.agg #[.int .i64 0, .int .i64 0, .slice none 0 0], .int .i64 (mixE r1 c1 r2 c2 L1 L2 W)]) ∧
      (mixE r1 c1 r2 c2 L1 L2 W = 0 → ∃ w, v' = .tuple #[.agg #[.int .i64 r1, .int .i64 r1, w], .int .i64 0] ∧ Rats V' w (mixL r1.toNat L1 L2 W.q)) := by
  have hu0 : RawAt V u W.m W.nd W.dd := hu
  obtain ⟨A1, k1, rfl, _, _⟩ := h1.form
  obtain ⟨A2, k2, rfl, _, _⟩ := h2.form
  obtain ⟨n0, d0, rfl, kn, kd⟩ := hu
  have on := kn.one
  have od := kd.one
  refine (Spec.enter Try.func11 rfl fun Γ => ?_)
  simp only [Try.ntmps11, List.map_cons, List.map_nil, List.length_cons, List.length_nil, Nat.reduceAdd, Nat.reduceSub, List.replicate_succ, List.replicate_zero, List.cons_append, List.nil_append]
  first | refine Gx.a (by kernel_rfl) fun K hK => ?_ | refine Gx.b (by kernel_rfl) fun K hK => ?_ | refine Gx.c (by kernel_rfl) fun K hK => ?_
  simp only [XM, XA, XB, gateX, Nat.reduceAdd, Nat.reduceLeDiff, Nat.reduceSub, Nat.reduceMul, ↓reduceIte, Int.reduceToNat, Int.reduceLE, beq_self_eq_true]
  refine hK _ ?_
  have hbad : ∀ {e : Int}, e = 1 → mixE r1 c1 r2 c2 L1 L2 W = 1 → ∀ V', ((mixE r1 c1 r2 c2 L1 L2 W ≠ 0 → (Value.tuple #[.agg #[.int .i64 0, .int .i64 0, .slice none 0 0], .int .i64 e] : Value) = .tuple #[.agg #[.int .i64 0, .int .i64 0, .slice none 0 0], .int .i64 (mixE r1 c1 r2 c2 L1 L2 W)]) ∧
      (mixE r1 c1 r2 c2 L1 L2 W = 0 → ∃ w, (Value.tuple #[.agg #[.int .i64 0, .int .i64 0, .slice none 0 0], .int .i64 e] : Value) = .tuple #[.agg #[.int .i64 r1, .int .i64 r1, w], .int .i64 0] ∧ Rats V' w (mixL r1.toNat L1 L2 W.q))) := fun he h V' => ⟨fun _ => by rw [h, he], fun h' => by rw [h] at h'; exact absurd h' (by decide)⟩
  refine XWP.cut (fun s => ∃ (V2 : View), StIs (fun Z => [Z 0,Z 1,Z 2, .p 0 0, .p 1 0, .p 2 0, .p 3 0, Z 7,Z 8,Z 9,Z 10,Z 11,Z 12,Z 13,Z 14,Z 15,Z 16,Z 17,Z 18,Z 19,Z 20,Z 21,Z 22,Z 23,Z 24,Z 25,Z 26,Z 27,Z 28,Z 29,Z 30,Z 31,Z 32,Z 33,Z 34,Z 35,Z 36,Z 37,Z 38,Z 39,Z 40,Z 41,Z 42,Z 43,Z 44,Z 45,Z 46,Z 47,Z 48,Z 49,Z 50,Z 51,Z 52,Z 53,Z 54,Z 55,Z 56,Z 57,Z 58,Z 59,Z 60,Z 61,Z 62,Z 63]) [[.int .i64 r1, .int .i64 c1, .slice A1 L1.length k1], [.int .i64 r2, .int .i64 c2, .slice A2 L2.length k2], [.bool W.m, n0, d0], [.int .i64 0, .int .i64 0, .slice none 0 0]] (fun _ => none) V2 s ∧ V.le V2 ∧ stoB r1 c1 L1 = true ∧ stoB r2 c2 L2 = true ∧ W.ok = true ∧ ng W.q = false ∧ ¬ 0 < sgI (W.q - 1) ∧ r1 = r2) ?_ ?_
  · first | refine XWP.block ?_ | refine XWP.seq (XWP.block ?_)
    (first | refine XWP.drw [0, 1, 2, 3, 4, 5, 6, 7, 8, 9, 10, 11, 12, 13, 14, 15, 16, 17, 18, 19, 20, 21, 22, 23, 24] (by kernel_rfl) (by kernel_rfl) (by kernel_rfl) fun K hK => ?_ | refine XWP.seq (XWP.drw [0, 1, 2, 3, 4, 5, 6, 7, 8, 9, 10, 11, 12, 13, 14, 15, 16, 17, 18, 19, 20, 21, 22, 23, 24] (by kernel_rfl) (by kernel_rfl) (by kernel_rfl) fun K hK => ?_) | refine XWP.drw1 [0, 1, 2, 3, 4, 5, 6, 7, 8, 9, 10, 11, 12, 13, 14, 15, 16, 17, 18, 19, 20, 21, 22, 23, 24] (by kernel_rfl) (by kernel_rfl) (by kernel_rfl) fun K hK => ?_) <;> dsimp only [pickOps, List.getElem?_cons_zero, List.getElem?_cons_succ]
    simp only [XM, XA, XB, gateX, Nat.reduceAdd, Nat.reduceLeDiff, Nat.reduceSub, Nat.reduceMul, ↓reduceIte, Int.reduceToNat, Int.reduceLE, beq_self_eq_true]
    refine call_go (by kernel_rfl) rfl (dsto_c _ _ r1 c1 L1 96 h1 f1 l1 q1 (by omega)) fun v1 V1 hV1 g1 => ?_
    subst g1
    cases e1 : stoB r1 c1 L1
    · simp only [XM, XA, XB, gateX, Nat.reduceAdd, Nat.reduceLeDiff, Nat.reduceSub, Nat.reduceMul, ↓reduceIte, Int.reduceToNat, Int.reduceLE, beq_self_eq_true]
      refine hK _ ?_
      first | refine Gx.t rfl ?_ | refine XWP.seq (Gx.t rfl ?_)
      first | refine Gx.a (by kernel_rfl) fun K hK => ?_ | refine Gx.b (by kernel_rfl) fun K hK => ?_ | refine Gx.c (by kernel_rfl) fun K hK => ?_
      simp only [XM, XA, XB, gateX, Nat.reduceAdd, Nat.reduceLeDiff, Nat.reduceSub, Nat.reduceMul, ↓reduceIte, Int.reduceToNat, Int.reduceLE, beq_self_eq_true]
      refine bd_go (by kernel_rfl) #[] (by simp) bd_mat0 ?_
      simp only [XM, XA, XB, gateX, Nat.reduceAdd, Nat.reduceLeDiff, Nat.reduceSub, Nat.reduceMul, ↓reduceIte, Int.reduceToNat, Int.reduceLE, beq_self_eq_true]
      refine st_mat shapeT_36 rfl rfl rfl rfl rfl ?_
      simp only [XM, XA, XB, gateX, Nat.reduceAdd, Nat.reduceLeDiff, Nat.reduceSub, Nat.reduceMul, ↓reduceIte, Int.reduceToNat, Int.reduceLE, beq_self_eq_true]
      refine hK _ (XWP.ret ?_)
      try simp only [thenX_ret, inBlockX_ret]
      exact ret_mat2R rfl rfl rfl rfl (hbad rfl (mixE_bad (.inl e1)) _)
    simp only [XM, XA, XB, gateX, Nat.reduceAdd, Nat.reduceLeDiff, Nat.reduceSub, Nat.reduceMul, ↓reduceIte, Int.reduceToNat, Int.reduceLE, beq_self_eq_true]
    refine call_go (by kernel_rfl) rfl (dsto_c _ _ r2 c2 L2 96 (h2.up hV1) f2 l2 q2 (by omega)) fun v2 V2 hV2 g2 => ?_
    subst g2
    cases e2 : stoB r2 c2 L2
    · simp only [XM, XA, XB, gateX, Nat.reduceAdd, Nat.reduceLeDiff, Nat.reduceSub, Nat.reduceMul, ↓reduceIte, Int.reduceToNat, Int.reduceLE, beq_self_eq_true]
      refine hK _ ?_
      first | refine Gx.t rfl ?_ | refine XWP.seq (Gx.t rfl ?_)
      first | refine Gx.a (by kernel_rfl) fun K hK => ?_ | refine Gx.b (by kernel_rfl) fun K hK => ?_ | refine Gx.c (by kernel_rfl) fun K hK => ?_
      simp only [XM, XA, XB, gateX, Nat.reduceAdd, Nat.reduceLeDiff, Nat.reduceSub, Nat.reduceMul, ↓reduceIte, Int.reduceToNat, Int.reduceLE, beq_self_eq_true]
      refine bd_go (by kernel_rfl) #[] (by simp) bd_mat0 ?_
      simp only [XM, XA, XB, gateX, Nat.reduceAdd, Nat.reduceLeDiff, Nat.reduceSub, Nat.reduceMul, ↓reduceIte, Int.reduceToNat, Int.reduceLE, beq_self_eq_true]
      refine st_mat shapeT_36 rfl rfl rfl rfl rfl ?_
      simp only [XM, XA, XB, gateX, Nat.reduceAdd, Nat.reduceLeDiff, Nat.reduceSub, Nat.reduceMul, ↓reduceIte, Int.reduceToNat, Int.reduceLE, beq_self_eq_true]
      refine hK _ (XWP.ret ?_)
      try simp only [thenX_ret, inBlockX_ret]
      exact ret_mat2R rfl rfl rfl rfl (hbad rfl (mixE_bad (.inr (.inl e2))) _)
    simp only [XM, XA, XB, gateX, Nat.reduceAdd, Nat.reduceLeDiff, Nat.reduceSub, Nat.reduceMul, ↓reduceIte, Int.reduceToNat, Int.reduceLE, beq_self_eq_true]
    have hV12 := View.le_trans hV1 hV2
    refine call_go (by kernel_rfl) rfl (pright_c _ _ W.m W.nd W.dd (RawAt.mono hu0 hV12) fw.1 fw.2) fun v3 V3 hV3 g3 => ?_
    have g3 : v3 = .bool W.ok := g3
    subst g3
    cases e3 : W.ok
    · simp only [XM, XA, XB, gateX, Nat.reduceAdd, Nat.reduceLeDiff, Nat.reduceSub, Nat.reduceMul, ↓reduceIte, Int.reduceToNat, Int.reduceLE, beq_self_eq_true]
      refine hK _ ?_
      first | refine Gx.t rfl ?_ | refine XWP.seq (Gx.t rfl ?_)
      first | refine Gx.a (by kernel_rfl) fun K hK => ?_ | refine Gx.b (by kernel_rfl) fun K hK => ?_ | refine Gx.c (by kernel_rfl) fun K hK => ?_
      simp only [XM, XA, XB, gateX, Nat.reduceAdd, Nat.reduceLeDiff, Nat.reduceSub, Nat.reduceMul, ↓reduceIte, Int.reduceToNat, Int.reduceLE, beq_self_eq_true]
      refine bd_go (by kernel_rfl) #[] (by simp) bd_mat0 ?_
      simp only [XM, XA, XB, gateX, Nat.reduceAdd, Nat.reduceLeDiff, Nat.reduceSub, Nat.reduceMul, ↓reduceIte, Int.reduceToNat, Int.reduceLE, beq_self_eq_true]
      refine st_mat shapeT_36 rfl rfl rfl rfl rfl ?_
      simp only [XM, XA, XB, gateX, Nat.reduceAdd, Nat.reduceLeDiff, Nat.reduceSub, Nat.reduceMul, ↓reduceIte, Int.reduceToNat, Int.reduceLE, beq_self_eq_true]
      refine hK _ (XWP.ret ?_)
      try simp only [thenX_ret, inBlockX_ret]
      exact ret_mat2R rfl rfl rfl rfl (hbad rfl (mixE_bad (.inr (.inr (.inl e3)))) _)
    have hV13 := View.le_trans hV12 hV3
    have hwc : RatC V (.agg #[.bool W.m, n0, d0]) W.q := RawAt.rat hu0 e3
    simp only [XM, XA, XB, gateX, Nat.reduceAdd, Nat.reduceLeDiff, Nat.reduceSub, Nat.reduceMul, ↓reduceIte, Int.reduceToNat, Int.reduceLE, beq_self_eq_true]
    refine call_go (by kernel_rfl) rfl (psign_c _ _ _ ((hwc.mono hV13).toV (qw.qf (by omega)))) fun v6 V6 hV6 g6 => ?_
    subst g6
    have esg := sgI_neg W.q
    cases e4 : ng W.q
    rotate_left
    · rw [e4] at esg
      simp only [XM, XA, XB, gateX, Nat.reduceAdd, Nat.reduceLeDiff, Nat.reduceSub, Nat.reduceMul, ↓reduceIte, Int.reduceToNat, Int.reduceLE, beq_self_eq_true, esg]
      refine hK _ ?_
      first | refine Gx.t rfl ?_ | refine XWP.seq (Gx.t rfl ?_)
      first | refine Gx.a (by kernel_rfl) fun K hK => ?_ | refine Gx.b (by kernel_rfl) fun K hK => ?_ | refine Gx.c (by kernel_rfl) fun K hK => ?_
      simp only [XM, XA, XB, gateX, Nat.reduceAdd, Nat.reduceLeDiff, Nat.reduceSub, Nat.reduceMul, ↓reduceIte, Int.reduceToNat, Int.reduceLE, beq_self_eq_true]
      refine bd_go (by kernel_rfl) #[] (by simp) bd_mat0 ?_
      simp only [XM, XA, XB, gateX, Nat.reduceAdd, Nat.reduceLeDiff, Nat.reduceSub, Nat.reduceMul, ↓reduceIte, Int.reduceToNat, Int.reduceLE, beq_self_eq_true]
      refine st_mat shapeT_36 rfl rfl rfl rfl rfl ?_
      simp only [XM, XA, XB, gateX, Nat.reduceAdd, Nat.reduceLeDiff, Nat.reduceSub, Nat.reduceMul, ↓reduceIte, Int.reduceToNat, Int.reduceLE, beq_self_eq_true]
      refine hK _ (XWP.ret ?_)
      try simp only [thenX_ret, inBlockX_ret]
      exact ret_mat2R rfl rfl rfl rfl (hbad rfl (mixE_bad (.inr (.inr (.inr (.inl e4))))) _)
    rw [e4] at esg
    simp only [XM, XA, XB, gateX, Nat.reduceAdd, Nat.reduceLeDiff, Nat.reduceSub, Nat.reduceMul, ↓reduceIte, Int.reduceToNat, Int.reduceLE, beq_self_eq_true, esg]
    refine call_go (by kernel_rfl) rfl (pone_c _) fun v4 V4 hV4 g4 => ?_
    simp only [XM, XA, XB, gateX, Nat.reduceAdd, Nat.reduceLeDiff, Nat.reduceSub, Nat.reduceMul, ↓reduceIte, Int.reduceToNat, Int.reduceLE, beq_self_eq_true]
    have hwc4 := (hwc.mono hV13).mono (View.le_trans hV6 hV4)
    refine call_go (by kernel_rfl) rfl (pcompare_c _ _ _ _ _ (hwc4.toV (qw.qf (by omega))) (g4.toV ((QB_one 0).qf (by omega))) (qw.qf (by omega)) ((QB_one 0).qf (by omega))) fun v5 V5 hV5 g5 => ?_
    subst g5
    by_cases e5 : 0 < sgI (W.q - 1)
    · have b5 : decide (0 < sgI (W.q - 1)) = true := decide_eq_true e5
      simp only [XM, XA, XB, gateX, Nat.reduceAdd, Nat.reduceLeDiff, Nat.reduceSub, Nat.reduceMul, ↓reduceIte, Int.reduceToNat, Int.reduceLE, beq_self_eq_true, b5]
      refine hK _ ?_
      first | refine Gx.t rfl ?_ | refine XWP.seq (Gx.t rfl ?_)
      first | refine Gx.a (by kernel_rfl) fun K hK => ?_ | refine Gx.b (by kernel_rfl) fun K hK => ?_ | refine Gx.c (by kernel_rfl) fun K hK => ?_
      simp only [XM, XA, XB, gateX, Nat.reduceAdd, Nat.reduceLeDiff, Nat.reduceSub, Nat.reduceMul, ↓reduceIte, Int.reduceToNat, Int.reduceLE, beq_self_eq_true]
      refine bd_go (by kernel_rfl) #[] (by simp) bd_mat0 ?_
      simp only [XM, XA, XB, gateX, Nat.reduceAdd, Nat.reduceLeDiff, Nat.reduceSub, Nat.reduceMul, ↓reduceIte, Int.reduceToNat, Int.reduceLE, beq_self_eq_true]
      refine st_mat shapeT_36 rfl rfl rfl rfl rfl ?_
      simp only [XM, XA, XB, gateX, Nat.reduceAdd, Nat.reduceLeDiff, Nat.reduceSub, Nat.reduceMul, ↓reduceIte, Int.reduceToNat, Int.reduceLE, beq_self_eq_true]
      refine hK _ (XWP.ret ?_)
      try simp only [thenX_ret, inBlockX_ret]
      exact ret_mat2R rfl rfl rfl rfl (hbad rfl (mixE_bad (.inr (.inr (.inr (.inr e5))))) _)
    · have b5 : decide (0 < sgI (W.q - 1)) = false := decide_eq_false e5
      simp only [XM, XA, XB, gateX, Nat.reduceAdd, Nat.reduceLeDiff, Nat.reduceSub, Nat.reduceMul, ↓reduceIte, Int.reduceToNat, Int.reduceLE, beq_self_eq_true, b5]
      refine hK _ ?_
      first | refine Gx.f rfl ?_ | refine XWP.seq (Gx.f rfl ?_)
      have hgood : mixE r1 c1 r2 c2 L1 L2 W = if r1 = r2 then 0 else 30 := if_neg (by rw [e1, e2, e3, e4]; simp; omega)
      by_cases er : r1 = r2
      rotate_left
      · have b6 : (!decide (r1 = r2)) = true := by rw [decide_eq_false er]; rfl
        rw [if_neg er] at hgood
        first | refine Gx.a (by kernel_rfl) fun K hK => ?_ | refine Gx.b (by kernel_rfl) fun K hK => ?_ | refine Gx.c (by kernel_rfl) fun K hK => ?_
        simp only [XM, XA, XB, gateX, Nat.reduceAdd, Nat.reduceLeDiff, Nat.reduceSub, Nat.reduceMul, ↓reduceIte, Int.reduceToNat, Int.reduceLE, beq_self_eq_true, b6]
        refine hK _ ?_
        first | refine Gx.t rfl ?_ | refine XWP.seq (Gx.t rfl ?_)
        first | refine Gx.a (by kernel_rfl) fun K hK => ?_ | refine Gx.b (by kernel_rfl) fun K hK => ?_ | refine Gx.c (by kernel_rfl) fun K hK => ?_
        simp only [XM, XA, XB, gateX, Nat.reduceAdd, Nat.reduceLeDiff, Nat.reduceSub, Nat.reduceMul, ↓reduceIte, Int.reduceToNat, Int.reduceLE, beq_self_eq_true]
        refine bd_go (by kernel_rfl) #[] (by simp) bd_mat0 ?_
        simp only [XM, XA, XB, gateX, Nat.reduceAdd, Nat.reduceLeDiff, Nat.reduceSub, Nat.reduceMul, ↓reduceIte, Int.reduceToNat, Int.reduceLE, beq_self_eq_true]
        refine st_mat shapeT_36 rfl rfl rfl rfl rfl ?_
        simp only [XM, XA, XB, gateX, Nat.reduceAdd, Nat.reduceLeDiff, Nat.reduceSub, Nat.reduceMul, ↓reduceIte, Int.reduceToNat, Int.reduceLE, beq_self_eq_true]
        refine hK _ (XWP.ret ?_)
        try simp only [thenX_ret, inBlockX_ret]
        exact ret_mat2R rfl rfl rfl rfl ⟨fun _ => by rw [hgood], fun h => by rw [hgood] at h; exact absurd h (by decide)⟩
      have b6 : (!decide (r1 = r2)) = false := by rw [decide_eq_true er]; rfl
      first | refine Gx.a (by kernel_rfl) fun K hK => ?_ | refine Gx.b (by kernel_rfl) fun K hK => ?_ | refine Gx.c (by kernel_rfl) fun K hK => ?_
      simp only [XM, XA, XB, gateX, Nat.reduceAdd, Nat.reduceLeDiff, Nat.reduceSub, Nat.reduceMul, ↓reduceIte, Int.reduceToNat, Int.reduceLE, beq_self_eq_true, b6]
      refine hK _ ?_
      first | refine Gx.f rfl ?_ | refine XWP.seq (Gx.f rfl ?_)
      refine XWP.skip ?_
      exact ⟨V5, StIs.of (by exact rfl), View.le_trans hV13 (View.le_trans hV6 (View.le_trans hV4 hV5)), by first | exact e1 | rfl, by first | exact e2 | rfl, by first | exact e3 | rfl, e4, e5, er⟩
  rintro s ⟨V2, hs, hV2, e1, e2, e3, e4, e5, er⟩
  obtain ⟨z, rfl⟩ := hs.out
  try dsimp only
  clear hs
  have hgood : mixE r1 c1 r2 c2 L1 L2 W = 0 := by
    rw [mixE, if_neg (by rw [e1, e2, e3, e4]; simp; omega), if_pos er]
  have hwc : RatC V (.agg #[.bool W.m, n0, d0]) W.q := RawAt.rat hu0 e3
  have em : W.m = ng W.q := by
    obtain ⟨x, y, e, _, _⟩ := hwc.form
    simp at e
    exact e.1
  subst er
  obtain ⟨n, er, rfl, hn, ll1, ok1, _⟩ := stoB_parts e1
  subst er
  obtain ⟨n', er', rfl, _, ll2, ok2, _⟩ := stoB_parts e2
  have en : n' = n := by omega
  subst en
  have m1 := SqM.raw (h1.up hV2) ok1 ll1 hn q1
  have m2 := SqM.raw (h2.up hV2) ok2 ll2 hn q2
  have hw2 := hwc.mono hV2
  have qw1 : QB 98 (1 - W.q) := ((QB_one 0).sub (qw)).mono (by omega)
  first | refine Gx.a (by kernel_rfl) fun K hK => ?_ | refine Gx.b (by kernel_rfl) fun K hK => ?_ | refine Gx.c (by kernel_rfl) fun K hK => ?_
  simp only [XM, XA, XB, gateX, Nat.reduceAdd, Nat.reduceLeDiff, Nat.reduceSub, Nat.reduceMul, ↓reduceIte, Int.reduceToNat, Int.reduceLE, beq_self_eq_true]
  refine call_go (by kernel_rfl) rfl (dScale_c' _ _ _ n' 96 96 _ W.q m1 hw2 qw (by omega)) fun v3 V3 hV3 g3 => ?_
  obtain ⟨w3, rfl, g3⟩ := g3
  obtain ⟨A3, k3, rfl, _, _⟩ := g3.form
  simp only [XM, XA, XB, gateX, Nat.reduceAdd, Nat.reduceLeDiff, Nat.reduceSub, Nat.reduceMul, ↓reduceIte, Int.reduceToNat, Int.reduceLE, beq_self_eq_true]
  refine st_mat shapeT_36 rfl rfl rfl rfl rfl ?_
  simp only [XM, XA, XB, gateX, Nat.reduceAdd, Nat.reduceLeDiff, Nat.reduceSub, Nat.reduceMul, ↓reduceIte, Int.reduceToNat, Int.reduceLE, beq_self_eq_true]
  refine hK _ ?_
  rw [em] at *
  refine XWP.cut (fun s => ∃ (V6 : View) (w6 : Value), StIs (fun Z => [Z 0,Z 1,Z 2, .p 0 0, .p 1 0, .p 2 0, .p 3 0, Z 7, .p 4 0, Z 9, .p 5 0, Z 11,Z 12,Z 13,Z 14,Z 15,Z 16,Z 17,Z 18,Z 19,Z 20,Z 21,Z 22,Z 23,Z 24,Z 25,Z 26,Z 27,Z 28,Z 29,Z 30,Z 31,Z 32,Z 33,Z 34,Z 35,Z 36,Z 37,Z 38,Z 39,Z 40,Z 41,Z 42,Z 43,Z 44,Z 45,Z 46,Z 47,Z 48,Z 49,Z 50,Z 51,Z 52,Z 53,Z 54,Z 55,Z 56,Z 57,Z 58,Z 59,Z 60,Z 61,Z 62,Z 63]) [[.int .i64 (n' : Int), .int .i64 (n' : Int), .slice A1 L1.length k1], [.int .i64 (n' : Int), .int .i64 (n' : Int), .slice A2 L2.length k2], [.bool (ng W.q), n0, d0], [.int .i64 0, .int .i64 0, .slice none 0 0], [.int .i64 (n' : Int), .int .i64 (n' : Int), .slice A3 (flatG (fun i k => gridL (qs L1) n' i k * W.q) n' n').length k3], [.int .i64 (n' : Int), .int .i64 (n' : Int), w6]] (fun _ => none) V6 s ∧ V3.le V6 ∧ Rats V6 w6 (flatG (fun i k => gridL (qs L2) n' i k * (1 - W.q)) n' n')) ?_ ?_
  · (first | refine XWP.drwT (.lin [0, 2] (.two (.lin [1] (.two (.lin [3] (.two (.lin [4, 5, 6, 7, 8, 9, 10] .nil) (.lin [8, 4, 5, 6, 7, 9, 10] .nil))) (.lin [8, 3, 4, 5, 6, 7, 9, 10] .nil))) (.lin [8, 1, 3, 4, 5, 6, 7, 9, 10] .nil))) (by kernel_rfl) (by kernel_rfl) (by kernel_rfl) fun K hK => ?_ | refine XWP.seq (XWP.drwT (.lin [0, 2] (.two (.lin [1] (.two (.lin [3] (.two (.lin [4, 5, 6, 7, 8, 9, 10] .nil) (.lin [8, 4, 5, 6, 7, 9, 10] .nil))) (.lin [8, 3, 4, 5, 6, 7, 9, 10] .nil))) (.lin [8, 1, 3, 4, 5, 6, 7, 9, 10] .nil))) (by kernel_rfl) (by kernel_rfl) (by kernel_rfl) fun K hK => ?_) | refine XWP.drwT1 (.lin [0, 2] (.two (.lin [1] (.two (.lin [3] (.two (.lin [4, 5, 6, 7, 8, 9, 10] .nil) (.lin [8, 4, 5, 6, 7, 9, 10] .nil))) (.lin [8, 3, 4, 5, 6, 7, 9, 10] .nil))) (.lin [8, 1, 3, 4, 5, 6, 7, 9, 10] .nil))) (by kernel_rfl) (by kernel_rfl) (by kernel_rfl) fun K hK => ?_)
    simp only [XM, XA, XB, gateX, Nat.reduceAdd, Nat.reduceLeDiff, Nat.reduceSub, Nat.reduceMul, ↓reduceIte, Int.reduceToNat, Int.reduceLE, beq_self_eq_true]
    repeat' first
      | refine And.intro ?_ ?_
      | refine call_go (by kernel_rfl) rfl (pone_c _) fun v4 V4 hV4 g4 => ?_
      | (refine call_go (by kernel_rfl) rfl (psub_c _ _ _ _ _ (g4.toV ((QB_one 0).qf (by omega))) (((hw2.mono hV3).mono hV4).toV (qw.qf (by omega))) ((QB_one 0).qf (by omega)) (qw.qf (by omega))) fun v5 V5 hV5 g5 => ?_)
      | (refine call_go (by kernel_rfl) rfl (dScale_c' _ _ _ n' 96 98 _ (1 - W.q) (((m2.up hV3).up hV4).up hV5) g5 qw1 (by omega)) fun v6 V6 hV6 g6 => ?_; obtain ⟨w6, rfl, g6⟩ := g6; obtain ⟨A6, k6, rfl, _, _⟩ := g6.form)
      | refine st_mat shapeT_36 rfl rfl rfl rfl rfl ?_
      | exact hK _ ⟨V6, _, StIs.of (by exact rfl), View.le_trans hV4 (View.le_trans hV5 hV6), g6⟩
      | simp only [XM, XA, XB, gateX, Nat.reduceAdd, Nat.reduceLeDiff, Nat.reduceSub, Nat.reduceMul, ↓reduceIte, Int.reduceToNat, Int.reduceLE, beq_self_eq_true]
  rintro s ⟨V6, w6, hs, hV6, g6⟩
  obtain ⟨z, rfl⟩ := hs.out
  try dsimp only
  clear hs
  have n1 : SqM V6 (.slice A3 (flatG (fun i k => gridL (qs L1) n' i k * W.q) n' n').length k3) n' 192 (fun i k => gridL (qs L1) n' i k * W.q) := ⟨g3.up hV6, hn, fun i k hi hk => ((m1.hq i k hi hk).mul (qw)).mono (by omega)⟩
  have n2 : SqM V6 w6 n' 194 (fun i k => gridL (qs L2) n' i k * (1 - W.q)) := ⟨g6, hn, fun i k hi hk => ((m2.hq i k hi hk).mul qw1).mono (by omega)⟩
  first | refine Gx.a (by kernel_rfl) fun K hK => ?_ | refine Gx.b (by kernel_rfl) fun K hK => ?_ | refine Gx.c (by kernel_rfl) fun K hK => ?_
  simp only [XM, XA, XB, gateX, Nat.reduceAdd, Nat.reduceLeDiff, Nat.reduceSub, Nat.reduceMul, ↓reduceIte, Int.reduceToNat, Int.reduceLE, beq_self_eq_true]
  refine call_go (by kernel_rfl) rfl (dAdd_c' _ _ _ n' 192 194 _ _ n1 n2 (by omega)) fun v7 V7 hV7 g7 => ?_
  obtain ⟨w7, rfl, g7⟩ := g7
  obtain ⟨A7, k7, rfl, _, _⟩ := g7.form
  simp only [XM, XA, XB, gateX, Nat.reduceAdd, Nat.reduceLeDiff, Nat.reduceSub, Nat.reduceMul, ↓reduceIte, Int.reduceToNat, Int.reduceLE, beq_self_eq_true]
  refine st_mat shapeT_36 rfl rfl rfl rfl rfl ?_
  simp only [XM, XA, XB, gateX, Nat.reduceAdd, Nat.reduceLeDiff, Nat.reduceSub, Nat.reduceMul, ↓reduceIte, Int.reduceToNat, Int.reduceLE, beq_self_eq_true]
  refine hK _ (XWP.ret ?_)
  try simp only [thenX_ret, inBlockX_ret]
  exact ret_mat2R rfl rfl rfl rfl ⟨fun h => absurd hgood h, fun _ => ⟨_, rfl, g7⟩⟩
end Go.Proofs.Ytobjjdnfgamgcaa
end
section
namespace Go.Proofs.Ytobjjdnfgamgcaa
open Go Go.RowKit
set_option linter.unusedSimpArgs false
set_option linter.unusedVariables false
attribute [local irreducible] XWP Spec SpecO XPub XCall seqX clX apX stX ldX iaX slX
theorem RatC.rawK {V : View} {v : Value} {q : Rat} (h : RatC V v q) : RawAt V v (ng q) (dg q.num.natAbs) (dg q.den) := by
  obtain ⟨n, d, e, h1, h2⟩ := h
  exact ⟨n, d, e, h1, h2⟩
theorem placesT_43 : placesT Try.prog 43 = some [(0, 1), (1, 1), (2, 1)] := by kernel_rfl
theorem placesT_45 : placesT Try.prog 45 = some [(0, 1), (1, 1), (2, 3)] := by kernel_rfl
theorem placesT_56 : placesT Try.prog 56 = some [(0, 1), (1, 1), (2, 1), (3, 1)] := by kernel_rfl
theorem placesT_48 : placesT Try.prog 48 = some [(0, 5), (5, 1), (6, 3)] := by kernel_rfl
theorem bd_val33 {i : Int} : BuildsTo Try.prog 43 #[(0, .int .i64 2), (1, .int .i64 i)] (.agg #[.int .i64 2, .int .i64 i, .slice none 0 0]) := by
  refine bd_run placesT_43 zeroT_43 ?_
  kernel_rfl
theorem bd_out33 {i : Int} : BuildsTo Try.prog 45 #[(2, .agg #[.int .i64 2, .int .i64 i, .slice none 0 0])] (.agg #[.int .i64 0, .int .i64 0, .int .i64 2, .int .i64 i, .slice none 0 0]) := by
  refine bd_run placesT_45 zeroT_45 ?_
  kernel_rfl
theorem bd_drawn33 {i : Int} : BuildsTo Try.prog 56 #[(1, .int .i64 i), (2, .int .i64 1), (3, .int .i64 2)] (.agg #[.int .i64 0, .int .i64 i, .int .i64 1, .int .i64 2]) := by
  refine bd_run placesT_56 zeroT_56 ?_
  kernel_rfl
theorem bd_run33 {i : Int} {b : Nat} {m : Bool} {x y : Value} (hx : isOne x = true) (hy : isOne y = true) : BuildsTo Try.prog 48 #[(0, .agg #[.int .i64 0, .int .i64 0, .int .i64 2, .int .i64 i, .slice none 0 0]), (1, .slice (some ⟨b, 0, none⟩) 1 1), (2, .agg #[.bool m, x, y])] (.agg #[.int .i64 0, .int .i64 0, .int .i64 2, .int .i64 i, .slice none 0 0, .slice (some ⟨b, 0, none⟩) 1 1, .bool m, x, y]) := by
  refine bd_run placesT_48 zeroT_48 ?_
  kernel_rfl
/-- the executions of one fair draw of two values -/
def rn33 (k : Nat) : Rn := ⟨0, [⟨0, (k : Int), 1, 2⟩], toRaw hf⟩
def pairL : List Rn := [rn33 0, rn33 1]
theorem cpair33_c (V : View) : Spec Try.prog 24 [] V fun v' V' => SlK 9 rnE V' v' pairL := by
  refine (Spec.enter Try.func24 rfl fun Γ => ?_)
  simp only [Try.ntmps24, List.map_cons, List.map_nil, List.length_cons, List.length_nil, Nat.reduceAdd, Nat.reduceSub, List.replicate_succ, List.replicate_zero, List.cons_append, List.nil_append]
  first | refine Gx.a (by kernel_rfl) fun K hK => ?_ | refine Gx.b (by kernel_rfl) fun K hK => ?_ | refine Gx.c (by kernel_rfl) fun K hK => ?_
  simp only [XM, XU, XV, XA, XB, gateX, Nat.reduceAdd, Nat.reduceLeDiff, Nat.reduceSub, Nat.reduceMul, ↓reduceIte, Int.reduceToNat, Int.reduceLE, beq_self_eq_true]
  refine hK _ ?_
  first | refine Gx.a (by kernel_rfl) fun K hK => ?_ | refine Gx.b (by kernel_rfl) fun K hK => ?_ | refine Gx.c (by kernel_rfl) fun K hK => ?_
  simp only [XM, XU, XV, XA, XB, gateX, Nat.reduceAdd, Nat.reduceLeDiff, Nat.reduceSub, Nat.reduceMul, ↓reduceIte, Int.reduceToNat, Int.reduceLE, beq_self_eq_true]
  refine call_go (by kernel_rfl) rfl (dmake_c _) fun v1 V1 hV1 h1 => ?_
  obtain ⟨w1, rfl, h1⟩ := h1
  obtain ⟨x, y, rfl, o1, o2⟩ := h1.form
  simp only [XM, XU, XV, XA, XB, gateX, Nat.reduceAdd, Nat.reduceLeDiff, Nat.reduceSub, Nat.reduceMul, ↓reduceIte, Int.reduceToNat, Int.reduceLE, beq_self_eq_true]
  refine st_rat rfl rfl rfl o1 o2 ?_
  simp only [XM, XU, XV, XA, XB, gateX, Nat.reduceAdd, Nat.reduceLeDiff, Nat.reduceSub, Nat.reduceMul, ↓reduceIte, Int.reduceToNat, Int.reduceLE, beq_self_eq_true]
  refine hK _ ?_
  first | refine Gx.a (by kernel_rfl) fun K hK => ?_ | refine Gx.b (by kernel_rfl) fun K hK => ?_ | refine Gx.c (by kernel_rfl) fun K hK => ?_
  simp only [XM, XU, XV, XA, XB, gateX, Nat.reduceAdd, Nat.reduceLeDiff, Nat.reduceSub, Nat.reduceMul, ↓reduceIte, Int.reduceToNat, Int.reduceLE, beq_self_eq_true]
  refine hK _ ?_
  refine XWP.cut (fun s => ∃ (V2 : View) (H2 : Heap) (sv : Value) (cells : List Value), StIs (fun Z => [Z 0,Z 1,Z 2, .v sv, Z 4,Z 5,Z 6,Z 7,Z 8,Z 9,Z 10,Z 11,Z 12,Z 13,Z 14,Z 15,Z 16,Z 17,Z 18,Z 19,Z 20,Z 21,Z 22,Z 23,Z 24]) [[.bool (ng hf), x, y]] H2 V2 s ∧ Own H2 48 9 sv 2 cells ∧ RowK 9 rnE V2 cells pairL) ?_ ?_
  · first | refine Gx.a (by kernel_rfl) fun K hK => ?_ | refine Gx.b (by kernel_rfl) fun K hK => ?_ | refine Gx.c (by kernel_rfl) fun K hK => ?_
    simp only [XM, XU, XV, XA, XB, gateX, Nat.reduceAdd, Nat.reduceLeDiff, Nat.reduceSub, Nat.reduceMul, ↓reduceIte, Int.reduceToNat, Int.reduceLE, beq_self_eq_true]
    refine hK _ ?_
    clear hK
    first | refine XWP.block ?_ | refine XWP.seq (XWP.block ?_)
    refine XWP.loop (fun q s => ∃ (k : Nat) (V2 : View) (H2 : Heap) (sv : Value) (cells : List Value), StIs (fun Z => [Z 0, .p 0 0, Z 2, .v sv, .v (.int .i64 (k : Int)), Z 5,Z 6,Z 7,Z 8,Z 9,Z 10,Z 11,Z 12,Z 13,Z 14,Z 15,Z 16,Z 17,Z 18,Z 19,Z 20,Z 21,Z 22,Z 23,Z 24]) [[.bool (ng hf), x, y]] H2 V2 s ∧ q + k = 2 ∧ V1.le V2 ∧ Own H2 48 9 sv k cells ∧ RowK 9 rnE V2 cells (pairL.take k)) 2 ⟨0, V1, _, _, [], StIs.of (by exact rfl), by omega, View.le_refl _, own_nil, RowK.nil _⟩ ?_
    rintro q s ⟨k, V2, H2, sv, cells, hs, hq, hV2, ho, hr⟩
    obtain ⟨z, rfl⟩ := hs.out
    try dsimp only
    clear hs
    by_cases hk : k < 2
    rotate_left
    · obtain rfl : k = 2 := by omega
      have b1 : decide (((2 : Nat) : Int) < 2) = false := decide_eq_false (by omega)
      refine XWP.seq ?_
      first | refine Gx.a (by kernel_rfl) fun K hK => ?_ | refine Gx.b (by kernel_rfl) fun K hK => ?_ | refine Gx.c (by kernel_rfl) fun K hK => ?_
      simp only [XM, XU, XV, XA, XB, gateX, Nat.reduceAdd, Nat.reduceLeDiff, Nat.reduceSub, Nat.reduceMul, ↓reduceIte, Int.reduceToNat, Int.reduceLE, beq_self_eq_true, b1]
      refine hK _ ?_
      first | refine Gx.f rfl ?_ | refine XWP.seq (Gx.f rfl ?_)
      refine XWP.exit ?_
      exact ⟨V2, H2, sv, cells, StIs.of (by exact rfl), ho, hr⟩
    have b1 : decide ((k : Int) < 2) = true := decide_eq_true (by omega)
    refine XWP.seq ?_
    first | refine Gx.a (by kernel_rfl) fun K hK => ?_ | refine Gx.b (by kernel_rfl) fun K hK => ?_ | refine Gx.c (by kernel_rfl) fun K hK => ?_
    simp only [XM, XU, XV, XA, XB, gateX, Nat.reduceAdd, Nat.reduceLeDiff, Nat.reduceSub, Nat.reduceMul, ↓reduceIte, Int.reduceToNat, Int.reduceLE, beq_self_eq_true, b1]
    refine hK _ ?_
    first | refine Gx.t rfl ?_ | refine XWP.seq (Gx.t rfl ?_)
    refine XWP.skip ?_
    refine XWP.cut (fun s => ∃ (b1 : Nat) (H3 : Heap) (v' : Value), StIs (fun Z => [Z 0, .p 0 0, Z 2, .v v', .v (.int .i64 (k : Int)), Z 5,Z 6,Z 7,Z 8,Z 9,Z 10,Z 11,Z 12,Z 13,Z 14,Z 15,Z 16,Z 17,Z 18,Z 19,Z 20,Z 21,Z 22,Z 23,Z 24]) [[.bool (ng hf), x, y]] H3 V2 s ∧ H3 b1 = some ⟨56, [.int .i64 0, .int .i64 (k : Int), .int .i64 1, .int .i64 2], 4⟩ ∧ v'.ownBlock ≠ some b1 ∧ Own H3 48 9 v' (k + 1) (cells ++ [.int .i64 0, .int .i64 0, .int .i64 2, .int .i64 (k : Int), .slice none 0 0, .slice (some ⟨b1, 0, none⟩) 1 1, .bool (ng hf), x, y])) ?_ ?_
    rotate_left
    · rintro s ⟨b1, H3, v', hs, hb, hne, ho'⟩
      obtain ⟨z, rfl⟩ := hs.out
      try dsimp only
      clear hs
      refine XWP.pub b1 _ hb fun o hob hle => ?_
      obtain ⟨H3', hH3⟩ : ∃ H3', H3' = upd H3 b1 none := ⟨_, rfl⟩
      rw [← hH3]
      have hds : SlK 4 drE (addV V2 b1 o) (.slice (some ⟨b1, 0, none⟩) 1 1) [(⟨0, (k : Int), 1, 2⟩ : Dr)] := RowK.pub (c := 1) drE_ok ((RowK.nil V2).snoc (x := (⟨0, (k : Int), 1, 2⟩ : Dr)) ⟨rfl, rfl, rfl⟩) hob hle rfl (Nat.le_refl _) (by omega)
      have hone : ([.int .i64 0, .int .i64 0, .int .i64 2, .int .i64 (k : Int), .slice none 0 0, .slice (some ⟨b1, 0, none⟩) 1 1, .bool (ng hf), x, y] : List Value).all isOne = true := by simp only [List.all_cons, List.all_nil, o1, o2]; rfl
      have hel : ElK 9 rnE (addV V2 b1 o) [.int .i64 0, .int .i64 0, .int .i64 2, .int .i64 (k : Int), .slice none 0 0, .slice (some ⟨b1, 0, none⟩) 1 1, .bool (ng hf), x, y] (rn33 k) := ⟨rfl, hone, _, _, _, _, _, _, _, _, rfl, hds, ((h1.mono hV2).mono hle).rawK⟩
      have etk : pairL.take (k + 1) = pairL.take k ++ [rn33 k] := by
        match k, hk with
        | 0, _ => rfl
        | 1, _ => rfl
      first | refine Gx.a (by kernel_rfl) fun K hK => ?_ | refine Gx.b (by kernel_rfl) fun K hK => ?_ | refine Gx.c (by kernel_rfl) fun K hK => ?_
      simp only [XM, XU, XV, XA, XB, gateX, Nat.reduceAdd, Nat.reduceLeDiff, Nat.reduceSub, Nat.reduceMul, ↓reduceIte, Int.reduceToNat, Int.reduceLE, beq_self_eq_true, i64_succ k (by omega)]
      exact hK _ ⟨q - 1, by omega, k + 1, _, H3', v', _, StIs.of (by exact rfl), by omega, View.le_trans hV2 hle, by rw [hH3]; exact own_offK ho' hne, by rw [etk]; exact (hr.mono rnE_ok hle).snoc hel⟩
    clear hK
    first | refine XWP.block ?_ | refine XWP.seq (XWP.block ?_)
    first | refine Gx.a (by kernel_rfl) fun K hK => ?_ | refine Gx.b (by kernel_rfl) fun K hK => ?_ | refine Gx.c (by kernel_rfl) fun K hK => ?_
    simp only [XM, XU, XV, XA, XB, gateX, Nat.reduceAdd, Nat.reduceLeDiff, Nat.reduceSub, Nat.reduceMul, ↓reduceIte, Int.reduceToNat, Int.reduceLE, beq_self_eq_true]
    refine bd_go (by kernel_rfl) #[(0, .int .i64 2), (1, .int .i64 (k : Int))] (by simp [ev_tmp, SV.val, ev_const]) bd_val33 ?_
    simp only [XM, XU, XV, XA, XB, gateX, Nat.reduceAdd, Nat.reduceLeDiff, Nat.reduceSub, Nat.reduceMul, ↓reduceIte, Int.reduceToNat, Int.reduceLE, beq_self_eq_true]
    refine bd_go (by kernel_rfl) #[(2, .agg #[.int .i64 2, .int .i64 (k : Int), .slice none 0 0])] (by simp [ev_tmp, SV.val]) bd_out33 ?_
    simp only [XM, XU, XV, XA, XB, gateX, Nat.reduceAdd, Nat.reduceLeDiff, Nat.reduceSub, Nat.reduceMul, ↓reduceIte, Int.reduceToNat, Int.reduceLE, beq_self_eq_true]
    refine bd_go (by kernel_rfl) #[(1, .int .i64 (k : Int)), (2, .int .i64 1), (3, .int .i64 2)] (by simp [ev_tmp, SV.val, ev_const]) bd_drawn33 ?_
    simp only [XM, XU, XV, XA, XB, gateX, Nat.reduceAdd, Nat.reduceLeDiff, Nat.reduceSub, Nat.reduceMul, ↓reduceIte, Int.reduceToNat, Int.reduceLE, beq_self_eq_true]
    refine bs_go (by kernel_rfl) #[(0, .agg ([.int .i64 0, .int .i64 (k : Int), .int .i64 1, .int .i64 2] : List Value).toArray)] (by simp [ev_tmp, SV.val]) (bs_agg elemT_46 zeroT_56 rfl (by omega) (by omega) rfl) fun b1 hb1 hb2 => ?_
    simp only [XM, XU, XV, XA, XB, gateX, Nat.reduceAdd, Nat.reduceLeDiff, Nat.reduceSub, Nat.reduceMul, ↓reduceIte, Int.reduceToNat, Int.reduceLE, beq_self_eq_true]
    refine bd_go (by kernel_rfl) #[(0, .agg #[.int .i64 0, .int .i64 0, .int .i64 2, .int .i64 (k : Int), .slice none 0 0]), (1, .slice (some ⟨b1, 0, none⟩) 1 1), (2, .agg #[.bool (ng hf), x, y])] (by simp [ev_tmp, SV.val]) (bd_run33 o1 o2) ?_
    simp only [XM, XU, XV, XA, XB, gateX, Nat.reduceAdd, Nat.reduceLeDiff, Nat.reduceSub, Nat.reduceMul, ↓reduceIte, Int.reduceToNat, Int.reduceLE, beq_self_eq_true]
    have ho1 := own_upd (r := some ⟨56, [.int .i64 0, .int .i64 (k : Int), .int .i64 1, .int .i64 2], 4⟩) ho hb1
    have f1 := upd_at H2 b1 (some ⟨56, [.int .i64 0, .int .i64 (k : Int), .int .i64 1, .int .i64 2], 4⟩)
    have hne := own_newK ho hb1
    have hone : ([.int .i64 0, .int .i64 0, .int .i64 2, .int .i64 (k : Int), .slice none 0 0, .slice (some ⟨b1, 0, none⟩) 1 1, .bool (ng hf), x, y] : List Value).all isOne = true := by simp only [List.all_cons, List.all_nil, o1, o2]; rfl
    refine bs_go (by kernel_rfl) #[(0, .agg ([.int .i64 0, .int .i64 0, .int .i64 2, .int .i64 (k : Int), .slice none 0 0, .slice (some ⟨b1, 0, none⟩) 1 1, .bool (ng hf), x, y] : List Value).toArray)] (by simp [ev_tmp, SV.val]) (bs_agg elemT_22 zeroT_48 rfl (by omega) (by omega) rfl) fun b2 hb3 hb4 => ?_
    simp only [XM, XU, XV, XA, XB, gateX, Nat.reduceAdd, Nat.reduceLeDiff, Nat.reduceSub, Nat.reduceMul, ↓reduceIte, Int.reduceToNat, Int.reduceLE, beq_self_eq_true]
    have n12 : b1 ≠ b2 := new_ne hb3 f1
    refine ap_go elemT_22 (by kernel_rfl) zeroT_48 rfl (by omega) (own_upd ho1 hb3) (srcK (upd_at _ _ _) hone) (by omega) (by omega) fun v' H' hres => ?_
    simp only [XM, XU, XV, XA, XB, gateX, Nat.reduceAdd, Nat.reduceLeDiff, Nat.reduceSub, Nat.reduceMul, ↓reduceIte, Int.reduceToNat, Int.reduceLE, beq_self_eq_true]
    obtain ⟨k1, k2⟩ := app_keep hres ((upd_off n12).trans f1) hne
    exact hK _ ⟨b1, H', v', StIs.of (by exact rfl), k1, k2, hres.1⟩
  rintro s ⟨V2, H2, sv, cells, hs, ho, hr⟩
  obtain ⟨z, rfl⟩ := hs.out
  try dsimp only
  refine XWP.pubK rnE_ok (by omega) ho hr fun H3 V3 hV3 hW _ => ?_
  first | refine Gx.a (by kernel_rfl) fun K hK => ?_ | refine Gx.b (by kernel_rfl) fun K hK => ?_ | refine Gx.c (by kernel_rfl) fun K hK => ?_
  simp only [XM, XU, XV, XA, XB, gateX, Nat.reduceAdd, Nat.reduceLeDiff, Nat.reduceSub, Nat.reduceMul, ↓reduceIte, Int.reduceToNat, Int.reduceLE, beq_self_eq_true]
  refine hK _ (XWP.ret ?_)
  try simp only [thenX_ret, inBlockX_ret]
  refine ret_go _ rfl ?_
  exact hW
theorem prior33 (k : Nat) : priorQ (rn33 k).ds = hf := by
  show rv false (1 * 1) (1 * 2) = hf
  decide +kernel
theorem q33 (k : Nat) : (rn33 k).w.q = hf := toRaw_q hf
theorem draws33 (k : Nat) : drawsB (rn33 k) = true := by
  unfold drawsB
  rw [q33, prior33]
  have h1 : (rn33 k).w.ok = true := toRaw_ok hf
  have h2 : (rn33 k).ds.all Dr.goodB = true := by
    show (Dr.goodB ⟨0, (k : Int), 1, 2⟩ && true) = true
    unfold Dr.goodB
    rw [decide_eq_true (show (0 : Int) ≤ k by omega)]; rfl
  have h3 : decide (0 < sgI hf) = true := by decide +kernel
  have h4 : decide (sgI (hf - hf) ≤ 0) = true := by decide +kernel
  rw [h1, h2, h3, h4]; rfl
theorem right33 : rightR pairL = true := by
  unfold rightR
  have h1 : pairL.all drawsB = true := by
    unfold pairL
    rw [List.all_cons, List.all_cons, draws33, draws33]; rfl
  have h2 : forkB 102 pairL 0 = true := by decide +kernel
  rw [h1, h2]; rfl
theorem anew33 : anewQ pairL 0 1 = hf := by
  unfold anewQ
  rw [qOf_at (l := pairL) (k := 1) (r := rn33 1) rfl, sOf_at (l := pairL) (k := 1) (r := rn33 1) rfl, sOf_at (l := pairL) (k := 0) (r := rn33 0) rfl, q33, q33, prior33, prior33]
  decide +kernel
theorem fits33 : ∀ r ∈ pairL, r.fits := fun r hr => by
  have : r = rn33 0 ∨ r = rn33 1 := by simpa [pairL] using hr
  have key : ∀ k, (rn33 k).fits := fun k => ⟨by show (1 : Nat) ≤ 100; omega, fitR_toRaw (l := [hf]) (fun x hx => by rw [List.mem_singleton.1 hx]; exact hf_QB.qf (by omega)) (toRaw hf) (by simp), fun _ => by rw [q33]; exact hf_QB.qf (by omega)⟩
  rcases this with rfl | rfl
  · exact key 0
  · exact key 1
theorem small33 : ∀ r ∈ pairL, r.ds.length ≤ 8 ∧ (r.w.ok = true → QB 128 r.w.q) := fun r hr => by
  have : r = rn33 0 ∨ r = rn33 1 := by simpa [pairL] using hr
  have key : ∀ k, (rn33 k).ds.length ≤ 8 ∧ ((rn33 k).w.ok = true → QB 128 (rn33 k).w.q) := fun k => ⟨by show (1 : Nat) ≤ 8; omega, fun _ => by rw [q33]; exact hf_QB.mono (by omega)⟩
  rcases this with rfl | rfl
  · exact key 0
  · exact key 1
theorem alive33_c (V : View) : Spec Try.prog 8 [] V fun v' V' => v' = .bool true := by
  refine (Spec.enter Try.func8 rfl fun Γ => ?_)
  simp only [Try.ntmps8, List.map_cons, List.map_nil, List.length_cons, List.length_nil, Nat.reduceAdd, Nat.reduceSub, List.replicate_succ, List.replicate_zero, List.cons_append, List.nil_append]
  first | refine Gx.a (by kernel_rfl) fun K hK => ?_ | refine Gx.b (by kernel_rfl) fun K hK => ?_ | refine Gx.c (by kernel_rfl) fun K hK => ?_
  simp only [XM, XU, XV, XA, XB, gateX, Nat.reduceAdd, Nat.reduceLeDiff, Nat.reduceSub, Nat.reduceMul, ↓reduceIte, Int.reduceToNat, Int.reduceLE, beq_self_eq_true]
  refine hK _ ?_
  first | refine Gx.a (by kernel_rfl) fun K hK => ?_ | refine Gx.b (by kernel_rfl) fun K hK => ?_ | refine Gx.c (by kernel_rfl) fun K hK => ?_
  simp only [XM, XU, XV, XA, XB, gateX, Nat.reduceAdd, Nat.reduceLeDiff, Nat.reduceSub, Nat.reduceMul, ↓reduceIte, Int.reduceToNat, Int.reduceLE, beq_self_eq_true]
  refine call_go (by kernel_rfl) rfl (cpair33_c _) fun v1 V1 hV1 h1 => ?_
  simp only [XM, XU, XV, XA, XB, gateX, Nat.reduceAdd, Nat.reduceLeDiff, Nat.reduceSub, Nat.reduceMul, ↓reduceIte, Int.reduceToNat, Int.reduceLE, beq_self_eq_true]
  refine call_go (by kernel_rfl) rfl (canew_c _ _ pairL h1 fits33 small33 (by decide)) fun v2 V2 hV2 h2 => ?_
  obtain ⟨s, rfl, hs⟩ := h2.2 right33
  clear h2
  obtain ⟨As, cs, rfl, _, _⟩ := hs.form
  simp only [XM, XU, XV, XA, XB, gateX, Nat.reduceAdd, Nat.reduceLeDiff, Nat.reduceSub, Nat.reduceMul, ↓reduceIte, Int.reduceToNat, Int.reduceLE, beq_self_eq_true]
  refine st_mat shapeT_27 rfl rfl rfl rfl rfl ?_
  simp only [XM, XU, XV, XA, XB, gateX, Nat.reduceAdd, Nat.reduceLeDiff, Nat.reduceSub, Nat.reduceMul, ↓reduceIte, Int.reduceToNat, Int.reduceLE, beq_self_eq_true]
  refine hK _ ?_
  first | refine Gx.a (by kernel_rfl) fun K hK => ?_ | refine Gx.b (by kernel_rfl) fun K hK => ?_ | refine Gx.c (by kernel_rfl) fun K hK => ?_
  simp only [XM, XU, XV, XA, XB, gateX, Nat.reduceAdd, Nat.reduceLeDiff, Nat.reduceSub, Nat.reduceMul, ↓reduceIte, Int.reduceToNat, Int.reduceLE, beq_self_eq_true]
  refine call_go (by kernel_rfl) rfl (dmake_c _) fun v3 V3 hV3 h3 => ?_
  obtain ⟨w3, rfl, h3⟩ := h3
  obtain ⟨x, y, rfl, o1, o2⟩ := h3.form
  simp only [XM, XU, XV, XA, XB, gateX, Nat.reduceAdd, Nat.reduceLeDiff, Nat.reduceSub, Nat.reduceMul, ↓reduceIte, Int.reduceToNat, Int.reduceLE, beq_self_eq_true]
  refine st_rat rfl rfl rfl o1 o2 ?_
  simp only [XM, XU, XV, XA, XB, gateX, Nat.reduceAdd, Nat.reduceLeDiff, Nat.reduceSub, Nat.reduceMul, ↓reduceIte, Int.reduceToNat, Int.reduceLE, beq_self_eq_true]
  refine hK _ ?_
  have hl : (flatG (moveG (anewQ pairL) pairL.length) pairL.length pairL.length).length = 4 := flatG_len _ _ _
  have hs3 := hs.up hV3
  obtain ⟨b, o, rfl⟩ := SlAt.addr hs3 (by omega)
  obtain ⟨m4, n4, d4, h4, _, hld⟩ := Rats.get hs3 1 (by omega)
  have e4 : cf (flatG (moveG (anewQ pairL) pairL.length) pairL.length pairL.length) 1 = hf := by
    rw [← anew33]
    exact flatG_at (moveG (anewQ pairL) pairL.length) (R := 2) (C := 2) (i := 0) (k := 1) (by omega) (by omega)
  rw [e4] at h4
  have hq := hf_QB.qf (by omega)
  have el : decide (((flatG (moveG (anewQ pairL) pairL.length) pairL.length pairL.length).length : Int) = 4) = true := by rw [hl]; rfl
  (first | refine XWP.drw [0, 1, 2, 3, 4, 5, 6, 7, 8, 9, 10, 11, 12, 13, 14, 15, 16, 17, 18, 19, 20] (by kernel_rfl) (by kernel_rfl) (by kernel_rfl) fun K hK => ?_ | refine XWP.seq (XWP.drw [0, 1, 2, 3, 4, 5, 6, 7, 8, 9, 10, 11, 12, 13, 14, 15, 16, 17, 18, 19, 20] (by kernel_rfl) (by kernel_rfl) (by kernel_rfl) fun K hK => ?_) | refine XWP.drw1 [0, 1, 2, 3, 4, 5, 6, 7, 8, 9, 10, 11, 12, 13, 14, 15, 16, 17, 18, 19, 20] (by kernel_rfl) (by kernel_rfl) (by kernel_rfl) fun K hK => ?_) <;> dsimp only [pickOps, List.getElem?_cons_zero, List.getElem?_cons_succ]
  simp only [XM, XU, XV, XA, XB, gateX, Nat.reduceAdd, Nat.reduceLeDiff, Nat.reduceSub, Nat.reduceMul, ↓reduceIte, Int.reduceToNat, Int.reduceLE, beq_self_eq_true, decide_true, el]
  refine ⟨by omega, ld_mem (by simpa using hld _) ?_⟩
  simp only [XM, XU, XV, XA, XB, gateX, Nat.reduceAdd, Nat.reduceLeDiff, Nat.reduceSub, Nat.reduceMul, ↓reduceIte, Int.reduceToNat, Int.reduceLE, beq_self_eq_true]
  refine call_go (by kernel_rfl) rfl (psame_c _ _ _ _ _ (h4.toV hq) (h3.toV hq) hq hq) fun v5 V5 hV5 h5 => ?_
  have h5 : v5 = .bool true := by rw [h5, decide_eq_true rfl]
  subst h5
  simp only [XM, XU, XV, XA, XB, gateX, Nat.reduceAdd, Nat.reduceLeDiff, Nat.reduceSub, Nat.reduceMul, ↓reduceIte, Int.reduceToNat, Int.reduceLE, beq_self_eq_true]
  refine call_go (by kernel_rfl) rfl (cpair33_c _) fun v6 V6 hV6 h6 => ?_
  simp only [XM, XU, XV, XA, XB, gateX, Nat.reduceAdd, Nat.reduceLeDiff, Nat.reduceSub, Nat.reduceMul, ↓reduceIte, Int.reduceToNat, Int.reduceLE, beq_self_eq_true]
  refine call_go (by kernel_rfl) rfl (kright_c _ _ pairL h6 fits33 (by decide)) fun v7 V7 hV7 h7 => ?_
  rw [right33] at h7
  subst h7
  simp only [XM, XU, XV, XA, XB, gateX, Nat.reduceAdd, Nat.reduceLeDiff, Nat.reduceSub, Nat.reduceMul, ↓reduceIte, Int.reduceToNat, Int.reduceLE, beq_self_eq_true]
  refine hK _ (XWP.ret ?_)
  try simp only [thenX_ret, inBlockX_ret]
  refine ret_go _ rfl ?_
  rfl
end Go.Proofs.Ytobjjdnfgamgcaa
end
section
namespace Go.Proofs.Ytobjjdnfgamgcaa
open Go Go.RowKit
set_option linter.unusedSimpArgs false
set_option linter.unusedVariables false
attribute [local irreducible] XWP Spec SpecO XPub XCall seqX clX apX stX ldX iaX slX
def fineP (r c : Int) (L : List Raw) : Prop := r ≤ 8 ∧ c ≤ 8 ∧ L.length ≤ 64 ∧ fewR L
theorem fine33_c (V : View) (s : Value) (r c : Int) (L : List Raw) (h : Raws V s L) : Spec Try.prog 9 [.agg #[.int .i64 r, .int .i64 c, s]] V fun v' V' => ∃ b, v' = .bool b ∧ (b = true → fineP r c L) := by
  obtain ⟨A, cp, rfl, hc, hm⟩ := h.form
  refine (Spec.enter Try.func9 rfl fun Γ => ?_)
  simp only [Try.ntmps9, List.map_cons, List.map_nil, List.length_cons, List.length_nil, Nat.reduceAdd, Nat.reduceSub, List.replicate_succ, List.replicate_zero, List.cons_append, List.nil_append]
  first | refine Gx.a (by kernel_rfl) fun K hK => ?_ | refine Gx.b (by kernel_rfl) fun K hK => ?_ | refine Gx.c (by kernel_rfl) fun K hK => ?_
  simp only [XM, XA, XB, gateX, Nat.reduceAdd, Nat.reduceLeDiff, Nat.reduceSub, Nat.reduceMul, ↓reduceIte, Int.reduceToNat, Int.reduceLE, beq_self_eq_true]
  refine hK _ ?_
  refine XWP.seq ?_
  have hno : ∃ b, Value.bool false = .bool b ∧ (b = true → fineP r c L) := ⟨false, rfl, fun h => by cases h⟩
  by_cases p1 : 8 < r
  · have t1 : decide ((8 : Int) < r) = true := decide_eq_true (by omega)
    first | refine Gx.a (by kernel_rfl) fun K hK => ?_ | refine Gx.b (by kernel_rfl) fun K hK => ?_ | refine Gx.c (by kernel_rfl) fun K hK => ?_
    simp only [XM, XA, XB, gateX, Nat.reduceAdd, Nat.reduceLeDiff, Nat.reduceSub, Nat.reduceMul, ↓reduceIte, Int.reduceToNat, Int.reduceLE, beq_self_eq_true, t1]
    refine hK _ ?_
    first | refine Gx.t rfl ?_ | refine XWP.seq (Gx.t rfl ?_)
    first | refine Gx.a (by kernel_rfl) fun K hK => ?_ | refine Gx.b (by kernel_rfl) fun K hK => ?_ | refine Gx.c (by kernel_rfl) fun K hK => ?_
    simp only [XM, XA, XB, gateX, Nat.reduceAdd, Nat.reduceLeDiff, Nat.reduceSub, Nat.reduceMul, ↓reduceIte, Int.reduceToNat, Int.reduceLE, beq_self_eq_true]
    refine hK _ (XWP.ret ?_)
    try simp only [thenX_ret, inBlockX_ret]
    refine ret_go _ rfl ?_
    exact hno
  have t1 : decide ((8 : Int) < r) = false := decide_eq_false (by omega)
  by_cases p2 : 8 < c
  · have t2 : decide ((8 : Int) < c) = true := decide_eq_true (by omega)
    first | refine Gx.a (by kernel_rfl) fun K hK => ?_ | refine Gx.b (by kernel_rfl) fun K hK => ?_ | refine Gx.c (by kernel_rfl) fun K hK => ?_
    simp only [XM, XA, XB, gateX, Nat.reduceAdd, Nat.reduceLeDiff, Nat.reduceSub, Nat.reduceMul, ↓reduceIte, Int.reduceToNat, Int.reduceLE, beq_self_eq_true, t1, t2]
    refine hK _ ?_
    first | refine Gx.t rfl ?_ | refine XWP.seq (Gx.t rfl ?_)
    first | refine Gx.a (by kernel_rfl) fun K hK => ?_ | refine Gx.b (by kernel_rfl) fun K hK => ?_ | refine Gx.c (by kernel_rfl) fun K hK => ?_
    simp only [XM, XA, XB, gateX, Nat.reduceAdd, Nat.reduceLeDiff, Nat.reduceSub, Nat.reduceMul, ↓reduceIte, Int.reduceToNat, Int.reduceLE, beq_self_eq_true]
    refine hK _ (XWP.ret ?_)
    try simp only [thenX_ret, inBlockX_ret]
    refine ret_go _ rfl ?_
    exact hno
  have t2 : decide ((8 : Int) < c) = false := decide_eq_false (by omega)
  by_cases p3 : 64 < L.length
  · have t3 : decide ((64 : Int) < (L.length : Int)) = true := decide_eq_true (by omega)
    first | refine Gx.a (by kernel_rfl) fun K hK => ?_ | refine Gx.b (by kernel_rfl) fun K hK => ?_ | refine Gx.c (by kernel_rfl) fun K hK => ?_
    simp only [XM, XA, XB, gateX, Nat.reduceAdd, Nat.reduceLeDiff, Nat.reduceSub, Nat.reduceMul, ↓reduceIte, Int.reduceToNat, Int.reduceLE, beq_self_eq_true, t1, t2, t3]
    refine hK _ ?_
    first | refine Gx.t rfl ?_ | refine XWP.seq (Gx.t rfl ?_)
    first | refine Gx.a (by kernel_rfl) fun K hK => ?_ | refine Gx.b (by kernel_rfl) fun K hK => ?_ | refine Gx.c (by kernel_rfl) fun K hK => ?_
    simp only [XM, XA, XB, gateX, Nat.reduceAdd, Nat.reduceLeDiff, Nat.reduceSub, Nat.reduceMul, ↓reduceIte, Int.reduceToNat, Int.reduceLE, beq_self_eq_true]
    refine hK _ (XWP.ret ?_)
    try simp only [thenX_ret, inBlockX_ret]
    refine ret_go _ rfl ?_
    exact hno
  have t3 : decide ((64 : Int) < (L.length : Int)) = false := decide_eq_false (by omega)
  first | refine Gx.a (by kernel_rfl) fun K hK => ?_ | refine Gx.b (by kernel_rfl) fun K hK => ?_ | refine Gx.c (by kernel_rfl) fun K hK => ?_
  simp only [XM, XA, XB, gateX, Nat.reduceAdd, Nat.reduceLeDiff, Nat.reduceSub, Nat.reduceMul, ↓reduceIte, Int.reduceToNat, Int.reduceLE, beq_self_eq_true, t1, t2, t3]
  refine hK _ ?_
  first | refine Gx.f rfl ?_ | refine XWP.seq (Gx.f rfl ?_)
  refine XWP.skip ?_
  refine XWP.cut (fun s => StIs (fun Z => [Z 0,Z 1,Z 2,Z 3,Z 4,Z 5,Z 6,Z 7,Z 8,Z 9,Z 10,Z 11,Z 12,Z 13,Z 14,Z 15,Z 16,Z 17,Z 18,Z 19,Z 20,Z 21,Z 22,Z 23,Z 24,Z 25,Z 26,Z 27,Z 28,Z 29,Z 30,Z 31,Z 32,Z 33,Z 34,Z 35,Z 36,Z 37,Z 38,Z 39,Z 40,Z 41,Z 42]) [[.int .i64 r, .int .i64 c, .slice A L.length cp]] (fun _ => none) V s ∧ fewR L) ?_ ?_
  rotate_left
  · rintro s ⟨hs, hp⟩
    obtain ⟨z, rfl⟩ := hs.out
    try dsimp only
    first | refine Gx.a (by kernel_rfl) fun K hK => ?_ | refine Gx.b (by kernel_rfl) fun K hK => ?_ | refine Gx.c (by kernel_rfl) fun K hK => ?_
    simp only [XM, XA, XB, gateX, Nat.reduceAdd, Nat.reduceLeDiff, Nat.reduceSub, Nat.reduceMul, ↓reduceIte, Int.reduceToNat, Int.reduceLE, beq_self_eq_true]
    refine hK _ (XWP.ret ?_)
    try simp only [thenX_ret, inBlockX_ret]
    refine ret_go _ rfl ?_
    exact ⟨true, rfl, fun _ => ⟨by omega, by omega, by omega, hp⟩⟩
  first | refine Gx.a (by kernel_rfl) fun K hK => ?_ | refine Gx.b (by kernel_rfl) fun K hK => ?_ | refine Gx.c (by kernel_rfl) fun K hK => ?_
  simp only [XM, XA, XB, gateX, Nat.reduceAdd, Nat.reduceLeDiff, Nat.reduceSub, Nat.reduceMul, ↓reduceIte, Int.reduceToNat, Int.reduceLE, beq_self_eq_true]
  refine hK _ ?_
  clear hK
  first | refine XWP.block ?_ | refine XWP.seq (XWP.block ?_)
  refine XWP.loop (fun q s => ∃ (k : Nat), StIs (fun Z => [Z 0, .p 0 0, Z 2,Z 3,Z 4,Z 5,Z 6,Z 7,Z 8,Z 9,Z 10,Z 11,Z 12,Z 13,Z 14,Z 15,Z 16,Z 17,Z 18, .v (.slice A L.length cp), .v (.int .i64 (L.length : Int)), .v (.int .i64 (k : Int)), Z 22,Z 23,Z 24,Z 25,Z 26,Z 27,Z 28,Z 29,Z 30,Z 31,Z 32,Z 33,Z 34,Z 35,Z 36,Z 37,Z 38,Z 39,Z 40,Z 41,Z 42]) [[.int .i64 r, .int .i64 c, .slice A L.length cp]] (fun _ => none) V s ∧ q + k = L.length ∧ ∀ r ∈ L.take k, r.nd.length ≤ 3 ∧ r.dd.length ≤ 3) L.length ⟨0, StIs.of (by exact rfl), by omega, fun r hr => by simp at hr⟩ ?_
  rintro q s ⟨k, hs, hq, hall⟩
  obtain ⟨z, rfl⟩ := hs.out
  try dsimp only
  clear hs
  by_cases hk : k < L.length
  rotate_left
  · obtain rfl : k = L.length := by omega
    have bt1 : decide (((L.length : Nat) : Int) < ((L.length : Nat) : Int)) = false := decide_eq_false (by omega)
    first | refine Gx.a (by kernel_rfl) fun K hK => ?_ | refine Gx.b (by kernel_rfl) fun K hK => ?_ | refine Gx.c (by kernel_rfl) fun K hK => ?_
    simp only [XM, XA, XB, gateX, Nat.reduceAdd, Nat.reduceLeDiff, Nat.reduceSub, Nat.reduceMul, ↓reduceIte, Int.reduceToNat, Int.reduceLE, beq_self_eq_true, bt1]
    refine hK _ ?_
    first | refine Gx.f rfl ?_ | refine XWP.seq (Gx.f rfl ?_)
    refine XWP.exit ?_
    rw [List.take_length] at hall
    exact ⟨StIs.of (by exact rfl), hall⟩
  have bt1 : decide ((k : Int) < (L.length : Int)) = true := decide_eq_true (by omega)
  first | refine Gx.a (by kernel_rfl) fun K hK => ?_ | refine Gx.b (by kernel_rfl) fun K hK => ?_ | refine Gx.c (by kernel_rfl) fun K hK => ?_
  simp only [XM, XA, XB, gateX, Nat.reduceAdd, Nat.reduceLeDiff, Nat.reduceSub, Nat.reduceMul, ↓reduceIte, Int.reduceToNat, Int.reduceLE, beq_self_eq_true, bt1]
  refine hK _ ?_
  first | refine Gx.t rfl ?_ | refine XWP.seq (Gx.t rfl ?_)
  refine XWP.skip ?_
  obtain ⟨b, o, rfl⟩ := SlAt.addr h (by omega)
  obtain ⟨n1, c1, A1, n2, c2, A2, l1, l2, e1, e2, _⟩ := Raws.fld h k hk
  have etk : L.take (k + 1) = L.take k ++ [L[k]] := by rw [List.take_succ_eq_append_getElem hk]
  refine XWP.cut (fun s => StIs (fun Z => [Z 0, .p 0 0, Z 2,Z 3,Z 4,Z 5,Z 6,Z 7,Z 8,Z 9,Z 10,Z 11,Z 12,Z 13,Z 14,Z 15,Z 16,Z 17,Z 18, .v (.slice (some ⟨b, o, none⟩) L.length cp), .v (.int .i64 (L.length : Int)), .v (.int .i64 (k : Int)), Z 22,Z 23,Z 24,Z 25,Z 26,Z 27,Z 28,Z 29,Z 30,Z 31,Z 32,Z 33,Z 34,Z 35,Z 36,Z 37,Z 38,Z 39,Z 40,Z 41,Z 42]) [[.int .i64 r, .int .i64 c, .slice (some ⟨b, o, none⟩) L.length cp]] (fun _ => none) V s ∧ L[k].nd.length ≤ 3 ∧ L[k].dd.length ≤ 3) ?_ ?_
  rotate_left
  · rintro s ⟨hs, hr⟩
    obtain ⟨z, rfl⟩ := hs.out
    try dsimp only
    clear hs
    first | refine Gx.a (by kernel_rfl) fun K hK => ?_ | refine Gx.b (by kernel_rfl) fun K hK => ?_ | refine Gx.c (by kernel_rfl) fun K hK => ?_
    simp only [XM, XA, XB, gateX, Nat.reduceAdd, Nat.reduceLeDiff, Nat.reduceSub, Nat.reduceMul, ↓reduceIte, Int.reduceToNat, Int.reduceLE, beq_self_eq_true, i64_succ k (by omega)]
    refine hK _ ⟨q - 1, by omega, k + 1, StIs.of (by exact rfl), by omega, fun x hx => ?_⟩
    rw [etk] at hx
    rcases List.mem_append.1 hx with hx | hx
    · exact hall x hx
    · rw [List.mem_singleton.1 hx]; exact hr
  clear hK
  first | refine XWP.block ?_ | refine XWP.seq (XWP.block ?_)
  first | refine Gx.a (by kernel_rfl) fun K hK => ?_ | refine Gx.b (by kernel_rfl) fun K hK => ?_ | refine Gx.c (by kernel_rfl) fun K hK => ?_
  simp only [XM, XA, XB, gateX, Nat.reduceAdd, Nat.reduceLeDiff, Nat.reduceSub, Nat.reduceMul, ↓reduceIte, Int.reduceToNat, Int.reduceLE, beq_self_eq_true]
  refine hK _ ?_
  by_cases p4 : 3 < L[k].nd.length
  · have t4 : decide ((3 : Int) < (n1 : Int)) = true := decide_eq_true (by omega)
    first | refine Gx.a (by kernel_rfl) fun K hK => ?_ | refine Gx.b (by kernel_rfl) fun K hK => ?_ | refine Gx.c (by kernel_rfl) fun K hK => ?_
    simp only [XM, XA, XB, gateX, Nat.reduceAdd, Nat.reduceLeDiff, Nat.reduceSub, Nat.reduceMul, ↓reduceIte, Int.reduceToNat, Int.reduceLE, beq_self_eq_true, t4]
    refine ⟨by omega, by omega, ld_mem (l1 _) ?_⟩
    simp only [XM, XA, XB, gateX, Nat.reduceAdd, Nat.reduceLeDiff, Nat.reduceSub, Nat.reduceMul, ↓reduceIte, Int.reduceToNat, Int.reduceLE, beq_self_eq_true, t4]
    refine hK _ ?_
    first | refine Gx.t rfl ?_ | refine XWP.seq (Gx.t rfl ?_)
    first | refine Gx.a (by kernel_rfl) fun K hK => ?_ | refine Gx.b (by kernel_rfl) fun K hK => ?_ | refine Gx.c (by kernel_rfl) fun K hK => ?_
    simp only [XM, XA, XB, gateX, Nat.reduceAdd, Nat.reduceLeDiff, Nat.reduceSub, Nat.reduceMul, ↓reduceIte, Int.reduceToNat, Int.reduceLE, beq_self_eq_true]
    refine hK _ (XWP.ret ?_)
    try simp only [thenX_ret, inBlockX_ret]
    refine ret_go _ rfl ?_
    exact hno
  have t4 : decide ((3 : Int) < (n1 : Int)) = false := decide_eq_false (by omega)
  by_cases p5 : 3 < L[k].dd.length
  · have t5 : decide ((3 : Int) < (n2 : Int)) = true := decide_eq_true (by omega)
    first | refine Gx.a (by kernel_rfl) fun K hK => ?_ | refine Gx.b (by kernel_rfl) fun K hK => ?_ | refine Gx.c (by kernel_rfl) fun K hK => ?_
    simp only [XM, XA, XB, gateX, Nat.reduceAdd, Nat.reduceLeDiff, Nat.reduceSub, Nat.reduceMul, ↓reduceIte, Int.reduceToNat, Int.reduceLE, beq_self_eq_true, t4]
    refine ⟨by omega, by omega, ld_mem (l1 _) ?_⟩
    simp only [XM, XA, XB, gateX, Nat.reduceAdd, Nat.reduceLeDiff, Nat.reduceSub, Nat.reduceMul, ↓reduceIte, Int.reduceToNat, Int.reduceLE, beq_self_eq_true, t4]
    refine ⟨by omega, by omega, ld_mem (l2 _) ?_⟩
    simp only [XM, XA, XB, gateX, Nat.reduceAdd, Nat.reduceLeDiff, Nat.reduceSub, Nat.reduceMul, ↓reduceIte, Int.reduceToNat, Int.reduceLE, beq_self_eq_true, t5]
    refine hK _ ?_
    first | refine Gx.t rfl ?_ | refine XWP.seq (Gx.t rfl ?_)
    first | refine Gx.a (by kernel_rfl) fun K hK => ?_ | refine Gx.b (by kernel_rfl) fun K hK => ?_ | refine Gx.c (by kernel_rfl) fun K hK => ?_
    simp only [XM, XA, XB, gateX, Nat.reduceAdd, Nat.reduceLeDiff, Nat.reduceSub, Nat.reduceMul, ↓reduceIte, Int.reduceToNat, Int.reduceLE, beq_self_eq_true]
    refine hK _ (XWP.ret ?_)
    try simp only [thenX_ret, inBlockX_ret]
    refine ret_go _ rfl ?_
    exact hno
  have t5 : decide ((3 : Int) < (n2 : Int)) = false := decide_eq_false (by omega)
  first | refine Gx.a (by kernel_rfl) fun K hK => ?_ | refine Gx.b (by kernel_rfl) fun K hK => ?_ | refine Gx.c (by kernel_rfl) fun K hK => ?_
  simp only [XM, XA, XB, gateX, Nat.reduceAdd, Nat.reduceLeDiff, Nat.reduceSub, Nat.reduceMul, ↓reduceIte, Int.reduceToNat, Int.reduceLE, beq_self_eq_true, t4]
  refine ⟨by omega, by omega, ld_mem (l1 _) ?_⟩
  simp only [XM, XA, XB, gateX, Nat.reduceAdd, Nat.reduceLeDiff, Nat.reduceSub, Nat.reduceMul, ↓reduceIte, Int.reduceToNat, Int.reduceLE, beq_self_eq_true, t4]
  refine ⟨by omega, by omega, ld_mem (l2 _) ?_⟩
  simp only [XM, XA, XB, gateX, Nat.reduceAdd, Nat.reduceLeDiff, Nat.reduceSub, Nat.reduceMul, ↓reduceIte, Int.reduceToNat, Int.reduceLE, beq_self_eq_true, t5]
  refine hK _ ?_
  first | refine Gx.f rfl ?_ | refine XWP.seq (Gx.f rfl ?_)
  refine XWP.skip ?_
  exact ⟨StIs.of (by exact rfl), by omega, by omega⟩
set_option maxHeartbeats 2000000 in
theorem kmixes_c (V : View) (s1 s2 u : Value) (r1 c1 r2 c2 : Int) (L1 L2 : List Raw) (W : Raw) (h1 : Raws V s1 L1) (h2 : Raws V s2 L2) (hu : rawE V u W) : Spec Try.prog 4 [.agg #[.int .i64 r1, .int .i64 c1, s1], .agg #[.int .i64 r2, .int .i64 c2, s2], u] V fun v' V' => v' = .bool true := by
  have hu0 := hu
  obtain ⟨A1, k1, rfl, _, _⟩ := h1.form
  obtain ⟨A2, k2, rfl, _, _⟩ := h2.form
  obtain ⟨n0, d0, rfl, kn, kd⟩ := hu
  obtain ⟨A3, k3, rfl, _, _⟩ := kn.form
  obtain ⟨A4, k4, rfl, _, _⟩ := kd.form
  refine (Spec.enter Try.func4 rfl fun Γ => ?_)
  simp only [Try.ntmps4, List.map_cons, List.map_nil, List.length_cons, List.length_nil, Nat.reduceAdd, Nat.reduceSub, List.replicate_succ, List.replicate_zero, List.cons_append, List.nil_append]
  first | refine Gx.a (by kernel_rfl) fun K hK => ?_ | refine Gx.b (by kernel_rfl) fun K hK => ?_ | refine Gx.c (by kernel_rfl) fun K hK => ?_
  simp only [XM, XA, XB, gateX, Nat.reduceAdd, Nat.reduceLeDiff, Nat.reduceSub, Nat.reduceMul, ↓reduceIte, Int.reduceToNat, Int.reduceLE, beq_self_eq_true]
  refine hK _ ?_
  refine XWP.seq ?_
  first | refine Gx.a (by kernel_rfl) fun K hK => ?_ | refine Gx.b (by kernel_rfl) fun K hK => ?_ | refine Gx.c (by kernel_rfl) fun K hK => ?_
  simp only [XM, XA, XB, gateX, Nat.reduceAdd, Nat.reduceLeDiff, Nat.reduceSub, Nat.reduceMul, ↓reduceIte, Int.reduceToNat, Int.reduceLE, beq_self_eq_true]
  refine call_go (by kernel_rfl) rfl (fine33_c _ _ r1 c1 L1 h1) fun v1 V1 hV1 g1 => ?_
  obtain ⟨b1, rfl, hb1⟩ := g1
  cases b1
  · simp only [XM, XA, XB, gateX, Nat.reduceAdd, Nat.reduceLeDiff, Nat.reduceSub, Nat.reduceMul, ↓reduceIte, Int.reduceToNat, Int.reduceLE, beq_self_eq_true]
    refine hK _ ?_
    first | refine Gx.t rfl ?_ | refine XWP.seq (Gx.t rfl ?_)
    first | refine Gx.a (by kernel_rfl) fun K hK => ?_ | refine Gx.b (by kernel_rfl) fun K hK => ?_ | refine Gx.c (by kernel_rfl) fun K hK => ?_
    simp only [XM, XA, XB, gateX, Nat.reduceAdd, Nat.reduceLeDiff, Nat.reduceSub, Nat.reduceMul, ↓reduceIte, Int.reduceToNat, Int.reduceLE, beq_self_eq_true]
    refine hK _ (XWP.ret ?_)
    try simp only [thenX_ret, inBlockX_ret]
    refine ret_go _ rfl ?_
    rfl
  simp only [XM, XA, XB, gateX, Nat.reduceAdd, Nat.reduceLeDiff, Nat.reduceSub, Nat.reduceMul, ↓reduceIte, Int.reduceToNat, Int.reduceLE, beq_self_eq_true]
  refine call_go (by kernel_rfl) rfl (fine33_c _ _ r2 c2 L2 (h2.up hV1)) fun v2 V2 hV2 g2 => ?_
  obtain ⟨b2, rfl, hb2⟩ := g2
  cases b2
  · simp only [XM, XA, XB, gateX, Nat.reduceAdd, Nat.reduceLeDiff, Nat.reduceSub, Nat.reduceMul, ↓reduceIte, Int.reduceToNat, Int.reduceLE, beq_self_eq_true]
    refine hK _ ?_
    first | refine Gx.t rfl ?_ | refine XWP.seq (Gx.t rfl ?_)
    first | refine Gx.a (by kernel_rfl) fun K hK => ?_ | refine Gx.b (by kernel_rfl) fun K hK => ?_ | refine Gx.c (by kernel_rfl) fun K hK => ?_
    simp only [XM, XA, XB, gateX, Nat.reduceAdd, Nat.reduceLeDiff, Nat.reduceSub, Nat.reduceMul, ↓reduceIte, Int.reduceToNat, Int.reduceLE, beq_self_eq_true]
    refine hK _ (XWP.ret ?_)
    try simp only [thenX_ret, inBlockX_ret]
    refine ret_go _ rfl ?_
    rfl
  obtain ⟨f1, f2, f3, f4⟩ := hb1 rfl
  obtain ⟨g1, g2, g3, g4⟩ := hb2 rfl
  by_cases p1 : 3 < W.nd.length
  · have t1 : decide ((3 : Int) < (W.nd.length : Int)) = true := decide_eq_true (by omega)
    simp only [XM, XA, XB, gateX, Nat.reduceAdd, Nat.reduceLeDiff, Nat.reduceSub, Nat.reduceMul, ↓reduceIte, Int.reduceToNat, Int.reduceLE, beq_self_eq_true, t1]
    refine hK _ ?_
    first | refine Gx.t rfl ?_ | refine XWP.seq (Gx.t rfl ?_)
    first | refine Gx.a (by kernel_rfl) fun K hK => ?_ | refine Gx.b (by kernel_rfl) fun K hK => ?_ | refine Gx.c (by kernel_rfl) fun K hK => ?_
    simp only [XM, XA, XB, gateX, Nat.reduceAdd, Nat.reduceLeDiff, Nat.reduceSub, Nat.reduceMul, ↓reduceIte, Int.reduceToNat, Int.reduceLE, beq_self_eq_true]
    refine hK _ (XWP.ret ?_)
    try simp only [thenX_ret, inBlockX_ret]
    refine ret_go _ rfl ?_
    rfl
  have t1 : decide ((3 : Int) < (W.nd.length : Int)) = false := decide_eq_false (by omega)
  by_cases p2 : 3 < W.dd.length
  · have t2 : decide ((3 : Int) < (W.dd.length : Int)) = true := decide_eq_true (by omega)
    simp only [XM, XA, XB, gateX, Nat.reduceAdd, Nat.reduceLeDiff, Nat.reduceSub, Nat.reduceMul, ↓reduceIte, Int.reduceToNat, Int.reduceLE, beq_self_eq_true, t1, t2]
    refine hK _ ?_
    first | refine Gx.t rfl ?_ | refine XWP.seq (Gx.t rfl ?_)
    first | refine Gx.a (by kernel_rfl) fun K hK => ?_ | refine Gx.b (by kernel_rfl) fun K hK => ?_ | refine Gx.c (by kernel_rfl) fun K hK => ?_
    simp only [XM, XA, XB, gateX, Nat.reduceAdd, Nat.reduceLeDiff, Nat.reduceSub, Nat.reduceMul, ↓reduceIte, Int.reduceToNat, Int.reduceLE, beq_self_eq_true]
    refine hK _ (XWP.ret ?_)
    try simp only [thenX_ret, inBlockX_ret]
    refine ret_go _ rfl ?_
    rfl
  have t2 : decide ((3 : Int) < (W.dd.length : Int)) = false := decide_eq_false (by omega)
  simp only [XM, XA, XB, gateX, Nat.reduceAdd, Nat.reduceLeDiff, Nat.reduceSub, Nat.reduceMul, ↓reduceIte, Int.reduceToNat, Int.reduceLE, beq_self_eq_true, t1, t2]
  refine hK _ ?_
  first | refine Gx.f rfl ?_ | refine XWP.seq (Gx.f rfl ?_)
  refine XWP.skip ?_
  have hV12 := View.le_trans hV1 hV2
  have qL1 := fewR_QB f4 h1.dig
  have qL2 := fewR_QB g4 h2.dig
  have fW : fewR [W] := fun r hr => by rw [List.mem_singleton.1 hr]; omega
  have qW : QB 96 W.q := QB_rv _ (dig3 kn.dig (by omega)) (dig3 kd.dig (by omega))
  first | refine Gx.a (by kernel_rfl) fun K hK => ?_ | refine Gx.b (by kernel_rfl) fun K hK => ?_ | refine Gx.c (by kernel_rfl) fun K hK => ?_
  simp only [XM, XA, XB, gateX, Nat.reduceAdd, Nat.reduceLeDiff, Nat.reduceSub, Nat.reduceMul, ↓reduceIte, Int.reduceToNat, Int.reduceLE, beq_self_eq_true]
  refine call_go (by kernel_rfl) rfl (kmix_c _ _ _ _ r1 c1 r2 c2 L1 L2 W (h1.up hV12) (h2.up hV12) (rawE_ok _ _ _ _ hV12 hu0) f4.fit g4.fit (fW.fit W (by simp)) (by omega) (by omega) (fun _ => qL1) (fun _ => qL2) (fun _ => qW)) fun v3 V3 hV3 M1 => ?_
  have hV13 := View.le_trans hV12 hV3
  have key : ∀ (X Y : List Rat), X = Y → (decide (X = Y)) = true := fun X Y h => decide_eq_true h
  by_cases he : mixE r1 c1 r2 c2 L1 L2 W = 0
  · obtain ⟨w3, rfl, m1⟩ := M1.2 he
    obtain ⟨A5, k5, rfl, _, _⟩ := m1.form
    simp only [XM, XA, XB, gateX, Nat.reduceAdd, Nat.reduceLeDiff, Nat.reduceSub, Nat.reduceMul, ↓reduceIte, Int.reduceToNat, Int.reduceLE, beq_self_eq_true]
    refine st_mat shapeT_27 rfl rfl rfl rfl rfl ?_
    simp only [XM, XA, XB, gateX, Nat.reduceAdd, Nat.reduceLeDiff, Nat.reduceSub, Nat.reduceMul, ↓reduceIte, Int.reduceToNat, Int.reduceLE, beq_self_eq_true]
    refine hK _ ?_
    first | refine Gx.a (by kernel_rfl) fun K hK => ?_ | refine Gx.b (by kernel_rfl) fun K hK => ?_ | refine Gx.c (by kernel_rfl) fun K hK => ?_
    simp only [XM, XA, XB, gateX, Nat.reduceAdd, Nat.reduceLeDiff, Nat.reduceSub, Nat.reduceMul, ↓reduceIte, Int.reduceToNat, Int.reduceLE, beq_self_eq_true]
    refine call_go (by kernel_rfl) rfl (rmix_c _ _ _ _ r1 c1 r2 c2 L1 L2 W (h1.up hV13) (h2.up hV13) (rawE_ok _ _ _ _ hV13 hu0) f4.fit g4.fit (fW.fit W (by simp)) (by omega) (by omega) qL1 qL2 qW) fun v4 V4 hV4 M2 => ?_
    obtain ⟨w4, rfl, m2⟩ := M2.2 he
    obtain ⟨A6, k6, rfl, _, _⟩ := m2.form
    simp only [XM, XA, XB, gateX, Nat.reduceAdd, Nat.reduceLeDiff, Nat.reduceSub, Nat.reduceMul, ↓reduceIte, Int.reduceToNat, Int.reduceLE, beq_self_eq_true]
    refine st_mat shapeT_36 rfl rfl rfl rfl rfl ?_
    simp only [XM, XA, XB, gateX, Nat.reduceAdd, Nat.reduceLeDiff, Nat.reduceSub, Nat.reduceMul, ↓reduceIte, Int.reduceToNat, Int.reduceLE, beq_self_eq_true]
    refine hK _ ?_
    have hq : ∀ x ∈ mixL r1.toNat L1 L2 W.q, QF x := by
      have e1 : stoB r1 c1 L1 = true := by
        cases e : stoB r1 c1 L1
        · rw [mixE_bad (.inl e)] at he; exact absurd he (by decide)
        · rfl
      have e2 : stoB r2 c2 L2 = true := by
        cases e : stoB r2 c2 L2
        · rw [mixE_bad (.inr (.inl e))] at he; exact absurd he (by decide)
        · rfl
      obtain ⟨n, rfl, rfl, hn, ll1, ok1, _⟩ := stoB_parts e1
      obtain ⟨n', rfl, rfl, _, ll2, ok2, _⟩ := stoB_parts e2
      have en : n' = n := by
        unfold mixE at he
        split at he
        · exact absurd he (by decide)
        · split at he
          · omega
          · exact absurd he (by decide)
      subst en
      have s1 := SqM.raw (V := V) h1 ok1 ll1 hn qL1
      have s2 := SqM.raw (V := V) h2 ok2 ll2 hn qL2
      intro x hx
      exact (mixL_QB s1.hq s2.hq qW x (by simpa using hx)).qf (by omega)
    first | refine Gx.a (by kernel_rfl) fun K hK => ?_ | refine Gx.b (by kernel_rfl) fun K hK => ?_ | refine Gx.c (by kernel_rfl) fun K hK => ?_
    simp only [XM, XA, XB, gateX, Nat.reduceAdd, Nat.reduceLeDiff, Nat.reduceSub, Nat.reduceMul, ↓reduceIte, Int.reduceToNat, Int.reduceLE, beq_self_eq_true, decide_true]
    refine call_go (by kernel_rfl) rfl (dMsame_c _ _ _ r1 r1 r1 r1 _ _ (m1.up hV4) m2 hq hq) fun v5 V5 hV5 h5 => ?_
    have h5 : v5 = .bool true := by rw [h5]; simp
    subst h5
    simp only [XM, XA, XB, gateX, Nat.reduceAdd, Nat.reduceLeDiff, Nat.reduceSub, Nat.reduceMul, ↓reduceIte, Int.reduceToNat, Int.reduceLE, beq_self_eq_true]
    refine call_go (by kernel_rfl) rfl (alive33_c _) fun v6 V6 hV6 h6 => ?_
    subst h6
    simp only [XM, XA, XB, gateX, Nat.reduceAdd, Nat.reduceLeDiff, Nat.reduceSub, Nat.reduceMul, ↓reduceIte, Int.reduceToNat, Int.reduceLE, beq_self_eq_true]
    refine hK _ (XWP.ret ?_)
    try simp only [thenX_ret, inBlockX_ret]
    refine ret_go _ rfl ?_
    rfl
  · have e3 := M1.1 he
    subst e3
    simp only [XM, XA, XB, gateX, Nat.reduceAdd, Nat.reduceLeDiff, Nat.reduceSub, Nat.reduceMul, ↓reduceIte, Int.reduceToNat, Int.reduceLE, beq_self_eq_true]
    refine st_mat shapeT_27 rfl rfl rfl rfl rfl ?_
    simp only [XM, XA, XB, gateX, Nat.reduceAdd, Nat.reduceLeDiff, Nat.reduceSub, Nat.reduceMul, ↓reduceIte, Int.reduceToNat, Int.reduceLE, beq_self_eq_true]
    refine hK _ ?_
    first | refine Gx.a (by kernel_rfl) fun K hK => ?_ | refine Gx.b (by kernel_rfl) fun K hK => ?_ | refine Gx.c (by kernel_rfl) fun K hK => ?_
    simp only [XM, XA, XB, gateX, Nat.reduceAdd, Nat.reduceLeDiff, Nat.reduceSub, Nat.reduceMul, ↓reduceIte, Int.reduceToNat, Int.reduceLE, beq_self_eq_true]
    refine call_go (by kernel_rfl) rfl (rmix_c _ _ _ _ r1 c1 r2 c2 L1 L2 W (h1.up hV13) (h2.up hV13) (rawE_ok _ _ _ _ hV13 hu0) f4.fit g4.fit (fW.fit W (by simp)) (by omega) (by omega) qL1 qL2 qW) fun v4 V4 hV4 M2 => ?_
    have e4 := M2.1 he
    subst e4
    simp only [XM, XA, XB, gateX, Nat.reduceAdd, Nat.reduceLeDiff, Nat.reduceSub, Nat.reduceMul, ↓reduceIte, Int.reduceToNat, Int.reduceLE, beq_self_eq_true]
    refine st_mat shapeT_36 rfl rfl rfl rfl rfl ?_
    simp only [XM, XA, XB, gateX, Nat.reduceAdd, Nat.reduceLeDiff, Nat.reduceSub, Nat.reduceMul, ↓reduceIte, Int.reduceToNat, Int.reduceLE, beq_self_eq_true]
    refine hK _ ?_
    first | refine Gx.a (by kernel_rfl) fun K hK => ?_ | refine Gx.b (by kernel_rfl) fun K hK => ?_ | refine Gx.c (by kernel_rfl) fun K hK => ?_
    simp only [XM, XA, XB, gateX, Nat.reduceAdd, Nat.reduceLeDiff, Nat.reduceSub, Nat.reduceMul, ↓reduceIte, Int.reduceToNat, Int.reduceLE, beq_self_eq_true, decide_true]
    refine call_go (by kernel_rfl) rfl (dMsame_c _ _ _ 0 0 0 0 [] [] (SlAt.nil _) (SlAt.nil _) (fun x hx => by cases hx) (fun x hx => by cases hx)) fun v5 V5 hV5 h5 => ?_
    have h5 : v5 = .bool true := by rw [h5]; simp
    subst h5
    simp only [XM, XA, XB, gateX, Nat.reduceAdd, Nat.reduceLeDiff, Nat.reduceSub, Nat.reduceMul, ↓reduceIte, Int.reduceToNat, Int.reduceLE, beq_self_eq_true]
    refine call_go (by kernel_rfl) rfl (alive33_c _) fun v6 V6 hV6 h6 => ?_
    subst h6
    simp only [XM, XA, XB, gateX, Nat.reduceAdd, Nat.reduceLeDiff, Nat.reduceSub, Nat.reduceMul, ↓reduceIte, Int.reduceToNat, Int.reduceLE, beq_self_eq_true]
    refine hK _ (XWP.ret ?_)
    try simp only [thenX_ret, inBlockX_ret]
    refine ret_go _ rfl ?_
    rfl
end Go.Proofs.Ytobjjdnfgamgcaa
end
section
namespace Go.Proofs.Ytobjjdnfgamgcaa.kernelMixes
open Go.ChangeShapes Go.WideShapes Go.ChangeAt Go.RowKit
set_option linter.unusedVariables false
theorem own : ownKnob Try.prog.godebug = none := by kernel_rfl
theorem laidOut : laidOutB Try.prog = true := by kernel_rfl
set_option maxHeartbeats 4000000 in
set_option maxRecDepth 100000 in
theorem lifted (os : Os) (started : os.Started) (H : Type) (enc : TypeId × Value → H) :
    ReturnsInHanded {} Try.checked os 4 .any (Rows.kernelMixesSpec.pre6 enc Try.prog Try.f4 Rows.kernelMixesRow.domain false) (Rows.kernelMixesSpec.post enc Try.prog Try.f4 false true false false) := by
  refine returnsInHanded_of_change_sized (C := Try.checked) own started (by kernel_rfl) Try.func4
    (ChangeSpec.witness6 (enc := enc) (C := Try.checked) false ⟨#[], #[.agg #[.int .i64 0, .int .i64 0, .slice none 0 0], .agg #[.int .i64 0, .int .i64 0, .slice none 0 0], .agg #[.bool false, .slice none 0 0, .slice none 0 0]], []⟩ 8 (by kernel_rfl) (by kernel_rfl) (by kernel_rfl) (by kernel_rfl)) ?_
  intro W base args ds gs before hval0 hW hcnd hsz0 _
  have hval : ∀ (j : Nat) t v, Try.f4.params[j]? = some t → args[j]? = some v → Value.okWide Try.prog W .any base t v := hval0
  have hW' := hW
  obtain ⟨p, q, hA0, hV, rfl, hfz, hnd⟩ := hW
  have hA : DataW.TrodAll enc Try.prog W 0 (fun _ => true) true Try.f4.params.toList args.toList ds p := hA0
  rw [Try.params4] at hA hval
  obtain ⟨v0, vs0, d0, ds0, p0, q0, hargs, rfl, rfl, h0, r0⟩ := trodAll_cons hA
  obtain ⟨v1, vs1, d1, ds1, p1, q1, rfl, rfl, rfl, h1, r1⟩ := trodAll_cons r0
  obtain ⟨v2, vs2, d2, ds2, p2, q2, rfl, rfl, rfl, h2, r2⟩ := trodAll_cons r1
  obtain ⟨rfl, rfl, rfl⟩ := trodAll_nil r2
  obtain rfl : args = #[v0, v1, v2] := by cases args; simp_all
  obtain ⟨rfl, rfl⟩ := trodVars_none hV
  obtain ⟨c0, rfl, _⟩ := okWide_struct und_mat (hval 0 27 v0 rfl rfl)
  have k0 := h0
  have lt0 : ∀ x ∈ p0, x.block < W.heap.size := by obtain ⟨m, hm⟩ := k0; exact DataW.trod_lt m _ _ _ hm
  obtain ⟨fuel0, hf0⟩ := h0
  obtain ⟨r0r, r0c, s0, L0, j0, hL0⟩ := open_mat hf0
  obtain rfl : c0 = #[.int .i64 r0r, .int .i64 r0c, s0] := by cases c0; simpa [Value.cells] using j0
  obtain ⟨c1, rfl, _⟩ := okWide_struct und_mat (hval 1 27 v1 rfl rfl)
  have k1 := h1
  have lt1 : ∀ x ∈ p1, x.block < W.heap.size := by obtain ⟨m, hm⟩ := k1; exact DataW.trod_lt m _ _ _ hm
  obtain ⟨fuel1, hf1⟩ := h1
  obtain ⟨r1r, r1c, s1, L1, j1, hL1⟩ := open_mat hf1
  obtain rfl : c1 = #[.int .i64 r1r, .int .i64 r1c, s1] := by cases c1; simpa [Value.cells] using j1
  obtain ⟨c2, rfl, _⟩ := okWide_struct und_rat (hval 2 31 v2 rfl rfl)
  have k2 := h2
  have lt2 : ∀ x ∈ p2, x.block < W.heap.size := by obtain ⟨m, hm⟩ := k2; exact DataW.trod_lt m _ _ _ hm
  obtain ⟨fuel2, hf2⟩ := h2
  obtain ⟨L2, n2, e2, j2, f2, g2⟩ := open_rat hf2
  obtain rfl : c2 = #[.bool L2.m, n2, e2] := by cases c2; simpa [Value.cells] using j2
  have hL2 : rawE (viewW W) (.agg #[.bool L2.m, n2, e2]) L2 := ⟨n2, e2, rfl, f2, g2⟩
  clear hA0 hval0 hsz0
  refine (kmixes_c (viewW W) _ _ _ r0r r0c r1r r1c L0 L1 L2 hL0 hL1 hL2 W (viewW_sub W)).mono fun e W' ⟨v, V', he, _, _, _, bel, hv⟩ => ?_
  subst hv
  subst he
  exact ⟨_, rfl, _, _, _, [], _, [], hW', trodAll_mk1 (shut_bool Try.underlying4 _), (trodAll_cons_mk (Below.trod laidOut (by kernel_rfl) (of_decide_eq_true (by kernel_rfl)) k0 bel.toBelow lt0) (trodAll_cons_mk (Below.trod laidOut (by kernel_rfl) (of_decide_eq_true (by kernel_rfl)) k1 bel.toBelow lt1) (trodAll_cons_mk (Below.trod laidOut (by kernel_rfl) (of_decide_eq_true (by kernel_rfl)) k2 bel.toBelow lt2) trodAll_mk0))), rfl, bel.frame _, fun h => by cases h⟩
theorem over : Rows.kernelMixesRow.holds Try.pinned (OpenSpec.ofChange Rows.kernelMixesSpec) :=
  OpenClaim.holds_of_wide 4 Try.f4 rfl rfl rfl rfl rfl rfl rfl ⟨rfl, rfl, rfl, rfl, rfl⟩ rfl rfl rfl rfl rfl (by kernel_rfl) Try.func4 (by kernel_rfl)
    (of_decide_eq_true (by kernel_rfl)) (by unfold Func.isWrapper; first | (rw [if_pos (by decide +kernel)]; kernel_rfl) | (rw [if_neg (by decide +kernel)]; exact ⟨rfl, rfl⟩))
    (fun os started H enc _ => lifted os started H enc)
theorem proved : Rows.KernelMixesSaid := over
#print axioms proved
end Go.Proofs.Ytobjjdnfgamgcaa.kernelMixes
namespace Go.Proofs.Ytobjjdnfgamgcaa
/-- The row, under a short name, for the claim. -/
theorem kernelMixes_holds : Rows.KernelMixesSaid := kernelMixes.proved
end Go.Proofs.Ytobjjdnfgamgcaa
end
