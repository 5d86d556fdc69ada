/- The law BalanceMixes (each closed class has a stationary distribution that is positive exactly on the class; mixtures of these are stationary, and every stationary distribution is their mixture by its masses) answers true at every matrix, every list of fractions and every list of integers: no premise. (part 11 of 11) -/
import Derived.OrdersHeld
import Derived.Below
import Derived.Tactics
import Derived.KernelRfl
import Derived.RangeFuncCalls
import Derived.RangeFuncFrom
import Derived.RangeFuncLeaves
import Derived.OrdersIn
import Derived.Laws.AppendOwn
import Derived.Laws.MakeOwn
import Derived.Laws.CopyRow
import Derived.Laws.Cells
import Derived.Laws.World
import Derived.Laws.Alloc2
import Derived.Laws.NewBlocks
import Derived.Maps.AppendAt
import Derived.Test.YtkgmicakfmllmaaGreatProg
import Init.Data.List.Lemmas
import Init.Omega
import Derived.WalkKit
import Derived.ProofKit
import Derived.OpenShut
import Derived.ChangeOld
import Derived.SizedLaws
import Derived.ChangeSlices
import Derived.ChangeArms
import Derived.Deep.Slices
import Derived.Test.YtkgmicakfmllmaaGreatRows
import Derived.ShutString
import Derived.Test.YtkgmicakfmllmaaGreatMX10
section
namespace Go.Proofs.YtkgmicakfmllmaaGreat
open Go Go.RowKit
set_option linter.unusedSimpArgs false
set_option linter.unusedVariables false
attribute [local irreducible] XWP Spec SpecO XPub XCall seqX clX apX stX ldX iaX slX
theorem fineB_few {r c : Int} {M : List Raw} (h : fineB r c M = true) : r ≤ 8 ∧ c ≤ 8 ∧ M.length ≤ 70 ∧ fewR M := by
  unfold fineB at h
  rw [Bool.and_eq_true, Bool.and_eq_true, decide_eq_true_eq, decide_eq_true_eq] at h
  have := fewB_few h.2
  exact ⟨h.1.1, h.1.2, this.1, this.2⟩
theorem LM.of {V : View} {v s : Value} {r c : Int} {L M : List Raw} (hv : Raws V v L) (hs : Raws V s M) (h1 : fewB L = true) (h2 : fineB r c M = true) : LM V v s L M 96 := by
  obtain ⟨a1, a2⟩ := fewB_few h1
  obtain ⟨_, _, a3, a4⟩ := fineB_few h2
  exact ⟨hv, hs, a2.fit, a4.fit, by omega, by omega, fewR_QB a2 (Raws.dig hv), fewR_QB a4 (Raws.dig hs), by omega⟩
end Go.Proofs.YtkgmicakfmllmaaGreat
end
section
namespace Go.Proofs.YtkgmicakfmllmaaGreat
open Go Go.RowKit
set_option linter.unusedSimpArgs false
set_option linter.unusedVariables false
attribute [local irreducible] XWP Spec SpecO XPub XCall seqX clX apX stX ldX iaX slX
end Go.Proofs.YtkgmicakfmllmaaGreat
end
section
namespace Go.Proofs.YtkgmicakfmllmaaGreat
open Go Go.RowKit
set_option linter.unusedSimpArgs false
set_option linter.unusedVariables false
attribute [local irreducible] XWP Spec SpecO XPub XCall seqX clX apX stX ldX iaX slX
end Go.Proofs.YtkgmicakfmllmaaGreat
end
section
namespace Go.Proofs.YtkgmicakfmllmaaGreat
open Go Go.RowKit
set_option linter.unusedSimpArgs false
set_option linter.unusedVariables false
attribute [local irreducible] XWP Spec SpecO XPub XCall seqX clX apX stX ldX iaX slX
theorem rv_small {n : Nat} (hn : n ≤ 8) : rv false n 1 = (n : Rat) := by
  have : n = 0 ∨ n = 1 ∨ n = 2 ∨ n = 3 ∨ n = 4 ∨ n = 5 ∨ n = 6 ∨ n = 7 ∨ n = 8 := by omega
  rcases this with rfl | rfl | rfl | rfl | rfl | rfl | rfl | rfl | rfl <;> decide +kernel
theorem small_QB {n : Nat} (hn : n ≤ 8) : QB 4 (n : Rat) := by
  have : n = 0 ∨ n = 1 ∨ n = 2 ∨ n = 3 ∨ n = 4 ∨ n = 5 ∨ n = 6 ∨ n = 7 ∨ n = 8 := by omega
  rcases this with rfl | rfl | rfl | rfl | rfl | rfl | rfl | rfl | rfl <;> exact ⟨by decide, by decide⟩
theorem dmaken_c (V : View) (n : Nat) (hn : n ≤ 8) : Spec Tryz.prog 25 [.int .i64 (n : Int), .int .i64 1] V fun v' V' => ∃ w, v' = .tuple #[w, .int .i64 0] ∧ RatC V' w (n : Rat) := by
  refine (Spec.enter Tryz.func25 rfl fun Γ => ?_)
  simp only [Tryz.ntmps25, List.map_cons, List.map_nil, List.length_cons, List.length_nil, Nat.reduceAdd, Nat.reduceSub, List.replicate_succ, List.replicate_zero, List.cons_append, List.nil_append]
  refine Gx.a (by kernel_rfl) fun K hK => ?_
  simp only [XA, XB]
  refine hK _ ?_
  refine Gx.a (by kernel_rfl) fun K hK => ?_
  simp only [XA]
  refine call_go (by kernel_rfl) rfl (dsize_c _ n (by omega)) fun v1 V1 hV1 h1 => ?_
  obtain ⟨w1, rfl, h1⟩ := h1
  simp only [XA]
  refine hK _ ?_
  refine Gx.a (by kernel_rfl) fun K hK => ?_
  simp only [XA]
  refine call_go (by kernel_rfl) rfl (dsize_c _ 1 (by omega)) fun v2 V2 hV2 h2 => ?_
  obtain ⟨w2, rfl, h2⟩ := h2
  simp only [XA]
  refine hK _ ?_
  have hn16 : n ≤ 2 ^ 4 := by omega
  refine Gx.a (by kernel_rfl) fun K hK => ?_
  simp only [XA, XB, beq_self_eq_true]
  refine call_go (by kernel_rfl) rfl (pof_c _ _ _ _ n 1 (h1.mono hV2) h2 (Fit1.of_two (B := 4) hn16 (by omega)) (Fit1.of_two (B := 1) (by decide) (by omega))) fun v3 V3 hV3 h3 => ?_
  obtain ⟨w3, rfl, r3⟩ := h3.2 (by omega)
  clear h3
  obtain ⟨x3, y3, rfl, o1, o2⟩ := r3.form
  simp only [XA]
  refine st_rat rfl rfl rfl o1 o2 ?_
  simp only [XA]
  refine hK _ (XWP.ret ?_)
  try simp only [thenX_ret, inBlockX_ret]
  refine ret_rat2 rfl rfl rfl rfl ⟨_, rfl, ?_⟩
  rw [← rv_small hn]
  exact r3
theorem sgI_pos {q : Rat} (h : 0 ≤ q) : decide (0 < sgI q) = decide (q ≠ 0) := by
  unfold sgI
  have e := (ng_iff q).2 h
  rw [e]
  by_cases h0 : q = 0
  · rw [if_pos h0, h0]; rfl
  · rw [if_neg h0, decide_eq_true h0]; rfl
/-- an element of a row that is read -/
theorem sl1_at {α : Type} {E : El α} (hE : ElOk E) {V : View} {b o n c : Nat} {xs : List α} (h : Sl1 E V (.slice (some ⟨b, o, none⟩) n c) xs) {a : Nat} (ha : a < xs.length) : ∃ u, isOne u = true ∧ ∀ V', V.le V' → E V' u xs[a] ∧ ∀ H (t m : Nat), shapeT Tryz.prog t = some (false, m) → Loads Tryz.prog H V' t b (o + a) u := by
  obtain ⟨A', c', e', _, _, h3⟩ := h
  cases e'
  rcases h3 with rfl | ⟨b', o', arr, ty, fr, e1, e2, h4⟩
  · simp at ha
  · cases e1
    obtain ⟨u, g1, g2, g3⟩ := h4 a xs[a] (List.getElem?_eq_getElem ha)
    exact ⟨u, g2, fun V' hV => ⟨hE _ _ _ _ hV g3, fun H t m ht => ⟨false, m, ht, .inr ⟨rfl, .inr ⟨arr, ty, fr, hV _ _ e2, g1⟩⟩⟩⟩⟩
/-- the mixture's part k, of the first i laws -/
def mixQ (LL : List (List Rat)) (W : List Rat) (k i : Nat) : Rat := Sm (fun a => cf W a * cf (LL.getD a []) k) i
set_option maxHeartbeats 4000000 in
theorem mixed_c (V : View) (vl vw : Value) (LL : List (List Rat)) (W : List Rat) (n : Nat) (hl : Sl1 Rats V vl LL) (hw : Rats V vw W) (lW : W.length = LL.length) (h1 : 1 ≤ LL.length) (lm : LL.length ≤ 1000) (hn : n ≤ 1000)
    (hlen : ∀ a, a < LL.length → (LL.getD a []).length = n) (hs : ∀ i, i ≤ LL.length → QF (Sm (cf W) i)) (hs0 : Sm (cf W) LL.length ≠ 0) (qW : ∀ a, a < LL.length → QF (cf W a)) (qL : ∀ a k, a < LL.length → k < n → QF (cf (LL.getD a []) k))
    (qP : ∀ a k, a < LL.length → k < n → QF (cf W a * cf (LL.getD a []) k)) (qM : ∀ k i, k < n → i ≤ LL.length → QF (mixQ LL W k i)) :
    Spec Tryz.prog 26 [vl, vw] V fun v' V' => Rats V' v' (mk n fun k => mixQ LL W k LL.length / Sm (cf W) LL.length) := by
  obtain ⟨m, hm⟩ : ∃ m, m = LL.length := ⟨_, rfl⟩
  obtain ⟨A1, c1, rfl, hc1, hm1⟩ := hl.form
  obtain ⟨A2, c2, rfl, hc2, hm2⟩ := hw.form
  obtain ⟨b1, o1, rfl⟩ := hl.addr (by omega)
  obtain ⟨b2, o2, rfl⟩ := SlAt.addr hw (by omega)
  rw [← hm] at hs hs0 lW h1 hlen qW qL qP qM lm ⊢
  have hrow : ∀ a, a < m → ∃ A c, ∀ V', V.le V' → Rats V' (.slice A n c) (LL.getD a []) ∧ ∀ H, Loads Tryz.prog H V' 22 b1 (o1 + a) (.slice A n c) := fun a ha => by
    have ha' : a < LL.length := by omega
    have e : LL.getD a [] = LL[a] := by rw [List.getD_eq_getElem?_getD, List.getElem?_eq_getElem ha']; rfl
    obtain ⟨u, _, g⟩ := sl1_at rats_ok hl ha'
    obtain ⟨A, c, eu, _, _⟩ := SlAt.form (g V (View.le_refl _)).1
    rw [← e, hlen a ha] at eu
    subst eu
    exact ⟨A, c, fun V' hV => ⟨by rw [e]; exact (g V' hV).1, fun H => (g V' hV).2 H _ 1 shapeT_22⟩⟩
  rw [lW]
  refine (Spec.enter Tryz.func26 rfl fun Γ => ?_)
  simp only [Tryz.ntmps26, List.map_cons, List.map_nil, List.length_cons, List.length_nil, Nat.reduceAdd, Nat.reduceSub, List.replicate_succ, List.replicate_zero, List.cons_append, List.nil_append]
  refine Gx.a (by kernel_rfl) fun K hK => ?_
  simp only [XA]
  refine hK _ ?_
  refine Gx.a (by kernel_rfl) fun K hK => ?_
  simp only [XA]
  refine call_go (by kernel_rfl) rfl (pzero_c _) fun v1 V1 hV1 k1 => ?_
  obtain ⟨x1, y1, rfl, p1, p2⟩ := k1.form
  simp only [XA, XB]
  refine st_rat rfl rfl rfl p1 p2 ?_
  simp only [XA]
  refine hK _ ?_
  refine XWP.cutD 1 (fun s => ∃ (V2 : View) (ms : Bool) (x y : Value), StIs (fun Z => [.v (.slice (some ⟨b1, o1, none⟩) m c1), .v (.slice (some ⟨b2, o2, none⟩) m c2), Z 2,Z 3,Z 4, .p 0 0, Z 6,Z 7,Z 8,Z 9,Z 10,Z 11,Z 12,Z 13,Z 14,Z 15,Z 16,Z 17,Z 18,Z 19,Z 20,Z 21,Z 22,Z 23,Z 24,Z 25,Z 26,Z 27,Z 28,Z 29,Z 30,Z 31,Z 32,Z 33,Z 34,Z 35,Z 36,Z 37,Z 38,Z 39,Z 40,Z 41,Z 42,Z 43,Z 44,Z 45,Z 46,Z 47,Z 48,Z 49,Z 50,Z 51,Z 52,Z 53,Z 54,Z 55,Z 56,Z 57,Z 58,Z 59,Z 60,Z 61,Z 62,Z 63]) [[.bool ms, x, y]] (fun _ => none) V2 s ∧ V.le V2 ∧ RatC V2 (.agg #[.bool ms, x, y]) (Sm (cf W) m) ∧ isOne x = true ∧ isOne y = true) ?_ ?_
  · refine Gx.a (by kernel_rfl) fun K hK => ?_
    simp only [XA, XB]
    refine hK _ ?_
    clear hK
    refine XWP.block ?_
    refine XWP.loopD 1 (fun q s => ∃ (i : Nat) (V2 : View) (ms : Bool) (x y : Value), StIs (fun Z => [.v (.slice (some ⟨b1, o1, none⟩) m c1), .v (.slice (some ⟨b2, o2, none⟩) m c2), Z 2,Z 3,Z 4, .p 0 0, Z 6,Z 7,Z 8,Z 9,Z 10,Z 11,Z 12, .v (.int .i64 (m : Int)), .v (.int .i64 (i : Int)), Z 15,Z 16,Z 17,Z 18,Z 19,Z 20,Z 21,Z 22,Z 23,Z 24,Z 25,Z 26,Z 27,Z 28,Z 29,Z 30,Z 31,Z 32,Z 33,Z 34,Z 35,Z 36,Z 37,Z 38,Z 39,Z 40,Z 41,Z 42,Z 43,Z 44,Z 45,Z 46,Z 47,Z 48,Z 49,Z 50,Z 51,Z 52,Z 53,Z 54,Z 55,Z 56,Z 57,Z 58,Z 59,Z 60,Z 61,Z 62,Z 63]) [[.bool ms, x, y]] (fun _ => none) V2 s ∧ q + i = m ∧ V.le V2 ∧ RatC V2 (.agg #[.bool ms, x, y]) (Sm (cf W) i) ∧ isOne x = true ∧ isOne y = true) m ⟨0, V1, _, x1, y1, StIs.of (by exact rfl), by omega, hV1, k1, p1, p2⟩ ?_
    clear k1 p1 p2
    rintro q s ⟨i, V2, ms, x, y, hst, hq, hV2, k1, p1, p2⟩
    obtain ⟨z, rfl⟩ := hst.out
    try dsimp only
    clear hst
    by_cases hi : i < m
    rotate_left
    · obtain rfl : i = m := by omega
      have g1 : decide ((i : Int) < (i : Int)) = false := decide_eq_false (by omega)
      refine Gx.a (by kernel_rfl) fun K hK => ?_
      simp only [XA, XB, g1]
      refine hK _ ?_
      refine XWP.seq (Gx.f rfl ?_)
      refine XWP.exit ?_
      exact fun f => ⟨V2, ms, x, y, StIs.of (by exact rfl), hV2, k1, p1, p2⟩
    have g1 : decide ((i : Int) < (m : Int)) = true := decide_eq_true (by omega)
    refine Gx.a (by kernel_rfl) fun K hK => ?_
    simp only [XA, XB, g1]
    refine hK _ ?_
    refine XWP.seq (Gx.t rfl ?_)
    refine XWP.skip ?_
    have hw2 := hw.up hV2
    obtain ⟨m3, n3, d3, hx, ⟨r1, r2, r3⟩, hld⟩ := Rats.get hw2 i (by omega)
    refine XWP.seq ?_
    refine XWP.block ?_
    refine Gx.a (by kernel_rfl) fun K hK => ?_
    simp only [XA]
    refine hK _ ?_
    (refine XWP.drw1 [0, 1, 2, 3, 4, 5, 6] (by kernel_rfl) (by kernel_rfl) (by kernel_rfl) fun K hK => ?_) <;> dsimp only [pickOps, List.getElem?_cons_zero, List.getElem?_cons_succ]
    simp only [XA, XB, Nat.reduceAdd, Nat.reduceLeDiff, ↓reduceIte]
    refine ⟨by omega, by omega, ld_mem (hld _) ?_⟩
    simp only [XA]
    have f1 := hs i (by omega)
    have f2 := qW i hi
    refine call_go (by kernel_rfl) rfl (padd_c _ _ _ _ _ (k1.toV f1) (hx.toV f2) f1 f2) fun v3 V3 hV3 h3 => ?_
    obtain ⟨x3, y3, rfl, o3, o4⟩ := h3.form
    simp only [XA]
    refine st_rat rfl rfl rfl o3 o4 ?_
    simp only [XA]
    refine hK _ ?_
    refine Gx.c (by kernel_rfl) fun K hK => ?_
    simp only [XA, XB, i64_succ i (by omega)]
    exact hK _ ⟨q - 1, by omega, fun f => ⟨i + 1, V3, _, x3, y3, StIs.of (by exact rfl), by omega, View.le_trans hV2 hV3, h3, o3, o4⟩⟩
  clear k1 p1 p2
  rintro s ⟨V2, ms, xs, ys, hst, hV2, ks, ps1, ps2⟩
  obtain ⟨z, rfl⟩ := hst.out
  try dsimp only
  clear hst
  refine Gx.a (by kernel_rfl) fun K hK => ?_
  simp only [XA]
  refine hK _ ?_
  refine XWP.cutD 1 (fun s => ∃ (V3 : View) (H3 : Heap) (wo : Value) (co : List Value), StIs (fun Z => [Z 0,Z 1,Z 2,Z 3,Z 4,Z 5,Z 6, .v wo, Z 8,Z 9,Z 10,Z 11,Z 12,Z 13,Z 14,Z 15,Z 16,Z 17,Z 18,Z 19,Z 20,Z 21,Z 22,Z 23,Z 24,Z 25,Z 26,Z 27,Z 28,Z 29,Z 30,Z 31,Z 32,Z 33,Z 34,Z 35,Z 36,Z 37,Z 38,Z 39,Z 40,Z 41,Z 42,Z 43,Z 44,Z 45,Z 46,Z 47,Z 48,Z 49,Z 50,Z 51,Z 52,Z 53,Z 54,Z 55,Z 56,Z 57,Z 58,Z 59,Z 60,Z 61,Z 62,Z 63]) [[.bool ms, xs, ys]] H3 V3 s ∧ Own H3 49 3 wo n co ∧ RowAt ratE V3 co (mk n fun k => mixQ LL W k m / Sm (cf W) m)) ?_ ?_
  · obtain ⟨A0, c0, h0⟩ := hrow 0 (by omega)
    obtain ⟨_, hl0⟩ := h0 V2 hV2
    refine Gx.a (by kernel_rfl) fun K hK => ?_
    simp only [XN, XA, XB, Int.reduceLE]
    refine ⟨by omega, ?_⟩
    refine ld_mem (by simpa using hl0 _) ?_
    simp only [XA, XB]
    refine hK _ ?_
    clear hK
    refine XWP.block ?_
    refine XWP.loopD 1 (fun q s => ∃ (k : Nat) (V3 : View) (H3 : Heap) (wo : Value) (co : List Value), StIs (fun Z => [.v (.slice (some ⟨b1, o1, none⟩) m c1), .v (.slice (some ⟨b2, o2, none⟩) m c2), Z 2,Z 3,Z 4, .p 0 0, Z 6, .v wo, Z 8,Z 9,Z 10,Z 11,Z 12,Z 13,Z 14,Z 15,Z 16,Z 17,Z 18,Z 19,Z 20,Z 21,Z 22,Z 23,Z 24,Z 25,Z 26, .v (.int .i64 (n : Int)), .v (.int .i64 (k : Int)), Z 29,Z 30,Z 31,Z 32,Z 33,Z 34,Z 35,Z 36,Z 37,Z 38,Z 39,Z 40,Z 41,Z 42,Z 43,Z 44,Z 45,Z 46,Z 47,Z 48,Z 49,Z 50,Z 51,Z 52,Z 53,Z 54,Z 55,Z 56,Z 57,Z 58,Z 59,Z 60,Z 61,Z 62,Z 63]) [[.bool ms, xs, ys]] H3 V3 s ∧ q + k = n ∧ V2.le V3 ∧ Own H3 49 3 wo k co ∧ RowAt ratE V3 co (mk k fun k => mixQ LL W k m / Sm (cf W) m)) n ⟨0, V2, _, _, [], StIs.of (by exact rfl), by omega, View.le_refl _, own_nil, RowAt.nil _⟩ ?_
    clear hl0 h0
    rintro q s ⟨k, V3, H3, wo, co, hst, hq, hV3, hown, hrw⟩
    obtain ⟨z, rfl⟩ := hst.out
    try dsimp only
    clear hst
    by_cases hk : k < n
    rotate_left
    · obtain rfl : k = n := by omega
      have g1 : decide ((k : Int) < (k : Int)) = false := decide_eq_false (by omega)
      refine Gx.a (by kernel_rfl) fun K hK => ?_
      simp only [XA, XB, g1]
      refine hK _ ?_
      refine XWP.seq (Gx.f rfl ?_)
      refine XWP.exit ?_
      exact fun f => ⟨V3, H3, wo, co, StIs.of (by exact rfl), hown, hrw⟩
    have g1 : decide ((k : Int) < (n : Int)) = true := decide_eq_true (by omega)
    refine Gx.a (by kernel_rfl) fun K hK => ?_
    simp only [XA, XB, g1]
    refine hK _ ?_
    refine XWP.seq (Gx.t rfl ?_)
    refine XWP.skip ?_
    refine XWP.cutD 1 (fun s => ∃ (V4 : View) (H4 : Heap) (wo : Value) (co : List Value), StIs (fun Z => [.v (.slice (some ⟨b1, o1, none⟩) m c1), .v (.slice (some ⟨b2, o2, none⟩) m c2), Z 2,Z 3,Z 4, .p 0 0, Z 6, .v wo, Z 8,Z 9,Z 10,Z 11,Z 12,Z 13,Z 14,Z 15,Z 16,Z 17,Z 18,Z 19,Z 20,Z 21,Z 22,Z 23,Z 24,Z 25,Z 26, .v (.int .i64 (n : Int)), .v (.int .i64 (k : Int)), Z 29,Z 30,Z 31,Z 32,Z 33,Z 34,Z 35,Z 36,Z 37,Z 38,Z 39,Z 40,Z 41,Z 42,Z 43,Z 44,Z 45,Z 46,Z 47,Z 48,Z 49,Z 50,Z 51,Z 52,Z 53,Z 54,Z 55,Z 56,Z 57,Z 58,Z 59,Z 60,Z 61,Z 62,Z 63]) [[.bool ms, xs, ys]] H4 V4 s ∧ V3.le V4 ∧ Own H4 49 3 wo (k + 1) co ∧ RowAt ratE V4 co (mk (k + 1) fun k => mixQ LL W k m / Sm (cf W) m)) ?_ ?_
    · refine XWP.block ?_
      refine Gx.a (by kernel_rfl) fun K hK => ?_
      simp only [XA]
      refine hK _ ?_
      refine Gx.a (by kernel_rfl) fun K hK => ?_
      simp only [XA]
      refine call_go (by kernel_rfl) rfl (pzero_c _) fun v4 V4 hV4 k4 => ?_
      obtain ⟨x4, y4, rfl, p4, p5⟩ := k4.form
      simp only [XA, XB]
      refine st_rat rfl rfl rfl p4 p5 ?_
      simp only [XA]
      refine hK _ ?_
      refine XWP.cutD 2 (fun s => ∃ (V5 : View) (bs : Bool) (x y : Value), StIs (fun Z => [.v (.slice (some ⟨b1, o1, none⟩) m c1), .v (.slice (some ⟨b2, o2, none⟩) m c2), Z 2,Z 3,Z 4, .p 0 0, Z 6, .v wo, .v (.int .i64 (k : Int)), .p 1 0, Z 10,Z 11,Z 12,Z 13,Z 14,Z 15,Z 16,Z 17,Z 18,Z 19,Z 20,Z 21,Z 22,Z 23,Z 24,Z 25,Z 26, .v (.int .i64 (n : Int)), .v (.int .i64 (k : Int)), Z 29,Z 30,Z 31,Z 32,Z 33,Z 34,Z 35,Z 36,Z 37,Z 38,Z 39,Z 40,Z 41,Z 42,Z 43,Z 44,Z 45,Z 46,Z 47,Z 48,Z 49,Z 50,Z 51,Z 52,Z 53,Z 54,Z 55,Z 56,Z 57,Z 58,Z 59,Z 60,Z 61,Z 62,Z 63]) [[.bool ms, xs, ys], [.bool bs, x, y]] H3 V5 s ∧ V3.le V5 ∧ RatC V5 (.agg #[.bool bs, x, y]) (mixQ LL W k m) ∧ isOne x = true ∧ isOne y = true) ?_ ?_
      · refine Gx.a (by kernel_rfl) fun K hK => ?_
        simp only [XN, XA]
        refine hK _ ?_
        clear hK
        refine XWP.block ?_
        refine XWP.loopD 2 (fun p s => ∃ (i : Nat) (V5 : View) (bs : Bool) (x y : Value), StIs (fun Z => [.v (.slice (some ⟨b1, o1, none⟩) m c1), .v (.slice (some ⟨b2, o2, none⟩) m c2), Z 2,Z 3,Z 4, .p 0 0, Z 6, .v wo, .v (.int .i64 (k : Int)), .p 1 0, Z 10,Z 11,Z 12,Z 13,Z 14,Z 15,Z 16,Z 17,Z 18,Z 19,Z 20,Z 21,Z 22,Z 23,Z 24,Z 25,Z 26, .v (.int .i64 (n : Int)), .v (.int .i64 (k : Int)), Z 29,Z 30,Z 31,Z 32, .v (.int .i64 (m : Int)), .v (.int .i64 (i : Int)), Z 35,Z 36,Z 37,Z 38,Z 39,Z 40,Z 41,Z 42,Z 43,Z 44,Z 45,Z 46,Z 47,Z 48,Z 49,Z 50,Z 51,Z 52,Z 53,Z 54,Z 55,Z 56,Z 57,Z 58,Z 59,Z 60,Z 61,Z 62,Z 63]) [[.bool ms, xs, ys], [.bool bs, x, y]] H3 V5 s ∧ p + i = m ∧ V3.le V5 ∧ RatC V5 (.agg #[.bool bs, x, y]) (mixQ LL W k i) ∧ isOne x = true ∧ isOne y = true) m ⟨0, V4, _, x4, y4, StIs.of (by exact rfl), by omega, hV4, k4, p4, p5⟩ ?_
        clear k4 p4 p5
        rintro p s ⟨i, V5, bs, x, y, hst, hp, hV5, k5, p5, p6⟩
        obtain ⟨z, rfl⟩ := hst.out
        try dsimp only
        clear hst
        by_cases hi : i < m
        rotate_left
        · obtain rfl : i = m := by omega
          have g2 : decide ((i : Int) < (i : Int)) = false := decide_eq_false (by omega)
          refine Gx.a (by kernel_rfl) fun K hK => ?_
          simp only [XA, XB, g2]
          refine hK _ ?_
          refine XWP.seq (Gx.f rfl ?_)
          refine XWP.exit ?_
          exact fun f => ⟨V5, bs, x, y, StIs.of (by exact rfl), hV5, k5, p5, p6⟩
        have g2 : decide ((i : Int) < (m : Int)) = true := decide_eq_true (by omega)
        refine Gx.a (by kernel_rfl) fun K hK => ?_
        simp only [XA, XB, g2]
        refine hK _ ?_
        refine XWP.seq (Gx.t rfl ?_)
        refine XWP.skip ?_
        have hle5 := View.le_trans hV2 (View.le_trans hV3 hV5)
        have hw5 := hw.up hle5
        obtain ⟨m6, n6, d6, hx6, _, hld6⟩ := Rats.get hw5 i (by omega)
        obtain ⟨A7, c7, h7⟩ := hrow i hi
        obtain ⟨hr7, hl7⟩ := h7 V5 hle5
        have len7 := hlen i hi
        rw [← len7] at hr7 hl7
        obtain ⟨b7, o7, rfl⟩ := SlAt.addr hr7 (by omega)
        obtain ⟨m8, n8, d8, hx8, _, hld8⟩ := Rats.get hr7 k (by omega)
        rw [len7] at hl7
        have f6 := qW i hi
        have f8 := qL i k hi hk
        have f9 := qP i k hi hk
        have f5 := qM k i hk (by omega)
        refine XWP.seq ?_
        refine XWP.block ?_
        refine Gx.a (by kernel_rfl) fun K hK => ?_
        simp only [XA]
        refine hK _ ?_
        (refine XWP.drw1 [0, 1, 2, 3, 4, 5, 6, 7, 8, 9, 10, 11, 12, 13, 14] (by kernel_rfl) (by kernel_rfl) (by kernel_rfl) fun K hK => ?_) <;> dsimp only [pickOps, List.getElem?_cons_zero, List.getElem?_cons_succ]
        simp only [XA, XB, Nat.reduceAdd, Nat.reduceLeDiff, ↓reduceIte]
        refine ⟨by omega, by omega, ld_mem (hld6 _) ?_⟩
        simp only [XN, XA, XB]
        refine ⟨by omega, by omega, ?_⟩
        refine ld_mem (by simpa using hl7 _) ?_
        simp only [XA, XB]
        refine ⟨by omega, by omega, ld_mem (hld8 _) ?_⟩
        simp only [XA]
        refine call_go (by kernel_rfl) rfl (pmul_c _ _ _ _ _ (hx6.toV f6) (hx8.toV f8) f6 f8) fun v9 V9 hV9 h9 => ?_
        simp only [XA]
        refine call_go (by kernel_rfl) rfl (padd_c _ _ _ _ _ ((k5.mono hV9).toV f5) (h9.toV f9) f5 f9) fun v10 V10 hV10 h10 => ?_
        obtain ⟨x10, y10, rfl, o3, o4⟩ := h10.form
        simp only [XA]
        refine st_rat rfl rfl rfl o3 o4 ?_
        simp only [XA]
        refine hK _ ?_
        refine Gx.c (by kernel_rfl) fun K hK => ?_
        simp only [XA, XB, i64_succ i (by omega)]
        exact hK _ ⟨p - 1, by omega, fun f => ⟨i + 1, V10, _, x10, y10, StIs.of (by exact rfl), by omega, View.le_trans hV5 (View.le_trans hV9 hV10), h10, o3, o4⟩⟩
      clear k4 p4 p5
      rintro s ⟨V5, bs, x, y, hst, hV5, k5, p5, p6⟩
      obtain ⟨z, rfl⟩ := hst.out
      try dsimp only
      clear hst
      have f5 := qM k m hk (by omega)
      have fs := hs m (by omega)
      refine Gx.a (by kernel_rfl) fun K hK => ?_
      simp only [XA, XB, Nat.reduceAdd, Nat.reduceLeDiff, ↓reduceIte]
      refine call_go (by kernel_rfl) rfl (pdiv_c _ _ _ _ _ (k5.toV f5) ((ks.mono (View.le_trans hV3 hV5)).toV fs) f5 fs) fun v6 V6 hV6 h6 => ?_
      obtain ⟨w6, rfl, k6⟩ := h6.2 hs0
      obtain ⟨x6, y6, rfl, o3, o4⟩ := k6.form
      simp only [XA]
      refine st_rat rfl rfl rfl o3 o4 ?_
      simp only [XA]
      refine hK _ ?_
      refine Gx.c (by kernel_rfl) fun K hK => ?_
      simp only [XA, XB, Nat.reduceAdd, Nat.reduceLeDiff, ↓reduceIte]
      refine bs_go (by kernel_rfl) #[(0, .agg #[.bool (ng (mixQ LL W k m / Sm (cf W) m)), x6, y6])] (by simp [ev_tmp, SV.val]) (bs_rat elemT_22) fun b3 hb3 hb4 => ?_
      simp only [XA, Nat.reduceAdd]
      refine ap_go elemT_22 (by kernel_rfl) zeroT_49 rfl (by omega) (own_upd hown hb3) (src3 (upd_at _ _ _) rfl o3 o4) (by omega) (by omega) fun v' H' hres => ?_
      simp only [XA]
      have hle6 := View.le_trans hV5 hV6
      have hrow' := (hrw.mono ratE_ok hle6).snoc (show isOne (.bool (ng (mixQ LL W k m / Sm (cf W) m))) = true from rfl) o3 o4 k6
      rw [← mk_succ k (fun k => mixQ LL W k m / Sm (cf W) m)] at hrow'
      exact hK _ fun f => ⟨V6, H', v', _, StIs.of (by exact rfl), hle6, hres.1, hrow'⟩
    clear hown hrw
    rintro s ⟨V4, H4, wo, co, hst, hV4, hown, hrw⟩
    obtain ⟨z, rfl⟩ := hst.out
    try dsimp only
    refine Gx.c (by kernel_rfl) fun K hK => ?_
    simp only [XA, XB, i64_succ k (by omega)]
    exact hK _ ⟨q - 1, by omega, fun f => ⟨k + 1, V4, H4, wo, co, StIs.of (by exact rfl), by omega, View.le_trans hV3 hV4, hown, hrw⟩⟩
  rintro s ⟨V3, H3, wo, co, hst, hown, hrw⟩
  obtain ⟨z, rfl⟩ := hst.out
  try dsimp only
  clear hst
  refine XWP.pubR ratE_ok hown hrw fun H5 V5 hV5 hs5 _ => ?_
  refine Gx.a (by kernel_rfl) fun K hK => ?_
  simp only [XA]
  refine hK _ (XWP.ret ?_)
  try simp only [thenX_ret, inBlockX_ret]
  exact ret_go _ rfl hs5
end Go.Proofs.YtkgmicakfmllmaaGreat
end
section
namespace Go.Proofs.YtkgmicakfmllmaaGreat
theorem ge12 : 2 * ge 97 12 ≤ 3300000000 := by decide
theorem ge13 : ge 97 13 ≤ 17592186044416 := by decide
end Go.Proofs.YtkgmicakfmllmaaGreat
end
section
namespace Go.Proofs.YtkgmicakfmllmaaGreat
theorem cls_ne {l : List Rat} {n : Nat} (hn : 1 ≤ n) : 1 ≤ (clsL l n).length := by
  obtain ⟨j, g1, g2⟩ := comes_home_all (fun a b => eM l n a b = true) (show 0 < n by omega)
  obtain ⟨C, hC, _⟩ := cls_has g2 g1.lt.2
  exact List.length_pos_of_mem hC
theorem allL_len (l : List Rat) (n : Nat) : (allL l n).length = (clsL l n).length := List.length_map ..
theorem allL_getD {l : List Rat} {n a : Nat} (ha : a < (clsL l n).length) : (allL l n).getD a [] = lawC l n ((clsL l n).getD a []) := by
  unfold allL
  rw [List.getD_eq_getElem?_getD, List.getD_eq_getElem?_getD, List.getElem?_map, List.getElem?_eq_getElem ha]; rfl
theorem mixQ_eq (l : List Rat) (n : Nat) (W : List Rat) (k : Nat) : mixQ (allL l n) W k (clsL l n).length = mixS l n (cf W) k := by
  unfold mixQ mixS
  exact Sm_congr _ fun a ha => by rw [allL_getD ha]
theorem one_part {f : Nat → Rat} {m : Nat} (h : ∀ a b, a < m → b < m → f a ≠ 0 → f b ≠ 0 → a = b) : ∀ i, i ≤ m → Sm f i = 0 ∨ ∃ a, a < i ∧ Sm f i = f a
  | 0, _ => .inl rfl
  | i + 1, hi => by
    show Sm f i + f i = 0 ∨ ∃ a, a < i + 1 ∧ Sm f i + f i = f a
    by_cases e : f i = 0
    · rw [e, Rat.add_zero]
      rcases one_part h i (by omega) with g | ⟨a, ha, g⟩
      · exact .inl g
      · exact .inr ⟨a, by omega, g⟩
    · refine .inr ⟨i, by omega, ?_⟩
      rw [Sm_zero i fun a ha => ?_, Rat.zero_add]
      by_cases g : f a = 0
      · exact g
      · have := h a i (by omega) (by omega) g e
        omega
theorem mix_QB {l : List Rat} {n B C : Nat} {W : List Rat} (hS : StoG (gridL l n) n) (ok : ∀ C ∈ clsL l n, LawOk l n B C) (hq : ∀ a k, a < (clsL l n).length → k < n → QB C (cf W a * cf (lawC l n ((clsL l n).getD a [])) k)) {k i : Nat} (hk : k < n) (hi : i ≤ (clsL l n).length) : QB C (mixQ (allL l n) W k i) := by
  have e : mixQ (allL l n) W k i = Sm (fun a => cf W a * cf (lawC l n ((clsL l n).getD a [])) k) i := Sm_congr i fun a ha => by rw [allL_getD (by omega)]
  rw [e]
  have huq : ∀ a b, a < (clsL l n).length → b < (clsL l n).length → cf W a * cf (lawC l n ((clsL l n).getD a [])) k ≠ 0 → cf W b * cf (lawC l n ((clsL l n).getD b [])) k ≠ 0 → a = b := fun a b ha hb h1 h2 => by
    have pa := lawP_of hS (cls_getD ha) (ok _ (cls_getD ha))
    have pb := lawP_of hS (cls_getD hb) (ok _ (cls_getD hb))
    have ka : k ∈ (clsL l n).getD a [] := by
      by_cases g : k ∈ (clsL l n).getD a []
      · exact g
      · exact absurd (by rw [pa.off k hk g, Rat.mul_zero]) h1
    have kb : k ∈ (clsL l n).getD b [] := by
      by_cases g : k ∈ (clsL l n).getD b []
      · exact g
      · exact absurd (by rw [pb.off k hk g, Rat.mul_zero]) h2
    exact cls_one ha hb ka kb
  rcases one_part huq i hi with g | ⟨a, ha, g⟩
  · rw [g]; exact QB_zero _
  · rw [g]; exact hq a k (by omega) hk
theorem Sm_quot (f : Nat → Rat) (d : Rat) (n : Nat) : Sm (fun k => f k / d) n = Sm f n / d := by
  rw [Sm_congr n (g := fun k => d⁻¹ * f k) fun k _ => by rw [Rat.div_def, Rat.mul_comm], Sm_mul, Rat.div_def, Rat.mul_comm]
/-- a mixture is a law that stays -/
structure MixP (l p : List Rat) (n : Nat) : Prop where
  len : p.length = n
  nn : ∀ k, k < n → 0 ≤ cf p k
  one : Sm (cf p) n = 1
  stay : ∀ k, k < n → stepF (cf p) (gridL l n) n k = cf p k
theorem mixP_of {l : List Rat} {n B : Nat} {W : List Rat} (hS : StoG (gridL l n) n) (ok : ∀ C ∈ clsL l n, LawOk l n B C) (hw : ∀ a, a < (clsL l n).length → 0 ≤ cf W a) (h0 : 0 < Sm (cf W) (clsL l n).length) : MixP l (mk n fun k => mixQ (allL l n) W k (clsL l n).length / Sm (cf W) (clsL l n).length) n := by
  obtain ⟨d, hd⟩ : ∃ d, d = Sm (cf W) (clsL l n).length := ⟨_, rfl⟩
  rw [← hd] at h0 ⊢
  have hcf : ∀ k, k < n → cf (mk n fun k => mixQ (allL l n) W k (clsL l n).length / d) k = mixS l n (cf W) k / d := fun k hk => by rw [cf_mk, if_pos hk, mixQ_eq]
  have hnz : d ≠ 0 := by grind
  refine ⟨mk_len _ _, fun k hk => ?_, ?_, fun k hk => ?_⟩
  · rw [hcf k hk, Rat.div_def]
    refine Rat.mul_nonneg (Sm_nonneg _ fun a ha => Rat.mul_nonneg (hw a ha) ((lawP_of hS (cls_getD ha) (ok _ (cls_getD ha))).nn k hk)) ?_
    exact Rat.le_of_lt (Rat.inv_pos.2 h0)
  · rw [Sm_congr n (g := fun k => mixS l n (cf W) k / d) hcf, Sm_quot, mix_sum hS ok, ← hd, Rat.div_def, Rat.mul_inv_cancel _ hnz]
  · have e : stepF (cf (mk n fun k => mixQ (allL l n) W k (clsL l n).length / d)) (gridL l n) n k = stepF (mixS l n (cf W)) (gridL l n) n k / d := by
      unfold stepF
      rw [← Sm_quot]
      exact Sm_congr n fun i hi => by rw [hcf i hi, Rat.div_def, Rat.div_def]; grind
    rw [e, mix_stay hS ok _ hk, hcf k hk]
theorem staysB_of {L M : List Raw} {n : Nat} (e : fitE L n n M = 0) (lL : L.length = n) (hst : ∀ k, k < n → stepF (cf (qs L)) (gridL (qs M) n) n k = cf (qs L) k) : staysB L n n M = true := by
  have lq : (qs L).length = n := by rw [qs_len, lL]
  unfold staysB
  rw [decide_eq_true e, Bool.true_and, decide_eq_true_eq, lL]
  refine List.ext_getElem (by rw [stepL_len, lq]) fun i h1 h2 => ?_
  rw [cf_get h1, cf_get h2, stepL_at (by omega)]
  exact hst i (by omega)
theorem staysB_stay {L M : List Raw} {n : Nat} (lL : L.length = n) (h : staysB L n n M = true) : ∀ k, k < n → stepF (cf (qs L)) (gridL (qs M) n) n k = cf (qs L) k := fun k hk => by
  unfold staysB at h
  rw [Bool.and_eq_true, decide_eq_true_eq, decide_eq_true_eq, lL] at h
  rw [← stepL_at hk, h.2]
/-- the masses of a law that stays -/
noncomputable def massW (l : List Rat) (n : Nat) (f : Nat → Rat) : List Rat := mk (clsL l n).length fun a => massL f ((clsL l n).getD a [])
theorem mass_mix {l : List Rat} {n B : Nat} {f : Nat → Rat} (hS : StoG (gridL l n) n) (ok : ∀ C ∈ clsL l n, LawOk l n B C) (hf : ∀ i, i < n → 0 ≤ f i) (hs : ∀ k, k < n → stepF f (gridL l n) n k = f k) (h1 : Sm f n = 1) :
    Sm (cf (massW l n f)) (clsL l n).length = 1 ∧ ∀ k, k < n → mixQ (allL l n) (massW l n f) k (clsL l n).length = f k := by
  have hcf : ∀ a, a < (clsL l n).length → cf (massW l n f) a = massL f ((clsL l n).getD a []) := fun a ha => by unfold massW; rw [cf_mk, if_pos ha]
  have e : ∀ k, mixS l n (cf (massW l n f)) k = mixS l n (fun a => massL f ((clsL l n).getD a [])) k := fun k => Sm_congr _ fun a ha => by rw [hcf a ha]
  have e2 := stay_mix hS ok hf hs
  refine ⟨?_, fun k hk => by rw [mixQ_eq, e, e2 k hk]⟩
  rw [← mix_sum hS ok, ← h1]
  exact Sm_congr n fun k hk => by rw [e, e2 k hk]
def cntP (p : List Rat) (j : Nat) : Nat := ((List.range j).filter fun k => decide (cf p k ≠ 0)).length
theorem cntP_succ (p : List Rat) (j : Nat) : cntP p (j + 1) = cntP p j + if cf p j = 0 then 0 else 1 := by
  unfold cntP
  rw [List.range_succ, List.filter_append, List.length_append]
  congr 1
  by_cases h : cf p j = 0 <;> simp [h]
theorem cntP_le (p : List Rat) (j : Nat) : cntP p j ≤ j := by
  unfold cntP
  have := List.length_filter_le (fun k => decide (cf p k ≠ 0)) (List.range j)
  rwa [List.length_range] at this
theorem cntP_law {l : List Rat} {n B : Nat} (hS : StoG (gridL l n) n) {C : List Nat} (hC : C ∈ clsL l n) (ok : LawOk l n B C) : cntP (lawC l n C) n = C.length := by
  have hp := lawP_of hS hC ok
  obtain ⟨i0, hi0, hCe, _⟩ := shutL_mem hC
  have mem : ∀ i, i ∈ C ↔ i < n ∧ wR (eM l n) n i0 i = true := fun i => by rw [hCe, List.mem_filter, List.mem_range]
  unfold cntP
  have e : (List.range n).filter (fun k => decide (cf (lawC l n C) k ≠ 0)) = C := by
    refine Eq.trans (List.filter_congr fun k hk => ?_) hCe.symm
    have hk := List.mem_range.1 hk
    rw [Bool.eq_iff_iff, decide_eq_true_eq]
    constructor
    · intro h
      by_cases g : k ∈ C
      · exact ((mem k).1 g).2
      · exact absurd (hp.off k hk g) h
    · intro h
      have := hp.pos k ((mem k).2 ⟨hk, h⟩)
      grind
  rw [e]
end Go.Proofs.YtkgmicakfmllmaaGreat
end
section
namespace Go.Proofs.YtkgmicakfmllmaaGreat
open Go Go.RowKit
set_option linter.unusedSimpArgs false
set_option linter.unusedVariables false
attribute [local irreducible] XWP Spec SpecO XPub XCall seqX clX apX stX ldX iaX slX
theorem and7 (a : Int) : ∃ x : Nat, x ≤ 7 ∧ andI .i64 a 7 = x := by
  have h : (BitVec.ofInt IntKind.i64.bits a &&& BitVec.ofInt IntKind.i64.bits 7).toNat ≤ 7 := by
    rw [BitVec.toNat_and]; exact Nat.le_trans Nat.and_le_right (by decide)
  refine ⟨_, h, ?_⟩
  unfold andI
  exact wrap_id (by omega) (by omega)
/-- the weights: small numbers, the first at least 1 -/
def SmallW (W : List Rat) : Prop := ∀ a, a < W.length → ∃ x : Nat, x ≤ 8 ∧ cf W a = (x : Rat) ∧ (a = 0 → 1 ≤ x)
theorem SmallW.snoc {W : List Rat} {x : Nat} (h : SmallW W) (hx : x ≤ 8) (h0 : W.length = 0 → 1 ≤ x) : SmallW (W ++ [(x : Rat)]) := fun a ha => by
  rw [List.length_append, List.length_singleton] at ha
  by_cases e : a < W.length
  · obtain ⟨y, h1, h2, h3⟩ := h a e
    refine ⟨y, h1, ?_, h3⟩
    rw [← h2]
    unfold cf
    rw [List.getD_eq_getElem?_getD, List.getD_eq_getElem?_getD, List.getElem?_append_left e]
  · obtain rfl : a = W.length := by omega
    refine ⟨x, hx, ?_, h0⟩
    unfold cf
    rw [List.getD_eq_getElem?_getD, List.getElem?_append_right (Nat.le_refl _), Nat.sub_self]; rfl
theorem SmallW.mem {W : List Rat} (h : SmallW W) : ∀ x ∈ W, QB 4 x := fun x hx => by
  obtain ⟨i, hi, rfl⟩ := List.mem_iff_getElem.1 hx
  obtain ⟨y, h1, h2, _⟩ := h i hi
  rw [cf_get hi, h2]
  exact small_QB h1
theorem SmallW.nn {W : List Rat} (h : SmallW W) : ∀ a, a < W.length → 0 ≤ cf W a := fun a ha => by
  obtain ⟨y, h1, h2, _⟩ := h a ha
  rw [h2]; exact Rat.natCast_nonneg
theorem SmallW.pos {W : List Rat} (h : SmallW W) (h1 : 1 ≤ W.length) : 0 < Sm (cf W) W.length := by
  have h2 := Sm_part (f := cf W) W.length h.nn (show 0 < W.length by omega)
  obtain ⟨y, g1, g2, g3⟩ := h 0 (by omega)
  rw [g2] at h2
  have h3 : (0 : Rat) < (y : Rat) := Rat.natCast_pos.2 (g3 rfl)
  grind
set_option maxRecDepth 100000 in
set_option maxHeartbeats 8000000 in
theorem mixes34_c (V : View) (s sl so : Value) (r c : Int) (M L : List Raw) (O : List Int) (hs : Raws V s M) (hl : Raws V sl L) (ho : Sl1 intE V so O) : Spec Tryz.prog 4 [.agg #[.int .i64 r, .int .i64 c, s], sl, so] V fun v' V' => v' = .bool true := by
  obtain ⟨A1, c1, rfl, _, _⟩ := hs.form
  obtain ⟨A2, c2, rfl, _, _⟩ := hl.form
  obtain ⟨A3, c3, rfl, _, hO⟩ := ho.form
  refine (Spec.enter Tryz.func4 rfl fun Γ => ?_)
  simp only [Tryz.ntmps4, List.map_cons, List.map_nil, List.length_cons, List.length_nil, Nat.reduceAdd, Nat.reduceSub, List.replicate_succ, List.replicate_zero, List.cons_append, List.nil_append]
  refine Gx.a (by kernel_rfl) fun K hK => ?_
  simp only [XA]
  refine hK _ ?_
  refine XWP.seq ?_
  refine Gx.a (by kernel_rfl) fun K hK => ?_
  simp only [XM, XA, Nat.reduceAdd, Nat.reduceLeDiff, ↓reduceIte]
  refine call_go (by kernel_rfl) rfl (fine34_c _ _ r c M hs) fun v1 V1 hV1 k1 => ?_
  subst k1
  cases e1 : fineB r c M
  · simp only [XA, gateX, ↓reduceIte]
    refine hK _ ?_
    refine Gx.t rfl ?_
    refine Gx.a (by kernel_rfl) fun K hK => ?_
    simp only [XA]
    refine hK _ (XWP.ret ?_)
    try simp only [thenX_ret, inBlockX_ret]
    refine ret_go _ rfl ?_
    rfl
  obtain ⟨f1, f2, f3, f4⟩ := fineB_few e1
  have fM := f4.fit
  have qM := fewR_QB f4 (Raws.dig hs)
  by_cases e2 : (6 : Int) < r
  · have g1 : decide ((6 : Int) < r) = true := decide_eq_true e2
    simp only [XM, XA, XB, gateX, ↓reduceIte, beq_self_eq_true, g1]
    refine hK _ ?_
    refine Gx.t rfl ?_
    refine Gx.a (by kernel_rfl) fun K hK => ?_
    simp only [XA]
    refine hK _ (XWP.ret ?_)
    try simp only [thenX_ret, inBlockX_ret]
    refine ret_go _ rfl ?_
    rfl
  have g1 : decide ((6 : Int) < r) = false := decide_eq_false e2
  simp only [XM, XA, XB, gateX, ↓reduceIte, beq_self_eq_true, g1]
  refine call_go (by kernel_rfl) rfl (few34_c _ _ L (hl.up hV1)) fun v2 V2 hV2 k2 => ?_
  subst k2
  cases e3 : fewB L
  · simp only [XA, gateX, ↓reduceIte, beq_self_eq_true]
    refine hK _ ?_
    refine Gx.t rfl ?_
    refine Gx.a (by kernel_rfl) fun K hK => ?_
    simp only [XA]
    refine hK _ (XWP.ret ?_)
    try simp only [thenX_ret, inBlockX_ret]
    refine ret_go _ rfl ?_
    rfl
  by_cases e4 : (100 : Int) < (O.length : Int)
  · have g2 : decide ((100 : Int) < (O.length : Int)) = true := decide_eq_true e4
    simp only [XN, XA, XB, gateX, ↓reduceIte, beq_self_eq_true, g2]
    refine hK _ ?_
    refine Gx.t rfl ?_
    refine Gx.a (by kernel_rfl) fun K hK => ?_
    simp only [XA]
    refine hK _ (XWP.ret ?_)
    try simp only [thenX_ret, inBlockX_ret]
    refine ret_go _ rfl ?_
    rfl
  have g2 : decide ((100 : Int) < (O.length : Int)) = false := decide_eq_false e4
  simp only [XM, XN, XA, XB, gateX, Nat.reduceAdd, Nat.reduceLeDiff, ↓reduceIte, beq_self_eq_true, g2]
  refine call_go (by kernel_rfl) rfl (of34_c _ _ _ _ rfl rfl rfl) fun v3 V3 hV3 k3 => ?_
  subst k3
  have hle3 := View.le_trans hV1 (View.le_trans hV2 hV3)
  have hs := hs.up hle3
  simp only [XA, gateX, ↓reduceIte, beq_self_eq_true]
  refine call_go (by kernel_rfl) rfl (dsto_c _ _ r c M 96 hs fM (by omega) qM (by omega)) fun v4 V4 hV4 k4 => ?_
  subst k4
  cases e5 : stoB r c M
  · simp only [XA, gateX, ↓reduceIte, beq_self_eq_true]
    refine hK _ ?_
    refine Gx.t rfl ?_
    refine Gx.a (by kernel_rfl) fun K hK => ?_
    simp only [XA]
    refine hK _ (XWP.ret ?_)
    try simp only [thenX_ret, inBlockX_ret]
    refine ret_go _ rfl ?_
    rfl
  by_cases e6 : r < 1
  · have g3 : decide (r < 1) = true := decide_eq_true e6
    simp only [XM, XA, XB, gateX, ↓reduceIte, beq_self_eq_true, g3]
    refine hK _ ?_
    refine Gx.t rfl ?_
    refine Gx.a (by kernel_rfl) fun K hK => ?_
    simp only [XA]
    refine hK _ (XWP.ret ?_)
    try simp only [thenX_ret, inBlockX_ret]
    refine ret_go _ rfl ?_
    rfl
  have g3 : decide (r < 1) = false := decide_eq_false e6
  simp only [XM, XA, XB, gateX, ↓reduceIte, beq_self_eq_true, g3]
  refine hK _ ?_
  refine Gx.f rfl ?_
  refine XWP.skip ?_
  have hs := hs.up hV4
  have hl := hl.up (View.le_trans hle3 hV4)
  have ho := ho.mono intE_ok (View.le_trans hle3 hV4)
  obtain ⟨n, rfl, rfl, hn, lM, okM, hS⟩ := stoB_parts e5
  have hg : ge (96 + 1) (2 * n + 1) ≤ 17592186044416 := Nat.le_trans (ge_mono 97 (show 2 * n + 1 ≤ 13 by omega)) ge13
  refine Gx.a (by kernel_rfl) fun K hK => ?_
  simp only [XM, XA, Nat.reduceAdd, Nat.reduceLeDiff, ↓reduceIte]
  refine call_go (by kernel_rfl) rfl (bClasses_c _ _ n n M 96 hs fM (by omega) (fun _ => qM) (by omega)) fun v5 V5 hV5 k5 => ?_
  obtain ⟨w7, rfl, h7⟩ := k5.2 e5
  rw [Int.toNat_natCast] at h7
  have lle : (clsL (qs M) n).length ≤ n := clsL_len _ _
  have lge : 1 ≤ (clsL (qs M) n).length := cls_ne (by omega)
  obtain ⟨A7, c7, rfl, _, hc7⟩ := h7.form
  obtain ⟨b7, o7, rfl⟩ := h7.addr (by omega)
  simp only [XA]
  refine hK _ ?_
  refine Gx.a (by kernel_rfl) fun K hK => ?_
  simp only [XM, XA, Nat.reduceAdd, Nat.reduceLeDiff, ↓reduceIte]
  refine call_go (by kernel_rfl) rfl (ball_c _ _ n n M 96 (hs.up hV5) fM (by omega) (fun _ => qM) (by omega) (fun _ => hg)) fun v6 V6 hV6 k6 => ?_
  obtain ⟨w9, rfl, hok, h9⟩ := k6.2 e5
  rw [Int.toNat_natCast] at hok h9
  have lall := allL_len (qs M) n
  obtain ⟨A9, c9, rfl, _, hc9⟩ := h9.form
  obtain ⟨b9, o9, rfl⟩ := h9.addr (by omega)
  rw [lall]
  simp only [XA]
  refine hK _ ?_
  have hs := hs.up (View.le_trans hV5 hV6)
  have hl := hl.up (View.le_trans hV5 hV6)
  have ho := ho.mono intE_ok (View.le_trans hV5 hV6)
  have h7 := h7.mono (Sl1_ok natE_ok) hV6
  -- plain facts
  obtain ⟨m, hm⟩ : ∃ m, m = (clsL (qs M) n).length := ⟨_, rfl⟩
  have hle12 : ∀ C ∈ clsL (qs M) n, 2 * ge (96 + 1) (2 * C.length) ≤ 3300000000 := fun C hC => Nat.le_trans (Nat.mul_le_mul_left 2 (ge_mono 97 (show 2 * C.length ≤ 12 by have := (cls_irr hS hC).le; omega))) ge12
  have ql : ∀ C ∈ clsL (qs M) n, ∀ k, k < n → QB 3300000000 (cf (lawC (qs M) n C) k) := fun C hC k hk => by
    have : ∀ x ∈ lawC (qs M) n C, QB 3300000000 x := scat_mem (QB_zero _) _ fun j hj => ((hok C hC).qb j hj).mono (hle12 C hC)
    exact this _ (cf_mem (by rw [show (lawC (qs M) n C).length = n from scat_len _ _ _ _]; exact hk))
  have gq : ∀ a k, a < m → k < n → QB 3300000000 (cf ((allL (qs M) n).getD a []) k) := fun a k ha hk => by rw [allL_getD (by omega)]; exact ql _ (cls_getD (by omega)) k hk
  have glen : ∀ a, a < m → ((allL (qs M) n).getD a []).length = n := fun a ha => by rw [allL_getD (by omega)]; exact scat_len _ _ _ _
  have gmix : ∀ (W : List Rat) B, (∀ a, a < m → QB B (cf W a)) → ∀ k i, k < n → i ≤ m → QB (B + 3300000000) (mixQ (allL (qs M) n) W k i) := fun W B hW k i hk hi => mix_QB hS hok (fun a k ha hk => (hW a (by omega)).mul (ql _ (cls_getD ha) k hk)) hk (by omega)
  rw [← hm] at h7 lle lge lall ⊢
  rw [lall] at h9
  have b00 : decide ((m : Int) = (m : Int)) = true := decide_eq_true rfl
  have b01 : decide ((m : Int) = 0) = false := decide_eq_false (by omega)
  clear k5 k6
  refine XWP.seq ?_
  refine Gx.a (by kernel_rfl) fun K hK => ?_
  simp only [XN, XA, XB, gateX, ↓reduceIte, beq_self_eq_true, b01, decide_true]
  refine hK _ ?_
  refine Gx.f rfl ?_
  refine XWP.skip ?_
  refine Gx.a (by kernel_rfl) fun K hK => ?_
  simp only [XA]
  refine hK _ ?_
  -- the weights
  refine XWP.cutD 1 (fun s => ∃ (V8 : View) (H8 : Heap) (wo : Value) (co : List Value) (W : List Rat), StIs (fun Z => [Z 0, .v (.slice A2 L.length c2), Z 2, .p 0 0, Z 4,Z 5,Z 6, .v (.slice (some ⟨b7, o7, none⟩) m c7), Z 8, .v (.slice (some ⟨b9, o9, none⟩) m c9), Z 10, .v wo, Z 12,Z 13,Z 14,Z 15,Z 16,Z 17,Z 18,Z 19,Z 20,Z 21,Z 22,Z 23,Z 24,Z 25,Z 26,Z 27,Z 28,Z 29,Z 30,Z 31,Z 32,Z 33,Z 34,Z 35,Z 36,Z 37,Z 38,Z 39,Z 40,Z 41,Z 42,Z 43,Z 44,Z 45,Z 46,Z 47,Z 48,Z 49,Z 50,Z 51,Z 52,Z 53,Z 54,Z 55,Z 56,Z 57,Z 58,Z 59,Z 60,Z 61,Z 62,Z 63,Z 64,Z 65,Z 66,Z 67,Z 68,Z 69,Z 70,Z 71,Z 72,Z 73,Z 74,Z 75,Z 76,Z 77,Z 78,Z 79,Z 80,Z 81,Z 82,Z 83,Z 84,Z 85,Z 86,Z 87,Z 88,Z 89,Z 90,Z 91,Z 92,Z 93,Z 94,Z 95,Z 96,Z 97,Z 98,Z 99,Z 100,Z 101,Z 102,Z 103,Z 104,Z 105,Z 106,Z 107,Z 108,Z 109,Z 110,Z 111,Z 112,Z 113,Z 114,Z 115,Z 116,Z 117,Z 118,Z 119,Z 120,Z 121,Z 122,Z 123,Z 124,Z 125,Z 126,Z 127,Z 128,Z 129,Z 130,Z 131,Z 132,Z 133,Z 134,Z 135,Z 136,Z 137,Z 138,Z 139,Z 140,Z 141,Z 142,Z 143,Z 144,Z 145,Z 146,Z 147,Z 148,Z 149,Z 150,Z 151,Z 152,Z 153,Z 154,Z 155,Z 156,Z 157,Z 158,Z 159,Z 160,Z 161,Z 162,Z 163,Z 164,Z 165,Z 166,Z 167,Z 168,Z 169,Z 170,Z 171,Z 172,Z 173,Z 174,Z 175,Z 176,Z 177,Z 178,Z 179,Z 180,Z 181,Z 182,Z 183,Z 184,Z 185,Z 186,Z 187,Z 188,Z 189,Z 190,Z 191,Z 192,Z 193,Z 194,Z 195,Z 196,Z 197,Z 198,Z 199,Z 200,Z 201,Z 202,Z 203,Z 204,Z 205]) [[.int .i64 (n : Int), .int .i64 (n : Int), .slice A1 M.length c1]] H8 V8 s ∧ V6.le V8 ∧ Own H8 49 3 wo m co ∧ RowAt ratE V8 co W ∧ W.length = m ∧ SmallW W) ?_ ?_
  · refine Gx.a (by kernel_rfl) fun K hK => ?_
    simp only [XN, XA]
    refine hK _ ?_
    clear hK
    refine XWP.block ?_
    refine XWP.loopD 1 (fun q s => ∃ (i : Nat) (V8 : View) (H8 : Heap) (wo : Value) (co : List Value) (W : List Rat), StIs (fun Z => [Z 0, .v (.slice A2 L.length c2), .v (.slice A3 O.length c3), .p 0 0, Z 4,Z 5,Z 6, .v (.slice (some ⟨b7, o7, none⟩) m c7), Z 8, .v (.slice (some ⟨b9, o9, none⟩) m c9), Z 10, .v wo, Z 12,Z 13,Z 14,Z 15,Z 16,Z 17,Z 18,Z 19,Z 20,Z 21,Z 22,Z 23,Z 24,Z 25,Z 26,Z 27,Z 28,Z 29,Z 30,Z 31,Z 32,Z 33,Z 34,Z 35,Z 36,Z 37,Z 38,Z 39,Z 40,Z 41,Z 42,Z 43,Z 44,Z 45,Z 46,Z 47,Z 48,Z 49,Z 50,Z 51,Z 52,Z 53,Z 54,Z 55,Z 56,Z 57,Z 58,Z 59,Z 60,Z 61,Z 62,Z 63,Z 64,Z 65,Z 66,Z 67,Z 68,Z 69,Z 70,Z 71,Z 72,Z 73,Z 74,Z 75,Z 76,Z 77,Z 78,Z 79,Z 80,Z 81,Z 82,Z 83,Z 84,Z 85, .v (.int .i64 (m : Int)), .v (.int .i64 (i : Int)), Z 88,Z 89,Z 90,Z 91,Z 92,Z 93,Z 94,Z 95,Z 96,Z 97,Z 98,Z 99,Z 100,Z 101,Z 102,Z 103,Z 104,Z 105,Z 106,Z 107,Z 108,Z 109,Z 110,Z 111,Z 112,Z 113,Z 114,Z 115,Z 116,Z 117,Z 118,Z 119,Z 120,Z 121,Z 122,Z 123,Z 124,Z 125,Z 126,Z 127,Z 128,Z 129,Z 130,Z 131,Z 132,Z 133,Z 134,Z 135,Z 136,Z 137,Z 138,Z 139,Z 140,Z 141,Z 142,Z 143,Z 144,Z 145,Z 146,Z 147,Z 148,Z 149,Z 150,Z 151,Z 152,Z 153,Z 154,Z 155,Z 156,Z 157,Z 158,Z 159,Z 160,Z 161,Z 162,Z 163,Z 164,Z 165,Z 166,Z 167,Z 168,Z 169,Z 170,Z 171,Z 172,Z 173,Z 174,Z 175,Z 176,Z 177,Z 178,Z 179,Z 180,Z 181,Z 182,Z 183,Z 184,Z 185,Z 186,Z 187,Z 188,Z 189,Z 190,Z 191,Z 192,Z 193,Z 194,Z 195,Z 196,Z 197,Z 198,Z 199,Z 200,Z 201,Z 202,Z 203,Z 204,Z 205]) [[.int .i64 (n : Int), .int .i64 (n : Int), .slice A1 M.length c1]] H8 V8 s ∧ q + i = m ∧ V6.le V8 ∧ Own H8 49 3 wo i co ∧ RowAt ratE V8 co W ∧ W.length = i ∧ SmallW W) m ⟨0, V6, _, _, [], [], StIs.of (by exact rfl), by omega, View.le_refl _, own_nil, RowAt.nil _, rfl, fun a ha => by cases ha⟩ ?_
    rintro q s ⟨i, V8, H8, wo, co, W, hst, hq, hV8, hown, hrow, lW, hW⟩
    obtain ⟨z, rfl⟩ := hst.out
    try dsimp only
    clear hst
    by_cases hi : i < m
    rotate_left
    · obtain rfl : i = m := by omega
      have b1 : decide ((i : Int) < (i : Int)) = false := decide_eq_false (by omega)
      refine Gx.a (by kernel_rfl) fun K hK => ?_
      simp only [XA, XB, b1]
      refine hK _ ?_
      refine XWP.seq (Gx.f rfl ?_)
      refine XWP.exit ?_
      exact fun f => ⟨V8, H8, wo, co, W, StIs.of (by exact rfl), hV8, hown, hrow, lW, hW⟩
    have b1 : decide ((i : Int) < (m : Int)) = true := decide_eq_true (by omega)
    refine Gx.a (by kernel_rfl) fun K hK => ?_
    simp only [XA, XB, b1]
    refine hK _ ?_
    refine XWP.seq (Gx.t rfl ?_)
    refine XWP.skip ?_
    refine XWP.cutD 1 (fun s => ∃ (V9 : View) (H9 : Heap) (wo : Value) (co : List Value) (W : List Rat), StIs (fun Z => [Z 0, .v (.slice A2 L.length c2), .v (.slice A3 O.length c3), .p 0 0, Z 4,Z 5,Z 6, .v (.slice (some ⟨b7, o7, none⟩) m c7), Z 8, .v (.slice (some ⟨b9, o9, none⟩) m c9), Z 10, .v wo, Z 12,Z 13,Z 14,Z 15,Z 16,Z 17,Z 18,Z 19,Z 20,Z 21,Z 22,Z 23,Z 24,Z 25,Z 26,Z 27,Z 28,Z 29,Z 30,Z 31,Z 32,Z 33,Z 34,Z 35,Z 36,Z 37,Z 38,Z 39,Z 40,Z 41,Z 42,Z 43,Z 44,Z 45,Z 46,Z 47,Z 48,Z 49,Z 50,Z 51,Z 52,Z 53,Z 54,Z 55,Z 56,Z 57,Z 58,Z 59,Z 60,Z 61,Z 62,Z 63,Z 64,Z 65,Z 66,Z 67,Z 68,Z 69,Z 70,Z 71,Z 72,Z 73,Z 74,Z 75,Z 76,Z 77,Z 78,Z 79,Z 80,Z 81,Z 82,Z 83,Z 84,Z 85, .v (.int .i64 (m : Int)), .v (.int .i64 (i : Int)), Z 88,Z 89,Z 90,Z 91,Z 92,Z 93,Z 94,Z 95,Z 96,Z 97,Z 98,Z 99,Z 100,Z 101,Z 102,Z 103,Z 104,Z 105,Z 106,Z 107,Z 108,Z 109,Z 110,Z 111,Z 112,Z 113,Z 114,Z 115,Z 116,Z 117,Z 118,Z 119,Z 120,Z 121,Z 122,Z 123,Z 124,Z 125,Z 126,Z 127,Z 128,Z 129,Z 130,Z 131,Z 132,Z 133,Z 134,Z 135,Z 136,Z 137,Z 138,Z 139,Z 140,Z 141,Z 142,Z 143,Z 144,Z 145,Z 146,Z 147,Z 148,Z 149,Z 150,Z 151,Z 152,Z 153,Z 154,Z 155,Z 156,Z 157,Z 158,Z 159,Z 160,Z 161,Z 162,Z 163,Z 164,Z 165,Z 166,Z 167,Z 168,Z 169,Z 170,Z 171,Z 172,Z 173,Z 174,Z 175,Z 176,Z 177,Z 178,Z 179,Z 180,Z 181,Z 182,Z 183,Z 184,Z 185,Z 186,Z 187,Z 188,Z 189,Z 190,Z 191,Z 192,Z 193,Z 194,Z 195,Z 196,Z 197,Z 198,Z 199,Z 200,Z 201,Z 202,Z 203,Z 204,Z 205]) [[.int .i64 (n : Int), .int .i64 (n : Int), .slice A1 M.length c1]] H9 V9 s ∧ V8.le V9 ∧ Own H9 49 3 wo (i + 1) co ∧ RowAt ratE V9 co W ∧ W.length = i + 1 ∧ SmallW W) ?_ ?_
    · refine XWP.block ?_
      refine Gx.a (by kernel_rfl) fun K hK => ?_
      simp only [XA]
      refine hK _ ?_
      refine Gx.a (by kernel_rfl) fun K hK => ?_
      simp only [XA]
      refine hK _ ?_
      refine XWP.cut (fun s => ∃ x : Nat, StIs (fun Z => [Z 0, .v (.slice A2 L.length c2), .v (.slice A3 O.length c3), .p 0 0, Z 4,Z 5,Z 6, .v (.slice (some ⟨b7, o7, none⟩) m c7), Z 8, .v (.slice (some ⟨b9, o9, none⟩) m c9), Z 10, .v wo, .v (.int .i64 (i : Int)), .v (.int .i64 (x : Int)), Z 14,Z 15,Z 16,Z 17,Z 18,Z 19,Z 20,Z 21,Z 22,Z 23,Z 24,Z 25,Z 26,Z 27,Z 28,Z 29,Z 30,Z 31,Z 32,Z 33,Z 34,Z 35,Z 36,Z 37,Z 38,Z 39,Z 40,Z 41,Z 42,Z 43,Z 44,Z 45,Z 46,Z 47,Z 48,Z 49,Z 50,Z 51,Z 52,Z 53,Z 54,Z 55,Z 56,Z 57,Z 58,Z 59,Z 60,Z 61,Z 62,Z 63,Z 64,Z 65,Z 66,Z 67,Z 68,Z 69,Z 70,Z 71,Z 72,Z 73,Z 74,Z 75,Z 76,Z 77,Z 78,Z 79,Z 80,Z 81,Z 82,Z 83,Z 84,Z 85, .v (.int .i64 (m : Int)), .v (.int .i64 (i : Int)), Z 88,Z 89,Z 90,Z 91,Z 92,Z 93,Z 94,Z 95,Z 96,Z 97,Z 98,Z 99,Z 100,Z 101,Z 102,Z 103,Z 104,Z 105,Z 106,Z 107,Z 108,Z 109,Z 110,Z 111,Z 112,Z 113,Z 114,Z 115,Z 116,Z 117,Z 118,Z 119,Z 120,Z 121,Z 122,Z 123,Z 124,Z 125,Z 126,Z 127,Z 128,Z 129,Z 130,Z 131,Z 132,Z 133,Z 134,Z 135,Z 136,Z 137,Z 138,Z 139,Z 140,Z 141,Z 142,Z 143,Z 144,Z 145,Z 146,Z 147,Z 148,Z 149,Z 150,Z 151,Z 152,Z 153,Z 154,Z 155,Z 156,Z 157,Z 158,Z 159,Z 160,Z 161,Z 162,Z 163,Z 164,Z 165,Z 166,Z 167,Z 168,Z 169,Z 170,Z 171,Z 172,Z 173,Z 174,Z 175,Z 176,Z 177,Z 178,Z 179,Z 180,Z 181,Z 182,Z 183,Z 184,Z 185,Z 186,Z 187,Z 188,Z 189,Z 190,Z 191,Z 192,Z 193,Z 194,Z 195,Z 196,Z 197,Z 198,Z 199,Z 200,Z 201,Z 202,Z 203,Z 204,Z 205]) [[.int .i64 (n : Int), .int .i64 (n : Int), .slice A1 M.length c1]] H8 V8 s ∧ x ≤ 7) ?_ ?_
      · by_cases hiO : i < O.length
        · have b2 : decide ((i : Int) < (O.length : Int)) = true := decide_eq_true (by omega)
          obtain ⟨b3, o3, rfl⟩ := ho.addr (by omega)
          obtain ⟨u, _, gu⟩ := sl1_at intE_ok ho hiO
          obtain ⟨gu1, gu2⟩ := gu V8 hV8
          obtain ⟨x, hx, ex⟩ := and7 O[i]
          cases gu1
          refine Gx.a (by kernel_rfl) fun K hK => ?_
          simp only [XN, XA, XB, b2]
          refine hK _ ?_
          refine Gx.t rfl ?_
          refine Gx.c (by kernel_rfl) fun K hK => ?_
          simp only [XN, XA, XB]
          refine ⟨by omega, by omega, ?_⟩
          refine ld_mem (by simpa using gu2 _ 3 1 shapeT_3) ?_
          simp only [XA, XB, ex]
          exact hK _ ⟨x, StIs.of (by exact rfl), hx⟩
        · have b2 : decide ((i : Int) < (O.length : Int)) = false := decide_eq_false (by omega)
          refine Gx.a (by kernel_rfl) fun K hK => ?_
          simp only [XN, XA, XB, b2]
          refine hK _ ?_
          refine Gx.f rfl ?_
          refine XWP.skip ?_
          exact ⟨1, StIs.of (by exact rfl), by omega⟩
      rintro s ⟨x, hst, hx⟩
      obtain ⟨z, rfl⟩ := hst.out
      try dsimp only
      clear hst
      refine XWP.cut (fun s => ∃ x : Nat, StIs (fun Z => [Z 0, .v (.slice A2 L.length c2), .v (.slice A3 O.length c3), .p 0 0, Z 4,Z 5,Z 6, .v (.slice (some ⟨b7, o7, none⟩) m c7), Z 8, .v (.slice (some ⟨b9, o9, none⟩) m c9), Z 10, .v wo, .v (.int .i64 (i : Int)), .v (.int .i64 (x : Int)), Z 14,Z 15,Z 16,Z 17,Z 18,Z 19,Z 20,Z 21,Z 22,Z 23,Z 24,Z 25,Z 26,Z 27,Z 28,Z 29,Z 30,Z 31,Z 32,Z 33,Z 34,Z 35,Z 36,Z 37,Z 38,Z 39,Z 40,Z 41,Z 42,Z 43,Z 44,Z 45,Z 46,Z 47,Z 48,Z 49,Z 50,Z 51,Z 52,Z 53,Z 54,Z 55,Z 56,Z 57,Z 58,Z 59,Z 60,Z 61,Z 62,Z 63,Z 64,Z 65,Z 66,Z 67,Z 68,Z 69,Z 70,Z 71,Z 72,Z 73,Z 74,Z 75,Z 76,Z 77,Z 78,Z 79,Z 80,Z 81,Z 82,Z 83,Z 84,Z 85, .v (.int .i64 (m : Int)), .v (.int .i64 (i : Int)), Z 88,Z 89,Z 90,Z 91,Z 92,Z 93,Z 94,Z 95,Z 96,Z 97,Z 98,Z 99,Z 100,Z 101,Z 102,Z 103,Z 104,Z 105,Z 106,Z 107,Z 108,Z 109,Z 110,Z 111,Z 112,Z 113,Z 114,Z 115,Z 116,Z 117,Z 118,Z 119,Z 120,Z 121,Z 122,Z 123,Z 124,Z 125,Z 126,Z 127,Z 128,Z 129,Z 130,Z 131,Z 132,Z 133,Z 134,Z 135,Z 136,Z 137,Z 138,Z 139,Z 140,Z 141,Z 142,Z 143,Z 144,Z 145,Z 146,Z 147,Z 148,Z 149,Z 150,Z 151,Z 152,Z 153,Z 154,Z 155,Z 156,Z 157,Z 158,Z 159,Z 160,Z 161,Z 162,Z 163,Z 164,Z 165,Z 166,Z 167,Z 168,Z 169,Z 170,Z 171,Z 172,Z 173,Z 174,Z 175,Z 176,Z 177,Z 178,Z 179,Z 180,Z 181,Z 182,Z 183,Z 184,Z 185,Z 186,Z 187,Z 188,Z 189,Z 190,Z 191,Z 192,Z 193,Z 194,Z 195,Z 196,Z 197,Z 198,Z 199,Z 200,Z 201,Z 202,Z 203,Z 204,Z 205]) [[.int .i64 (n : Int), .int .i64 (n : Int), .slice A1 M.length c1]] H8 V8 s ∧ x ≤ 8 ∧ (i = 0 → 1 ≤ x)) ?_ ?_
      · by_cases hi0 : i = 0
        · have b2 : decide ((i : Int) = 0) = true := decide_eq_true (by omega)
          refine Gx.a (by kernel_rfl) fun K hK => ?_
          simp only [XA, XB, b2]
          refine hK _ ?_
          refine Gx.t rfl ?_
          refine Gx.c (by kernel_rfl) fun K hK => ?_
          simp only [XA, XB, i64_succ x (by omega)]
          exact hK _ ⟨x + 1, StIs.of (by exact rfl), by omega, fun _ => by omega⟩
        · have b2 : decide ((i : Int) = 0) = false := decide_eq_false (by omega)
          refine Gx.a (by kernel_rfl) fun K hK => ?_
          simp only [XA, XB, b2]
          refine hK _ ?_
          refine Gx.f rfl ?_
          refine XWP.skip ?_
          exact ⟨x, StIs.of (by exact rfl), by omega, fun h => absurd h hi0⟩
      clear hx
      rintro s ⟨x, hst, hx, hx0⟩
      obtain ⟨z, rfl⟩ := hst.out
      try dsimp only
      clear hst
      refine Gx.a (by kernel_rfl) fun K hK => ?_
      simp only [XA]
      refine call_go (by kernel_rfl) rfl (dmaken_c _ x hx) fun v9 V9 hV9 k9 => ?_
      obtain ⟨w9', rfl, k9⟩ := k9
      obtain ⟨x9, y9, rfl, p1, p2⟩ := k9.form
      simp only [XA, XB]
      refine st_rat rfl rfl rfl p1 p2 ?_
      simp only [XA]
      refine hK _ ?_
      refine Gx.c (by kernel_rfl) fun K hK => ?_
      simp only [XA, XB, Nat.reduceAdd, Nat.reduceLeDiff, ↓reduceIte]
      refine bs_go (by kernel_rfl) #[(0, .agg #[.bool (ng (x : Rat)), x9, y9])] (by simp [ev_tmp, SV.val]) (bs_rat elemT_22) fun b3 hb3 hb4 => ?_
      simp only [XA, Nat.reduceAdd]
      refine ap_go elemT_22 (by kernel_rfl) zeroT_49 rfl (by omega) (own_upd hown hb3) (src3 (upd_at _ _ _) rfl p1 p2) (by omega) (by omega) fun v' H' hres => ?_
      simp only [XA]
      have hrow' := (hrow.mono ratE_ok hV9).snoc (show isOne (.bool (ng (x : Rat))) = true from rfl) p1 p2 k9
      exact hK _ fun f => ⟨V9, H', v', _, _, StIs.of (by exact rfl), hV9, hres.1, hrow', by rw [List.length_append, lW]; rfl, hW.snoc hx fun e => hx0 (by omega)⟩
    clear hown hrow hW lW
    rintro s ⟨V9, H9, wo, co, W, hst, hV9, hown, hrow, lW, hW⟩
    obtain ⟨z, rfl⟩ := hst.out
    try dsimp only
    refine Gx.c (by kernel_rfl) fun K hK => ?_
    simp only [XA, XB, i64_succ i (by omega)]
    exact hK _ ⟨q - 1, by omega, fun f => ⟨i + 1, V9, H9, wo, co, W, StIs.of (by exact rfl), by omega, View.le_trans hV8 hV9, hown, hrow, lW, hW⟩⟩
  rintro s ⟨V8, H8, wo, co, W, hst, hV8, hown, hrow, lW, hW⟩
  obtain ⟨z, rfl⟩ := hst.out
  try dsimp only
  clear hst
  refine XWP.pubR ratE_ok (by rw [← lW] at hown; exact hown) hrow fun H5 V5' hV5' hs5 _ => ?_
  obtain ⟨Aw, cw, rfl, _, _⟩ := hs5.form
  have hle := View.le_trans hV8 hV5'
  have qW : ∀ a, a < m → QB 4 (cf W a) := fun a ha => hW.mem _ (cf_mem (by omega))
  have qSW : ∀ i, i ≤ m → QB 30 (Sm (cf W) i) := fun i hi => (sumL_QB hW.mem i (by omega)).mono (Nat.le_trans (Nat.mul_le_mul_right 5 (show i ≤ 6 by omega)) (by decide))
  have pS := hW.pos (by omega)
  rw [lW] at pS
  have nz : Sm (cf W) m ≠ 0 := by grind
  have gm := gmix W 4 qW
  have mp := mixP_of (W := W) hS hok (fun a ha => hW.nn a (by omega)) (by rw [← hm]; exact pS)
  rw [← hm] at mp
  refine Gx.a (by kernel_rfl) fun K hK => ?_
  simp only [XA]
  refine call_go (by kernel_rfl) rfl (mixed_c _ _ _ (allL (qs M) n) W n (h9.mono rats_ok hle) hs5 (by omega) (by omega) (by omega) (by omega) (fun a ha => glen a (by omega)) (fun i hi => (qSW i (by omega)).qf (by omega)) (by rw [lall]; exact nz) (fun a ha => (qW a (by omega)).qf (by omega)) (fun a k ha hk => (gq a k (by omega) hk).qf (by omega)) (fun a k ha hk => ((qW a (by omega)).mul (gq a k (by omega) hk)).qf (by omega)) (fun k i hk hi => (gm k i hk (by omega)).qf (by omega))) fun v9 V9 hV9 k9 => ?_
  rw [lall] at k9
  have qmix : ∀ x ∈ mk n (fun k => mixQ (allL (qs M) n) W k m / Sm (cf W) m), QB 3300000100 x := fun x hx => by
    unfold mk at hx
    obtain ⟨k, hk, rfl⟩ := List.mem_map.1 hx
    exact ((gm k m (List.mem_range.1 hk) (Nat.le_refl _)).div (qSW m (Nat.le_refl _))).mono (by omega)
  generalize mk n (fun k => mixQ (allL (qs M) n) W k m / Sm (cf W) m) = p at *
  obtain ⟨Ap, cp, rfl, _, _⟩ := k9.form
  obtain ⟨lp, np, op, sp⟩ := mp
  have lpR : (p.map toRaw).length = n := by rw [List.length_map]; exact lp
  have hb := lawB_raw lp np op
  have fit : fitE (p.map toRaw) n n M = 0 := fitE_ok (by rw [hb, e5]; rfl) (by rw [lpR])
  have est := staysB_of (L := p.map toRaw) (M := M) fit lpR (by rw [qs_toRaw]; exact sp)
  have qfp : ∀ x ∈ p, QF x := fun x hx => (qmix x hx).qf (by omega)
  have hle9 := View.le_trans hle hV9
  have lm6 : M.length ≤ 1000 := by omega
  have h : LM V9 (.slice Ap p.length cp) (.slice A1 M.length c1) (p.map toRaw) M 3300000100 :=
    ⟨Rats.raws k9, hs.up hle9, fitR_toRaw qfp, fM, by omega, lm6, by rw [qs_toRaw]; exact qmix, fun x hx => (qM x hx).mono (by omega), by omega⟩
  simp only [XA]
  refine hK _ ?_
  refine Gx.a (by kernel_rfl) fun K hK => ?_
  simp only [XM, XA, Nat.reduceAdd, Nat.reduceLeDiff, ↓reduceIte]
  refine call_go (by kernel_rfl) rfl (bStays_c _ _ _ n n (p.map toRaw) M 3300000100 h) fun v10 V10 hV10 k10 => ?_
  subst k10
  rw [est, fit]
  simp only [XA]
  refine hK _ ?_
  refine XWP.seq ?_
  refine Gx.a (by kernel_rfl) fun K hK => ?_
  simp only [XA, XB, gateX, ↓reduceIte, beq_self_eq_true, decide_true]
  refine hK _ ?_
  refine Gx.f rfl ?_
  refine XWP.skip ?_
  have hle10 := View.le_trans hle9 hV10
  have h7 := h7.mono (Sl1_ok natE_ok) hle10
  have h9 := h9.mono rats_ok hle10
  have hl := hl.up hle10
  have hs := hs.up hle10
  clear h k9 hs5 hown hrow hb fit est
  refine XWP.cutD 1 (fun s => ∃ (V11 : View) (H11 : Heap), StIs (fun Z => [Z 0,Z 1,Z 2, .p 0 0, Z 4,Z 5,Z 6, .v (.slice (some ⟨b7, o7, none⟩) m c7), Z 8, .v (.slice (some ⟨b9, o9, none⟩) m c9), Z 10,Z 11,Z 12,Z 13,Z 14,Z 15,Z 16,Z 17,Z 18,Z 19,Z 20,Z 21,Z 22,Z 23,Z 24,Z 25,Z 26,Z 27,Z 28,Z 29,Z 30,Z 31,Z 32,Z 33,Z 34,Z 35,Z 36,Z 37,Z 38,Z 39,Z 40,Z 41,Z 42,Z 43,Z 44,Z 45,Z 46,Z 47,Z 48,Z 49,Z 50,Z 51,Z 52,Z 53,Z 54,Z 55,Z 56,Z 57,Z 58,Z 59,Z 60,Z 61,Z 62,Z 63,Z 64,Z 65,Z 66,Z 67,Z 68,Z 69,Z 70,Z 71,Z 72,Z 73,Z 74,Z 75,Z 76,Z 77,Z 78,Z 79,Z 80,Z 81,Z 82,Z 83,Z 84,Z 85,Z 86,Z 87,Z 88,Z 89,Z 90,Z 91,Z 92,Z 93,Z 94,Z 95,Z 96,Z 97,Z 98,Z 99,Z 100,Z 101,Z 102,Z 103,Z 104,Z 105,Z 106,Z 107,Z 108,Z 109,Z 110,Z 111,Z 112,Z 113,Z 114,Z 115,Z 116,Z 117,Z 118,Z 119,Z 120,Z 121,Z 122,Z 123,Z 124,Z 125,Z 126,Z 127,Z 128,Z 129,Z 130,Z 131,Z 132,Z 133,Z 134,Z 135,Z 136,Z 137,Z 138,Z 139,Z 140,Z 141,Z 142,Z 143,Z 144,Z 145,Z 146,Z 147,Z 148,Z 149,Z 150,Z 151,Z 152,Z 153,Z 154,Z 155,Z 156,Z 157,Z 158,Z 159,Z 160,Z 161,Z 162,Z 163,Z 164,Z 165,Z 166,Z 167,Z 168,Z 169,Z 170,Z 171,Z 172,Z 173,Z 174,Z 175,Z 176,Z 177,Z 178,Z 179,Z 180,Z 181,Z 182,Z 183,Z 184,Z 185,Z 186,Z 187,Z 188,Z 189,Z 190,Z 191,Z 192,Z 193,Z 194,Z 195,Z 196,Z 197,Z 198,Z 199,Z 200,Z 201,Z 202,Z 203,Z 204,Z 205]) [[.int .i64 (n : Int), .int .i64 (n : Int), .slice A1 M.length c1]] H11 V11 s ∧ V10.le V11) ?_ ?_
  · have hLM := LM.of hl hs e3 e1
    refine Gx.a (by kernel_rfl) fun K hK => ?_
    simp only [XM, XA, Nat.reduceAdd, Nat.reduceLeDiff, ↓reduceIte]
    refine call_go (by kernel_rfl) rfl (bStays_c _ _ _ n n L M 96 hLM) fun v11 V11 hV11 k11 => ?_
    subst k11
    simp only [XA]
    refine hK _ ?_
    by_cases eF : fitE L n n M = 0
    rotate_left
    · have b1 : decide (fitE L n n M = 0) = false := decide_eq_false eF
      refine Gx.a (by kernel_rfl) fun K hK => ?_
      simp only [XA, XB, gateX, ↓reduceIte, b1]
      refine hK _ ?_
      refine Gx.f rfl ?_
      refine XWP.skip ?_
      exact fun f => ⟨V11, _, StIs.of (by exact rfl), hV11⟩
    have b1 : decide (fitE L n n M = 0) = true := decide_eq_true eF
    cases eS : staysB L n n M
    · refine Gx.a (by kernel_rfl) fun K hK => ?_
      simp only [XA, XB, gateX, ↓reduceIte, beq_self_eq_true, b1]
      refine hK _ ?_
      refine Gx.f rfl ?_
      refine XWP.skip ?_
      exact fun f => ⟨V11, _, StIs.of (by exact rfl), hV11⟩
    obtain ⟨n', pp⟩ := fitE_parts eF
    obtain rfl : n = n' := by have := pp.er; omega
    have lL := pp.lL
    have lq : (qs L).length = n := by rw [qs_len]; exact lL
    have hst' := staysB_stay lL eS
    have hmm := mass_mix hS hok pp.nn hst' pp.one
    rw [← hm] at hmm
    have qL := hLM.qL
    have hl11 := Raws.rats (hl.up hV11) pp.okL
    have h7' := h7.mono (Sl1_ok natE_ok) hV11
    have h9' := h9.mono rats_ok hV11
    refine Gx.a (by kernel_rfl) fun K hK => ?_
    simp only [XA, XB, gateX, ↓reduceIte, beq_self_eq_true, b1]
    refine hK _ ?_
    refine Gx.t rfl ?_
    refine Gx.a (by kernel_rfl) fun K hK => ?_
    simp only [XA]
    refine hK _ ?_
    refine XWP.cutD 1 (fun s => ∃ (V12 : View) (H12 : Heap) (wo : Value) (co : List Value), StIs (fun Z => [Z 0, .v (.slice A2 L.length c2), Z 2, .p 0 0, Z 4,Z 5,Z 6, .v (.slice (some ⟨b7, o7, none⟩) m c7), Z 8, .v (.slice (some ⟨b9, o9, none⟩) m c9), Z 10, .v wo, Z 12,Z 13,Z 14,Z 15,Z 16,Z 17,Z 18,Z 19,Z 20,Z 21,Z 22,Z 23,Z 24,Z 25,Z 26,Z 27,Z 28,Z 29,Z 30,Z 31,Z 32,Z 33,Z 34,Z 35,Z 36,Z 37,Z 38,Z 39,Z 40,Z 41,Z 42,Z 43,Z 44,Z 45,Z 46,Z 47,Z 48,Z 49,Z 50,Z 51,Z 52,Z 53,Z 54,Z 55,Z 56,Z 57,Z 58,Z 59,Z 60,Z 61,Z 62,Z 63,Z 64,Z 65,Z 66,Z 67,Z 68,Z 69,Z 70,Z 71,Z 72,Z 73,Z 74,Z 75,Z 76,Z 77,Z 78,Z 79,Z 80,Z 81,Z 82,Z 83,Z 84,Z 85,Z 86,Z 87,Z 88,Z 89,Z 90,Z 91,Z 92,Z 93,Z 94,Z 95,Z 96,Z 97,Z 98,Z 99,Z 100,Z 101,Z 102,Z 103,Z 104,Z 105,Z 106,Z 107,Z 108,Z 109,Z 110,Z 111,Z 112,Z 113,Z 114,Z 115,Z 116,Z 117,Z 118,Z 119,Z 120,Z 121,Z 122,Z 123,Z 124,Z 125,Z 126,Z 127,Z 128,Z 129,Z 130,Z 131,Z 132,Z 133,Z 134,Z 135,Z 136,Z 137,Z 138,Z 139,Z 140,Z 141,Z 142,Z 143,Z 144,Z 145,Z 146,Z 147,Z 148,Z 149,Z 150,Z 151,Z 152,Z 153,Z 154,Z 155,Z 156,Z 157,Z 158,Z 159,Z 160,Z 161,Z 162,Z 163,Z 164,Z 165,Z 166,Z 167,Z 168,Z 169,Z 170,Z 171,Z 172,Z 173,Z 174,Z 175,Z 176,Z 177,Z 178,Z 179,Z 180,Z 181,Z 182,Z 183,Z 184,Z 185,Z 186,Z 187,Z 188,Z 189,Z 190,Z 191,Z 192,Z 193,Z 194,Z 195,Z 196,Z 197,Z 198,Z 199,Z 200,Z 201,Z 202,Z 203,Z 204,Z 205]) [[.int .i64 (n : Int), .int .i64 (n : Int), .slice A1 M.length c1]] H12 V12 s ∧ V11.le V12 ∧ Own H12 49 3 wo m co ∧ RowAt ratE V12 co (mk m fun a => massL (cf (qs L)) ((clsL (qs M) n).getD a []))) ?_ ?_
    · refine Gx.a (by kernel_rfl) fun K hK => ?_
      simp only [XN, XA]
      refine hK _ ?_
      clear hK
      refine XWP.block ?_
      refine XWP.loopD 1 (fun q s => ∃ (i : Nat) (V12 : View) (H12 : Heap) (wo : Value) (co : List Value), StIs (fun Z => [Z 0, .v (.slice A2 L.length c2), Z 2, .p 0 0, Z 4,Z 5,Z 6, .v (.slice (some ⟨b7, o7, none⟩) m c7), Z 8, .v (.slice (some ⟨b9, o9, none⟩) m c9), Z 10, .v wo, Z 12,Z 13,Z 14,Z 15,Z 16,Z 17,Z 18,Z 19,Z 20,Z 21,Z 22,Z 23,Z 24,Z 25,Z 26,Z 27,Z 28,Z 29,Z 30,Z 31,Z 32,Z 33,Z 34,Z 35,Z 36,Z 37,Z 38,Z 39,Z 40,Z 41,Z 42,Z 43,Z 44,Z 45,Z 46,Z 47,Z 48,Z 49,Z 50,Z 51,Z 52,Z 53,Z 54,Z 55,Z 56,Z 57,Z 58,Z 59,Z 60,Z 61,Z 62,Z 63,Z 64,Z 65,Z 66,Z 67,Z 68,Z 69,Z 70,Z 71,Z 72,Z 73,Z 74,Z 75,Z 76,Z 77,Z 78,Z 79,Z 80,Z 81,Z 82,Z 83,Z 84,Z 85,Z 86,Z 87,Z 88,Z 89,Z 90,Z 91,Z 92,Z 93,Z 94,Z 95,Z 96,Z 97,Z 98,Z 99,Z 100,Z 101,Z 102,Z 103,Z 104,Z 105,Z 106,Z 107,Z 108,Z 109,Z 110,Z 111,Z 112,Z 113,Z 114,Z 115,Z 116,Z 117,Z 118,Z 119,Z 120,Z 121,Z 122,Z 123,Z 124,Z 125,Z 126,Z 127,Z 128,Z 129,Z 130,Z 131,Z 132,Z 133,Z 134,Z 135,Z 136,Z 137,Z 138,Z 139, .v (.int .i64 (m : Int)), .v (.int .i64 (i : Int)), Z 142,Z 143,Z 144,Z 145,Z 146,Z 147,Z 148,Z 149,Z 150,Z 151,Z 152,Z 153,Z 154,Z 155,Z 156,Z 157,Z 158,Z 159,Z 160,Z 161,Z 162,Z 163,Z 164,Z 165,Z 166,Z 167,Z 168,Z 169,Z 170,Z 171,Z 172,Z 173,Z 174,Z 175,Z 176,Z 177,Z 178,Z 179,Z 180,Z 181,Z 182,Z 183,Z 184,Z 185,Z 186,Z 187,Z 188,Z 189,Z 190,Z 191,Z 192,Z 193,Z 194,Z 195,Z 196,Z 197,Z 198,Z 199,Z 200,Z 201,Z 202,Z 203,Z 204,Z 205]) [[.int .i64 (n : Int), .int .i64 (n : Int), .slice A1 M.length c1]] H12 V12 s ∧ q + i = m ∧ V11.le V12 ∧ Own H12 49 3 wo i co ∧ RowAt ratE V12 co (mk i fun a => massL (cf (qs L)) ((clsL (qs M) n).getD a []))) m ⟨0, V11, _, _, [], StIs.of (by exact rfl), by omega, View.le_refl _, own_nil, RowAt.nil _⟩ ?_
      rintro q s ⟨i, V12, H12, wo, co, hst, hq, hV12, hown, hrow⟩
      obtain ⟨z, rfl⟩ := hst.out
      try dsimp only
      clear hst
      by_cases hi : i < m
      rotate_left
      · obtain rfl : i = m := by omega
        have b2 : decide ((i : Int) < (i : Int)) = false := decide_eq_false (by omega)
        refine Gx.a (by kernel_rfl) fun K hK => ?_
        simp only [XA, XB, b2]
        refine hK _ ?_
        refine XWP.seq (Gx.f rfl ?_)
        refine XWP.exit ?_
        exact fun f => ⟨V12, H12, wo, co, StIs.of (by exact rfl), hV12, hown, hrow⟩
      have b2 : decide ((i : Int) < (m : Int)) = true := decide_eq_true (by omega)
      refine Gx.a (by kernel_rfl) fun K hK => ?_
      simp only [XA, XB, b2]
      refine hK _ ?_
      refine XWP.seq (Gx.t rfl ?_)
      refine XWP.skip ?_
      refine XWP.cutD 1 (fun s => ∃ (V13 : View) (H13 : Heap) (wo : Value) (co : List Value), StIs (fun Z => [Z 0, .v (.slice A2 L.length c2), Z 2, .p 0 0, Z 4,Z 5,Z 6, .v (.slice (some ⟨b7, o7, none⟩) m c7), Z 8, .v (.slice (some ⟨b9, o9, none⟩) m c9), Z 10, .v wo, Z 12,Z 13,Z 14,Z 15,Z 16,Z 17,Z 18,Z 19,Z 20,Z 21,Z 22,Z 23,Z 24,Z 25,Z 26,Z 27,Z 28,Z 29,Z 30,Z 31,Z 32,Z 33,Z 34,Z 35,Z 36,Z 37,Z 38,Z 39,Z 40,Z 41,Z 42,Z 43,Z 44,Z 45,Z 46,Z 47,Z 48,Z 49,Z 50,Z 51,Z 52,Z 53,Z 54,Z 55,Z 56,Z 57,Z 58,Z 59,Z 60,Z 61,Z 62,Z 63,Z 64,Z 65,Z 66,Z 67,Z 68,Z 69,Z 70,Z 71,Z 72,Z 73,Z 74,Z 75,Z 76,Z 77,Z 78,Z 79,Z 80,Z 81,Z 82,Z 83,Z 84,Z 85,Z 86,Z 87,Z 88,Z 89,Z 90,Z 91,Z 92,Z 93,Z 94,Z 95,Z 96,Z 97,Z 98,Z 99,Z 100,Z 101,Z 102,Z 103,Z 104,Z 105,Z 106,Z 107,Z 108,Z 109,Z 110,Z 111,Z 112,Z 113,Z 114,Z 115,Z 116,Z 117,Z 118,Z 119,Z 120,Z 121,Z 122,Z 123,Z 124,Z 125,Z 126,Z 127,Z 128,Z 129,Z 130,Z 131,Z 132,Z 133,Z 134,Z 135,Z 136,Z 137,Z 138,Z 139, .v (.int .i64 (m : Int)), .v (.int .i64 (i : Int)), Z 142,Z 143,Z 144,Z 145,Z 146,Z 147,Z 148,Z 149,Z 150,Z 151,Z 152,Z 153,Z 154,Z 155,Z 156,Z 157,Z 158,Z 159,Z 160,Z 161,Z 162,Z 163,Z 164,Z 165,Z 166,Z 167,Z 168,Z 169,Z 170,Z 171,Z 172,Z 173,Z 174,Z 175,Z 176,Z 177,Z 178,Z 179,Z 180,Z 181,Z 182,Z 183,Z 184,Z 185,Z 186,Z 187,Z 188,Z 189,Z 190,Z 191,Z 192,Z 193,Z 194,Z 195,Z 196,Z 197,Z 198,Z 199,Z 200,Z 201,Z 202,Z 203,Z 204,Z 205]) [[.int .i64 (n : Int), .int .i64 (n : Int), .slice A1 M.length c1]] H13 V13 s ∧ V12.le V13 ∧ Own H13 49 3 wo (i + 1) co ∧ RowAt ratE V13 co (mk (i + 1) fun a => massL (cf (qs L)) ((clsL (qs M) n).getD a []))) ?_ ?_
      · have hiC : i < (clsL (qs M) n).length := by omega
        obtain ⟨C, hC⟩ : ∃ C, C = (clsL (qs M) n).getD i [] := ⟨_, rfl⟩
        have hCm : C ∈ clsL (qs M) n := by rw [hC]; exact cls_getD hiC
        have hCe : (clsL (qs M) n)[i] = C := by rw [hC, List.getD_eq_getElem?_getD, List.getElem?_eq_getElem hiC]; rfl
        have hcls := cls_irr hS hCm
        obtain ⟨uC, _, gC⟩ := sl1_at (Sl1_ok natE_ok) h7' hiC
        rw [hCe] at gC
        obtain ⟨gC1, _⟩ := gC V11 (View.le_refl _)
        obtain ⟨AC, cC, rfl, _, _⟩ := gC1.form
        obtain ⟨bC, oC, rfl⟩ := gC1.addr hcls.ne
        have qsum : ∀ j, j ≤ C.length → QB (6 * 97) (Sm (fun v => cf (qs L) (C.getD v 0)) j) := fun j hj => by
          have key : ∀ j, j ≤ C.length → QB (j * 97) (Sm (fun v => cf (qs L) (C.getD v 0)) j) := by
            intro j
            induction j with
            | zero => intro _; exact QB_zero _
            | succ j ih =>
              intro hj
              have h1 := ih (by omega)
              have h2 := qL _ (cf_mem (l := qs L) (i := C.getD j 0) (by rw [lq]; exact hcls.lt _ (by rw [List.getD_eq_getElem?_getD, List.getElem?_eq_getElem (show j < C.length by omega)]; exact List.getElem_mem _)))
              exact (h1.add h2).mono (by omega)
          exact (key j hj).mono (Nat.mul_le_mul_right 97 (by have := hcls.le; omega))
        refine XWP.block ?_
        refine Gx.a (by kernel_rfl) fun K hK => ?_
        simp only [XA]
        refine hK _ ?_
        refine Gx.a (by kernel_rfl) fun K hK => ?_
        simp only [XA]
        refine call_go (by kernel_rfl) rfl (pzero_c _) fun v13 V13 hV13 k13 => ?_
        obtain ⟨x13, y13, rfl, p1, p2⟩ := k13.form
        simp only [XA, XB]
        refine st_rat rfl rfl rfl p1 p2 ?_
        simp only [XA]
        refine hK _ ?_
        refine XWP.cutD 2 (fun s => ∃ (V14 : View) (bs : Bool) (x y : Value), StIs (fun Z => [Z 0, .v (.slice A2 L.length c2), Z 2, .p 0 0, Z 4,Z 5,Z 6, .v (.slice (some ⟨b7, o7, none⟩) m c7), Z 8, .v (.slice (some ⟨b9, o9, none⟩) m c9), Z 10, .v wo, Z 12,Z 13,Z 14,Z 15,Z 16,Z 17,Z 18,Z 19,Z 20,Z 21, .p 1 0, Z 23,Z 24,Z 25,Z 26,Z 27,Z 28,Z 29,Z 30,Z 31,Z 32,Z 33,Z 34,Z 35,Z 36,Z 37,Z 38,Z 39,Z 40,Z 41,Z 42,Z 43,Z 44,Z 45,Z 46,Z 47,Z 48,Z 49,Z 50,Z 51,Z 52,Z 53,Z 54,Z 55,Z 56,Z 57,Z 58,Z 59,Z 60,Z 61,Z 62,Z 63,Z 64,Z 65,Z 66,Z 67,Z 68,Z 69,Z 70,Z 71,Z 72,Z 73,Z 74,Z 75,Z 76,Z 77,Z 78,Z 79,Z 80,Z 81,Z 82,Z 83,Z 84,Z 85,Z 86,Z 87,Z 88,Z 89,Z 90,Z 91,Z 92,Z 93,Z 94,Z 95,Z 96,Z 97,Z 98,Z 99,Z 100,Z 101,Z 102,Z 103,Z 104,Z 105,Z 106,Z 107,Z 108,Z 109,Z 110,Z 111,Z 112,Z 113,Z 114,Z 115,Z 116,Z 117,Z 118,Z 119,Z 120,Z 121,Z 122,Z 123,Z 124,Z 125,Z 126,Z 127,Z 128,Z 129,Z 130,Z 131,Z 132,Z 133,Z 134,Z 135,Z 136,Z 137,Z 138,Z 139, .v (.int .i64 (m : Int)), .v (.int .i64 (i : Int)), Z 142,Z 143,Z 144,Z 145,Z 146,Z 147,Z 148,Z 149,Z 150,Z 151,Z 152,Z 153,Z 154,Z 155,Z 156,Z 157,Z 158,Z 159,Z 160,Z 161,Z 162,Z 163,Z 164,Z 165,Z 166,Z 167,Z 168,Z 169,Z 170,Z 171,Z 172,Z 173,Z 174,Z 175,Z 176,Z 177,Z 178,Z 179,Z 180,Z 181,Z 182,Z 183,Z 184,Z 185,Z 186,Z 187,Z 188,Z 189,Z 190,Z 191,Z 192,Z 193,Z 194,Z 195,Z 196,Z 197,Z 198,Z 199,Z 200,Z 201,Z 202,Z 203,Z 204,Z 205]) ([.int .i64 (n : Int), .int .i64 (n : Int), .slice A1 M.length c1] :: [[.bool bs, x, y]]) H12 V14 s ∧ V12.le V14 ∧ RatC V14 (.agg #[.bool bs, x, y]) (massL (cf (qs L)) C) ∧ isOne x = true ∧ isOne y = true) ?_ ?_
        · obtain ⟨_, gC2⟩ := gC V13 (View.le_trans hV12 hV13)
          refine Gx.a (by kernel_rfl) fun K hK => ?_
          simp only [XN, XA]
          refine ⟨by omega, by omega, ?_⟩
          refine ld_mem (by simpa using gC2 _ 34 1 shapeT_34) ?_
          simp only [XN, XA]
          refine hK _ ?_
          clear hK
          refine XWP.block ?_
          refine XWP.loopD 2 (fun q s => ∃ (j : Nat) (V14 : View) (bs : Bool) (x y : Value), StIs (fun Z => [Z 0, .v (.slice A2 L.length c2), Z 2, .p 0 0, Z 4,Z 5,Z 6, .v (.slice (some ⟨b7, o7, none⟩) m c7), Z 8, .v (.slice (some ⟨b9, o9, none⟩) m c9), Z 10, .v wo, Z 12,Z 13,Z 14,Z 15,Z 16,Z 17,Z 18,Z 19,Z 20,Z 21, .p 1 0, Z 23,Z 24,Z 25,Z 26,Z 27,Z 28,Z 29,Z 30,Z 31,Z 32,Z 33,Z 34,Z 35,Z 36,Z 37,Z 38,Z 39,Z 40,Z 41,Z 42,Z 43,Z 44,Z 45,Z 46,Z 47,Z 48,Z 49,Z 50,Z 51,Z 52,Z 53,Z 54,Z 55,Z 56,Z 57,Z 58,Z 59,Z 60,Z 61,Z 62,Z 63,Z 64,Z 65,Z 66,Z 67,Z 68,Z 69,Z 70,Z 71,Z 72,Z 73,Z 74,Z 75,Z 76,Z 77,Z 78,Z 79,Z 80,Z 81,Z 82,Z 83,Z 84,Z 85,Z 86,Z 87,Z 88,Z 89,Z 90,Z 91,Z 92,Z 93,Z 94,Z 95,Z 96,Z 97,Z 98,Z 99,Z 100,Z 101,Z 102,Z 103,Z 104,Z 105,Z 106,Z 107,Z 108,Z 109,Z 110,Z 111,Z 112,Z 113,Z 114,Z 115,Z 116,Z 117,Z 118,Z 119,Z 120,Z 121,Z 122,Z 123,Z 124,Z 125,Z 126,Z 127,Z 128,Z 129,Z 130,Z 131,Z 132,Z 133,Z 134,Z 135,Z 136,Z 137,Z 138,Z 139, .v (.int .i64 (m : Int)), .v (.int .i64 (i : Int)), Z 142,Z 143,Z 144,Z 145,Z 146,Z 147, .v (.slice (some ⟨bC, oC, none⟩) C.length cC), .v (.int .i64 (C.length : Int)), .v (.int .i64 (j : Int)), Z 151,Z 152,Z 153,Z 154,Z 155,Z 156,Z 157,Z 158,Z 159,Z 160,Z 161,Z 162,Z 163,Z 164,Z 165,Z 166,Z 167,Z 168,Z 169,Z 170,Z 171,Z 172,Z 173,Z 174,Z 175,Z 176,Z 177,Z 178,Z 179,Z 180,Z 181,Z 182,Z 183,Z 184,Z 185,Z 186,Z 187,Z 188,Z 189,Z 190,Z 191,Z 192,Z 193,Z 194,Z 195,Z 196,Z 197,Z 198,Z 199,Z 200,Z 201,Z 202,Z 203,Z 204,Z 205]) ([.int .i64 (n : Int), .int .i64 (n : Int), .slice A1 M.length c1] :: [[.bool bs, x, y]]) H12 V14 s ∧ q + j = C.length ∧ V12.le V14 ∧ RatC V14 (.agg #[.bool bs, x, y]) (Sm (fun v => cf (qs L) (C.getD v 0)) j) ∧ isOne x = true ∧ isOne y = true) C.length ⟨0, V13, _, x13, y13, StIs.of (by exact rfl), by omega, hV13, k13, p1, p2⟩ ?_
          clear k13 p1 p2 gC2
          rintro q2 s ⟨j, V14, bs, x, y, hst, hq2, hV14, k14, p1, p2⟩
          obtain ⟨z, rfl⟩ := hst.out
          try dsimp only
          clear hst
          by_cases hj : j < C.length
          rotate_left
          · obtain rfl : j = C.length := by omega
            have b3 : decide ((C.length : Int) < (C.length : Int)) = false := decide_eq_false (by omega)
            refine Gx.a (by kernel_rfl) fun K hK => ?_
            simp only [XA, XB, b3]
            refine hK _ ?_
            refine XWP.seq (Gx.f rfl ?_)
            refine XWP.exit ?_
            exact fun f => ⟨V14, bs, x, y, StIs.of (by exact rfl), hV14, k14, p1, p2⟩
          have b3 : decide ((j : Int) < (C.length : Int)) = true := decide_eq_true (by omega)
          refine Gx.a (by kernel_rfl) fun K hK => ?_
          simp only [XA, XB, b3]
          refine hK _ ?_
          refine XWP.seq (Gx.t rfl ?_)
          refine XWP.skip ?_
          obtain ⟨uj, _, gj⟩ := sl1_at natE_ok gC1 hj
          have hCj : C.getD j 0 = C[j] := by rw [List.getD_eq_getElem?_getD, List.getElem?_eq_getElem hj]; rfl
          obtain ⟨gj1, gj2⟩ := gj V14 (View.le_trans hV12 hV14)
          obtain ⟨cj, hcj⟩ : ∃ cj, cj = C.getD j 0 := ⟨_, rfl⟩
          have gj1' : uj = .int .i64 (cj : Int) := by rw [hcj, hCj]; exact gj1
          subst gj1'
          have hCn : cj < n := by rw [hcj, hCj]; exact hcls.lt _ (List.getElem_mem hj)
          have hv14 := hl11.up (View.le_trans hV12 hV14)
          obtain ⟨b2, o2, rfl⟩ := SlAt.addr hv14 (by omega)
          obtain ⟨m6, n6, d6, hx6, ⟨r1, r2, r3⟩, hld6⟩ := Rats.get hv14 cj (by omega)
          have f5 := (qsum j (by omega)).qf (by omega)
          have f6 := (qL _ (cf_mem (l := qs L) (i := cj) (by omega))).qf (by omega)
          refine XWP.seq ?_
          refine XWP.block ?_
          refine Gx.a (by kernel_rfl) fun K hK => ?_
          simp only [XN, XA, XB]
          refine ⟨by omega, by omega, ?_⟩
          refine ld_mem (by simpa using gj2 _ 3 1 shapeT_3) ?_
          simp only [XA]
          refine hK _ ?_
          (refine XWP.drw1 [0, 1, 2, 3, 4, 5, 6] (by kernel_rfl) (by kernel_rfl) (by kernel_rfl) fun K hK => ?_) <;> dsimp only [pickOps, List.getElem?_cons_zero, List.getElem?_cons_succ]
          simp only [XA, XB, Nat.reduceAdd, Nat.reduceLeDiff, ↓reduceIte]
          refine ⟨by omega, by omega, ld_mem (hld6 _) ?_⟩
          simp only [XA]
          refine call_go (by kernel_rfl) rfl (padd_c _ _ _ _ _ (k14.toV f5) (hx6.toV f6) f5 f6) fun v15 V15 hV15 h15 => ?_
          obtain ⟨x15, y15, rfl, o3, o4⟩ := h15.form
          simp only [XA]
          refine st_rat rfl rfl rfl o3 o4 ?_
          simp only [XA]
          refine hK _ ?_
          refine Gx.c (by kernel_rfl) fun K hK => ?_
          simp only [XA, XB, i64_succ j (by omega)]
          exact hK _ ⟨q2 - 1, by omega, fun f => ⟨j + 1, V15, _, x15, y15, StIs.of (by exact rfl), by omega, View.le_trans hV14 hV15, by (have e : Sm (fun v => cf (qs L) (C.getD v 0)) (j + 1) = Sm (fun v => cf (qs L) (C.getD v 0)) j + cf (qs L) cj := by (rw [hcj]; rfl)); rw [e]; exact h15, o3, o4⟩⟩
        clear k13 p1 p2
        rintro s ⟨V14, bs, x, y, hst, hV14, k14, p1, p2⟩
        obtain ⟨z, rfl⟩ := hst.out
        try dsimp only
        clear hst
        refine Gx.c (by kernel_rfl) fun K hK => ?_
        simp only [XA, XB, Nat.reduceAdd, Nat.reduceLeDiff, ↓reduceIte]
        refine bs_go (by kernel_rfl) #[(0, .agg #[.bool bs, x, y])] (by simp [ev_tmp, SV.val]) (bs_rat elemT_22) fun b3 hb3 hb4 => ?_
        simp only [XA, Nat.reduceAdd]
        refine ap_go elemT_22 (by kernel_rfl) zeroT_49 rfl (by omega) (own_upd hown hb3) (src3 (upd_at _ _ _) rfl p1 p2) (by omega) (by omega) fun v' H' hres => ?_
        simp only [XA]
        have hrow' := (hrow.mono ratE_ok hV14).snoc (show isOne (.bool bs) = true from rfl) p1 p2 k14
        rw [hC, ← mk_succ i (fun a => massL (cf (qs L)) ((clsL (qs M) n).getD a []))] at hrow'
        exact hK _ fun f => ⟨V14, H', v', _, StIs.of (by exact rfl), hV14, hres.1, hrow'⟩
      clear hown hrow
      rintro s ⟨V13, H13, wo, co, hst, hV13, hown, hrow⟩
      obtain ⟨z, rfl⟩ := hst.out
      try dsimp only
      refine Gx.c (by kernel_rfl) fun K hK => ?_
      simp only [XA, XB, i64_succ i (by omega)]
      exact hK _ ⟨q - 1, by omega, fun f => ⟨i + 1, V13, H13, wo, co, StIs.of (by exact rfl), by omega, View.le_trans hV12 hV13, hown, hrow⟩⟩
    rintro s ⟨V12, H12, wo, co, hst, hV12, hown, hrow⟩
    obtain ⟨z, rfl⟩ := hst.out
    try dsimp only
    clear hst
    have eMW : (mk m fun a => massL (cf (qs L)) ((clsL (qs M) n).getD a [])) = massW (qs M) n (cf (qs L)) := by unfold massW; rw [← hm]
    rw [eMW] at hrow
    have lMW : (massW (qs M) n (cf (qs L))).length = m := by unfold massW; rw [mk_len, ← hm]
    have hcM : ∀ a, a < m → cf (massW (qs M) n (cf (qs L))) a = massL (cf (qs L)) ((clsL (qs M) n).getD a []) := fun a ha => by unfold massW; rw [cf_mk, if_pos (by omega)]
    have qMW : ∀ a, a < m → QB 582 (cf (massW (qs M) n (cf (qs L))) a) := fun a ha => by
      rw [hcM a ha]
      have hC := cls_getD (l := qs M) (n := n) (show a < (clsL (qs M) n).length by omega)
      have hcls := cls_irr hS hC
      generalize (clsL (qs M) n).getD a [] = C at *
      have key : ∀ j, j ≤ C.length → QB (j * 97) (Sm (fun v => cf (qs L) (C.getD v 0)) j) := by
        intro j
        induction j with
        | zero => intro _; exact QB_zero _
        | succ j ih =>
          intro hj
          have h1 := ih (by omega)
          have h2 := qL _ (cf_mem (l := qs L) (i := C.getD j 0) (by rw [lq]; exact hcls.lt _ (by rw [List.getD_eq_getElem?_getD, List.getElem?_eq_getElem (show j < C.length by omega)]; exact List.getElem_mem _)))
          exact (h1.add h2).mono (by omega)
      exact (key C.length (Nat.le_refl _)).mono (Nat.mul_le_mul_right 97 (by have := hcls.le; omega) : C.length * 97 ≤ 6 * 97)
    have qSM : ∀ i, i ≤ m → QB 3600 (Sm (cf (massW (qs M) n (cf (qs L)))) i) := fun i hi => by
      have : ∀ x ∈ massW (qs M) n (cf (qs L)), QB 582 x := fun x hx => by
        obtain ⟨j, hj, rfl⟩ := List.mem_iff_getElem.1 hx
        rw [cf_get hj]; exact qMW j (by omega)
      exact (sumL_QB this i (by omega)).mono (Nat.le_trans (Nat.mul_le_mul_right 583 (show i ≤ 6 by omega)) (by decide))
    generalize massW (qs M) n (cf (qs L)) = WM at *
    have gm2 := gmix WM 582 qMW
    refine XWP.pubR ratE_ok (by rw [← lMW] at hown; exact hown) hrow fun H13 V13 hV13 hs13 _ => ?_
    obtain ⟨Av, cv, rfl, _, _⟩ := hs13.form
    have hle13 := View.le_trans hV12 hV13
    refine XWP.seq ?_
    refine Gx.c (by kernel_rfl) fun K hK => ?_
    simp only [XA]
    refine call_go (by kernel_rfl) rfl (mixed_c _ _ _ (allL (qs M) n) WM n (h9'.mono rats_ok hle13) hs13 (by omega) (by omega) (by omega) (by omega) (fun a ha => glen a (by omega)) (fun i hi => (qSM i (by omega)).qf (by omega)) (by rw [lall, hmm.1]; decide) (fun a ha => (qMW a (by omega)).qf (by omega)) (fun a k ha hk => (gq a k (by omega) hk).qf (by omega)) (fun a k ha hk => ((qMW a (by omega)).mul (gq a k (by omega) hk)).qf (by omega)) (fun k i hk hi => (gm2 k i hk (by omega)).qf (by omega))) fun v14 V14 hV14 k14 => ?_
    have eL : (mk n fun k => mixQ (allL (qs M) n) WM k (allL (qs M) n).length / Sm (cf WM) (allL (qs M) n).length) = qs L := by
      rw [lall, hmm.1]
      refine List.ext_getElem (by rw [mk_len, lq]) fun i h1 h2 => ?_
      rw [cf_get h1, cf_get h2, cf_mk, if_pos (by omega), hmm.2 i (by omega), Rat.div_def]
      grind
    rw [eL] at k14
    have qfL : ∀ x ∈ qs L, QF x := fun x hx => (qL x hx).qf (by omega)
    have hl14 := hl11.up (View.le_trans hle13 hV14)
    have hl14' : Rats V14 (.slice A2 L.length c2) (qs L) := hl14
    obtain ⟨A14, c14, rfl, _, _⟩ := k14.form
    simp only [XA]
    refine call_go (by kernel_rfl) rfl (same34_c _ _ _ _ _ k14 hl14' qfL qfL) fun v15 V15 hV15 k15 => ?_
    rw [decide_eq_true rfl] at k15
    subst k15
    simp only [XA]
    refine hK _ ?_
    refine Gx.f rfl ?_
    refine XWP.skip ?_
    exact fun f => ⟨V15, _, StIs.of (by exact rfl), View.le_trans hV11 (View.le_trans hle13 (View.le_trans hV14 hV15))⟩
  rintro s ⟨V11, H11, hst, hV11⟩
  obtain ⟨z, rfl⟩ := hst.out
  try dsimp only
  clear hst
  have h7 := h7.mono (Sl1_ok natE_ok) hV11
  have h9 := h9.mono rats_ok hV11
  refine XWP.cutD 1 (fun s => ∃ (V12 : View), StIs (fun Z => [Z 0,Z 1,Z 2,Z 3,Z 4,Z 5,Z 6,Z 7,Z 8,Z 9,Z 10,Z 11,Z 12,Z 13,Z 14,Z 15,Z 16,Z 17,Z 18,Z 19,Z 20,Z 21,Z 22,Z 23,Z 24,Z 25,Z 26,Z 27,Z 28,Z 29,Z 30,Z 31,Z 32,Z 33,Z 34,Z 35,Z 36,Z 37,Z 38,Z 39,Z 40,Z 41,Z 42,Z 43,Z 44,Z 45,Z 46,Z 47,Z 48,Z 49,Z 50,Z 51,Z 52,Z 53,Z 54,Z 55,Z 56,Z 57,Z 58,Z 59,Z 60,Z 61,Z 62,Z 63,Z 64,Z 65,Z 66,Z 67,Z 68,Z 69,Z 70,Z 71,Z 72,Z 73,Z 74,Z 75,Z 76,Z 77,Z 78,Z 79,Z 80,Z 81,Z 82,Z 83,Z 84,Z 85,Z 86,Z 87,Z 88,Z 89,Z 90,Z 91,Z 92,Z 93,Z 94,Z 95,Z 96,Z 97,Z 98,Z 99,Z 100,Z 101,Z 102,Z 103,Z 104,Z 105,Z 106,Z 107,Z 108,Z 109,Z 110,Z 111,Z 112,Z 113,Z 114,Z 115,Z 116,Z 117,Z 118,Z 119,Z 120,Z 121,Z 122,Z 123,Z 124,Z 125,Z 126,Z 127,Z 128,Z 129,Z 130,Z 131,Z 132,Z 133,Z 134,Z 135,Z 136,Z 137,Z 138,Z 139,Z 140,Z 141,Z 142,Z 143,Z 144,Z 145,Z 146,Z 147,Z 148,Z 149,Z 150,Z 151,Z 152,Z 153,Z 154,Z 155,Z 156,Z 157,Z 158,Z 159,Z 160,Z 161,Z 162,Z 163,Z 164,Z 165,Z 166,Z 167,Z 168,Z 169,Z 170,Z 171,Z 172,Z 173,Z 174,Z 175,Z 176,Z 177,Z 178,Z 179,Z 180,Z 181,Z 182,Z 183,Z 184,Z 185,Z 186,Z 187,Z 188,Z 189,Z 190,Z 191,Z 192,Z 193,Z 194,Z 195,Z 196,Z 197,Z 198,Z 199,Z 200,Z 201,Z 202,Z 203,Z 204,Z 205]) [[.int .i64 (n : Int), .int .i64 (n : Int), .slice A1 M.length c1]] H11 V12 s) ?_ ?_
  · refine Gx.a (by kernel_rfl) fun K hK => ?_
    simp only [XN, XA]
    refine hK _ ?_
    clear hK
    refine XWP.block ?_
    refine XWP.loopD 1 (fun q s => ∃ (i : Nat) (V12 : View), StIs (fun Z => [Z 0,Z 1,Z 2, .p 0 0, Z 4,Z 5,Z 6, .v (.slice (some ⟨b7, o7, none⟩) m c7), Z 8, .v (.slice (some ⟨b9, o9, none⟩) m c9), Z 10,Z 11,Z 12,Z 13,Z 14,Z 15,Z 16,Z 17,Z 18,Z 19,Z 20,Z 21,Z 22,Z 23,Z 24,Z 25,Z 26,Z 27,Z 28,Z 29,Z 30,Z 31,Z 32,Z 33,Z 34,Z 35,Z 36,Z 37,Z 38,Z 39,Z 40,Z 41,Z 42,Z 43,Z 44,Z 45,Z 46,Z 47,Z 48,Z 49,Z 50,Z 51,Z 52,Z 53,Z 54,Z 55,Z 56,Z 57,Z 58,Z 59,Z 60,Z 61,Z 62,Z 63,Z 64,Z 65,Z 66,Z 67,Z 68,Z 69,Z 70,Z 71,Z 72,Z 73,Z 74,Z 75,Z 76,Z 77,Z 78,Z 79,Z 80,Z 81,Z 82,Z 83,Z 84,Z 85,Z 86,Z 87,Z 88,Z 89,Z 90,Z 91,Z 92,Z 93,Z 94,Z 95,Z 96,Z 97,Z 98,Z 99,Z 100,Z 101,Z 102,Z 103,Z 104,Z 105,Z 106,Z 107,Z 108,Z 109,Z 110,Z 111,Z 112,Z 113,Z 114,Z 115,Z 116,Z 117,Z 118,Z 119,Z 120,Z 121,Z 122,Z 123,Z 124,Z 125,Z 126,Z 127,Z 128,Z 129,Z 130,Z 131,Z 132,Z 133,Z 134,Z 135,Z 136,Z 137,Z 138,Z 139,Z 140,Z 141,Z 142,Z 143,Z 144,Z 145,Z 146,Z 147,Z 148,Z 149,Z 150,Z 151,Z 152,Z 153,Z 154,Z 155,Z 156,Z 157,Z 158,Z 159,Z 160,Z 161,Z 162,Z 163,Z 164,Z 165,Z 166,Z 167,Z 168,Z 169,Z 170,Z 171,Z 172, .v (.int .i64 (m : Int)), .v (.int .i64 (i : Int)), Z 175,Z 176,Z 177,Z 178,Z 179,Z 180,Z 181,Z 182,Z 183,Z 184,Z 185,Z 186,Z 187,Z 188,Z 189,Z 190,Z 191,Z 192,Z 193,Z 194,Z 195,Z 196,Z 197,Z 198,Z 199,Z 200,Z 201,Z 202,Z 203,Z 204,Z 205]) [[.int .i64 (n : Int), .int .i64 (n : Int), .slice A1 M.length c1]] H11 V12 s ∧ q + i = m ∧ V11.le V12) m ⟨0, V11, StIs.of (by exact rfl), by omega, View.le_refl _⟩ ?_
    rintro q s ⟨i, V12, hst, hq, hV12⟩
    obtain ⟨z, rfl⟩ := hst.out
    try dsimp only
    clear hst
    by_cases hi : i < m
    rotate_left
    · obtain rfl : i = m := by omega
      have b2 : decide ((i : Int) < (i : Int)) = false := decide_eq_false (by omega)
      refine Gx.a (by kernel_rfl) fun K hK => ?_
      simp only [XA, XB, b2]
      refine hK _ ?_
      refine XWP.seq (Gx.f rfl ?_)
      refine XWP.exit ?_
      exact fun f => ⟨V12, StIs.of (by exact rfl)⟩
    have b2 : decide ((i : Int) < (m : Int)) = true := decide_eq_true (by omega)
    refine Gx.a (by kernel_rfl) fun K hK => ?_
    simp only [XA, XB, b2]
    refine hK _ ?_
    refine XWP.seq (Gx.t rfl ?_)
    refine XWP.skip ?_
    have hiC : i < (clsL (qs M) n).length := by omega
    have hiA : i < (allL (qs M) n).length := by omega
    obtain ⟨C, hC⟩ : ∃ C, C = (clsL (qs M) n).getD i [] := ⟨_, rfl⟩
    have hCm : C ∈ clsL (qs M) n := by rw [hC]; exact cls_getD hiC
    have hCe : (clsL (qs M) n)[i] = C := by rw [hC, List.getD_eq_getElem?_getD, List.getElem?_eq_getElem hiC]; rfl
    have hAe : (allL (qs M) n)[i] = lawC (qs M) n C := by
      have := allL_getD hiC
      rw [List.getD_eq_getElem?_getD, List.getElem?_eq_getElem hiA, ← hC] at this
      exact this
    obtain ⟨uC, _, gC⟩ := sl1_at (Sl1_ok natE_ok) h7 hiC
    obtain ⟨uA, _, gA⟩ := sl1_at rats_ok h9 hiA
    rw [hCe] at gC
    rw [hAe] at gA
    have ecnt := cntP_law hS hCm (hok C hCm)
    have qA := ql C hCm
    have pA := (lawP_of hS hCm (hok C hCm)).nn
    have lA : (lawC (qs M) n C).length = n := scat_len _ _ _ _
    generalize lawC (qs M) n C = p at *
    obtain ⟨AC, cC, rfl, _, _⟩ := (gC V11 (View.le_refl _)).1.form
    obtain ⟨AA, cA, rfl, _, _⟩ := SlAt.form (gA V11 (View.le_refl _)).1
    obtain ⟨bA, oA, rfl⟩ := SlAt.addr (gA V11 (View.le_refl _)).1 (by omega)
    refine XWP.cut (fun s => ∃ V13, StIs (fun Z => [Z 0,Z 1,Z 2, .p 0 0, Z 4,Z 5,Z 6, .v (.slice (some ⟨b7, o7, none⟩) m c7), Z 8, .v (.slice (some ⟨b9, o9, none⟩) m c9), Z 10,Z 11,Z 12,Z 13,Z 14,Z 15,Z 16,Z 17,Z 18,Z 19,Z 20,Z 21,Z 22,Z 23,Z 24,Z 25,Z 26,Z 27,Z 28,Z 29,Z 30,Z 31,Z 32,Z 33,Z 34,Z 35,Z 36,Z 37,Z 38,Z 39,Z 40,Z 41,Z 42,Z 43,Z 44,Z 45,Z 46,Z 47,Z 48,Z 49,Z 50,Z 51,Z 52,Z 53,Z 54,Z 55,Z 56,Z 57,Z 58,Z 59,Z 60,Z 61,Z 62,Z 63,Z 64,Z 65,Z 66,Z 67,Z 68,Z 69,Z 70,Z 71,Z 72,Z 73,Z 74,Z 75,Z 76,Z 77,Z 78,Z 79,Z 80,Z 81,Z 82,Z 83,Z 84,Z 85,Z 86,Z 87,Z 88,Z 89,Z 90,Z 91,Z 92,Z 93,Z 94,Z 95,Z 96,Z 97,Z 98,Z 99,Z 100,Z 101,Z 102,Z 103,Z 104,Z 105,Z 106,Z 107,Z 108,Z 109,Z 110,Z 111,Z 112,Z 113,Z 114,Z 115,Z 116,Z 117,Z 118,Z 119,Z 120,Z 121,Z 122,Z 123,Z 124,Z 125,Z 126,Z 127,Z 128,Z 129,Z 130,Z 131,Z 132,Z 133,Z 134,Z 135,Z 136,Z 137,Z 138,Z 139,Z 140,Z 141,Z 142,Z 143,Z 144,Z 145,Z 146,Z 147,Z 148,Z 149,Z 150,Z 151,Z 152,Z 153,Z 154,Z 155,Z 156,Z 157,Z 158,Z 159,Z 160,Z 161,Z 162,Z 163,Z 164,Z 165,Z 166,Z 167,Z 168,Z 169,Z 170,Z 171,Z 172, .v (.int .i64 (m : Int)), .v (.int .i64 (i : Int)), Z 175,Z 176,Z 177,Z 178,Z 179,Z 180,Z 181,Z 182,Z 183,Z 184,Z 185,Z 186,Z 187,Z 188,Z 189,Z 190,Z 191,Z 192,Z 193,Z 194,Z 195,Z 196,Z 197,Z 198,Z 199,Z 200,Z 201,Z 202,Z 203,Z 204,Z 205]) [[.int .i64 (n : Int), .int .i64 (n : Int), .slice A1 M.length c1]] H11 V13 s ∧ V12.le V13) ?_ ?_
    · refine XWP.block ?_
      refine Gx.a (by kernel_rfl) fun K hK => ?_
      simp only [XA]
      refine hK _ ?_
      refine Gx.a (by kernel_rfl) fun K hK => ?_
      simp only [XA]
      refine hK _ ?_
      refine XWP.cutD 1 (fun s => ∃ V13, StIs (fun Z => [Z 0,Z 1,Z 2, .p 0 0, Z 4,Z 5,Z 6, .v (.slice (some ⟨b7, o7, none⟩) m c7), Z 8, .v (.slice (some ⟨b9, o9, none⟩) m c9), Z 10,Z 11,Z 12,Z 13,Z 14,Z 15,Z 16,Z 17,Z 18,Z 19,Z 20,Z 21,Z 22,Z 23,Z 24, .v (.int .i64 (i : Int)), .v (.int .i64 (C.length : Int)), Z 27,Z 28,Z 29,Z 30,Z 31,Z 32,Z 33,Z 34,Z 35,Z 36,Z 37,Z 38,Z 39,Z 40,Z 41,Z 42,Z 43,Z 44,Z 45,Z 46,Z 47,Z 48,Z 49,Z 50,Z 51,Z 52,Z 53,Z 54,Z 55,Z 56,Z 57,Z 58,Z 59,Z 60,Z 61,Z 62,Z 63,Z 64,Z 65,Z 66,Z 67,Z 68,Z 69,Z 70,Z 71,Z 72,Z 73,Z 74,Z 75,Z 76,Z 77,Z 78,Z 79,Z 80,Z 81,Z 82,Z 83,Z 84,Z 85,Z 86,Z 87,Z 88,Z 89,Z 90,Z 91,Z 92,Z 93,Z 94,Z 95,Z 96,Z 97,Z 98,Z 99,Z 100,Z 101,Z 102,Z 103,Z 104,Z 105,Z 106,Z 107,Z 108,Z 109,Z 110,Z 111,Z 112,Z 113,Z 114,Z 115,Z 116,Z 117,Z 118,Z 119,Z 120,Z 121,Z 122,Z 123,Z 124,Z 125,Z 126,Z 127,Z 128,Z 129,Z 130,Z 131,Z 132,Z 133,Z 134,Z 135,Z 136,Z 137,Z 138,Z 139,Z 140,Z 141,Z 142,Z 143,Z 144,Z 145,Z 146,Z 147,Z 148,Z 149,Z 150,Z 151,Z 152,Z 153,Z 154,Z 155,Z 156,Z 157,Z 158,Z 159,Z 160,Z 161,Z 162,Z 163,Z 164,Z 165,Z 166,Z 167,Z 168,Z 169,Z 170,Z 171,Z 172, .v (.int .i64 (m : Int)), .v (.int .i64 (i : Int)), Z 175,Z 176,Z 177,Z 178,Z 179,Z 180,Z 181,Z 182,Z 183,Z 184,Z 185,Z 186,Z 187,Z 188,Z 189,Z 190,Z 191,Z 192,Z 193,Z 194,Z 195,Z 196,Z 197,Z 198,Z 199,Z 200,Z 201,Z 202,Z 203,Z 204,Z 205]) [[.int .i64 (n : Int), .int .i64 (n : Int), .slice A1 M.length c1]] H11 V13 s ∧ V12.le V13) ?_ ?_
      · obtain ⟨_, gA2⟩ := gA V12 hV12
        refine Gx.a (by kernel_rfl) fun K hK => ?_
        simp only [XN, XA, XB]
        refine ⟨by omega, by omega, ?_⟩
        refine ld_mem (by simpa using gA2 _ 22 1 shapeT_22) ?_
        simp only [XA, XB]
        refine hK _ ?_
        clear hK
        refine XWP.block ?_
        refine XWP.loopD 1 (fun q s => ∃ (k : Nat) (V13 : View), StIs (fun Z => [Z 0,Z 1,Z 2, .p 0 0, Z 4,Z 5,Z 6, .v (.slice (some ⟨b7, o7, none⟩) m c7), Z 8, .v (.slice (some ⟨b9, o9, none⟩) m c9), Z 10,Z 11,Z 12,Z 13,Z 14,Z 15,Z 16,Z 17,Z 18,Z 19,Z 20,Z 21,Z 22,Z 23,Z 24, .v (.int .i64 (i : Int)), .v (.int .i64 (cntP p k : Int)), Z 27,Z 28,Z 29,Z 30,Z 31,Z 32,Z 33,Z 34,Z 35,Z 36,Z 37,Z 38,Z 39,Z 40,Z 41,Z 42,Z 43,Z 44,Z 45,Z 46,Z 47,Z 48,Z 49,Z 50,Z 51,Z 52,Z 53,Z 54,Z 55,Z 56,Z 57,Z 58,Z 59,Z 60,Z 61,Z 62,Z 63,Z 64,Z 65,Z 66,Z 67,Z 68,Z 69,Z 70,Z 71,Z 72,Z 73,Z 74,Z 75,Z 76,Z 77,Z 78,Z 79,Z 80,Z 81,Z 82,Z 83,Z 84,Z 85,Z 86,Z 87,Z 88,Z 89,Z 90,Z 91,Z 92,Z 93,Z 94,Z 95,Z 96,Z 97,Z 98,Z 99,Z 100,Z 101,Z 102,Z 103,Z 104,Z 105,Z 106,Z 107,Z 108,Z 109,Z 110,Z 111,Z 112,Z 113,Z 114,Z 115,Z 116,Z 117,Z 118,Z 119,Z 120,Z 121,Z 122,Z 123,Z 124,Z 125,Z 126,Z 127,Z 128,Z 129,Z 130,Z 131,Z 132,Z 133,Z 134,Z 135,Z 136,Z 137,Z 138,Z 139,Z 140,Z 141,Z 142,Z 143,Z 144,Z 145,Z 146,Z 147,Z 148,Z 149,Z 150,Z 151,Z 152,Z 153,Z 154,Z 155,Z 156,Z 157,Z 158,Z 159,Z 160,Z 161,Z 162,Z 163,Z 164,Z 165,Z 166,Z 167,Z 168,Z 169,Z 170,Z 171,Z 172, .v (.int .i64 (m : Int)), .v (.int .i64 (i : Int)), Z 175,Z 176,Z 177,Z 178,Z 179,Z 180, .v (.int .i64 (p.length : Int)), .v (.int .i64 (k : Int)), Z 183,Z 184,Z 185,Z 186,Z 187,Z 188,Z 189,Z 190,Z 191,Z 192,Z 193,Z 194,Z 195,Z 196,Z 197,Z 198,Z 199,Z 200,Z 201,Z 202,Z 203,Z 204,Z 205]) [[.int .i64 (n : Int), .int .i64 (n : Int), .slice A1 M.length c1]] H11 V13 s ∧ q + k = p.length ∧ V12.le V13) p.length ⟨0, V12, StIs.of (by exact rfl), by omega, View.le_refl _⟩ ?_
        clear gA2
        rintro q2 s ⟨k, V13, hst, hq2, hV13⟩
        obtain ⟨z, rfl⟩ := hst.out
        try dsimp only
        clear hst
        by_cases hk : k < p.length
        rotate_left
        · obtain rfl : k = p.length := by omega
          have b3 : decide ((p.length : Int) < (p.length : Int)) = false := decide_eq_false (by omega)
          rw [lA, ecnt]
          rw [lA] at b3
          refine Gx.a (by kernel_rfl) fun K hK => ?_
          simp only [XA, XB, b3]
          refine hK _ ?_
          refine XWP.seq (Gx.f rfl ?_)
          refine XWP.exit ?_
          exact fun f => ⟨V13, StIs.of (by exact rfl), hV13⟩
        have b3 : decide ((k : Int) < (p.length : Int)) = true := decide_eq_true (by omega)
        refine Gx.a (by kernel_rfl) fun K hK => ?_
        simp only [XA, XB, b3]
        refine hK _ ?_
        refine XWP.seq (Gx.t rfl ?_)
        refine XWP.skip ?_
        obtain ⟨gA1, gA2⟩ := gA V13 (View.le_trans hV12 hV13)
        obtain ⟨m6, n6, d6, hx6, _, hld6⟩ := Rats.get gA1 k hk
        have f6 := (qA k (by omega)).qf (by omega)
        have hle := cntP_le p k
        have hsu := cntP_succ p k
        refine XWP.cut (fun s => ∃ V14, StIs (fun Z => [Z 0,Z 1,Z 2, .p 0 0, Z 4,Z 5,Z 6, .v (.slice (some ⟨b7, o7, none⟩) m c7), Z 8, .v (.slice (some ⟨b9, o9, none⟩) m c9), Z 10,Z 11,Z 12,Z 13,Z 14,Z 15,Z 16,Z 17,Z 18,Z 19,Z 20,Z 21,Z 22,Z 23,Z 24, .v (.int .i64 (i : Int)), .v (.int .i64 (cntP p (k + 1) : Int)), Z 27,Z 28,Z 29,Z 30,Z 31,Z 32,Z 33,Z 34,Z 35,Z 36,Z 37,Z 38,Z 39,Z 40,Z 41,Z 42,Z 43,Z 44,Z 45,Z 46,Z 47,Z 48,Z 49,Z 50,Z 51,Z 52,Z 53,Z 54,Z 55,Z 56,Z 57,Z 58,Z 59,Z 60,Z 61,Z 62,Z 63,Z 64,Z 65,Z 66,Z 67,Z 68,Z 69,Z 70,Z 71,Z 72,Z 73,Z 74,Z 75,Z 76,Z 77,Z 78,Z 79,Z 80,Z 81,Z 82,Z 83,Z 84,Z 85,Z 86,Z 87,Z 88,Z 89,Z 90,Z 91,Z 92,Z 93,Z 94,Z 95,Z 96,Z 97,Z 98,Z 99,Z 100,Z 101,Z 102,Z 103,Z 104,Z 105,Z 106,Z 107,Z 108,Z 109,Z 110,Z 111,Z 112,Z 113,Z 114,Z 115,Z 116,Z 117,Z 118,Z 119,Z 120,Z 121,Z 122,Z 123,Z 124,Z 125,Z 126,Z 127,Z 128,Z 129,Z 130,Z 131,Z 132,Z 133,Z 134,Z 135,Z 136,Z 137,Z 138,Z 139,Z 140,Z 141,Z 142,Z 143,Z 144,Z 145,Z 146,Z 147,Z 148,Z 149,Z 150,Z 151,Z 152,Z 153,Z 154,Z 155,Z 156,Z 157,Z 158,Z 159,Z 160,Z 161,Z 162,Z 163,Z 164,Z 165,Z 166,Z 167,Z 168,Z 169,Z 170,Z 171,Z 172, .v (.int .i64 (m : Int)), .v (.int .i64 (i : Int)), Z 175,Z 176,Z 177,Z 178,Z 179,Z 180, .v (.int .i64 (p.length : Int)), .v (.int .i64 (k : Int)), Z 183,Z 184,Z 185,Z 186,Z 187,Z 188,Z 189,Z 190,Z 191,Z 192,Z 193,Z 194,Z 195,Z 196,Z 197,Z 198,Z 199,Z 200,Z 201,Z 202,Z 203,Z 204,Z 205]) [[.int .i64 (n : Int), .int .i64 (n : Int), .slice A1 M.length c1]] H11 V14 s ∧ V13.le V14) ?_ ?_
        · refine XWP.block ?_
          refine Gx.a (by kernel_rfl) fun K hK => ?_
          simp only [XA]
          refine hK _ ?_
          refine Gx.a (by kernel_rfl) fun K hK => ?_
          simp only [XN, XA, XB]
          refine ⟨by omega, by omega, ?_⟩
          refine ld_mem (by simpa using gA2 _ 22 1 shapeT_22) ?_
          simp only [XA, XB]
          refine ⟨by omega, by omega, ld_mem (hld6 _) ?_⟩
          simp only [XA]
          refine call_go (by kernel_rfl) rfl (psign_c _ _ _ (hx6.toV f6)) fun v14 V14 hV14 h14 => ?_
          subst h14
          have es := sgI_pos (pA k (by omega))
          by_cases hz : cf p k = 0
          · rw [show decide (cf p k ≠ 0) = false from decide_eq_false (fun g => g hz)] at es
            rw [if_pos hz, Nat.add_zero] at hsu
            simp only [XA, XB, es]
            refine hK _ ?_
            refine Gx.f rfl ?_
            refine XWP.skip ?_
            exact ⟨V14, by rw [hsu]; exact StIs.of (by exact rfl), hV14⟩
          · rw [show decide (cf p k ≠ 0) = true from decide_eq_true hz] at es
            rw [if_neg hz] at hsu
            simp only [XA, XB, es]
            refine hK _ ?_
            refine Gx.t rfl ?_
            refine Gx.c (by kernel_rfl) fun K hK => ?_
            simp only [XA, XB, i64_succ (cntP p k) (by omega)]
            exact hK _ ⟨V14, by rw [hsu]; exact StIs.of (by exact rfl), hV14⟩
        rintro s ⟨V14, hst, hV14⟩
        obtain ⟨z, rfl⟩ := hst.out
        try dsimp only
        refine Gx.c (by kernel_rfl) fun K hK => ?_
        simp only [XA, XB, i64_succ k (by omega)]
        exact hK _ ⟨q2 - 1, by omega, fun f => ⟨k + 1, V14, StIs.of (by exact rfl), by omega, View.le_trans hV13 hV14⟩⟩
      rintro s ⟨V13, hst, hV13⟩
      obtain ⟨z, rfl⟩ := hst.out
      try dsimp only
      clear hst
      obtain ⟨_, gC2⟩ := gC V13 (View.le_trans hV12 hV13)
      have b5 : decide ((C.length : Int) = (C.length : Int)) = true := decide_eq_true rfl
      refine Gx.a (by kernel_rfl) fun K hK => ?_
      simp only [XN, XA]
      refine ⟨by omega, by omega, ?_⟩
      refine ld_mem (by simpa using gC2 _ 34 1 shapeT_34) ?_
      simp only [XN, XA, XB, decide_true]
      refine hK _ ?_
      refine Gx.f rfl ?_
      refine XWP.skip ?_
      exact ⟨V13, StIs.of (by exact rfl), hV13⟩
    rintro s ⟨V13, hst, hV13⟩
    obtain ⟨z, rfl⟩ := hst.out
    try dsimp only
    refine Gx.c (by kernel_rfl) fun K hK => ?_
    simp only [XA, XB, i64_succ i (by omega)]
    exact hK _ ⟨q - 1, by omega, fun f => ⟨i + 1, V13, StIs.of (by exact rfl), by omega, View.le_trans hV12 hV13⟩⟩
  rintro s ⟨V12, hst⟩
  obtain ⟨z, rfl⟩ := hst.out
  try dsimp only
  refine Gx.a (by kernel_rfl) fun K hK => ?_
  simp only [XA]
  refine call_go (by kernel_rfl) rfl (alive34_c _) fun v18 V18 hV18 k18 => ?_
  subst k18
  simp only [XA]
  refine hK _ (XWP.ret ?_)
  try simp only [thenX_ret, inBlockX_ret]
  refine ret_go _ rfl ?_
  rfl
end Go.Proofs.YtkgmicakfmllmaaGreat
end
section
namespace Go.Proofs.YtkgmicakfmllmaaGreat.balanceMixes
open Go.ChangeShapes Go.WideShapes Go.ChangeAt Go.RowKit
set_option linter.unusedVariables false
theorem own : ownKnob Tryz.prog.godebug = none := by kernel_rfl
theorem laidOut : laidOutB Tryz.prog = true := by kernel_rfl
set_option maxRecDepth 100000 in
theorem lifted (os : Os) (started : os.Started) (H : Type) (enc : TypeId × Value → H) :
    ReturnsInHanded {} Tryz.checked os 4 .any (Rows.balanceMixesSpec.pre6 enc Tryz.prog Tryz.f4 Rows.balanceMixesRow.domain false) (Rows.balanceMixesSpec.post enc Tryz.prog Tryz.f4 false true false false) := by
  refine returnsInHanded_of_change_sized (C := Tryz.checked) own started (by kernel_rfl) Tryz.func4
    (ChangeSpec.witness6 (enc := enc) (C := Tryz.checked) false ⟨#[], #[.agg #[.int .i64 0, .int .i64 0, .slice none 0 0], .slice none 0 0, .slice none 0 0], []⟩ 8 (by kernel_rfl) (by kernel_rfl) (by kernel_rfl) (by kernel_rfl)) ?_
  intro W base args ds gs before hval0 hW hcnd hsz0 _
  have hval : ∀ (j : Nat) t v, Tryz.f4.params[j]? = some t → args[j]? = some v → Value.okWide Tryz.prog W .any base t v := hval0
  have hW' := hW
  obtain ⟨p, q, hA0, hV, rfl, hfz, hnd⟩ := hW
  have hA : DataW.TrodAll enc Tryz.prog W 0 (fun _ => true) true Tryz.f4.params.toList args.toList ds p := hA0
  rw [Tryz.params4] at hA hval
  obtain ⟨v0, vs0, d0, ds0, p0, q0, hargs, rfl, rfl, h0, r0⟩ := trodAll_cons hA
  obtain ⟨v1, vs1, d1, ds1, p1, q1, rfl, rfl, rfl, h1, r1⟩ := trodAll_cons r0
  obtain ⟨v2, vs2, d2, ds2, p2, q2, rfl, rfl, rfl, h2, r2⟩ := trodAll_cons r1
  obtain ⟨rfl, rfl, rfl⟩ := trodAll_nil r2
  obtain rfl : args = #[v0, v1, v2] := by cases args; simp_all
  obtain ⟨rfl, rfl⟩ := trodVars_none hV
  obtain ⟨c0, rfl, _⟩ := okWide_struct und_mat (hval 0 24 v0 rfl rfl)
  have k0 := h0
  have lt0 : ∀ x ∈ p0, x.block < W.heap.size := by obtain ⟨m, hm⟩ := k0; exact DataW.trod_lt m _ _ _ hm
  obtain ⟨fuel0, hf0⟩ := h0
  obtain ⟨r0r, r0c, s0, L0, j0, hL0⟩ := open_mat hf0
  obtain rfl : c0 = #[.int .i64 r0r, .int .i64 r0c, s0] := by cases c0; simpa [Value.cells] using j0
  obtain ⟨a1, len1, cap1, rfl⟩ := okWide_slice (und_elem (P := Tryz.prog) (e := 49) (by kernel_rfl)) (hval 1 22 v1 rfl rfl)
  have k1 := h1
  have lt1 : ∀ x ∈ p1, x.block < W.heap.size := by obtain ⟨m, hm⟩ := k1; exact DataW.trod_lt m _ _ _ hm
  obtain ⟨fuel1, hf1⟩ := h1
  obtain ⟨L1, hL1⟩ := open_raws (by kernel_rfl) hf1
  obtain ⟨a2, len2, cap2, rfl⟩ := okWide_slice (und_elem (P := Tryz.prog) (e := 3) (by kernel_rfl)) (hval 2 34 v2 rfl rfl)
  have k2 := h2
  have lt2 : ∀ x ∈ p2, x.block < W.heap.size := by obtain ⟨m, hm⟩ := k2; exact DataW.trod_lt m _ _ _ hm
  obtain ⟨fuel2, hf2⟩ := h2
  obtain ⟨L2, hL2⟩ := open_ilist hf2
  clear hA0 hval0 hsz0
  refine (mixes34_c (viewW W) _ _ _ r0r r0c L0 L1 L2 hL0 hL1 hL2 W (viewW_sub W)).mono fun e W' ⟨v, V', he, _, _, _, bel, hv⟩ => ?_
  subst hv
  subst he
  exact ⟨_, rfl, _, _, _, [], _, [], hW', trodAll_mk1 (shut_bool Tryz.underlying4 _), (trodAll_cons_mk (Below.trod laidOut (by kernel_rfl) (of_decide_eq_true (by kernel_rfl)) k0 bel lt0) (trodAll_cons_mk (Below.trod laidOut (by kernel_rfl) (of_decide_eq_true (by kernel_rfl)) k1 bel lt1) (trodAll_cons_mk (Below.trod laidOut (by kernel_rfl) (of_decide_eq_true (by kernel_rfl)) k2 bel lt2) trodAll_mk0))), rfl, bel.frame _, fun h => by cases h⟩
theorem over : Rows.balanceMixesRow.holds Tryz.pinned (OpenSpec.ofChange Rows.balanceMixesSpec) :=
  OpenClaim.holds_of_wide 4 Tryz.f4 rfl rfl rfl rfl rfl rfl rfl ⟨rfl, rfl, rfl, rfl, rfl⟩ rfl rfl rfl rfl rfl (by kernel_rfl) Tryz.func4 (by kernel_rfl)
    (of_decide_eq_true (by kernel_rfl)) (by unfold Func.isWrapper; first | (rw [if_pos (by decide +kernel)]; kernel_rfl) | (rw [if_neg (by decide +kernel)]; exact ⟨rfl, rfl⟩))
    (fun os started H enc _ => lifted os started H enc)
theorem proved : Rows.BalanceMixesSaid := over
#print axioms proved
end Go.Proofs.YtkgmicakfmllmaaGreat.balanceMixes
namespace Go.Proofs.YtkgmicakfmllmaaGreat
/-- The row, under a short name, for the claim. -/
theorem balanceMixes_holds : Rows.BalanceMixesSaid := balanceMixes.proved
end Go.Proofs.YtkgmicakfmllmaaGreat
end
