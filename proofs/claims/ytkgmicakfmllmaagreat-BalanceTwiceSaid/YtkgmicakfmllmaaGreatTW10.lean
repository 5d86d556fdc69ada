/- The law BalanceTwice (the time reversal with respect to the only stationary distribution is stochastic, leaves it as it is, and its own reversal is the matrix) answers true at every matrix: no premise. (part 10 of 11) -/
import Derived.OrdersHeld
import Derived.Below
import Derived.Tactics
import Derived.KernelRfl
import Derived.RangeFuncCalls
import Derived.RangeFuncFrom
import Derived.RangeFuncLeaves
import Derived.OrdersIn
import Derived.Laws.AppendOwn
import Derived.Laws.MakeOwn
import Derived.Laws.CopyRow
import Derived.Laws.Cells
import Derived.Laws.World
import Derived.Laws.Alloc2
import Derived.Laws.NewBlocks
import Derived.Maps.AppendAt
import Derived.Test.YtkgmicakfmllmaaGreatProg
import Init.Data.List.Lemmas
import Init.Omega
import Derived.WalkKit
import Derived.ProofKit
import Derived.OpenShut
import Derived.ChangeOld
import Derived.SizedLaws
import Derived.ChangeSlices
import Derived.ChangeArms
import Derived.Deep.Slices
import Derived.Test.YtkgmicakfmllmaaGreatTW9
section
namespace Go.Proofs.YtkgmicakfmllmaaGreat
open Go Go.RowKit
set_option linter.unusedSimpArgs false
set_option linter.unusedVariables false
attribute [local irreducible] XWP Spec SpecO XPub XCall seqX clX apX stX ldX iaX slX
theorem LinG.congr {G G' : Grid} {R n : Nat} {r r' x : Nat → Rat} (h : LinG G R n r x) (e : ∀ i j, i < R → j < n → G i j = G' i j) (er : ∀ i, i < R → r i = r' i) : LinG G' R n r' x := fun i hi => by
  rw [← er i hi, ← h i hi]
  exact Sm_congr _ fun j hj => by rw [e i j hi hj]
theorem UniG.congr {G G' : Grid} {R n : Nat} (h : UniG G R n) (e : ∀ i j, i < R → j < n → G i j = G' i j) : UniG G' R n := fun x hx => h x (hx.congr (fun i j hi hj => (e i j hi hj).symm) fun _ _ => rfl)
theorem gridL_flat (G : Grid) {R C i j : Nat} (hi : i < R) (hj : j < C) : gridL (flatG G R C) C i j = G i j := flatG_at G hi hj
/-- the right-hand sides -/
def oneB (n : Nat) (k : Nat) : Rat := if k + 1 = n then 1 else 0
/-- parts of a class, laid at their states -/
def scat (C : List Nat) (X : Nat → Rat) (n : Nat) : Nat → List Rat
  | 0 => mk n fun _ => 0
  | k + 1 => (scat C X n k).set (C.getD k 0) (X k)
theorem scat_len (C : List Nat) (X : Nat → Rat) (n : Nat) : ∀ k, (scat C X n k).length = n
  | 0 => mk_len _ _
  | k + 1 => by rw [scat, List.length_set]; exact scat_len C X n k
theorem scat_congr {C : List Nat} {X Y : Nat → Rat} {n : Nat} : ∀ k, (∀ j, j < k → X j = Y j) → scat C X n k = scat C Y n k
  | 0, _ => rfl
  | k + 1, h => by rw [scat, scat, scat_congr k fun j hj => h j (by omega), h k (by omega)]
theorem scat_mem {C : List Nat} {X : Nat → Rat} {n : Nat} {P : Rat → Prop} (h0 : P 0) : ∀ k, (∀ j, j < k → P (X j)) → ∀ x ∈ scat C X n k, P x
  | 0, _, x, hx => by
    unfold scat mk at hx
    obtain ⟨_, _, rfl⟩ := List.mem_map.1 hx
    exact h0
  | k + 1, h, x, hx => by
    rw [scat] at hx
    rcases List.mem_or_eq_of_mem_set hx with h1 | rfl
    · exact scat_mem h0 k (fun j hj => h j (by omega)) x h1
    · exact h k (by omega)
theorem own_keep {H H' : Heap} {V : View} {e e2 sz sz2 n n2 : Nat} {v v' v2 : Value} {xs xs2 : List Value} (h2 : Own H e2 sz2 v2 n2 xs2) (h : AppRes H V e sz v n xs v' H') (hd : ∀ b, v2.ownBlock = some b → v.ownBlock ≠ some b) : Own H' e2 sz2 v2 n2 xs2 ∧ ∀ b, v2.ownBlock = some b → v'.ownBlock ≠ some b := by
  rcases h2.2 with ⟨rfl, hn⟩ | ⟨b, cap, rfl, hb, h3⟩
  · exact ⟨⟨h2.1, .inl ⟨rfl, hn⟩⟩, fun b e => by cases e⟩
  · have := app_keep h hb (hd b rfl)
    exact ⟨⟨h2.1, .inr ⟨b, cap, rfl, this.1, h3⟩⟩, fun b' e => by
      have : b = b' := by simpa [Value.ownBlock] using e
      subst this; exact (app_keep h hb (hd b rfl)).2⟩
theorem lawQ_QB {l : List Rat} {n B : Nat} {C : List Nat} (hq : ∀ x ∈ l, QB B x) (ll : l.length = n * n) (hC : ∀ x ∈ C, x < n) {k i : Nat} (hk : k < C.length) (hi : i < C.length) : QB (B + 1) (lawG (subG (gridL l n) C) C.length k i) := by
  have hm : ∀ j, j < C.length → C.getD j 0 < n := fun j hj => hC _ (by rw [List.getD_eq_getElem?_getD, List.getElem?_eq_getElem hj]; exact List.getElem_mem hj)
  have h1 : QB B (subG (gridL l n) C i k) := hq _ (cf_mem (by rw [ll]; exact pos_lt (hm i hi) (hm k hk)))
  unfold lawG
  split
  · exact QB_one _
  · split
    · exact (h1.sub (QB_one 0)).mono (by omega)
    · exact h1.mono (by omega)
set_option maxHeartbeats 4000000 in
theorem balone_c (V : View) (s vC : Value) (n B : Nat) (l : List Rat) (C : List Nat) (h : Rats V s l) (ll : l.length = n * n) (hn : n ≤ 60) (hC : Sl1 natE V vC C) (hlt : ∀ x ∈ C, x < n) (h1 : 1 ≤ C.length) (hl : C.length ≤ 60)
    (hu : UniG (lawG (subG (gridL l n) C) C.length) C.length C.length) (hq : ∀ x ∈ l, QB B x) (hB : ge (B + 1) (2 * C.length + 1) ≤ 17592186044416) :
    Spec Tryz.prog 58 [.agg #[.int .i64 (n : Int), .int .i64 (n : Int), s], vC] V fun v' V' => ∃ X : Nat → Rat, LinG (lawG (subG (gridL l n) C) C.length) C.length C.length (oneB C.length) X ∧ (∀ j, j < C.length → QB (2 * ge (B + 1) (2 * C.length)) (X j)) ∧ Rats V' v' (scat C X n C.length) := by
  obtain ⟨A, cp, rfl, hc, hm⟩ := h.form
  obtain ⟨A2, c2, rfl, hc2, hm2⟩ := hC.form
  obtain ⟨m, hmm⟩ : ∃ m, m = C.length := ⟨_, rfl⟩
  obtain ⟨bC, oC, rfl⟩ := hC.addr (by omega)
  obtain ⟨Q, hQ⟩ : ∃ Q, Q = lawG (subG (gridL l n) C) C.length := ⟨_, rfl⟩
  have hqQ : ∀ k i, k < m → i < m → QB (B + 1) (Q k i) := fun k i hk hi => by rw [hQ]; exact lawQ_QB hq ll hlt (by omega) (by omega)
  have hQd : ∀ k i, Q k i = if k + 1 = m then 1 else if i = k then cf l (C.getD i 0 * n + C.getD k 0) - 1 else cf l (C.getD i 0 * n + C.getD k 0) := fun k i => by rw [hQ, hmm]; rfl
  rw [← hQ] at hu ⊢
  have hnn : n * n ≤ 3600 := Nat.le_trans (Nat.mul_le_mul hn hn) (by decide)
  have hmmm : m * m ≤ 3600 := Nat.le_trans (Nat.mul_le_mul (by omega) (by omega)) (by decide : 60 * 60 ≤ 3600)
  have hB0 : B + 1 ≤ 17592186044416 := Nat.le_trans (ge_le _ _) hB
  have hCl : ∀ i, i < m → C.getD i 0 < n ∧ ∀ V', V.le V' → ∀ H, Loads Tryz.prog H V' 3 bC (oC + i) (.int .i64 ((C.getD i 0 : Nat) : Int)) := fun i hi => by
    have hi' : i < C.length := by omega
    have e : C.getD i 0 = C[i] := by rw [List.getD_eq_getElem?_getD, List.getElem?_eq_getElem hi']; rfl
    refine ⟨by rw [e]; exact hlt _ (List.getElem_mem hi'), fun V' hV H => ?_⟩
    obtain ⟨u, g1, _, g2⟩ := Sl1.load (hC.mono natE_ok hV) i hi'
    cases g1
    rw [e]; exact g2 H _ _ shapeT_3
  rw [← hmm] at hu hl h1 hc2 hB ⊢
  clear hC
  refine (Spec.enter Tryz.func58 rfl fun Γ => ?_)
  simp only [Tryz.ntmps58, List.map_cons, List.map_nil, List.length_cons, List.length_nil, Nat.reduceAdd, Nat.reduceSub, List.replicate_succ, List.replicate_zero, List.cons_append, List.nil_append]
  refine Gx.a (by kernel_rfl) fun K hK => ?_
  simp only [XA]
  refine hK _ ?_
  refine Gx.a (by kernel_rfl) fun K hK => ?_
  simp only [XN, XA]
  refine hK _ ?_
  refine Gx.a (by kernel_rfl) fun K hK => ?_
  simp only [XA]
  refine bd_go (by kernel_rfl) #[(0, .int .i64 (m : Int)), (1, .int .i64 (m : Int))] (by simp [ev_tmp, SV.val]) (bd_mtx2 rfl rfl) ?_
  simp only [XA]
  refine bd_go (by kernel_rfl) #[(0, .int .i64 (m : Int)), (1, .int .i64 1)] (by simp [ev_tmp, ev_const, SV.val]) (bd_mtx2 rfl rfl) ?_
  simp only [XM, XA, Nat.reduceAdd]
  refine st_mat shapeT_24 rfl rfl rfl rfl rfl ?_
  simp only [XA]
  refine st_mat shapeT_24 rfl rfl rfl rfl rfl ?_
  simp only [XA]
  refine hK _ ?_
  refine XWP.cutD 3 (fun s => ∃ (V2 : View) (H2 : Heap) (sa sb : Value) (ca cb : List Value), StIs (fun Z => [Z 0, .v (.slice (some ⟨bC, oC, none⟩) m c2), .p 0 0, Z 3,Z 4, .v (.int .i64 (m : Int)), .p 1 0, .p 2 0, Z 8,Z 9,Z 10,Z 11,Z 12,Z 13,Z 14,Z 15,Z 16,Z 17,Z 18,Z 19,Z 20,Z 21,Z 22,Z 23,Z 24,Z 25,Z 26,Z 27,Z 28,Z 29,Z 30,Z 31,Z 32,Z 33,Z 34,Z 35,Z 36,Z 37,Z 38,Z 39,Z 40,Z 41,Z 42,Z 43,Z 44,Z 45,Z 46,Z 47,Z 48,Z 49,Z 50,Z 51,Z 52,Z 53,Z 54,Z 55,Z 56,Z 57,Z 58,Z 59,Z 60,Z 61,Z 62,Z 63,Z 64,Z 65,Z 66,Z 67,Z 68,Z 69,Z 70,Z 71,Z 72,Z 73,Z 74,Z 75,Z 76,Z 77,Z 78,Z 79,Z 80,Z 81,Z 82,Z 83,Z 84,Z 85,Z 86,Z 87,Z 88,Z 89,Z 90,Z 91,Z 92,Z 93,Z 94,Z 95,Z 96,Z 97,Z 98,Z 99,Z 100,Z 101,Z 102,Z 103,Z 104,Z 105,Z 106,Z 107]) [[.int .i64 (n : Int), .int .i64 (n : Int), .slice A l.length cp], [.int .i64 (m : Int), .int .i64 (m : Int), sa], [.int .i64 (m : Int), .int .i64 1, sb]] H2 V2 s ∧ V.le V2 ∧ Own H2 49 3 sa (m * m) ca ∧ RowAt ratE V2 ca (mk (m * m) (flatF Q m)) ∧ Own H2 49 3 sb m cb ∧ RowAt ratE V2 cb (mk m (oneB m)) ∧ ∀ b, sa.ownBlock = some b → sb.ownBlock ≠ some b) ?_ ?_
  · refine Gx.a (by kernel_rfl) fun K hK => ?_
    simp only [XN, XA]
    refine hK _ ?_
    clear hK
    refine XWP.block ?_
    refine XWP.loopD 3 (fun q s => ∃ (k : Nat) (V2 : View) (H2 : Heap) (sa sb : Value) (ca cb : List Value), StIs (fun Z => [Z 0, .v (.slice (some ⟨bC, oC, none⟩) m c2), .p 0 0, Z 3,Z 4, .v (.int .i64 (m : Int)), .p 1 0, .p 2 0, Z 8,Z 9,Z 10,Z 11,Z 12,Z 13,Z 14,Z 15,Z 16,Z 17,Z 18,Z 19,Z 20,Z 21,Z 22,Z 23,Z 24,Z 25,Z 26, .v (.slice (some ⟨bC, oC, none⟩) m c2), .v (.int .i64 (m : Int)), .v (.int .i64 (k : Int)), Z 30,Z 31,Z 32,Z 33,Z 34,Z 35,Z 36,Z 37,Z 38,Z 39,Z 40,Z 41,Z 42,Z 43,Z 44,Z 45,Z 46,Z 47,Z 48,Z 49,Z 50,Z 51,Z 52,Z 53,Z 54,Z 55,Z 56,Z 57,Z 58,Z 59,Z 60,Z 61,Z 62,Z 63,Z 64,Z 65,Z 66,Z 67,Z 68,Z 69,Z 70,Z 71,Z 72,Z 73,Z 74,Z 75,Z 76,Z 77,Z 78,Z 79,Z 80,Z 81,Z 82,Z 83,Z 84,Z 85,Z 86,Z 87,Z 88,Z 89,Z 90,Z 91,Z 92,Z 93,Z 94,Z 95,Z 96,Z 97,Z 98,Z 99,Z 100,Z 101,Z 102,Z 103,Z 104,Z 105,Z 106,Z 107]) [[.int .i64 (n : Int), .int .i64 (n : Int), .slice A l.length cp], [.int .i64 (m : Int), .int .i64 (m : Int), sa], [.int .i64 (m : Int), .int .i64 1, sb]] H2 V2 s ∧ q + k = m ∧ V.le V2 ∧ Own H2 49 3 sa (k * m) ca ∧ RowAt ratE V2 ca (mk (k * m) (flatF Q m)) ∧ Own H2 49 3 sb k cb ∧ RowAt ratE V2 cb (mk k (oneB m)) ∧ ∀ b, sa.ownBlock = some b → sb.ownBlock ≠ some b) m ⟨0, V, _, _, _, [], [], StIs.of (by exact rfl), by omega, View.le_refl _, by rw [Nat.zero_mul]; exact own_nil, by rw [Nat.zero_mul]; exact RowAt.nil _, own_nil, RowAt.nil _, fun b e => by cases e⟩ ?_
    rintro q s ⟨k, V2, H2, sa, sb, ca, cb, hs, hqk, hV2, hoa, hra, hob, hrb, hdis⟩
    obtain ⟨z, rfl⟩ := hs.out
    try dsimp only
    clear hs
    by_cases hk : k < m
    rotate_left
    · obtain rfl : k = m := by omega
      have b1 : decide ((k : Int) < (k : Int)) = false := decide_eq_false (by omega)
      refine Gx.a (by kernel_rfl) fun K hK => ?_
      simp only [XA, XB, b1]
      refine hK _ ?_
      refine XWP.seq (Gx.f rfl ?_)
      refine XWP.exit ?_
      exact fun f => ⟨V2, H2, sa, sb, ca, cb, StIs.of (by exact rfl), hV2, hoa, hra, hob, hrb, hdis⟩
    have b1 : decide ((k : Int) < (m : Int)) = true := decide_eq_true (by omega)
    refine Gx.a (by kernel_rfl) fun K hK => ?_
    simp only [XA, XB, b1]
    refine hK _ ?_
    refine XWP.seq (Gx.t rfl ?_)
    refine XWP.skip ?_
    obtain ⟨hck, hldk⟩ := hCl k hk
    refine XWP.cutD 3 (fun s => ∃ (V3 : View) (H3 : Heap) (sa sb : Value) (ca cb : List Value), StIs (fun Z => [Z 0, .v (.slice (some ⟨bC, oC, none⟩) m c2), .p 0 0, Z 3,Z 4, .v (.int .i64 (m : Int)), .p 1 0, .p 2 0, Z 8,Z 9,Z 10,Z 11,Z 12,Z 13,Z 14,Z 15,Z 16,Z 17,Z 18,Z 19,Z 20,Z 21,Z 22,Z 23,Z 24,Z 25,Z 26, .v (.slice (some ⟨bC, oC, none⟩) m c2), .v (.int .i64 (m : Int)), .v (.int .i64 (k : Int)), Z 30,Z 31,Z 32,Z 33,Z 34,Z 35,Z 36,Z 37,Z 38,Z 39,Z 40,Z 41,Z 42,Z 43,Z 44,Z 45,Z 46,Z 47,Z 48,Z 49,Z 50,Z 51,Z 52,Z 53,Z 54,Z 55,Z 56,Z 57,Z 58,Z 59,Z 60,Z 61,Z 62,Z 63,Z 64,Z 65,Z 66,Z 67,Z 68,Z 69,Z 70,Z 71,Z 72,Z 73,Z 74,Z 75,Z 76,Z 77,Z 78,Z 79,Z 80,Z 81,Z 82,Z 83,Z 84,Z 85,Z 86,Z 87,Z 88,Z 89,Z 90,Z 91,Z 92,Z 93,Z 94,Z 95,Z 96,Z 97,Z 98,Z 99,Z 100,Z 101,Z 102,Z 103,Z 104,Z 105,Z 106,Z 107]) [[.int .i64 (n : Int), .int .i64 (n : Int), .slice A l.length cp], [.int .i64 (m : Int), .int .i64 (m : Int), sa], [.int .i64 (m : Int), .int .i64 1, sb]] H3 V3 s ∧ V2.le V3 ∧ Own H3 49 3 sa ((k + 1) * m) ca ∧ RowAt ratE V3 ca (mk ((k + 1) * m) (flatF Q m)) ∧ Own H3 49 3 sb (k + 1) cb ∧ RowAt ratE V3 cb (mk (k + 1) (oneB m)) ∧ ∀ b, sa.ownBlock = some b → sb.ownBlock ≠ some b) ?_ ?_
    · refine XWP.block ?_
      refine Gx.a (by kernel_rfl) fun K hK => ?_
      simp only [XN, XA, XB]
      refine ⟨by omega, by omega, ?_⟩
      refine ld_mem (by simpa using hldk V2 hV2 _) ?_
      simp only [XA]
      refine hK _ ?_
      refine Gx.a (by kernel_rfl) fun K hK => ?_
      simp only [XA]
      refine call_go (by kernel_rfl) rfl (qzero_c _) fun v4 V4 hV4 h4 => ?_
      obtain ⟨x4, y4, rfl, o1, o2⟩ := h4.form
      simp only [XA, XB, Nat.reduceAdd]
      refine st_rat rfl rfl rfl o1 o2 ?_
      simp only [XA]
      refine hK _ ?_
      refine XWP.cutD 4 (fun s => ∃ (V5 : View) (H5 : Heap) (sa : Value) (ca : List Value) (bs : Bool) (xs ys : Value), StIs (fun Z => [Z 0, .v (.slice (some ⟨bC, oC, none⟩) m c2), .p 0 0, Z 3,Z 4, .v (.int .i64 (m : Int)), .p 1 0, .p 2 0, .v (.int .i64 (k : Int)), Z 9, .p 3 0, Z 11,Z 12,Z 13,Z 14,Z 15,Z 16,Z 17,Z 18,Z 19,Z 20,Z 21,Z 22,Z 23,Z 24,Z 25,Z 26, .v (.slice (some ⟨bC, oC, none⟩) m c2), .v (.int .i64 (m : Int)), .v (.int .i64 (k : Int)), Z 30,Z 31,Z 32,Z 33,Z 34,Z 35,Z 36,Z 37,Z 38,Z 39,Z 40,Z 41,Z 42,Z 43,Z 44,Z 45,Z 46,Z 47,Z 48,Z 49,Z 50,Z 51,Z 52,Z 53,Z 54,Z 55,Z 56,Z 57,Z 58,Z 59,Z 60,Z 61,Z 62,Z 63,Z 64,Z 65,Z 66,Z 67,Z 68,Z 69,Z 70,Z 71,Z 72,Z 73,Z 74,Z 75,Z 76,Z 77,Z 78,Z 79,Z 80,Z 81,Z 82,Z 83,Z 84,Z 85,Z 86,Z 87,Z 88,Z 89,Z 90,Z 91,Z 92,Z 93,Z 94,Z 95,Z 96,Z 97,Z 98,Z 99,Z 100,Z 101,Z 102,Z 103,Z 104,Z 105,Z 106,Z 107]) [[.int .i64 (n : Int), .int .i64 (n : Int), .slice A l.length cp], [.int .i64 (m : Int), .int .i64 (m : Int), sa], [.int .i64 (m : Int), .int .i64 1, sb], [.bool bs, xs, ys]] H5 V5 s ∧ V2.le V5 ∧ Own H5 49 3 sa (k * m + m) ca ∧ RowAt ratE V5 ca (mk (k * m + m) (flatF Q m)) ∧ Own H5 49 3 sb k cb ∧ (∀ b, sb.ownBlock = some b → sa.ownBlock ≠ some b) ∧ RatC V5 (.agg #[.bool bs, xs, ys]) (oneB m k) ∧ isOne xs = true ∧ isOne ys = true) ?_ ?_
      · refine Gx.a (by kernel_rfl) fun K hK => ?_
        simp only [XN, XA]
        refine hK _ ?_
        clear hK
        refine XWP.block ?_
        refine XWP.loopD 4 (fun p s => ∃ (i : Nat) (V5 : View) (H5 : Heap) (sa : Value) (ca : List Value) (bs : Bool) (xs ys : Value), StIs (fun Z => [Z 0, .v (.slice (some ⟨bC, oC, none⟩) m c2), .p 0 0, Z 3,Z 4, .v (.int .i64 (m : Int)), .p 1 0, .p 2 0, .v (.int .i64 (k : Int)), .v (.int .i64 ((C.getD k 0 : Nat) : Int)), .p 3 0, Z 11,Z 12,Z 13,Z 14,Z 15,Z 16,Z 17,Z 18,Z 19,Z 20,Z 21,Z 22,Z 23,Z 24,Z 25,Z 26, .v (.slice (some ⟨bC, oC, none⟩) m c2), .v (.int .i64 (m : Int)), .v (.int .i64 (k : Int)), Z 30,Z 31,Z 32,Z 33,Z 34, .v (.slice (some ⟨bC, oC, none⟩) m c2), .v (.int .i64 (m : Int)), .v (.int .i64 (i : Int)), Z 38,Z 39,Z 40,Z 41,Z 42,Z 43,Z 44,Z 45,Z 46,Z 47,Z 48,Z 49,Z 50,Z 51,Z 52,Z 53,Z 54,Z 55,Z 56,Z 57,Z 58,Z 59,Z 60,Z 61,Z 62,Z 63,Z 64,Z 65,Z 66,Z 67,Z 68,Z 69,Z 70,Z 71,Z 72,Z 73,Z 74,Z 75,Z 76,Z 77,Z 78,Z 79,Z 80,Z 81,Z 82,Z 83,Z 84,Z 85,Z 86,Z 87,Z 88,Z 89,Z 90,Z 91,Z 92,Z 93,Z 94,Z 95,Z 96,Z 97,Z 98,Z 99,Z 100,Z 101,Z 102,Z 103,Z 104,Z 105,Z 106,Z 107]) [[.int .i64 (n : Int), .int .i64 (n : Int), .slice A l.length cp], [.int .i64 (m : Int), .int .i64 (m : Int), sa], [.int .i64 (m : Int), .int .i64 1, sb], [.bool bs, xs, ys]] H5 V5 s ∧ p + i = m ∧ V2.le V5 ∧ Own H5 49 3 sa (k * m + i) ca ∧ RowAt ratE V5 ca (mk (k * m + i) (flatF Q m)) ∧ Own H5 49 3 sb k cb ∧ (∀ b, sb.ownBlock = some b → sa.ownBlock ≠ some b) ∧ RatC V5 (.agg #[.bool bs, xs, ys]) (if 0 < i then oneB m k else 0) ∧ isOne xs = true ∧ isOne ys = true) m ⟨0, V4, H2, sa, ca, _, x4, y4, StIs.of (by exact rfl), by omega, hV4, hoa, hra.mono ratE_ok hV4, hob, fun b e1 e2 => hdis b e2 e1, h4, o1, o2⟩ ?_
        clear h4 o1 o2 hoa hra hob
        rintro p s ⟨i, V5, H5, sa, ca, bs, xs, ys, hs, hp, hV5, hoa, hra, hob, hds, h5, o1, o2⟩
        obtain ⟨z, rfl⟩ := hs.out
        try dsimp only
        clear hs
        by_cases hi : i < m
        rotate_left
        · obtain rfl : i = m := by omega
          have b2 : decide ((i : Int) < (i : Int)) = false := decide_eq_false (by omega)
          refine Gx.a (by kernel_rfl) fun K hK => ?_
          simp only [XA, XB, b2]
          refine hK _ ?_
          refine XWP.seq (Gx.f rfl ?_)
          refine XWP.exit ?_
          rw [if_pos (by omega)] at h5
          exact fun f => ⟨V5, H5, sa, ca, bs, xs, ys, StIs.of (by exact rfl), hV5, hoa, hra, hob, hds, h5, o1, o2⟩
        have b2 : decide ((i : Int) < (m : Int)) = true := decide_eq_true (by omega)
        refine Gx.a (by kernel_rfl) fun K hK => ?_
        simp only [XA, XB, b2]
        refine hK _ ?_
        refine XWP.seq (Gx.t rfl ?_)
        refine XWP.skip ?_
        obtain ⟨hci, hldi⟩ := hCl i hi
        have hp1 := pos_lt hk hi
        have hp2 := pos_lt hci hck
        have hle5 := View.le_trans hV2 hV5
        refine XWP.cutD 4 (fun s => ∃ (V6 : View) (H6 : Heap) (sa : Value) (ca : List Value) (bs : Bool) (xs ys : Value), StIs (fun Z => [Z 0, .v (.slice (some ⟨bC, oC, none⟩) m c2), .p 0 0, Z 3,Z 4, .v (.int .i64 (m : Int)), .p 1 0, .p 2 0, .v (.int .i64 (k : Int)), .v (.int .i64 ((C.getD k 0 : Nat) : Int)), .p 3 0, Z 11,Z 12,Z 13,Z 14,Z 15,Z 16,Z 17,Z 18,Z 19,Z 20,Z 21,Z 22,Z 23,Z 24,Z 25,Z 26, .v (.slice (some ⟨bC, oC, none⟩) m c2), .v (.int .i64 (m : Int)), .v (.int .i64 (k : Int)), Z 30,Z 31,Z 32,Z 33,Z 34, .v (.slice (some ⟨bC, oC, none⟩) m c2), .v (.int .i64 (m : Int)), .v (.int .i64 (i : Int)), Z 38,Z 39,Z 40,Z 41,Z 42,Z 43,Z 44,Z 45,Z 46,Z 47,Z 48,Z 49,Z 50,Z 51,Z 52,Z 53,Z 54,Z 55,Z 56,Z 57,Z 58,Z 59,Z 60,Z 61,Z 62,Z 63,Z 64,Z 65,Z 66,Z 67,Z 68,Z 69,Z 70,Z 71,Z 72,Z 73,Z 74,Z 75,Z 76,Z 77,Z 78,Z 79,Z 80,Z 81,Z 82,Z 83,Z 84,Z 85,Z 86,Z 87,Z 88,Z 89,Z 90,Z 91,Z 92,Z 93,Z 94,Z 95,Z 96,Z 97,Z 98,Z 99,Z 100,Z 101,Z 102,Z 103,Z 104,Z 105,Z 106,Z 107]) [[.int .i64 (n : Int), .int .i64 (n : Int), .slice A l.length cp], [.int .i64 (m : Int), .int .i64 (m : Int), sa], [.int .i64 (m : Int), .int .i64 1, sb], [.bool bs, xs, ys]] H6 V6 s ∧ V5.le V6 ∧ Own H6 49 3 sa (k * m + i + 1) ca ∧ RowAt ratE V6 ca (mk (k * m + i + 1) (flatF Q m)) ∧ Own H6 49 3 sb k cb ∧ (∀ b, sb.ownBlock = some b → sa.ownBlock ≠ some b) ∧ RatC V6 (.agg #[.bool bs, xs, ys]) (oneB m k) ∧ isOne xs = true ∧ isOne ys = true) ?_ ?_
        · refine XWP.block ?_
          refine Gx.a (by kernel_rfl) fun K hK => ?_
          simp only [XN, XA, XB]
          refine ⟨by omega, by omega, ?_⟩
          refine ld_mem (by simpa using hldi V5 hle5 _) ?_
          simp only [XA]
          refine hK _ ?_
          refine Gx.a (by kernel_rfl) fun K hK => ?_
          simp only [XM, XA, Nat.reduceAdd, Nat.reduceLeDiff, ↓reduceIte]
          refine call_go (by kernel_rfl) rfl (bat_c _ _ _ n (C.getD i 0) (C.getD k 0) l (h.up hle5) (by omega) hn (by omega) (by omega)) fun v7 V7 hV7 h7 => ?_
          obtain ⟨x7, y7, rfl, p1, p2⟩ := h7.form
          simp only [XA, XB, Nat.reduceAdd]
          refine st_rat rfl rfl rfl p1 p2 ?_
          simp only [XA]
          refine hK _ ?_
          obtain ⟨e0, he0⟩ : ∃ e0, e0 = cf l (C.getD i 0 * n + C.getD k 0) := ⟨_, rfl⟩
          have hqe : QB B e0 := by rw [he0]; exact hq _ (cf_mem (by omega))
          rw [← he0] at h7
          refine XWP.cutD 5 (fun s => ∃ (V8 : View) (br : Bool) (xr yr : Value), StIs (fun Z => [Z 0, .v (.slice (some ⟨bC, oC, none⟩) m c2), .p 0 0, Z 3,Z 4, .v (.int .i64 (m : Int)), .p 1 0, .p 2 0, .v (.int .i64 (k : Int)), .v (.int .i64 ((C.getD k 0 : Nat) : Int)), .p 3 0, .v (.int .i64 (i : Int)), Z 12, .p 4 0, Z 14,Z 15,Z 16,Z 17,Z 18,Z 19,Z 20,Z 21,Z 22,Z 23,Z 24,Z 25,Z 26, .v (.slice (some ⟨bC, oC, none⟩) m c2), .v (.int .i64 (m : Int)), .v (.int .i64 (k : Int)), Z 30,Z 31,Z 32,Z 33,Z 34, .v (.slice (some ⟨bC, oC, none⟩) m c2), .v (.int .i64 (m : Int)), .v (.int .i64 (i : Int)), Z 38,Z 39,Z 40,Z 41,Z 42,Z 43,Z 44,Z 45,Z 46,Z 47,Z 48,Z 49,Z 50,Z 51,Z 52,Z 53,Z 54,Z 55,Z 56,Z 57,Z 58,Z 59,Z 60,Z 61,Z 62,Z 63,Z 64,Z 65,Z 66,Z 67,Z 68,Z 69,Z 70,Z 71,Z 72,Z 73,Z 74,Z 75,Z 76,Z 77,Z 78,Z 79,Z 80,Z 81,Z 82,Z 83,Z 84,Z 85,Z 86,Z 87,Z 88,Z 89,Z 90,Z 91,Z 92,Z 93,Z 94,Z 95,Z 96,Z 97,Z 98,Z 99,Z 100,Z 101,Z 102,Z 103,Z 104,Z 105,Z 106,Z 107]) [[.int .i64 (n : Int), .int .i64 (n : Int), .slice A l.length cp], [.int .i64 (m : Int), .int .i64 (m : Int), sa], [.int .i64 (m : Int), .int .i64 1, sb], [.bool bs, xs, ys], [.bool br, xr, yr]] H5 V8 s ∧ V7.le V8 ∧ RatC V8 (.agg #[.bool br, xr, yr]) (if i = k then e0 - 1 else e0) ∧ isOne xr = true ∧ isOne yr = true) ?_ ?_
          · by_cases hik : i = k
            · subst hik
              rw [← he0]
              refine Gx.a (by kernel_rfl) fun K hK => ?_
              simp only [XA, XB, decide_true]
              refine hK _ ?_
              refine Gx.t rfl ?_
              (refine XWP.drw1 [0, 1, 2, 3] (by kernel_rfl) (by kernel_rfl) (by kernel_rfl) fun K hK => ?_) <;> dsimp only [pickOps, List.getElem?_cons_zero, List.getElem?_cons_succ]
              simp only [XA, XB, Nat.reduceAdd, Nat.reduceLeDiff, ↓reduceIte]
              refine call_go (by kernel_rfl) rfl (qone_c _) fun v8 V8 hV8 h8 => ?_
              simp only [XA]
              refine call_go (by kernel_rfl) rfl (qsub_c _ _ _ _ _ (h7.mono hV8) h8 (hqe.qf (by omega)) QF_one) fun v9 V9 hV9 h9 => ?_
              obtain ⟨x9, y9, rfl, r1, r2⟩ := h9.form
              simp only [XA]
              refine st_rat rfl rfl rfl r1 r2 ?_
              simp only [XA]
              exact hK _ fun f => ⟨V9, _, x9, y9, StIs.of (by exact rfl), View.le_trans hV8 hV9, by rw [if_pos rfl]; exact h9, r1, r2⟩
            · have b4 : decide ((i : Int) = (k : Int)) = false := decide_eq_false (by omega)
              rw [← he0]
              refine Gx.a (by kernel_rfl) fun K hK => ?_
              simp only [XA, XB, b4]
              refine hK _ ?_
              refine Gx.f rfl ?_
              refine XWP.skip ?_
              exact fun f => ⟨V7, _, x7, y7, StIs.of (by exact rfl), View.le_refl _, by rw [if_neg hik]; exact h7, p1, p2⟩
          rintro s ⟨V8, br, xr, yr, hs, hV8, h8, r1, r2⟩
          obtain ⟨z, rfl⟩ := hs.out
          try dsimp only
          clear hs h7 p1 p2
          have hV58 := View.le_trans hV7 hV8
          have h5' := h5.mono hV58
          refine XWP.cutD 5 (fun s => ∃ (V9 : View) (bs : Bool) (xs ys : Value) (br : Bool) (xr yr : Value), StIs (fun Z => [Z 0, .v (.slice (some ⟨bC, oC, none⟩) m c2), .p 0 0, Z 3,Z 4, .v (.int .i64 (m : Int)), .p 1 0, .p 2 0, .v (.int .i64 (k : Int)), .v (.int .i64 ((C.getD k 0 : Nat) : Int)), .p 3 0, .v (.int .i64 (i : Int)), Z 12, .p 4 0, Z 14,Z 15,Z 16,Z 17,Z 18,Z 19,Z 20,Z 21,Z 22,Z 23,Z 24,Z 25,Z 26, .v (.slice (some ⟨bC, oC, none⟩) m c2), .v (.int .i64 (m : Int)), .v (.int .i64 (k : Int)), Z 30,Z 31,Z 32,Z 33,Z 34, .v (.slice (some ⟨bC, oC, none⟩) m c2), .v (.int .i64 (m : Int)), .v (.int .i64 (i : Int)), Z 38,Z 39,Z 40,Z 41,Z 42,Z 43,Z 44,Z 45,Z 46,Z 47,Z 48,Z 49,Z 50,Z 51,Z 52,Z 53,Z 54,Z 55,Z 56,Z 57,Z 58,Z 59,Z 60,Z 61,Z 62,Z 63,Z 64,Z 65,Z 66,Z 67,Z 68,Z 69,Z 70,Z 71,Z 72,Z 73,Z 74,Z 75,Z 76,Z 77,Z 78,Z 79,Z 80,Z 81,Z 82,Z 83,Z 84,Z 85,Z 86,Z 87,Z 88,Z 89,Z 90,Z 91,Z 92,Z 93,Z 94,Z 95,Z 96,Z 97,Z 98,Z 99,Z 100,Z 101,Z 102,Z 103,Z 104,Z 105,Z 106,Z 107]) [[.int .i64 (n : Int), .int .i64 (n : Int), .slice A l.length cp], [.int .i64 (m : Int), .int .i64 (m : Int), sa], [.int .i64 (m : Int), .int .i64 1, sb], [.bool bs, xs, ys], [.bool br, xr, yr]] H5 V9 s ∧ V8.le V9 ∧ RatC V9 (.agg #[.bool br, xr, yr]) (Q k i) ∧ isOne xr = true ∧ isOne yr = true ∧ RatC V9 (.agg #[.bool bs, xs, ys]) (oneB m k) ∧ isOne xs = true ∧ isOne ys = true) ?_ ?_
          · have w1 : IntKind.i64.wrap ((m : Int) - 1) = ((m - 1 : Nat) : Int) := by rw [wrap_id (by omega) (by omega)]; omega
            by_cases hkm : k + 1 = m
            · have b5 : decide ((k : Int) = ((m - 1 : Nat) : Int)) = true := decide_eq_true (by omega)
              refine Gx.a (by kernel_rfl) fun K hK => ?_
              simp only [XA, XB, w1, b5]
              refine hK _ ?_
              refine Gx.t rfl ?_
              refine Gx.c (by kernel_rfl) fun K hK => ?_
              simp only [XA]
              refine call_go (by kernel_rfl) rfl (qone_c _) fun v9 V9 hV9 h9 => ?_
              obtain ⟨x9, y9, rfl, q1, q2⟩ := h9.form
              simp only [XA]
              refine call_go (by kernel_rfl) rfl (qone_c _) fun v10 V10 hV10 h10 => ?_
              obtain ⟨x10, y10, rfl, q3, q4⟩ := h10.form
              simp only [XA]
              refine st_rat rfl rfl rfl q1 q2 ?_
              simp only [XA]
              refine st_rat rfl rfl rfl q3 q4 ?_
              simp only [XA]
              have eQ : Q k i = 1 := by rw [hQd, if_pos hkm]
              have eo : oneB m k = 1 := by unfold oneB; rw [if_pos hkm]
              exact hK _ fun f => ⟨V10, _, x10, y10, _, x9, y9, StIs.of (by exact rfl), View.le_trans hV9 hV10, by rw [eQ]; exact h9.mono hV10, q1, q2, by rw [eo]; exact h10, q3, q4⟩
            · have b5 : decide ((k : Int) = ((m - 1 : Nat) : Int)) = false := decide_eq_false (by omega)
              refine Gx.a (by kernel_rfl) fun K hK => ?_
              simp only [XA, XB, w1, b5]
              refine hK _ ?_
              refine Gx.f rfl ?_
              refine XWP.skip ?_
              have eQ : Q k i = if i = k then e0 - 1 else e0 := by rw [hQd, if_neg hkm, he0]
              have eo : oneB m k = 0 := by unfold oneB; rw [if_neg hkm]
              rw [eo, ite_self] at h5'
              exact fun f => ⟨V8, _, xs, ys, _, xr, yr, StIs.of (by exact rfl), View.le_refl _, by rw [eQ]; exact h8, r1, r2, by rw [eo]; exact h5', o1, o2⟩
          clear h8 r1 r2 h5' h5 o1 o2
          rintro s ⟨V9, bs, xs, ys, br, xr, yr, hs, hV9, h9, r1, r2, h5, o1, o2⟩
          obtain ⟨z, rfl⟩ := hs.out
          try dsimp only
          clear hs
          have hV59 := View.le_trans hV58 hV9
          refine Gx.c (by kernel_rfl) fun K hK => ?_
          simp only [XM, XA, XB, Nat.reduceAdd, Nat.reduceLeDiff, ↓reduceIte]
          refine bs_go (by kernel_rfl) #[(0, .agg #[.bool br, xr, yr])] (by simp [ev_tmp, SV.val]) (bs_rat elemT_22) fun b3 hb3 hb4 => ?_
          simp only [XA, Nat.reduceAdd]
          refine ap_go elemT_22 (by kernel_rfl) zeroT_49 rfl (by omega) (own_upd hoa hb3) (src3 (upd_at _ _ _) rfl r1 r2) (by omega) (by omega) fun v' H' hres => ?_
          obtain ⟨hob', hds'⟩ := own_keep (own_upd (r := some ⟨49, [.bool br, xr, yr], 3⟩) hob hb3) hres hds
          simp only [XM, XA]
          refine st_one shapeT_22 rfl (own_isOne hres.1) (by simp) ?_
          simp only [XA]
          have hra' := (hra.mono ratE_ok hV59).snoc (show isOne (.bool br) = true from rfl) r1 r2 h9
          rw [← flatF_at Q hi, ← mk_succ (k * m + i) (flatF Q m)] at hra'
          exact hK _ fun f => ⟨V9, H', v', _, bs, xs, ys, StIs.of (by exact rfl), hV59, hres.1, hra', hob', hds', h5, o1, o2⟩
        clear hoa hra hob hds h5 o1 o2
        rintro s ⟨V6, H6, sa, ca, bs, xs, ys, hs, hV6, hoa, hra, hob, hds, h5, o1, o2⟩
        obtain ⟨z, rfl⟩ := hs.out
        try dsimp only
        refine Gx.c (by kernel_rfl) fun K hK => ?_
        simp only [XA, XB, i64_succ i (by omega)]
        exact hK _ ⟨p - 1, by omega, fun f => ⟨i + 1, V6, H6, sa, ca, bs, xs, ys, StIs.of (by exact rfl), by omega, View.le_trans hV5 hV6, hoa, hra, hob, hds, by rw [if_pos (by omega)]; exact h5, o1, o2⟩⟩
      clear h4 o1 o2 hoa hra hob
      rintro s ⟨V5, H5, sa, ca, bs, xs, ys, hs, hV5, hoa, hra, hob, hds, h5, o1, o2⟩
      obtain ⟨z, rfl⟩ := hs.out
      try dsimp only
      clear hs
      refine Gx.c (by kernel_rfl) fun K hK => ?_
      simp only [XM, XA, XB, Nat.reduceAdd, Nat.reduceLeDiff, ↓reduceIte]
      refine bs_go (by kernel_rfl) #[(0, .agg #[.bool bs, xs, ys])] (by simp [ev_tmp, SV.val]) (bs_rat elemT_22) fun b3 hb3 hb4 => ?_
      simp only [XA, Nat.reduceAdd]
      refine ap_go elemT_22 (by kernel_rfl) zeroT_49 rfl (by omega) (own_upd hob hb3) (src3 (upd_at _ _ _) rfl o1 o2) (by omega) (by omega) fun v' H' hres => ?_
      obtain ⟨hoa', hds'⟩ := own_keep (own_upd (r := some ⟨49, [.bool bs, xs, ys], 3⟩) hoa hb3) hres (fun b e1 e2 => hds b e2 e1)
      simp only [XM, XA]
      refine st_one shapeT_22 rfl (own_isOne hres.1) (by simp) ?_
      simp only [XA]
      have hrb' := (hrb.mono ratE_ok hV5).snoc (show isOne (.bool bs) = true from rfl) o1 o2 h5
      rw [← mk_succ k (oneB m)] at hrb'
      have ekm : (k + 1) * m = k * m + m := by rw [Nat.add_mul, Nat.one_mul]
      exact hK _ fun f => ⟨V5, H', sa, v', ca, _, StIs.of (by exact rfl), hV5, by rw [ekm]; exact hoa', by rw [ekm]; exact hra, hres.1, hrb', hds'⟩
    clear hoa hra hob hrb hdis
    rintro s ⟨V3, H3, sa, sb, ca, cb, hs, hV3, hoa, hra, hob, hrb, hdis⟩
    obtain ⟨z, rfl⟩ := hs.out
    try dsimp only
    refine Gx.c (by kernel_rfl) fun K hK => ?_
    simp only [XA, XB, i64_succ k (by omega)]
    exact hK _ ⟨q - 1, by omega, fun f => ⟨k + 1, V3, H3, sa, sb, ca, cb, StIs.of (by exact rfl), by omega, View.le_trans hV2 hV3, hoa, hra, hob, hrb, hdis⟩⟩
  rintro s ⟨V2, H2, sa, sb, ca, cb, hs, hV2, hoa, hra, hob, hrb, hdis⟩
  obtain ⟨z, rfl⟩ := hs.out
  try dsimp only
  clear hs
  refine XWP.pubR ratE_ok hoa hra fun H3 V3 hV3 ra hk3 => ?_
  have hob3 : Own H3 49 3 sb m cb := by
    refine ⟨hob.1, ?_⟩
    rcases hob.2 with h | ⟨g, cap, e, hg, h⟩
    · exact .inl h
    · exact .inr ⟨g, cap, e, by rw [hk3 g fun e2 => hdis g e2 (by rw [e]; rfl)]; exact hg, h⟩
  refine XWP.pubR ratE_ok hob3 (hrb.mono ratE_ok hV3) fun H4 V4 hV4 rb hk4 => ?_
  have ra : Rats V4 sa (flatG Q m m) := Rats.up ra hV4
  have hV24 := View.le_trans hV3 hV4
  have g1 : ∀ x ∈ flatG Q m m, QB (B + 1) x := fun x hx => by
    unfold flatG mk at hx
    obtain ⟨p, hp, rfl⟩ := List.mem_map.1 hx
    have hp := List.mem_range.1 hp
    exact hqQ _ _ ((Nat.div_lt_iff_lt_mul (by omega)).2 hp) (Nat.mod_lt _ (by omega))
  have g2 : ∀ x ∈ mk m (oneB m), QB (B + 1) x := fun x hx => by
    unfold mk at hx
    obtain ⟨p, hp, rfl⟩ := List.mem_map.1 hx
    unfold oneB
    split
    · exact QB_one _
    · exact QB_zero _
  refine Gx.a (by kernel_rfl) fun K hK => ?_
  simp only [XM, XA, Nat.reduceAdd, Nat.reduceLeDiff, ↓reduceIte]
  refine call_go (by kernel_rfl) rfl (mSolve_c _ _ _ m 1 (B + 1) (flatG Q m m) (mk m (oneB m)) ra rb (flatG_len _ _ _) (by rw [mk_len, Nat.mul_one]) h1 hl (by omega) g1 g2 hB) fun v5 V5 hV5 h5 => ?_
  have hu' : UniG (gridL (flatG Q m m) m) m m := hu.congr fun i j hi hj => (gridL_flat Q hi hj).symm
  obtain ⟨w, X, rfl, hw, hX, hqX⟩ := h5.2 hu'
  have hX0 : LinG Q m m (oneB m) (fun j => X j 0) := (hX 0 (by omega)).congr (fun i j hi hj => gridL_flat Q hi hj) fun i hi => by
    show cf (mk m (oneB m)) (i * 1 + 0) = oneB m i
    rw [Nat.mul_one, Nat.add_zero, cf_mk, if_pos hi]
  obtain ⟨A5, c5, rfl, _, _⟩ := hw.form
  obtain ⟨bw, ow, rfl⟩ := SlAt.addr hw (by rw [flatG_len]; omega)
  simp only [XM, XA, Nat.reduceAdd]
  refine st_mat shapeT_24 rfl rfl rfl rfl rfl ?_
  simp only [XA]
  refine hK _ ?_
  refine Gx.a (by kernel_rfl) fun K hK => ?_
  simp only [XM, XA, XB]
  refine mk_go rfl rfl elemT_22 zeroT_49 (by omega) (by omega) (by omega) (by omega) rfl (by omega) fun go hgo1 hgo2 => ?_
  simp only [XA]
  refine hK _ ?_
  clear hK
  have hle4 := View.le_trans hV2 hV24
  have hle5 := View.le_trans hle4 hV5
  refine XWP.cutD 4 (fun s => ∃ (V6 : View) (H6 : Heap) (co : List Value), StIs (fun Z => [Z 0, .v (.slice (some ⟨bC, oC, none⟩) m c2), Z 2,Z 3,Z 4,Z 5,Z 6,Z 7,Z 8,Z 9,Z 10,Z 11,Z 12,Z 13, .p 3 0, Z 15, .v (.slice (some ⟨go, 0, none⟩) n n), Z 17,Z 18,Z 19,Z 20,Z 21,Z 22,Z 23,Z 24,Z 25,Z 26,Z 27,Z 28,Z 29,Z 30,Z 31,Z 32,Z 33,Z 34,Z 35,Z 36,Z 37,Z 38,Z 39,Z 40,Z 41,Z 42,Z 43,Z 44,Z 45,Z 46,Z 47,Z 48,Z 49,Z 50,Z 51,Z 52,Z 53,Z 54,Z 55,Z 56,Z 57,Z 58,Z 59,Z 60,Z 61,Z 62,Z 63,Z 64,Z 65,Z 66,Z 67,Z 68,Z 69,Z 70,Z 71,Z 72,Z 73,Z 74,Z 75,Z 76,Z 77,Z 78,Z 79,Z 80,Z 81,Z 82,Z 83,Z 84,Z 85,Z 86,Z 87,Z 88,Z 89,Z 90,Z 91,Z 92,Z 93,Z 94,Z 95,Z 96,Z 97,Z 98,Z 99,Z 100,Z 101,Z 102,Z 103,Z 104,Z 105,Z 106,Z 107]) [[.int .i64 (n : Int), .int .i64 (n : Int), .slice A l.length cp], [.int .i64 (m : Int), .int .i64 (m : Int), sa], [.int .i64 (m : Int), .int .i64 1, sb], [.int .i64 (m : Int), .int .i64 1, .slice (some ⟨bw, ow, none⟩) (flatG X m 1).length c5]] H6 V6 s ∧ V5.le V6 ∧ H6 go = some ⟨49, co, n * 3⟩ ∧ RowAt ratE V6 co (mk n fun _ => 0)) ?_ ?_
  · refine Gx.a (by kernel_rfl) fun K hK => ?_
    simp only [XA, XB]
    refine hK _ ?_
    clear hK
    refine XWP.block ?_
    refine XWP.loopD 4 (fun r s => ∃ (k : Nat) (V6 : View) (H6 : Heap) (co : List Value), StIs (fun Z => [Z 0, .v (.slice (some ⟨bC, oC, none⟩) m c2), Z 2,Z 3,Z 4,Z 5,Z 6,Z 7,Z 8,Z 9,Z 10,Z 11,Z 12,Z 13, .p 3 0, Z 15, .v (.slice (some ⟨go, 0, none⟩) n n), Z 17,Z 18,Z 19,Z 20,Z 21,Z 22,Z 23,Z 24,Z 25,Z 26,Z 27,Z 28,Z 29,Z 30,Z 31,Z 32,Z 33,Z 34,Z 35,Z 36,Z 37,Z 38,Z 39,Z 40,Z 41,Z 42,Z 43,Z 44,Z 45,Z 46,Z 47,Z 48,Z 49,Z 50,Z 51,Z 52,Z 53,Z 54,Z 55,Z 56,Z 57,Z 58,Z 59,Z 60,Z 61,Z 62,Z 63,Z 64,Z 65,Z 66,Z 67,Z 68,Z 69,Z 70,Z 71,Z 72,Z 73,Z 74,Z 75,Z 76,Z 77,Z 78,Z 79,Z 80,Z 81, .v (.int .i64 (n : Int)), .v (.int .i64 (k : Int)), Z 84,Z 85,Z 86,Z 87,Z 88,Z 89,Z 90,Z 91,Z 92,Z 93,Z 94,Z 95,Z 96,Z 97,Z 98,Z 99,Z 100,Z 101,Z 102,Z 103,Z 104,Z 105,Z 106,Z 107]) [[.int .i64 (n : Int), .int .i64 (n : Int), .slice A l.length cp], [.int .i64 (m : Int), .int .i64 (m : Int), sa], [.int .i64 (m : Int), .int .i64 1, sb], [.int .i64 (m : Int), .int .i64 1, .slice (some ⟨bw, ow, none⟩) (flatG X m 1).length c5]] H6 V6 s ∧ r + k = n ∧ V5.le V6 ∧ H6 go = some ⟨49, co, n * 3⟩ ∧ RowAt (optE ratE) V6 co (part n (fun _ => 0) k)) n ⟨0, V5, _, _, StIs.of (by exact rfl), by omega, View.le_refl _, upd_at _ _ _, by rw [part_zero]; exact RowAt.new V5 n⟩ ?_
    rintro r s ⟨k, V6, H6, co, hs, hr, hV6, hH, hrow⟩
    obtain ⟨z, rfl⟩ := hs.out
    try dsimp only
    clear hs
    by_cases hk : k < n
    rotate_left
    · obtain rfl : k = n := by omega
      have b1 : decide ((k : Int) < (k : Int)) = false := decide_eq_false (by omega)
      refine Gx.a (by kernel_rfl) fun K hK => ?_
      simp only [XA, XB, b1]
      refine hK _ ?_
      refine XWP.seq (Gx.f rfl ?_)
      refine XWP.exit ?_
      rw [part_all] at hrow
      exact fun f => ⟨V6, H6, co, StIs.of (by exact rfl), hV6, hH, hrow.all⟩
    have b1 : decide ((k : Int) < (n : Int)) = true := decide_eq_true (by omega)
    refine Gx.a (by kernel_rfl) fun K hK => ?_
    simp only [XA, XB, b1]
    refine hK _ ?_
    refine XWP.seq (Gx.t rfl ?_)
    refine XWP.skip ?_
    refine XWP.seq ?_
    refine XWP.block ?_
    refine Gx.a (by kernel_rfl) fun K hK => ?_
    simp only [XA]
    refine hK _ ?_
    refine Gx.c (by kernel_rfl) fun K hK => ?_
    simp only [XA]
    refine call_go (by kernel_rfl) rfl (qzero_c _) fun v7 V7 hV7 h7 => ?_
    obtain ⟨x7, y7, rfl, o1, o2⟩ := h7.form
    have hrow := hrow.mono (optE_ok ratE_ok) hV7
    have hlr := hrow.1
    rw [part_len] at hlr
    simp only [XA, XB]
    refine ⟨by omega, by omega, ?_⟩
    refine st_rowA shapeT_49 (all3 rfl o1 o2) rfl hH (by dsimp only; omega) ?_
    simp only [XA]
    refine hK _ ?_
    have hrow2 := hrow.set k (by rw [part_len]; omega) (x := some 0) (show isOne (.bool (ng 0)) = true from rfl) o1 o2 h7
    rw [part_step n (fun _ => 0) k] at hrow2
    refine Gx.c (by kernel_rfl) fun K hK => ?_
    simp only [XA, XB, i64_succ k (by omega)]
    exact hK _ ⟨r - 1, by omega, fun f => ⟨k + 1, V7, _, _, StIs.of (by exact rfl), by omega, View.le_trans hV6 hV7, upd_at _ _ _, by simpa using hrow2⟩⟩
  rintro s ⟨V6, H6, co, hs, hV6, hH, hrow⟩
  obtain ⟨z, rfl⟩ := hs.out
  try dsimp only
  clear hs
  have hw6 := hw.up hV6
  refine XWP.cutD 4 (fun s => ∃ (H7 : Heap) (co : List Value), StIs (fun Z => [Z 0,Z 1,Z 2,Z 3,Z 4,Z 5,Z 6,Z 7,Z 8,Z 9,Z 10,Z 11,Z 12,Z 13,Z 14,Z 15, .v (.slice (some ⟨go, 0, none⟩) n n), Z 17,Z 18,Z 19,Z 20,Z 21,Z 22,Z 23,Z 24,Z 25,Z 26,Z 27,Z 28,Z 29,Z 30,Z 31,Z 32,Z 33,Z 34,Z 35,Z 36,Z 37,Z 38,Z 39,Z 40,Z 41,Z 42,Z 43,Z 44,Z 45,Z 46,Z 47,Z 48,Z 49,Z 50,Z 51,Z 52,Z 53,Z 54,Z 55,Z 56,Z 57,Z 58,Z 59,Z 60,Z 61,Z 62,Z 63,Z 64,Z 65,Z 66,Z 67,Z 68,Z 69,Z 70,Z 71,Z 72,Z 73,Z 74,Z 75,Z 76,Z 77,Z 78,Z 79,Z 80,Z 81,Z 82,Z 83,Z 84,Z 85,Z 86,Z 87,Z 88,Z 89,Z 90,Z 91,Z 92,Z 93,Z 94,Z 95,Z 96,Z 97,Z 98,Z 99,Z 100,Z 101,Z 102,Z 103,Z 104,Z 105,Z 106,Z 107]) [[.int .i64 (n : Int), .int .i64 (n : Int), .slice A l.length cp], [.int .i64 (m : Int), .int .i64 (m : Int), sa], [.int .i64 (m : Int), .int .i64 1, sb], [.int .i64 (m : Int), .int .i64 1, .slice (some ⟨bw, ow, none⟩) (flatG X m 1).length c5]] H7 V6 s ∧ H7 go = some ⟨49, co, n * 3⟩ ∧ RowAt ratE V6 co (scat C (fun j => X j 0) n m)) ?_ ?_
  · refine Gx.a (by kernel_rfl) fun K hK => ?_
    simp only [XN, XA]
    refine hK _ ?_
    clear hK
    refine XWP.block ?_
    refine XWP.loopD 4 (fun r s => ∃ (k : Nat) (H7 : Heap) (co : List Value), StIs (fun Z => [Z 0, .v (.slice (some ⟨bC, oC, none⟩) m c2), Z 2,Z 3,Z 4,Z 5,Z 6,Z 7,Z 8,Z 9,Z 10,Z 11,Z 12,Z 13, .p 3 0, Z 15, .v (.slice (some ⟨go, 0, none⟩) n n), Z 17,Z 18,Z 19,Z 20,Z 21,Z 22,Z 23,Z 24,Z 25,Z 26,Z 27,Z 28,Z 29,Z 30,Z 31,Z 32,Z 33,Z 34,Z 35,Z 36,Z 37,Z 38,Z 39,Z 40,Z 41,Z 42,Z 43,Z 44,Z 45,Z 46,Z 47,Z 48,Z 49,Z 50,Z 51,Z 52,Z 53,Z 54,Z 55,Z 56,Z 57,Z 58,Z 59,Z 60,Z 61,Z 62,Z 63,Z 64,Z 65,Z 66,Z 67,Z 68,Z 69,Z 70,Z 71,Z 72,Z 73,Z 74,Z 75,Z 76,Z 77,Z 78,Z 79,Z 80,Z 81,Z 82,Z 83,Z 84,Z 85,Z 86,Z 87,Z 88,Z 89,Z 90, .v (.slice (some ⟨bC, oC, none⟩) m c2), .v (.int .i64 (m : Int)), .v (.int .i64 (k : Int)), Z 94,Z 95,Z 96,Z 97,Z 98,Z 99,Z 100,Z 101,Z 102,Z 103,Z 104,Z 105,Z 106,Z 107]) [[.int .i64 (n : Int), .int .i64 (n : Int), .slice A l.length cp], [.int .i64 (m : Int), .int .i64 (m : Int), sa], [.int .i64 (m : Int), .int .i64 1, sb], [.int .i64 (m : Int), .int .i64 1, .slice (some ⟨bw, ow, none⟩) (flatG X m 1).length c5]] H7 V6 s ∧ r + k = m ∧ H7 go = some ⟨49, co, n * 3⟩ ∧ RowAt ratE V6 co (scat C (fun j => X j 0) n k)) m ⟨0, H6, co, StIs.of (by exact rfl), by omega, hH, hrow⟩ ?_
    clear hH hrow
    rintro r s ⟨k, H7, co, hs, hr, hH, hrow⟩
    obtain ⟨z, rfl⟩ := hs.out
    try dsimp only
    clear hs
    by_cases hk : k < m
    rotate_left
    · obtain rfl : k = m := by omega
      have b1 : decide ((k : Int) < (k : Int)) = false := decide_eq_false (by omega)
      refine Gx.a (by kernel_rfl) fun K hK => ?_
      simp only [XA, XB, b1]
      refine hK _ ?_
      refine XWP.seq (Gx.f rfl ?_)
      refine XWP.exit ?_
      exact fun f => ⟨H7, co, StIs.of (by exact rfl), hH, hrow⟩
    have b1 : decide ((k : Int) < (m : Int)) = true := decide_eq_true (by omega)
    refine Gx.a (by kernel_rfl) fun K hK => ?_
    simp only [XA, XB, b1]
    refine hK _ ?_
    refine XWP.seq (Gx.t rfl ?_)
    refine XWP.skip ?_
    obtain ⟨hck, hldk⟩ := hCl k hk
    have hlf : (flatG X m 1).length = m := by rw [flatG_len, Nat.mul_one]
    obtain ⟨m3, n3, d3, hx, ⟨p1, p2, p3⟩, hld⟩ := Rats.get hw6 k (by omega)
    have eX : cf (flatG X m 1) k = X k 0 := by
      have := flatG_at X (R := m) (C := 1) (i := k) (k := 0) hk (by omega)
      rwa [Nat.mul_one, Nat.add_zero] at this
    rw [eX] at hx
    have hlr := hrow.1
    rw [scat_len] at hlr
    refine XWP.seq ?_
    refine XWP.block ?_
    refine Gx.a (by kernel_rfl) fun K hK => ?_
    simp only [XN, XA, XB]
    refine ⟨by omega, by omega, ?_⟩
    refine ld_mem (hldk V6 (View.le_trans hle5 hV6) _) ?_
    simp only [XA]
    refine hK _ ?_
    refine Gx.c (by kernel_rfl) fun K hK => ?_
    simp only [XM, XA, XB]
    refine ⟨by omega, by omega, ld_mem (hld _) ?_⟩
    simp only [XA, XB]
    refine ⟨by omega, by omega, ?_⟩
    refine st_rowA shapeT_49 (all3 p1 p2 p3) rfl hH (by dsimp only; omega) ?_
    simp only [XA]
    refine hK _ ?_
    have hrow2 := hrow.set (C.getD k 0) (by rw [scat_len]; exact hck) (x := X k 0) p1 p2 p3 hx
    refine Gx.c (by kernel_rfl) fun K hK => ?_
    simp only [XA, XB, i64_succ k (by omega)]
    exact hK _ ⟨r - 1, by omega, fun f => ⟨k + 1, _, _, StIs.of (by exact rfl), by omega, upd_at _ _ _, by rw [scat]; simpa using hrow2⟩⟩
  rintro s ⟨H7, co, hs, hH, hrow⟩
  obtain ⟨z, rfl⟩ := hs.out
  try dsimp only
  refine Gx.a (by kernel_rfl) fun K hK => ?_
  simp only [XA]
  refine hK _ (XWP.ret ?_)
  try simp only [thenX_ret, inBlockX_ret]
  refine ret_pub go _ hH fun o ho hle => ret_go _ rfl ⟨fun j => X j 0, hX0, fun j hj => hqX j 0 hj (by omega), ?_⟩
  exact hrow.pub ratE_ok ho hle (scat_len _ _ _ _) (Nat.le_refl _) (by omega)
end Go.Proofs.YtkgmicakfmllmaaGreat
end
section
namespace Go.Proofs.YtkgmicakfmllmaaGreat
open Go Go.RowKit
set_option linter.unusedSimpArgs false
set_option linter.unusedVariables false
attribute [local irreducible] XWP Spec SpecO XPub XCall seqX clX apX stX ldX iaX slX
/-- the law behind one move, summed up from the first state on -/
def stQ (l a : List Rat) (n k : Nat) : Nat → Rat := Sm fun i => cf l i * cf a (i * n + k)
def stepL (l a : List Rat) (n : Nat) : List Rat := mk n fun k => stQ l a n k n
theorem stQ_QB {l a : List Rat} {n k B : Nat} (ql : ∀ x ∈ l, QB B x) (qa : ∀ x ∈ a, QB B x) (ll : l.length = n) (la : a.length = n * n) (hk : k < n) : ∀ i, i ≤ n → QB (i * (2 * B + 1)) (stQ l a n k i)
  | 0, _ => QB_zero _
  | i + 1, hi => by
    have ih := stQ_QB ql qa ll la hk i (by omega)
    have hp := pos_lt (show i < n by omega) hk
    have h1 := (ql _ (cf_mem (l := l) (i := i) (by omega))).mul (qa _ (cf_mem (l := a) (i := i * n + k) (by omega)))
    exact (ih.add h1).mono (by rw [Nat.add_mul]; omega)
theorem stepL_len (l a : List Rat) (n : Nat) : (stepL l a n).length = n := mk_len _ _
theorem stepL_at {l a : List Rat} {n k : Nat} (hk : k < n) : cf (stepL l a n) k = stepF (cf l) (gridL a n) n k := by
  unfold stepL; rw [cf_mk, if_pos hk]; rfl
theorem stepL_QB {l a : List Rat} {n B : Nat} (ql : ∀ x ∈ l, QB B x) (qa : ∀ x ∈ a, QB B x) (ll : l.length = n) (la : a.length = n * n) : ∀ x ∈ stepL l a n, QB (n * (2 * B + 1)) x := fun x hx => by
  unfold stepL mk at hx
  obtain ⟨k, hk, rfl⟩ := List.mem_map.1 hx
  exact stQ_QB ql qa ll la (List.mem_range.1 hk) n (Nat.le_refl _)
set_option maxHeartbeats 4000000 in
theorem bstep_c (V : View) (v s : Value) (n B : Nat) (l a : List Rat) (hv : Rats V v l) (hs : Rats V s a) (ll : l.length = n) (la : a.length = n * n) (hn : n ≤ 60) (ql : ∀ x ∈ l, QB B x) (qa : ∀ x ∈ a, QB B x) (hB : 61 * (2 * B + 1) ≤ 17592186044416) :
    Spec Tryz.prog 69 [v, .agg #[.int .i64 (n : Int), .int .i64 (n : Int), s]] V fun v' V' => Rats V' v' (stepL l a n) := by
  obtain ⟨A1, c1, rfl, hc1, hm1⟩ := hv.form
  obtain ⟨A2, c2, rfl, hc2, hm2⟩ := hs.form
  have hnn : n * n ≤ 3600 := Nat.le_trans (Nat.mul_le_mul hn hn) (by decide)
  have hS : ∀ k i, k < n → i ≤ n → QF (stQ l a n k i) := fun k i hk hi => (stQ_QB ql qa ll la hk i hi).qf (Nat.le_trans (Nat.mul_le_mul_right _ (show i ≤ 61 by omega)) hB)
  rw [ll] at hv hc1 ⊢
  refine (Spec.enter Tryz.func69 rfl fun Γ => ?_)
  simp only [Tryz.ntmps69, List.map_cons, List.map_nil, List.length_cons, List.length_nil, Nat.reduceAdd, Nat.reduceSub, List.replicate_succ, List.replicate_zero, List.cons_append, List.nil_append]
  refine Gx.a (by kernel_rfl) fun K hK => ?_
  simp only [XA]
  refine hK _ ?_
  refine Gx.a (by kernel_rfl) fun K hK => ?_
  simp only [XA, XB]
  refine mk_go rfl rfl elemT_22 zeroT_49 (by omega) (by omega) (by omega) (by omega) rfl (by omega) fun go hgo1 hgo2 => ?_
  simp only [XA]
  refine hK _ ?_
  clear hK
  refine XWP.cutD 1 (fun s => ∃ (V2 : View) (H2 : Heap) (co : List Value), StIs (fun Z => [Z 0,Z 1,Z 2,Z 3,Z 4, .v (.slice (some ⟨go, 0, none⟩) n n), Z 6,Z 7,Z 8,Z 9,Z 10,Z 11,Z 12,Z 13,Z 14,Z 15,Z 16,Z 17,Z 18,Z 19,Z 20,Z 21,Z 22,Z 23,Z 24,Z 25,Z 26,Z 27,Z 28,Z 29,Z 30,Z 31,Z 32,Z 33,Z 34,Z 35,Z 36,Z 37,Z 38,Z 39,Z 40,Z 41,Z 42,Z 43,Z 44]) [[.int .i64 (n : Int), .int .i64 (n : Int), .slice A2 a.length c2]] H2 V2 s ∧ H2 go = some ⟨49, co, n * 3⟩ ∧ RowAt ratE V2 co (stepL l a n)) ?_ ?_
  · refine Gx.a (by kernel_rfl) fun K hK => ?_
    simp only [XA, XB]
    refine hK _ ?_
    clear hK
    refine XWP.block ?_
    refine XWP.loopD 1 (fun q s => ∃ (k : Nat) (V2 : View) (H2 : Heap) (co : List Value), StIs (fun Z => [.v (.slice A1 n c1), Z 1,Z 2, .p 0 0, Z 4, .v (.slice (some ⟨go, 0, none⟩) n n), Z 6,Z 7,Z 8,Z 9,Z 10,Z 11,Z 12, .v (.int .i64 (n : Int)), .v (.int .i64 (k : Int)), Z 15,Z 16,Z 17,Z 18,Z 19,Z 20,Z 21,Z 22,Z 23,Z 24,Z 25,Z 26,Z 27,Z 28,Z 29,Z 30,Z 31,Z 32,Z 33,Z 34,Z 35,Z 36,Z 37,Z 38,Z 39,Z 40,Z 41,Z 42,Z 43,Z 44]) [[.int .i64 (n : Int), .int .i64 (n : Int), .slice A2 a.length c2]] H2 V2 s ∧ q + k = n ∧ V.le V2 ∧ H2 go = some ⟨49, co, n * 3⟩ ∧ RowAt (optE ratE) V2 co (part n (fun k => stQ l a n k n) k)) n ⟨0, V, _, _, StIs.of (by exact rfl), by omega, View.le_refl _, upd_at _ _ _, by rw [part_zero]; exact RowAt.new V n⟩ ?_
    rintro q s ⟨k, V2, H2, co, hs', hq, hV2, hH, hrow⟩
    obtain ⟨z, rfl⟩ := hs'.out
    try dsimp only
    clear hs'
    by_cases hk : k < n
    rotate_left
    · obtain rfl : k = n := by omega
      have b1 : decide ((k : Int) < (k : Int)) = false := decide_eq_false (by omega)
      refine Gx.a (by kernel_rfl) fun K hK => ?_
      simp only [XA, XB, b1]
      refine hK _ ?_
      refine XWP.seq (Gx.f rfl ?_)
      refine XWP.exit ?_
      rw [part_all] at hrow
      exact fun f => ⟨V2, H2, co, StIs.of (by exact rfl), hH, hrow.all⟩
    have b1 : decide ((k : Int) < (n : Int)) = true := decide_eq_true (by omega)
    refine Gx.a (by kernel_rfl) fun K hK => ?_
    simp only [XA, XB, b1]
    refine hK _ ?_
    refine XWP.seq (Gx.t rfl ?_)
    refine XWP.skip ?_
    refine XWP.cutD 1 (fun s => ∃ (V3 : View) (H3 : Heap) (co : List Value), StIs (fun Z => [.v (.slice A1 n c1), Z 1,Z 2, .p 0 0, Z 4, .v (.slice (some ⟨go, 0, none⟩) n n), Z 6,Z 7,Z 8,Z 9,Z 10,Z 11,Z 12, .v (.int .i64 (n : Int)), .v (.int .i64 (k : Int)), Z 15,Z 16,Z 17,Z 18,Z 19,Z 20,Z 21,Z 22,Z 23,Z 24,Z 25,Z 26,Z 27,Z 28,Z 29,Z 30,Z 31,Z 32,Z 33,Z 34,Z 35,Z 36,Z 37,Z 38,Z 39,Z 40,Z 41,Z 42,Z 43,Z 44]) [[.int .i64 (n : Int), .int .i64 (n : Int), .slice A2 a.length c2]] H3 V3 s ∧ V2.le V3 ∧ H3 go = some ⟨49, co, n * 3⟩ ∧ RowAt (optE ratE) V3 co (part n (fun k => stQ l a n k n) (k + 1))) ?_ ?_
    · refine XWP.block ?_
      refine Gx.a (by kernel_rfl) fun K hK => ?_
      simp only [XA]
      refine hK _ ?_
      refine Gx.a (by kernel_rfl) fun K hK => ?_
      simp only [XA]
      refine call_go (by kernel_rfl) rfl (qzero_c _) fun v4 V4 hV4 h4 => ?_
      obtain ⟨x4, y4, rfl, o1, o2⟩ := h4.form
      have hrow4 := hrow.mono (optE_ok ratE_ok) hV4
      have hlr := hrow4.1
      rw [part_len] at hlr
      simp only [XA, XB]
      refine ⟨by omega, by omega, ?_⟩
      refine st_rowA shapeT_49 (all3 rfl o1 o2) rfl hH (by dsimp only; omega) ?_
      simp only [XA]
      refine hK _ ?_
      have hrow5 := hrow4.set k (by rw [part_len]; exact hk) (x := some (stQ l a n k 0)) (show isOne (.bool (ng 0)) = true from rfl) o1 o2 h4
      clear hrow hrow4
      refine Gx.a (by kernel_rfl) fun K hK => ?_
      simp only [XA, XB]
      refine hK _ ?_
      clear hK
      refine XWP.block ?_
      refine XWP.loopD 1 (fun p s => ∃ (i : Nat) (V5 : View) (H5 : Heap) (co : List Value), StIs (fun Z => [.v (.slice A1 n c1), Z 1,Z 2, .p 0 0, Z 4, .v (.slice (some ⟨go, 0, none⟩) n n), .v (.int .i64 (k : Int)), Z 7,Z 8,Z 9,Z 10,Z 11,Z 12, .v (.int .i64 (n : Int)), .v (.int .i64 (k : Int)), Z 15,Z 16,Z 17,Z 18,Z 19,Z 20, .v (.slice A1 n c1), .v (.int .i64 (n : Int)), .v (.int .i64 (i : Int)), Z 24,Z 25,Z 26,Z 27,Z 28,Z 29,Z 30,Z 31,Z 32,Z 33,Z 34,Z 35,Z 36,Z 37,Z 38,Z 39,Z 40,Z 41,Z 42,Z 43,Z 44]) [[.int .i64 (n : Int), .int .i64 (n : Int), .slice A2 a.length c2]] H5 V5 s ∧ p + i = n ∧ V2.le V5 ∧ H5 go = some ⟨49, co, n * 3⟩ ∧ RowAt (optE ratE) V5 co ((part n (fun k => stQ l a n k n) k).set k (some (stQ l a n k i)))) n ⟨0, V4, _, _, StIs.of (by exact rfl), by omega, hV4, upd_at _ _ _, by simpa using hrow5⟩ ?_
      clear hrow5 hH h4 o1 o2
      rintro p s ⟨i, V5, H5, co, hs', hp, hV5, hH, hrow⟩
      obtain ⟨z, rfl⟩ := hs'.out
      try dsimp only
      clear hs'
      by_cases hi : i < n
      rotate_left
      · obtain rfl : i = n := by omega
        have b2 : decide ((i : Int) < (i : Int)) = false := decide_eq_false (by omega)
        refine Gx.a (by kernel_rfl) fun K hK => ?_
        simp only [XA, XB, b2]
        refine hK _ ?_
        refine XWP.seq (Gx.f rfl ?_)
        refine XWP.exit ?_
        rw [part_step i (fun k => stQ l a i k i) k] at hrow
        exact fun f => ⟨V5, H5, co, StIs.of (by exact rfl), hV5, hH, hrow⟩
      have b2 : decide ((i : Int) < (n : Int)) = true := decide_eq_true (by omega)
      refine Gx.a (by kernel_rfl) fun K hK => ?_
      simp only [XA, XB, b2]
      refine hK _ ?_
      refine XWP.seq (Gx.t rfl ?_)
      refine XWP.skip ?_
      have hle5 := View.le_trans hV2 hV5
      have hv5 := hv.up hle5
      obtain ⟨b, o, rfl⟩ := SlAt.addr hv5 (by omega)
      obtain ⟨m6, n6, d6, hx6, ⟨p1, p2, p3⟩, hld6⟩ := Rats.get hv5 i (by omega)
      have hpos := pos_lt hi hk
      refine XWP.seq ?_
      refine XWP.block ?_
      refine Gx.a (by kernel_rfl) fun K hK => ?_
      simp only [XA, XB]
      refine ⟨by omega, by omega, ld_mem (hld6 _) ?_⟩
      simp only [XA, XB]
      refine st_rat rfl rfl p1 p2 p3 ?_
      simp only [XA]
      refine hK _ ?_
      obtain ⟨v8, hx8, ⟨m8, n8, d8, rfl, s1, s2, s3⟩, hld8⟩ := RowAt.load hH hrow k (by rw [List.length_set, part_len]; exact hk)
      rw [List.getElem_set_self] at hx8
      have hx8 : RatC V5 (.agg #[m8, n8, d8]) (stQ l a n k i) := hx8
      have q6 : QF (cf l i) := (ql _ (cf_mem (by omega))).qf (by omega)
      have q7 : QF (cf a (i * n + k)) := (qa _ (cf_mem (by omega))).qf (by omega)
      have qp : QF (cf l i * cf a (i * n + k)) := ((ql _ (cf_mem (by omega))).mul (qa _ (cf_mem (by omega)))).qf (by omega)
      (refine XWP.drw1 [0, 1, 2, 3, 4, 5, 6, 7, 8, 9, 10, 11, 12, 13, 14] (by kernel_rfl) (by kernel_rfl) (by kernel_rfl) fun K hK => ?_) <;> dsimp only [pickOps, List.getElem?_cons_zero, List.getElem?_cons_succ]
      simp only [XA, XB]
      refine ⟨by omega, by omega, ld_mem hld8 ?_⟩
      simp only [XM, XA, XB, Nat.reduceAdd, Nat.reduceLeDiff, ↓reduceIte]
      refine call_go (by kernel_rfl) rfl (bat_c _ _ _ n i k a (hs.up hle5) (by omega) hn (by omega) (by omega)) fun v9 V9 hV9 h9 => ?_
      simp only [XA]
      refine call_go (by kernel_rfl) rfl (qmul_c _ _ _ _ _ (hx6.mono hV9) h9 q6 q7) fun v10 V10 hV10 h10 => ?_
      simp only [XA]
      refine call_go (by kernel_rfl) rfl (qadd_c _ _ _ _ _ ((hx8.mono hV9).mono hV10) h10 (hS k i hk (by omega)) qp) fun v11 V11 hV11 h11 => ?_
      obtain ⟨x11, y11, rfl, o5, o6⟩ := h11.form
      have hle11 := View.le_trans hV9 (View.le_trans hV10 hV11)
      have hrow11 := hrow.mono (optE_ok ratE_ok) hle11
      have hl11 := hrow11.1
      rw [List.length_set, part_len] at hl11
      simp only [XA, XB]
      refine ⟨by omega, by omega, ?_⟩
      refine st_rowA shapeT_49 (all3 rfl o5 o6) rfl hH (by dsimp only; omega) ?_
      simp only [XA]
      refine hK _ ?_
      have hrow12 := hrow11.set k (by rw [List.length_set, part_len]; exact hk) (x := some (stQ l a n k (i + 1))) (show isOne (.bool (ng (stQ l a n k i + cf l i * cf a (i * n + k)))) = true from rfl) o5 o6 h11
      rw [List.set_set] at hrow12
      refine Gx.c (by kernel_rfl) fun K hK => ?_
      simp only [XA, XB, i64_succ i (by omega)]
      exact hK _ ⟨p - 1, by omega, fun f => ⟨i + 1, V11, _, _, StIs.of (by exact rfl), by omega, View.le_trans hV5 hle11, upd_at _ _ _, by simpa using hrow12⟩⟩
    clear hrow hH
    rintro s ⟨V3, H3, co, hs', hV3, hH, hrow⟩
    obtain ⟨z, rfl⟩ := hs'.out
    try dsimp only
    refine Gx.c (by kernel_rfl) fun K hK => ?_
    simp only [XA, XB, i64_succ k (by omega)]
    exact hK _ ⟨q - 1, by omega, fun f => ⟨k + 1, V3, H3, co, StIs.of (by exact rfl), by omega, View.le_trans hV2 hV3, hH, hrow⟩⟩
  rintro s ⟨V2, H2, co, hs', hH, hrow⟩
  obtain ⟨z, rfl⟩ := hs'.out
  try dsimp only
  refine Gx.a (by kernel_rfl) fun K hK => ?_
  simp only [XA]
  refine hK _ (XWP.ret ?_)
  try simp only [thenX_ret, inBlockX_ret]
  refine ret_pub go _ hH fun o ho hle' => ret_go _ rfl ?_
  exact hrow.pub ratE_ok ho hle' (stepL_len l a n) (Nat.le_refl _) (by omega)
end Go.Proofs.YtkgmicakfmllmaaGreat
end
section
namespace Go.Proofs.YtkgmicakfmllmaaGreat
open Go Go.RowKit
set_option linter.unusedSimpArgs false
set_option linter.unusedVariables false
attribute [local irreducible] XWP Spec SpecO XPub XCall seqX clX apX stX ldX iaX slX
theorem lawB_ok {L : List Raw} (h : lawB L = true) : okR L = true ∧ (∀ i, i < L.length → 0 ≤ cf (qs L) i) ∧ sumL (qs L) L.length = 1 := by
  unfold lawB at h
  rw [Bool.and_eq_true, decide_eq_true_eq] at h
  have := wtsR_ok h.1
  exact ⟨this.1, fun i hi => (ng_iff _).1 (this.2 i hi), h.2⟩
end Go.Proofs.YtkgmicakfmllmaaGreat
end
section
namespace Go.Proofs.YtkgmicakfmllmaaGreat
open Go Go.RowKit
set_option linter.unusedSimpArgs false
set_option linter.unusedVariables false
attribute [local irreducible] XWP Spec SpecO XPub XCall seqX clX apX stX ldX iaX slX
/-- a law's parts and a matrix, as they come -/
structure LM (V : View) (v s : Value) (L M : List Raw) (B : Nat) : Prop where
  hv : Raws V v L
  hs : Raws V s M
  fL : fitR L
  fM : fitR M
  lL : L.length ≤ 1000
  lM : M.length ≤ 1000
  qL : ∀ x ∈ qs L, QB B x
  qM : ∀ x ∈ qs M, QB B x
  hB : 1001 * (2 * B + 2) ≤ 17592186044416
theorem LM.up {V V' : View} {v s : Value} {L M : List Raw} {B : Nat} (h : LM V v s L M B) (hV : V.le V') : LM V' v s L M B := ⟨Raws.up h.hv hV, Raws.up h.hs hV, h.fL, h.fM, h.lL, h.lM, h.qL, h.qM, h.hB⟩
def fitE (L : List Raw) (r c : Int) (M : List Raw) : Int := if (lawB L && stoB r c M) = false then 1 else if (L.length : Int) = r then 0 else 30
theorem fitE_arg {L M : List Raw} {r c : Int} (h : (lawB L && stoB r c M) = false) : fitE L r c M = 1 := by unfold fitE; rw [if_pos h]
theorem fitE_shape {L M : List Raw} {r c : Int} (h : (lawB L && stoB r c M) = true) (hl : ¬ (L.length : Int) = r) : fitE L r c M = 30 := by unfold fitE; rw [if_neg (by rw [h]; simp), if_neg hl]
theorem fitE_ok {L M : List Raw} {r c : Int} (h : (lawB L && stoB r c M) = true) (hl : (L.length : Int) = r) : fitE L r c M = 0 := by unfold fitE; rw [if_neg (by rw [h]; simp), if_pos hl]
/-- what a law and a matrix that fit are -/
structure FitP (L : List Raw) (r c : Int) (M : List Raw) (n : Nat) : Prop where
  er : r = n
  ec : c = n
  hn : n ≤ 60
  lL : L.length = n
  lM : M.length = n * n
  okL : okR L = true
  okM : okR M = true
  sto : StoG (gridL (qs M) n) n
  nn : ∀ i, i < n → 0 ≤ cf (qs L) i
  one : Sm (cf (qs L)) n = 1
theorem fitE_parts {L M : List Raw} {r c : Int} (h : fitE L r c M = 0) : ∃ n, FitP L r c M n := by
  have hb : (lawB L && stoB r c M) = true := by
    cases e : (lawB L && stoB r c M)
    · rw [fitE_arg e] at h; cases h
    · rfl
  have hl : (L.length : Int) = r := by
    by_cases hl : (L.length : Int) = r
    · exact hl
    · rw [fitE_shape hb hl] at h; cases h
  rw [Bool.and_eq_true] at hb
  obtain ⟨n, h1, h2, h3, h4, h5, h6⟩ := stoB_parts hb.2
  obtain ⟨g1, g2, g3⟩ := lawB_ok hb.1
  have hn : L.length = n := by omega
  exact ⟨n, h1, h2, h3, hn, h4, g1, h5, h6, fun i hi => g2 i (by omega), by unfold sumL at g3; rw [hn] at g3; exact g3⟩
theorem fits_c (V : View) (v s : Value) (r c : Int) (L M : List Raw) (B : Nat) (h : LM V v s L M B) : Spec Tryz.prog 67 [v, .agg #[.int .i64 r, .int .i64 c, s]] V fun v' V' => v' = .int .i64 (fitE L r c M) := by
  obtain ⟨A1, c1, rfl, hc1, hm1⟩ := h.hv.form
  obtain ⟨A2, c2, rfl, hc2, hm2⟩ := h.hs.form
  have hB := h.hB
  have lL := h.lL
  have lM := h.lM
  refine (Spec.enter Tryz.func67 rfl fun Γ => ?_)
  simp only [Tryz.ntmps67, List.map_cons, List.map_nil, List.length_cons, List.length_nil, Nat.reduceAdd, Nat.reduceSub, List.replicate_succ, List.replicate_zero, List.cons_append, List.nil_append]
  refine Gx.a (by kernel_rfl) fun K hK => ?_
  simp only [XA]
  refine hK _ ?_
  refine XWP.cut (fun s => StIs (fun Z => [Z 0,Z 1,Z 2,Z 3,Z 4,Z 5,Z 6,Z 7,Z 8,Z 9,Z 10,Z 11,Z 12,Z 13,Z 14,Z 15,Z 16,Z 17,Z 18,Z 19]) [[.int .i64 r, .int .i64 c, .slice A2 M.length c2]] (fun _ => none) s.V s ∧ fitE L r c M = 0) ?_ ?_
  · refine XWP.block ?_
    refine XWP.seq ?_
    refine Gx.c (by kernel_rfl) fun K hK => ?_
    simp only [XA]
    refine call_go (by kernel_rfl) rfl (blaw_c _ _ L B h.hv h.fL lL (fun _ => h.qL) (by omega)) fun v1 V1 hV1 h1 => ?_
    subst h1
    cases e1 : lawB L
    · simp only [XA, gateX, ↓reduceIte]
      refine hK _ ?_
      refine Gx.t rfl ?_
      refine Gx.a (by kernel_rfl) fun K hK => ?_
      simp only [XA]
      refine hK _ (XWP.ret ?_)
      try simp only [thenX_ret, inBlockX_ret]
      refine ret_go _ rfl ?_
      rw [fitE_arg (by rw [e1]; rfl)]; rfl
    simp only [XM, XA, gateX, Nat.reduceAdd, Nat.reduceLeDiff, ↓reduceIte, beq_self_eq_true]
    refine call_go (by kernel_rfl) rfl (csto_c _ _ r c M B (h.hs.up hV1) h.fM (by omega) (fun _ => h.qM) (by omega)) fun v2 V2 hV2 h2 => ?_
    subst h2
    cases e2 : stoB r c M
    · simp only [XA, gateX, ↓reduceIte, beq_self_eq_true]
      refine hK _ ?_
      refine Gx.t rfl ?_
      refine Gx.a (by kernel_rfl) fun K hK => ?_
      simp only [XA]
      refine hK _ (XWP.ret ?_)
      try simp only [thenX_ret, inBlockX_ret]
      refine ret_go _ rfl ?_
      rw [fitE_arg (by rw [e1, e2]; rfl)]; rfl
    simp only [XA, gateX, ↓reduceIte, beq_self_eq_true]
    refine hK _ ?_
    refine Gx.f rfl ?_
    have eb : (lawB L && stoB r c M) = true := by rw [e1, e2]; rfl
    by_cases hl : (L.length : Int) = r
    rotate_left
    · have b1 : decide ((L.length : Int) = r) = false := decide_eq_false (by omega)
      refine Gx.a (by kernel_rfl) fun K hK => ?_
      simp only [XM, XA, XB, b1]
      refine hK _ ?_
      refine Gx.t rfl ?_
      refine Gx.a (by kernel_rfl) fun K hK => ?_
      simp only [XA]
      refine hK _ (XWP.ret ?_)
      try simp only [thenX_ret, inBlockX_ret]
      refine ret_go _ rfl ?_
      rw [fitE_shape eb hl]; rfl
    have b1 : decide ((L.length : Int) = r) = true := decide_eq_true (by omega)
    refine Gx.a (by kernel_rfl) fun K hK => ?_
    simp only [XM, XA, XB, b1]
    refine hK _ ?_
    refine Gx.f rfl ?_
    refine XWP.skip ?_
    exact ⟨StIs.of (by exact rfl), fitE_ok eb hl⟩
  rintro s ⟨hs, e⟩
  obtain ⟨t, bx, H, V2⟩ := s
  obtain ⟨z, e3⟩ := hs.out
  cases e3
  try dsimp only
  refine Gx.a (by kernel_rfl) fun K hK => ?_
  simp only [XA]
  refine hK _ (XWP.ret ?_)
  try simp only [thenX_ret, inBlockX_ret]
  refine ret_go _ rfl ?_
  rw [e]; rfl
theorem eqf_c (V : View) (v u : Value) (l m : List Rat) (hv : Rats V v l) (hu : Rats V u m) (hl : ∀ x ∈ l, QF x) (hm : ∀ x ∈ m, QF x) : Spec Tryz.prog 68 [v, u, .func (.func 70) #[] #[]] V fun v' V' => v' = .bool (decide (l = m)) := by
  obtain ⟨A1, c1, rfl, hc1, hm1⟩ := hv.form
  obtain ⟨A2, c2, rfl, hc2, hm2⟩ := hu.form
  refine (Spec.enter Tryz.func68 rfl fun Γ => ?_)
  simp only [Tryz.ntmps68, List.map_cons, List.map_nil, List.length_cons, List.length_nil, Nat.reduceAdd, Nat.reduceSub, List.replicate_succ, List.replicate_zero, List.cons_append, List.nil_append]
  refine Gx.a (by kernel_rfl) fun K hK => ?_
  simp only [XA]
  refine hK _ ?_
  refine XWP.seq ?_
  by_cases hlen : l.length = m.length
  rotate_left
  · have b1 : decide ((l.length : Int) = (m.length : Int)) = false := decide_eq_false (by omega)
    refine Gx.a (by kernel_rfl) fun K hK => ?_
    simp only [XA, XB, b1]
    refine hK _ ?_
    refine Gx.t rfl ?_
    refine Gx.a (by kernel_rfl) fun K hK => ?_
    simp only [XA]
    refine hK _ (XWP.ret ?_)
    try simp only [thenX_ret, inBlockX_ret]
    refine ret_go _ rfl ?_
    rw [decide_eq_false (fun e => hlen (by rw [e]))]; rfl
  have b1 : decide ((l.length : Int) = (m.length : Int)) = true := decide_eq_true (by omega)
  refine Gx.a (by kernel_rfl) fun K hK => ?_
  simp only [XA, XB, b1]
  refine hK _ ?_
  refine Gx.f rfl ?_
  refine XWP.skip ?_
  refine XWP.cutD 0 (fun s => ∃ V2, StIs (fun Z => [Z 0,Z 1,Z 2,Z 3,Z 4,Z 5,Z 6,Z 7,Z 8,Z 9,Z 10,Z 11,Z 12,Z 13,Z 14,Z 15,Z 16,Z 17,Z 18,Z 19,Z 20,Z 21,Z 22,Z 23,Z 24,Z 25,Z 26,Z 27,Z 28,Z 29,Z 30,Z 31]) [] (fun _ => none) V2 s ∧ l = m) ?_ ?_
  · refine Gx.a (by kernel_rfl) fun K hK => ?_
    simp only [XA, XB]
    refine hK _ ?_
    clear hK
    refine XWP.block ?_
    refine XWP.loopD 0 (fun n s => ∃ (k : Nat) (V2 : View), StIs (fun Z => [.v (.slice A1 l.length c1), .v (.slice A2 m.length c2), .v (.func (.func 70) #[] #[]), Z 3,Z 4,Z 5,Z 6,Z 7,Z 8,Z 9,Z 10,Z 11,Z 12,Z 13,Z 14, .v (.slice A1 l.length c1), .v (.int .i64 (l.length : Int)), .v (.int .i64 (k : Int)), Z 18,Z 19,Z 20,Z 21,Z 22,Z 23,Z 24,Z 25,Z 26,Z 27,Z 28,Z 29,Z 30,Z 31]) [] (fun _ => none) V2 s ∧ V.le V2 ∧ n + k = l.length ∧ ∀ i, i < k → cf l i = cf m i) l.length ⟨0, V, StIs.of (by exact rfl), View.le_refl _, by omega, fun i hi => by omega⟩ ?_
    rintro n s ⟨k, V2, hs, hV2, hn, hk⟩
    obtain ⟨z, rfl⟩ := hs.out
    try dsimp only
    clear hs
    by_cases hlt : k < l.length
    rotate_left
    · have b2 : decide ((k : Int) < (l.length : Int)) = false := decide_eq_false (by omega)
      refine Gx.a (by kernel_rfl) fun K hK => ?_
      simp only [XA, XB, b2]
      refine hK _ ?_
      refine XWP.seq (Gx.f rfl ?_)
      refine XWP.exit ?_
      refine fun f => ⟨V2, StIs.of (by exact rfl), List.ext_getElem hlen fun i h1 h2 => ?_⟩
      rw [cf_get h1, cf_get h2]; exact hk i (by omega)
    have b2 : decide ((k : Int) < (l.length : Int)) = true := decide_eq_true (by omega)
    refine Gx.a (by kernel_rfl) fun K hK => ?_
    simp only [XA, XB, b2]
    refine hK _ ?_
    refine XWP.seq (Gx.t rfl ?_)
    refine XWP.skip ?_
    have hv2 := Rats.up hv hV2
    have hu2 := Rats.up hu hV2
    obtain ⟨b, o, rfl⟩ := SlAt.addr hv2 (by omega)
    obtain ⟨b', o', rfl⟩ := SlAt.addr hu2 (by omega)
    obtain ⟨m3, n3, d3, hx3, ⟨p1, p2, p3⟩, hld3⟩ := Rats.get hv2 k (by omega)
    obtain ⟨m4, n4, d4, hx4, ⟨r1, r2, r3⟩, hld4⟩ := Rats.get hu2 k (by omega)
    refine XWP.seq ?_
    refine XWP.block ?_
    refine Gx.a (by kernel_rfl) fun K hK => ?_
    simp only [XA, XB]
    refine ⟨by omega, by omega, ld_mem (hld3 _) ?_⟩
    simp only [XA, XB]
    refine st_rat rfl rfl p1 p2 p3 ?_
    simp only [XA]
    refine hK _ ?_
    refine Gx.a (by kernel_rfl) fun K hK => ?_
    simp only [XA, XB]
    refine ⟨by omega, by omega, ld_mem (hld4 _) ?_⟩
    simp only [XA, XB]
    refine st_rat rfl rfl r1 r2 r3 ?_
    simp only [XA]
    refine hK _ ?_
    refine Gx.a (by kernel_rfl) fun K hK => ?_
    simp only [XA, XB, Nat.reduceAdd, Nat.reduceLeDiff, ↓reduceIte]
    have f3 := hl _ (cf_mem hlt)
    have f4 := hm _ (cf_mem (show k < m.length by omega))
    refine call_go (by kernel_rfl) rfl (qsame_c _ _ _ _ _ hx3 hx4 f3 f4) fun v5 V5 hV5 h5 => ?_
    subst h5
    by_cases he : cf l k = cf m k
    · have b3 : decide (cf l k = cf m k) = true := decide_eq_true he
      simp only [XA, b3]
      refine hK _ ?_
      refine Gx.f rfl ?_
      refine XWP.skip ?_
      refine Gx.c (by kernel_rfl) fun K hK => ?_
      simp only [XA, XB, i64_succ k (by omega)]
      refine hK _ ⟨n - 1, by omega, fun f => ⟨k + 1, V5, StIs.of (by exact rfl), View.le_trans hV2 hV5, by omega, fun i hi => ?_⟩⟩
      by_cases e : i = k
      · rw [e]; exact he
      · exact hk i (by omega)
    · have b3 : decide (cf l k = cf m k) = false := decide_eq_false he
      simp only [XA, b3]
      refine hK _ ?_
      refine Gx.t rfl ?_
      refine Gx.a (by kernel_rfl) fun K hK => ?_
      simp only [XA]
      refine hK _ (XWP.ret ?_)
      try simp only [thenX_ret, inBlockX_ret]
      refine ret_go _ rfl ?_
      rw [decide_eq_false (fun e => he (by rw [e]))]; rfl
  rintro s ⟨V2, hs, he⟩
  obtain ⟨z, rfl⟩ := hs.out
  try dsimp only
  refine Gx.a (by kernel_rfl) fun K hK => ?_
  simp only [XA]
  refine hK _ (XWP.ret ?_)
  try simp only [thenX_ret, inBlockX_ret]
  refine ret_go _ rfl ?_
  rw [decide_eq_true he]; rfl
/-- what Step gives -/
def StepR (L : List Raw) (r c : Int) (M : List Raw) (v' : Value) (V' : View) : Prop :=
  (fitE L r c M ≠ 0 → v' = .tuple #[.slice none 0 0, .int .i64 (fitE L r c M)]) ∧ (fitE L r c M = 0 → ∃ w, v' = .tuple #[w, .int .i64 0] ∧ Rats V' w (stepL (qs L) (qs M) L.length))
theorem LM.rats {V : View} {v s : Value} {L M : List Raw} {B n : Nat} {r c : Int} (h : LM V v s L M B) (p : FitP L r c M n) : Rats V v (qs L) ∧ Rats V s (qs M) := ⟨Raws.rats h.hv p.okL, Raws.rats h.hs p.okM⟩
theorem bStep_c (V : View) (v s : Value) (r c : Int) (L M : List Raw) (B : Nat) (h : LM V v s L M B) : Spec Tryz.prog 32 [v, .agg #[.int .i64 r, .int .i64 c, s]] V fun v' V' => StepR L r c M v' V' := by
  obtain ⟨A1, c1, rfl, hc1, hm1⟩ := h.hv.form
  obtain ⟨A2, c2, rfl, hc2, hm2⟩ := h.hs.form
  have hB := h.hB
  refine (Spec.enter Tryz.func32 rfl fun Γ => ?_)
  simp only [Tryz.ntmps32, List.map_cons, List.map_nil, List.length_cons, List.length_nil, Nat.reduceAdd, Nat.reduceSub, List.replicate_succ, List.replicate_zero, List.cons_append, List.nil_append]
  refine Gx.a (by kernel_rfl) fun K hK => ?_
  simp only [XA]
  refine hK _ ?_
  refine XWP.seq ?_
  refine Gx.a (by kernel_rfl) fun K hK => ?_
  simp only [XM, XA, Nat.reduceAdd, Nat.reduceLeDiff, ↓reduceIte]
  refine call_go (by kernel_rfl) rfl (fits_c _ _ _ r c L M B h) fun v1 V1 hV1 h1 => ?_
  subst h1
  simp only [XA]
  refine hK _ ?_
  by_cases e : fitE L r c M = 0
  rotate_left
  · have b1 : decide (fitE L r c M = 0) = false := decide_eq_false e
    refine Gx.a (by kernel_rfl) fun K hK => ?_
    simp only [XA, XB, b1]
    refine hK _ ?_
    refine Gx.t rfl ?_
    refine Gx.a (by kernel_rfl) fun K hK => ?_
    simp only [XA]
    refine hK _ (XWP.ret ?_)
    try simp only [thenX_ret, inBlockX_ret]
    refine ret_go _ rfl ?_
    exact ⟨fun _ => rfl, fun h => absurd h e⟩
  have b1 : decide (fitE L r c M = 0) = true := decide_eq_true e
  refine Gx.a (by kernel_rfl) fun K hK => ?_
  simp only [XA, XB, b1]
  refine hK _ ?_
  refine Gx.f rfl ?_
  refine XWP.skip ?_
  obtain ⟨n, p⟩ := fitE_parts e
  have hr := (h.up hV1).rats p
  obtain ⟨rfl, rfl, hn, lL, lM, _, _, _, _, _⟩ := p
  refine Gx.a (by kernel_rfl) fun K hK => ?_
  simp only [XM, XA, Nat.reduceAdd, Nat.reduceLeDiff, ↓reduceIte]
  refine call_go (by kernel_rfl) rfl (bstep_c _ _ _ n B (qs L) (qs M) hr.1 hr.2 (by rw [qs_len]; exact lL) (by rw [qs_len]; exact lM) hn h.qL h.qM (by omega)) fun v2 V2 hV2 h2 => ?_
  simp only [XA]
  refine hK _ (XWP.ret ?_)
  try simp only [thenX_ret, inBlockX_ret]
  refine ret_go _ rfl ?_
  exact ⟨fun g => absurd e g, fun _ => ⟨_, rfl, by rw [lL]; exact h2⟩⟩
def staysB (L : List Raw) (r c : Int) (M : List Raw) : Bool := decide (fitE L r c M = 0) && decide (stepL (qs L) (qs M) L.length = qs L)
theorem bStays_c (V : View) (v s : Value) (r c : Int) (L M : List Raw) (B : Nat) (h : LM V v s L M B) : Spec Tryz.prog 27 [v, .agg #[.int .i64 r, .int .i64 c, s]] V fun v' V' => v' = .tuple #[.bool (staysB L r c M), .int .i64 (fitE L r c M)] := by
  obtain ⟨A1, c1, rfl, hc1, hm1⟩ := h.hv.form
  obtain ⟨A2, c2, rfl, hc2, hm2⟩ := h.hs.form
  have hB := h.hB
  refine (Spec.enter Tryz.func27 rfl fun Γ => ?_)
  simp only [Tryz.ntmps27, List.map_cons, List.map_nil, List.length_cons, List.length_nil, Nat.reduceAdd, Nat.reduceSub, List.replicate_succ, List.replicate_zero, List.cons_append, List.nil_append]
  refine Gx.a (by kernel_rfl) fun K hK => ?_
  simp only [XA]
  refine hK _ ?_
  refine XWP.seq ?_
  refine Gx.a (by kernel_rfl) fun K hK => ?_
  simp only [XM, XA, Nat.reduceAdd, Nat.reduceLeDiff, ↓reduceIte]
  refine call_go (by kernel_rfl) rfl (fits_c _ _ _ r c L M B h) fun v1 V1 hV1 h1 => ?_
  subst h1
  simp only [XA]
  refine hK _ ?_
  by_cases e : fitE L r c M = 0
  rotate_left
  · have b1 : decide (fitE L r c M = 0) = false := decide_eq_false e
    refine Gx.a (by kernel_rfl) fun K hK => ?_
    simp only [XA, XB, b1]
    refine hK _ ?_
    refine Gx.t rfl ?_
    refine Gx.a (by kernel_rfl) fun K hK => ?_
    simp only [XA]
    refine hK _ (XWP.ret ?_)
    try simp only [thenX_ret, inBlockX_ret]
    refine ret_go _ rfl ?_
    unfold staysB; rw [b1]; rfl
  have b1 : decide (fitE L r c M = 0) = true := decide_eq_true e
  refine Gx.a (by kernel_rfl) fun K hK => ?_
  simp only [XA, XB, b1]
  refine hK _ ?_
  refine Gx.f rfl ?_
  refine XWP.skip ?_
  obtain ⟨n, p⟩ := fitE_parts e
  have hr := (h.up hV1).rats p
  obtain ⟨rfl, rfl, hn, lL, lM, _, _, _, _, _⟩ := p
  have lqL : (qs L).length = n := by rw [qs_len]; exact lL
  have lqM : (qs M).length = n * n := by rw [qs_len]; exact lM
  have qS := stepL_QB h.qL h.qM lqL lqM
  have qS1 : ∀ x ∈ stepL (qs L) (qs M) n, QF x := fun x hx => (qS x hx).qf (Nat.le_trans (Nat.mul_le_mul_right _ hn) (by omega))
  refine Gx.a (by kernel_rfl) fun K hK => ?_
  simp only [XM, XA, Nat.reduceAdd, Nat.reduceLeDiff, ↓reduceIte]
  refine call_go (by kernel_rfl) rfl (bstep_c _ _ _ n B (qs L) (qs M) hr.1 hr.2 lqL lqM hn h.qL h.qM (by omega)) fun v2 V2 hV2 h2 => ?_
  simp only [XA]
  refine call_go (by kernel_rfl) rfl (eqf_c _ _ _ _ _ h2 (hr.1.up hV2) qS1 (fun x hx => (h.qL x hx).qf (by omega))) fun v3 V3 hV3 h3 => ?_
  subst h3
  simp only [XA]
  refine hK _ (XWP.ret ?_)
  try simp only [thenX_ret, inBlockX_ret]
  refine ret_go _ rfl ?_
  unfold staysB
  rw [b1, e, lL]; rfl
end Go.Proofs.YtkgmicakfmllmaaGreat
end
section
namespace Go.Proofs.YtkgmicakfmllmaaGreat
open Go Go.RowKit
set_option linter.unusedSimpArgs false
set_option linter.unusedVariables false
attribute [local irreducible] XWP Spec SpecO XPub XCall seqX clX apX stX ldX iaX slX
end Go.Proofs.YtkgmicakfmllmaaGreat
end
section
namespace Go.Proofs.YtkgmicakfmllmaaGreat
open Go Go.RowKit
set_option linter.unusedSimpArgs false
set_option linter.unusedVariables false
attribute [local irreducible] XWP Spec SpecO XPub XCall seqX clX apX stX ldX iaX slX
end Go.Proofs.YtkgmicakfmllmaaGreat
end
section
namespace Go.Proofs.YtkgmicakfmllmaaGreat
open Go Go.RowKit
set_option linter.unusedSimpArgs false
set_option linter.unusedVariables false
attribute [local irreducible] XWP Spec SpecO XPub XCall seqX clX apX stX ldX iaX slX
theorem stoB_bad {n : Nat} {L : List Raw} {i : Nat} (hi : i < n) (h : rowOk (qs L) n i = false) : stoB (n : Int) (n : Int) L = false := by
  unfold stoB
  have : (List.range (n : Int).toNat).all (rowOk (qs L) (n : Int).toNat) = false := by
    rw [Int.toNat_natCast, List.all_eq_false]
    exact ⟨i, List.mem_range.2 hi, by rw [h]; simp⟩
  rw [this, Bool.and_false]
set_option maxHeartbeats 4000000 in
theorem dsto_c (V : View) (s : Value) (r c : Int) (L : List Raw) (B : Nat) (h : Raws V s L) (f : fitR L) (ll : L.length ≤ 100000) (hq : ∀ x ∈ qs L, QB B x) (hB : 1001 * (B + 1) ≤ 17592186044416) :
    Spec Tryz.prog 24 [.agg #[.int .i64 r, .int .i64 c, s]] V fun v' V' => v' = .bool (stoB r c L) := by
  obtain ⟨A, cp, rfl, hc, hm⟩ := h.form
  refine (Spec.enter Tryz.func24 rfl fun Γ => ?_)
  simp only [Tryz.ntmps24, List.map_cons, List.map_nil, List.length_cons, List.length_nil, Nat.reduceAdd, Nat.reduceSub, List.replicate_succ, List.replicate_zero, List.cons_append, List.nil_append]
  refine Gx.a (by kernel_rfl) fun K hK => ?_
  simp only [XA]
  refine hK _ ?_
  refine XWP.seq ?_
  refine Gx.a (by kernel_rfl) fun K hK => ?_
  simp only [XM, XA, Nat.reduceAdd, Nat.reduceLeDiff, ↓reduceIte]
  refine call_go (by kernel_rfl) rfl (dmright_c _ _ _ _ L h f (by omega)) fun v1 V1 hV1 h1 => ?_
  subst h1
  cases e1 : matR r c L
  · simp only [XA, gateX, ↓reduceIte]
    refine hK _ ?_
    refine Gx.t rfl ?_
    refine Gx.a (by kernel_rfl) fun K hK => ?_
    simp only [XA]
    refine hK _ (XWP.ret ?_)
    try simp only [thenX_ret, inBlockX_ret]
    refine ret_go _ rfl ?_
    unfold stoB
    rw [e1]; rfl
  by_cases e2 : r = c
  rotate_left
  · have b1 : decide (r = c) = false := decide_eq_false e2
    simp only [XM, XA, XB, gateX, ↓reduceIte, beq_self_eq_true, b1]
    refine hK _ ?_
    refine Gx.t rfl ?_
    refine Gx.a (by kernel_rfl) fun K hK => ?_
    simp only [XA]
    refine hK _ (XWP.ret ?_)
    try simp only [thenX_ret, inBlockX_ret]
    refine ret_go _ rfl ?_
    unfold stoB
    rw [e1, b1]; rfl
  subst e2
  have hmat := e1
  unfold matR at e1
  rw [Bool.and_eq_true, decide_eq_true_eq] at e1
  obtain ⟨⟨k1, k2, _, _, k5⟩, ok⟩ := e1
  obtain ⟨n, rfl⟩ : ∃ n : Nat, r = n := ⟨r.toNat, by omega⟩
  have kl : L.length = n * n := by rw [← Int.natCast_mul] at k5; omega
  have hn : n ≤ 60 := by omega
  have hr := (Raws.rats h ok).up hV1
  have hlen := qs_len L
  have lln : (qs L).length = n * n := by omega
  simp only [XM, XA, XB, gateX, ↓reduceIte, beq_self_eq_true, decide_true]
  refine hK _ ?_
  refine Gx.f rfl ?_
  refine XWP.skip ?_
  refine XWP.cutD 1 (fun s => StIs (fun Z => [Z 0,Z 1,Z 2,Z 3,Z 4,Z 5,Z 6,Z 7,Z 8,Z 9,Z 10,Z 11,Z 12,Z 13,Z 14,Z 15,Z 16,Z 17,Z 18,Z 19,Z 20,Z 21,Z 22,Z 23,Z 24,Z 25,Z 26,Z 27,Z 28,Z 29,Z 30,Z 31,Z 32,Z 33,Z 34,Z 35,Z 36,Z 37,Z 38,Z 39]) [[.int .i64 (n : Int), .int .i64 (n : Int), .slice A L.length cp]] (fun _ => none) s.V s ∧ stoB (n : Int) (n : Int) L = true) ?_ ?_
  · refine Gx.a (by kernel_rfl) fun K hK => ?_
    simp only [XM, XA, Nat.reduceAdd, Nat.reduceLeDiff, ↓reduceIte]
    refine call_go (by kernel_rfl) rfl (drows_c _ _ n n (qs L) hr lln hn hn) fun v2 V2 hV2 h2 => ?_
    obtain ⟨A2, c2, rfl, hc2, hm2⟩ := h2.form
    have el : ((List.range n).map (rowL (qs L) n)).length = n := by simp
    rw [el] at h2 hc2 ⊢
    simp only [XN, XA]
    refine hK _ ?_
    clear hK
    refine XWP.block ?_
    refine XWP.loopD 1 (fun q s => ∃ (i : Nat) (V3 : View), StIs (fun Z => [Z 0, .p 0 0, Z 2,Z 3,Z 4,Z 5,Z 6,Z 7,Z 8,Z 9,Z 10,Z 11,Z 12,Z 13,Z 14,Z 15,Z 16,Z 17, .v (.slice A2 n c2), .v (.int .i64 (n : Int)), .v (.int .i64 (i : Int)), Z 21,Z 22,Z 23,Z 24,Z 25,Z 26,Z 27,Z 28,Z 29,Z 30,Z 31,Z 32,Z 33,Z 34,Z 35,Z 36,Z 37,Z 38,Z 39]) [[.int .i64 (n : Int), .int .i64 (n : Int), .slice A L.length cp]] (fun _ => none) V3 s ∧ q + i = n ∧ V2.le V3 ∧ (List.range i).all (rowOk (qs L) n) = true) n ⟨0, V2, StIs.of (by exact rfl), by omega, View.le_refl _, rfl⟩ ?_
    rintro q s ⟨i, V3, hs, hqi, hV3, hall⟩
    obtain ⟨z, rfl⟩ := hs.out
    try dsimp only
    clear hs
    by_cases hi : i < n
    rotate_left
    · obtain rfl : i = n := by omega
      have b1 : decide ((i : Int) < (i : Int)) = false := decide_eq_false (by omega)
      refine Gx.a (by kernel_rfl) fun K hK => ?_
      simp only [XA, XB, b1]
      refine hK _ ?_
      refine XWP.seq (Gx.f rfl ?_)
      refine XWP.exit ?_
      refine fun f => ⟨StIs.of (by exact rfl), ?_⟩
      unfold stoB
      rw [hmat, decide_eq_true rfl, Int.toNat_natCast, hall]; rfl
    have b1 : decide ((i : Int) < (n : Int)) = true := decide_eq_true (by omega)
    refine Gx.a (by kernel_rfl) fun K hK => ?_
    simp only [XA, XB, b1]
    refine hK _ ?_
    refine XWP.seq (Gx.t rfl ?_)
    refine XWP.skip ?_
    obtain ⟨bw, ow, rfl⟩ := h2.addr (by simp; omega)
    obtain ⟨u, g1, _, g2⟩ := Sl1.load (n := n) (h2.mono ratsE_ok hV3) i (by simp; omega)
    have eg : ((List.range n).map (rowL (qs L) n))[i]'(by simp; omega) = rowL (qs L) n i := by simp
    rw [eg] at g1
    have g3 := fun H => g2 H _ _ shapeT_22
    clear g2
    have hrl : (rowL (qs L) n i).length = n := row_len lln hi
    obtain ⟨A3, c3, rfl, hc3, hm3⟩ := SlAt.form g1
    rw [hrl] at g1 hc3 g3
    have hcf : ∀ k, k < n → cf (rowL (qs L) n i) k = cf (qs L) (i * n + k) := fun k hk => cf_row lln hi hk
    have hQr : ∀ x ∈ rowL (qs L) n i, QB B x := fun x hx => hq x (List.mem_of_mem_take (List.mem_of_mem_drop hx))
    generalize rowL (qs L) n i = R at *
    have g1 : Rats V3 (.slice A3 n c3) R := g1
    refine XWP.cutD 1 (fun s => ∃ (V4 : View), StIs (fun Z => [Z 0, .p 0 0, Z 2,Z 3,Z 4,Z 5,Z 6,Z 7,Z 8,Z 9,Z 10,Z 11,Z 12,Z 13,Z 14,Z 15,Z 16,Z 17, .v (.slice (some ⟨bw, ow, none⟩) n c2), .v (.int .i64 (n : Int)), .v (.int .i64 (i : Int)), Z 21,Z 22,Z 23,Z 24,Z 25,Z 26,Z 27,Z 28,Z 29,Z 30,Z 31,Z 32,Z 33,Z 34,Z 35,Z 36,Z 37,Z 38,Z 39]) [[.int .i64 (n : Int), .int .i64 (n : Int), .slice A L.length cp]] (fun _ => none) V4 s ∧ V3.le V4 ∧ rowOk (qs L) n i = true) ?_ ?_
    · refine XWP.block ?_
      refine Gx.a (by kernel_rfl) fun K hK => ?_
      simp only [XN, XA, XB]
      refine ⟨by omega, by omega, ?_⟩
      refine ld_mem (by simpa using g3 _) ?_
      simp only [XA]
      refine hK _ ?_
      refine XWP.cutD 1 (fun s => ∃ (V4 : View), StIs (fun Z => [Z 0, .p 0 0, Z 2,Z 3, .v (.slice A3 n c3), Z 5,Z 6,Z 7,Z 8,Z 9,Z 10,Z 11,Z 12,Z 13,Z 14,Z 15,Z 16,Z 17, .v (.slice (some ⟨bw, ow, none⟩) n c2), .v (.int .i64 (n : Int)), .v (.int .i64 (i : Int)), Z 21,Z 22,Z 23,Z 24,Z 25,Z 26,Z 27,Z 28,Z 29,Z 30,Z 31,Z 32,Z 33,Z 34,Z 35,Z 36,Z 37,Z 38,Z 39]) [[.int .i64 (n : Int), .int .i64 (n : Int), .slice A L.length cp]] (fun _ => none) V4 s ∧ V3.le V4 ∧ (List.range n).all (fun k => !ng (cf (qs L) (i * n + k))) = true) ?_ ?_
      · refine Gx.a (by kernel_rfl) fun K hK => ?_
        simp only [XA, XB]
        refine hK _ ?_
        clear hK
        refine XWP.block ?_
        refine XWP.loopD 1 (fun p s => ∃ (k : Nat) (V4 : View), StIs (fun Z => [Z 0, .p 0 0, Z 2,Z 3, .v (.slice A3 n c3), Z 5,Z 6,Z 7,Z 8,Z 9,Z 10,Z 11,Z 12,Z 13,Z 14,Z 15,Z 16,Z 17, .v (.slice (some ⟨bw, ow, none⟩) n c2), .v (.int .i64 (n : Int)), .v (.int .i64 (i : Int)), Z 21,Z 22,Z 23, .v (.slice A3 n c3), .v (.int .i64 (n : Int)), .v (.int .i64 (k : Int)), Z 27,Z 28,Z 29,Z 30,Z 31,Z 32,Z 33,Z 34,Z 35,Z 36,Z 37,Z 38,Z 39]) [[.int .i64 (n : Int), .int .i64 (n : Int), .slice A L.length cp]] (fun _ => none) V4 s ∧ p + k = n ∧ V3.le V4 ∧ (List.range k).all (fun k => !ng (cf (qs L) (i * n + k))) = true) n ⟨0, V3, StIs.of (by exact rfl), by omega, View.le_refl _, rfl⟩ ?_
        rintro p s ⟨k, V4, hs, hp, hV4, hk⟩
        obtain ⟨z, rfl⟩ := hs.out
        try dsimp only
        clear hs
        by_cases hkn : k < n
        rotate_left
        · obtain rfl : k = n := by omega
          have b3 : decide ((k : Int) < (k : Int)) = false := decide_eq_false (by omega)
          refine Gx.a (by kernel_rfl) fun K hK => ?_
          simp only [XA, XB, b3]
          refine hK _ ?_
          refine XWP.seq (Gx.f rfl ?_)
          refine XWP.exit ?_
          exact fun f => ⟨V4, StIs.of (by exact rfl), hV4, hk⟩
        have b3 : decide ((k : Int) < (n : Int)) = true := decide_eq_true (by omega)
        refine Gx.a (by kernel_rfl) fun K hK => ?_
        simp only [XA, XB, b3]
        refine hK _ ?_
        refine XWP.seq (Gx.t rfl ?_)
        refine XWP.skip ?_
        have hrow3 := g1.up hV4
        obtain ⟨bb, oo, rfl⟩ := SlAt.addr hrow3 (by omega)
        obtain ⟨m3, n3, d3, hx, ⟨p1, p2, p3⟩, hld⟩ := Rats.get hrow3 k (by omega)
        have qx : QF (cf (qs L) (i * n + k)) := by rw [← hcf k hkn]; exact (hQr _ (cf_mem (by omega))).qf (by omega)
        rw [hcf k hkn] at hx
        refine XWP.seq ?_
        refine XWP.block ?_
        refine Gx.a (by kernel_rfl) fun K hK => ?_
        simp only [XA, XB]
        refine ⟨by omega, by omega, ld_mem (hld _) ?_⟩
        simp only [XA, XB]
        refine st_rat rfl rfl p1 p2 p3 ?_
        simp only [XA]
        refine hK _ ?_
        have en := sgI_lt (cf (qs L) (i * n + k))
        refine Gx.a (by kernel_rfl) fun K hK => ?_
        simp only [XA, XB, Nat.reduceAdd, Nat.reduceLeDiff, ↓reduceIte]
        refine call_go (by kernel_rfl) rfl (psign_c _ _ _ (hx.toV qx)) fun v5 V5 hV5 h5 => ?_
        subst h5
        cases hng : ng (cf (qs L) (i * n + k))
        · rw [hng] at en
          simp only [XA, XB, en]
          refine hK _ ?_
          refine Gx.f rfl ?_
          refine XWP.skip ?_
          refine Gx.c (by kernel_rfl) fun K hK => ?_
          simp only [XA, XB, i64_succ k (by omega)]
          exact hK _ ⟨p - 1, by omega, fun f => ⟨k + 1, V5, StIs.of (by exact rfl), by omega, View.le_trans hV4 hV5, by rw [List.range_succ, List.all_append, hk]; simp [hng]⟩⟩
        · rw [hng] at en
          simp only [XA, XB, en]
          refine hK _ ?_
          refine Gx.t rfl ?_
          refine Gx.a (by kernel_rfl) fun K hK => ?_
          simp only [XA]
          refine hK _ (XWP.ret ?_)
          try simp only [thenX_ret, inBlockX_ret]
          refine ret_go _ rfl ?_
          have : rowOk (qs L) n i = false := by
            unfold rowOk
            have : ((List.range n).all fun k => !ng (cf (qs L) (i * n + k))) = false := by
              rw [List.all_eq_false]
              exact ⟨k, List.mem_range.2 hkn, by rw [hng]; simp⟩
            rw [this]; rfl
          rw [stoB_bad hi this]; rfl
      rintro s ⟨V4, hs, hV4, hall2⟩
      obtain ⟨z, rfl⟩ := hs.out
      try dsimp only
      clear hs
      have hrow4 := g1.up hV4
      refine Gx.a (by kernel_rfl) fun K hK => ?_
      simp only [XA]
      refine call_go (by kernel_rfl) rfl (psum_c _ _ _ B hrow4 hQr (by omega) hB) fun v5 V5 hV5 h5 => ?_
      rw [hrl] at h5
      have esum : sumL R n = Sm (fun k => cf (qs L) (i * n + k)) n := Sm_congr n fun k hk => hcf k hk
      have qsum : QF (sumL R n) := (sumL_QB hQr n (by omega)).qf (Nat.le_trans (Nat.mul_le_mul_right _ (show n ≤ 1001 by omega)) hB)
      simp only [XA]
      refine call_go (by kernel_rfl) rfl (pone_c _) fun v6 V6 hV6 h6 => ?_
      simp only [XA]
      refine call_go (by kernel_rfl) rfl (psame_c _ _ _ _ _ ((h5.mono hV6).toV qsum) (h6.toV QF_one) qsum QF_one) fun v7 V7 hV7 h7 => ?_
      subst h7
      rw [esum]
      have hle7 := View.le_trans hV4 (View.le_trans hV5 (View.le_trans hV6 hV7))
      by_cases hs1 : Sm (fun k => cf (qs L) (i * n + k)) n = 1
      · have b3 : decide (Sm (fun k => cf (qs L) (i * n + k)) n = 1) = true := decide_eq_true hs1
        simp only [XA, b3]
        refine hK _ ?_
        refine Gx.f rfl ?_
        refine XWP.skip ?_
        exact fun f => ⟨V7, StIs.of (by exact rfl), hle7, by unfold rowOk; rw [hall2, b3]; rfl⟩
      · have b3 : decide (Sm (fun k => cf (qs L) (i * n + k)) n = 1) = false := decide_eq_false hs1
        simp only [XA, b3]
        refine hK _ ?_
        refine Gx.t rfl ?_
        refine Gx.a (by kernel_rfl) fun K hK => ?_
        simp only [XA]
        refine hK _ (XWP.ret ?_)
        try simp only [thenX_ret, inBlockX_ret]
        refine ret_go _ rfl ?_
        have : rowOk (qs L) n i = false := by unfold rowOk; rw [b3, Bool.and_false]
        rw [stoB_bad hi this]; rfl
    rintro s ⟨V4, hs, hV4, hro⟩
    obtain ⟨z, rfl⟩ := hs.out
    try dsimp only
    refine Gx.c (by kernel_rfl) fun K hK => ?_
    simp only [XA, XB, i64_succ i (by omega)]
    exact hK _ ⟨q - 1, by omega, fun f => ⟨i + 1, V4, StIs.of (by exact rfl), by omega, View.le_trans hV3 hV4, by rw [List.range_succ, List.all_append, hall]; simp [hro]⟩⟩
  rintro s ⟨hs, e⟩
  obtain ⟨t, bx, H, V2⟩ := s
  obtain ⟨z, e3⟩ := hs.out
  cases e3
  try dsimp only
  refine Gx.a (by kernel_rfl) fun K hK => ?_
  simp only [XA]
  refine hK _ (XWP.ret ?_)
  try simp only [thenX_ret, inBlockX_ret]
  refine ret_go _ rfl ?_
  rw [e]; rfl
end Go.Proofs.YtkgmicakfmllmaaGreat
end
section
namespace Go.Proofs.YtkgmicakfmllmaaGreat
open Go Go.RowKit
set_option linter.unusedSimpArgs false
set_option linter.unusedVariables false
attribute [local irreducible] XWP Spec SpecO XPub XCall seqX clX apX stX ldX iaX slX
end Go.Proofs.YtkgmicakfmllmaaGreat
end
section
namespace Go.Proofs.YtkgmicakfmllmaaGreat
open Go Go.RowKit
set_option linter.unusedSimpArgs false
set_option linter.unusedVariables false
attribute [local irreducible] XWP Spec SpecO XPub XCall seqX clX apX stX ldX iaX slX
end Go.Proofs.YtkgmicakfmllmaaGreat
end
section
namespace Go.Proofs.YtkgmicakfmllmaaGreat
open Go Go.RowKit
set_option linter.unusedSimpArgs false
set_option linter.unusedVariables false
attribute [local irreducible] XWP Spec SpecO XPub XCall seqX clX apX stX ldX iaX slX
theorem raw_zero {V : View} {v : Value} {r : Raw} (h : rawE V v r) (hk : r.ok = true) : r.nd.length = 0 ↔ r.q = 0 := by
  obtain ⟨n, d, rfl, hn, hd⟩ := h
  unfold Raw.ok rawOk at hk
  simp only [Bool.and_eq_true, Bool.not_eq_true', decide_eq_false_iff_not, decide_eq_true_eq] at hk
  obtain ⟨⟨⟨⟨h1, h2⟩, h3⟩, h4⟩, h5⟩ := hk
  have hb : nv r.dd ≠ 0 := fun e => h3 ((nv_eq_zero hd.dig h2).1 e)
  rw [← nv_eq_zero hn.dig h1]
  exact (rv_eq_zero r.m hb).symm
def zerB (L : List Raw) : Bool := L.any fun r => decide (r.nd.length = 0)
theorem Raws.get {V : View} {v : Value} {L : List Raw} (h : Raws V v L) {i : Nat} (hi : i < L.length) : ∃ u, rawE V u L[i] := by
  obtain ⟨A, c, rfl, _, _⟩ := h.form
  obtain ⟨b, o, rfl⟩ := SlAt.addr h (by omega)
  obtain ⟨x, hx, _⟩ := SlAt.load h i hi
  exact ⟨x, hx⟩
theorem zerB_iff {V : View} {v : Value} {L : List Raw} (h : Raws V v L) (ok : okR L = true) : zerB L = false ↔ ∀ i, i < L.length → cf (qs L) i ≠ 0 := by
  have hz : ∀ i (hi : i < L.length), (L[i].nd.length = 0 ↔ cf (qs L) i = 0) := fun i hi => by
    obtain ⟨u, hu⟩ := Raws.get h hi
    rw [raw_zero hu (List.all_eq_true.1 ok _ (List.getElem_mem hi)), ← cf_get (show i < (qs L).length by rw [qs_len]; exact hi)]
    unfold qs; rw [List.getElem_map]
  unfold zerB
  rw [List.any_eq_false]
  constructor
  · intro g i hi e
    exact g L[i] (List.getElem_mem hi) (by rw [decide_eq_true_eq]; exact (hz i hi).2 e)
  · intro g r hr e
    obtain ⟨i, hi, rfl⟩ := List.mem_iff_getElem.1 hr
    rw [decide_eq_true_eq] at e
    exact g i hi ((hz i hi).1 e)
theorem rev1_c (V : View) (v : Value) (r : Raw) (h : rawE V v r) (f : r.fit) : Spec Tryz.prog 97 [v] V fun v' V' => v' = .bool (decide (r.nd.length = 0)) := by
  obtain ⟨n, d, rfl, hn, hd⟩ := h
  obtain ⟨A1, c1, rfl, _, _⟩ := hn.form
  have e : decide ((r.nd.length : Int) = 0) = decide (r.nd.length = 0) := by rw [decide_eq_decide]; omega
  refine (Spec.enter Tryz.func97 rfl fun Γ => ?_)
  simp only [Tryz.ntmps97, List.map_cons, List.map_nil, List.length_cons, List.length_nil, Nat.reduceAdd, Nat.reduceSub, List.replicate_succ, List.replicate_zero, List.cons_append, List.nil_append]
  refine Gx.a (by kernel_rfl) fun K hK => ?_
  simp only [XA]
  refine hK _ ?_
  refine Gx.a (by kernel_rfl) fun K hK => ?_
  simp only [XA, XB, e]
  refine hK _ (XWP.ret ?_)
  try simp only [thenX_ret, inBlockX_ret]
  refine ret_go _ rfl ?_
  rfl
def revE (L : List Raw) (r c : Int) (M : List Raw) : Int := if fitE L r c M ≠ 0 then fitE L r c M else if zerB L = true then 31 else if staysB L r c M = true then 0 else 4
/-- what Reverse gives -/
def RevR (L : List Raw) (r c : Int) (M : List Raw) (v' : Value) (V' : View) : Prop :=
  (revE L r c M ≠ 0 → v' = .tuple #[.agg #[.int .i64 0, .int .i64 0, .slice none 0 0], .int .i64 (revE L r c M)]) ∧
  (revE L r c M = 0 → ∃ w, v' = .tuple #[.agg #[.int .i64 (L.length : Int), .int .i64 (L.length : Int), w], .int .i64 0] ∧ Rats V' w (flatG (backF (cf (qs L)) (gridL (qs M) L.length)) L.length L.length))
theorem RevR.bad {L M : List Raw} {r c : Int} {V' : View} {e : Int} (h : revE L r c M = e) (h0 : e ≠ 0) : RevR L r c M (.tuple #[.agg #[.int .i64 0, .int .i64 0, .slice none 0 0], .int .i64 e]) V' := by
  subst h
  exact ⟨fun _ => rfl, fun g => absurd g h0⟩
set_option maxHeartbeats 4000000 in
theorem bRev_c (V : View) (v s : Value) (r c : Int) (L M : List Raw) (B : Nat) (h : LM V v s L M B) : Spec Tryz.prog 44 [v, .agg #[.int .i64 r, .int .i64 c, s]] V fun v' V' => RevR L r c M v' V' := by
  obtain ⟨A1, c1, rfl, hc1, hm1⟩ := h.hv.form
  obtain ⟨A2, c2, rfl, hc2, hm2⟩ := h.hs.form
  have hB := h.hB
  refine (Spec.enter Tryz.func44 rfl fun Γ => ?_)
  simp only [Tryz.ntmps44, List.map_cons, List.map_nil, List.length_cons, List.length_nil, Nat.reduceAdd, Nat.reduceSub, List.replicate_succ, List.replicate_zero, List.cons_append, List.nil_append]
  refine Gx.a (by kernel_rfl) fun K hK => ?_
  simp only [XM, XA]
  refine hK _ ?_
  refine XWP.seq ?_
  refine Gx.a (by kernel_rfl) fun K hK => ?_
  simp only [XM, XA, Nat.reduceAdd, Nat.reduceLeDiff, ↓reduceIte]
  refine call_go (by kernel_rfl) rfl (fits_c _ _ _ r c L M B h) fun v1 V1 hV1 h1 => ?_
  subst h1
  simp only [XA]
  refine hK _ ?_
  by_cases e : fitE L r c M = 0
  rotate_left
  · have b1 : decide (fitE L r c M = 0) = false := decide_eq_false e
    refine Gx.a (by kernel_rfl) fun K hK => ?_
    simp only [XA, XB, b1]
    refine hK _ ?_
    refine Gx.t rfl ?_
    refine Gx.a (by kernel_rfl) fun K hK => ?_
    simp only []
    refine bd_go (by kernel_rfl) #[] (by simp) bd_mtx0 ?_
    simp only [XA]
    refine st_mat shapeT_24 rfl rfl rfl rfl rfl ?_
    simp only [XA]
    refine hK _ (XWP.ret ?_)
    try simp only [thenX_ret, inBlockX_ret]
    exact ret_go _ (by simp [resAll, resV, cellsV, shapeT_24]; rfl) (RevR.bad (by unfold revE; rw [if_pos e]) e)
  have b1 : decide (fitE L r c M = 0) = true := decide_eq_true e
  refine Gx.a (by kernel_rfl) fun K hK => ?_
  simp only [XA, XB, b1]
  refine hK _ ?_
  refine Gx.f rfl ?_
  refine XWP.skip ?_
  have h := h.up hV1
  obtain ⟨n, p⟩ := fitE_parts e
  have hr := h.rats p
  obtain ⟨rfl, rfl, hn, lL, lM, ok1, _, _, _, _⟩ := p
  refine XWP.seq ?_
  refine Gx.a (by kernel_rfl) fun K hK => ?_
  simp only [XA]
  refine call_go (by kernel_rfl) rfl (gcontains_c (g := 97) (p := fun r => decide (r.nd.length = 0)) (by kernel_rfl) rev1_c _ _ _ h.hv h.fL (by omega)) fun v2 V2 hV2 h2 => ?_
  have h2 : v2 = .bool (zerB L) := h2
  subst h2
  cases e2 : zerB L
  rotate_left
  · simp only [XA]
    refine hK _ ?_
    refine Gx.t rfl ?_
    refine Gx.a (by kernel_rfl) fun K hK => ?_
    simp only []
    refine bd_go (by kernel_rfl) #[] (by simp) bd_mtx0 ?_
    simp only [XA]
    refine st_mat shapeT_24 rfl rfl rfl rfl rfl ?_
    simp only [XA]
    refine hK _ (XWP.ret ?_)
    try simp only [thenX_ret, inBlockX_ret]
    exact ret_go _ (by simp [resAll, resV, cellsV, shapeT_24]; rfl) (RevR.bad (by unfold revE; rw [if_neg (fun g => g e), if_pos e2]) (by omega))
  simp only [XA]
  refine hK _ ?_
  refine Gx.f rfl ?_
  refine XWP.skip ?_
  have hnz := (zerB_iff h.hv ok1).1 e2
  have h := h.up hV2
  refine XWP.seq ?_
  refine Gx.a (by kernel_rfl) fun K hK => ?_
  simp only [XM, XA, Nat.reduceAdd, Nat.reduceLeDiff, ↓reduceIte]
  refine call_go (by kernel_rfl) rfl (bStays_c _ _ _ n n L M B h) fun v3 V3 hV3 h3 => ?_
  subst h3
  simp only [XA]
  refine hK _ ?_
  cases e3 : staysB L n n M
  · refine Gx.a (by kernel_rfl) fun K hK => ?_
    simp only [XA]
    refine hK _ ?_
    refine Gx.t rfl ?_
    refine Gx.a (by kernel_rfl) fun K hK => ?_
    simp only []
    refine bd_go (by kernel_rfl) #[] (by simp) bd_mtx0 ?_
    simp only [XA]
    refine st_mat shapeT_24 rfl rfl rfl rfl rfl ?_
    simp only [XA]
    refine hK _ (XWP.ret ?_)
    try simp only [thenX_ret, inBlockX_ret]
    exact ret_go _ (by simp [resAll, resV, cellsV, shapeT_24]; rfl) (RevR.bad (by unfold revE; rw [if_neg (fun g => g e), if_neg (by rw [e2]; simp), if_neg (by rw [e3]; simp)]) (by omega))
  refine Gx.a (by kernel_rfl) fun K hK => ?_
  simp only [XA]
  refine hK _ ?_
  refine Gx.f rfl ?_
  refine XWP.skip ?_
  have eR : revE L n n M = 0 := by unfold revE; rw [if_neg (fun g => g e), if_neg (by rw [e2]; simp), if_pos e3]
  have hle3 := View.le_trans hV2 hV3
  have hrL := hr.1.up hle3
  have hrM := hr.2.up hle3
  have lqL : (qs L).length = n := by rw [qs_len]; exact lL
  have lqM : (qs M).length = n * n := by rw [qs_len]; exact lM
  have hnn : n * n ≤ 3600 := Nat.le_trans (Nat.mul_le_mul hn hn) (by decide)
  obtain ⟨Q, hQ⟩ : ∃ Q, Q = backF (cf (qs L)) (gridL (qs M) n) := ⟨_, rfl⟩
  have hQd : ∀ i k, Q i k = cf (qs L) k * cf (qs M) (k * n + i) / cf (qs L) i := fun i k => by rw [hQ]; rfl
  have fin : ∀ (w : Value) (V' : View), Rats V' w (flatG Q n n) → RevR L n n M (.tuple #[.agg #[.int .i64 (n : Int), .int .i64 (n : Int), w], .int .i64 0]) V' := fun w V' hw => ⟨fun g => absurd eR g, fun _ => ⟨w, by rw [lL], by rw [lL, ← hQ]; exact hw⟩⟩
  rw [lL] at hrL hnz ⊢
  refine Gx.a (by kernel_rfl) fun K hK => ?_
  simp only [XA, XB]
  refine bd_go (by kernel_rfl) #[(0, .int .i64 (n : Int)), (1, .int .i64 (n : Int))] (by simp [ev_tmp, SV.val]) (bd_mtx2 rfl rfl) ?_
  simp only [XM, XA, Nat.reduceAdd]
  refine st_mat shapeT_24 rfl rfl rfl rfl rfl ?_
  simp only [XA]
  refine hK _ ?_
  refine XWP.cutD 3 (fun s => ∃ (V4 : View) (H4 : Heap) (so : Value) (co : List Value), StIs (fun Z => [Z 0,Z 1,Z 2,Z 3, .p 1 0, Z 5,Z 6,Z 7,Z 8, .p 2 0, Z 10,Z 11,Z 12,Z 13,Z 14,Z 15,Z 16,Z 17,Z 18,Z 19,Z 20,Z 21,Z 22,Z 23,Z 24,Z 25,Z 26,Z 27,Z 28,Z 29,Z 30,Z 31,Z 32,Z 33,Z 34,Z 35,Z 36,Z 37,Z 38,Z 39,Z 40,Z 41,Z 42,Z 43,Z 44,Z 45,Z 46,Z 47,Z 48,Z 49,Z 50,Z 51,Z 52,Z 53,Z 54,Z 55,Z 56,Z 57,Z 58,Z 59,Z 60,Z 61,Z 62,Z 63,Z 64,Z 65,Z 66,Z 67,Z 68,Z 69,Z 70,Z 71,Z 72,Z 73]) [[.int .i64 (n : Int), .int .i64 (n : Int), .slice A2 M.length c2], [.int .i64 0, .int .i64 0, .slice none 0 0], [.int .i64 (n : Int), .int .i64 (n : Int), so]] H4 V4 s ∧ Own H4 49 3 so (n * n) co ∧ RowAt ratE V4 co (mk (n * n) (flatF Q n))) ?_ ?_
  · refine Gx.a (by kernel_rfl) fun K hK => ?_
    simp only [XA, XB]
    refine hK _ ?_
    clear hK
    refine XWP.block ?_
    refine XWP.loopD 3 (fun q s => ∃ (i : Nat) (V4 : View) (H4 : Heap) (so : Value) (co : List Value), StIs (fun Z => [.v (.slice A1 n c1), Z 1,Z 2, .p 0 0, .p 1 0, Z 5,Z 6,Z 7,Z 8, .p 2 0, Z 10,Z 11,Z 12,Z 13,Z 14,Z 15,Z 16,Z 17,Z 18,Z 19,Z 20,Z 21,Z 22,Z 23,Z 24,Z 25,Z 26,Z 27,Z 28,Z 29,Z 30,Z 31,Z 32,Z 33,Z 34,Z 35,Z 36,Z 37,Z 38, .v (.int .i64 (n : Int)), .v (.int .i64 (i : Int)), Z 41,Z 42,Z 43,Z 44,Z 45,Z 46,Z 47,Z 48,Z 49,Z 50,Z 51,Z 52,Z 53,Z 54,Z 55,Z 56,Z 57,Z 58,Z 59,Z 60,Z 61,Z 62,Z 63,Z 64,Z 65,Z 66,Z 67,Z 68,Z 69,Z 70,Z 71,Z 72,Z 73]) [[.int .i64 (n : Int), .int .i64 (n : Int), .slice A2 M.length c2], [.int .i64 0, .int .i64 0, .slice none 0 0], [.int .i64 (n : Int), .int .i64 (n : Int), so]] H4 V4 s ∧ q + i = n ∧ V3.le V4 ∧ Own H4 49 3 so (i * n) co ∧ RowAt ratE V4 co (mk (i * n) (flatF Q n))) n ⟨0, V3, _, _, [], StIs.of (by exact rfl), by omega, View.le_refl _, by rw [Nat.zero_mul]; exact own_nil, by rw [Nat.zero_mul]; exact RowAt.nil _⟩ ?_
    rintro q s ⟨i, V4, H4, so, co, hs, hq, hV4, hown, hrow⟩
    obtain ⟨z, rfl⟩ := hs.out
    try dsimp only
    clear hs
    by_cases hi : i < n
    rotate_left
    · obtain rfl : i = n := by omega
      have b2 : decide ((i : Int) < (i : Int)) = false := decide_eq_false (by omega)
      refine Gx.a (by kernel_rfl) fun K hK => ?_
      simp only [XA, XB, b2]
      refine hK _ ?_
      refine XWP.seq (Gx.f rfl ?_)
      refine XWP.exit ?_
      exact fun f => ⟨V4, H4, so, co, StIs.of (by exact rfl), hown, hrow⟩
    have b2 : decide ((i : Int) < (n : Int)) = true := decide_eq_true (by omega)
    refine Gx.a (by kernel_rfl) fun K hK => ?_
    simp only [XA, XB, b2]
    refine hK _ ?_
    refine XWP.seq (Gx.t rfl ?_)
    refine XWP.skip ?_
    refine XWP.cutD 3 (fun s => ∃ (V5 : View) (H5 : Heap) (so : Value) (co : List Value), StIs (fun Z => [.v (.slice A1 n c1), Z 1,Z 2, .p 0 0, .p 1 0, Z 5,Z 6,Z 7,Z 8, .p 2 0, Z 10,Z 11,Z 12,Z 13,Z 14,Z 15,Z 16,Z 17,Z 18,Z 19,Z 20,Z 21,Z 22,Z 23,Z 24,Z 25,Z 26,Z 27,Z 28,Z 29,Z 30,Z 31,Z 32,Z 33,Z 34,Z 35,Z 36,Z 37,Z 38, .v (.int .i64 (n : Int)), .v (.int .i64 (i : Int)), Z 41,Z 42,Z 43,Z 44,Z 45,Z 46,Z 47,Z 48,Z 49,Z 50,Z 51,Z 52,Z 53,Z 54,Z 55,Z 56,Z 57,Z 58,Z 59,Z 60,Z 61,Z 62,Z 63,Z 64,Z 65,Z 66,Z 67,Z 68,Z 69,Z 70,Z 71,Z 72,Z 73]) [[.int .i64 (n : Int), .int .i64 (n : Int), .slice A2 M.length c2], [.int .i64 0, .int .i64 0, .slice none 0 0], [.int .i64 (n : Int), .int .i64 (n : Int), so]] H5 V5 s ∧ V4.le V5 ∧ Own H5 49 3 so (i * n + n) co ∧ RowAt ratE V5 co (mk (i * n + n) (flatF Q n))) ?_ ?_
    · refine XWP.block ?_
      refine Gx.a (by kernel_rfl) fun K hK => ?_
      simp only [XA]
      refine hK _ ?_
      refine Gx.a (by kernel_rfl) fun K hK => ?_
      simp only [XA, XB]
      refine hK _ ?_
      clear hK
      refine XWP.block ?_
      refine XWP.loopD 3 (fun p s => ∃ (k : Nat) (V5 : View) (H5 : Heap) (so : Value) (co : List Value), StIs (fun Z => [.v (.slice A1 n c1), Z 1,Z 2, .p 0 0, .p 1 0, Z 5,Z 6,Z 7,Z 8, .p 2 0, .v (.int .i64 (i : Int)), Z 11,Z 12,Z 13,Z 14,Z 15,Z 16,Z 17,Z 18,Z 19,Z 20,Z 21,Z 22,Z 23,Z 24,Z 25,Z 26,Z 27,Z 28,Z 29,Z 30,Z 31,Z 32,Z 33,Z 34,Z 35,Z 36,Z 37,Z 38, .v (.int .i64 (n : Int)), .v (.int .i64 (i : Int)), Z 41,Z 42,Z 43, .v (.int .i64 (n : Int)), .v (.int .i64 (k : Int)), Z 46,Z 47,Z 48,Z 49,Z 50,Z 51,Z 52,Z 53,Z 54,Z 55,Z 56,Z 57,Z 58,Z 59,Z 60,Z 61,Z 62,Z 63,Z 64,Z 65,Z 66,Z 67,Z 68,Z 69,Z 70,Z 71,Z 72,Z 73]) [[.int .i64 (n : Int), .int .i64 (n : Int), .slice A2 M.length c2], [.int .i64 0, .int .i64 0, .slice none 0 0], [.int .i64 (n : Int), .int .i64 (n : Int), so]] H5 V5 s ∧ p + k = n ∧ V4.le V5 ∧ Own H5 49 3 so (i * n + k) co ∧ RowAt ratE V5 co (mk (i * n + k) (flatF Q n))) n ⟨0, V4, H4, so, co, StIs.of (by exact rfl), by omega, View.le_refl _, hown, hrow⟩ ?_
      clear hown hrow
      rintro p s ⟨k, V5, H5, so, co, hs, hp, hV5, hown, hrow⟩
      obtain ⟨z, rfl⟩ := hs.out
      try dsimp only
      clear hs
      by_cases hk : k < n
      rotate_left
      · obtain rfl : k = n := by omega
        have b3 : decide ((k : Int) < (k : Int)) = false := decide_eq_false (by omega)
        refine Gx.a (by kernel_rfl) fun K hK => ?_
        simp only [XA, XB, b3]
        refine hK _ ?_
        refine XWP.seq (Gx.f rfl ?_)
        refine XWP.exit ?_
        exact fun f => ⟨V5, H5, so, co, StIs.of (by exact rfl), hV5, hown, hrow⟩
      have b3 : decide ((k : Int) < (n : Int)) = true := decide_eq_true (by omega)
      refine Gx.a (by kernel_rfl) fun K hK => ?_
      simp only [XA, XB, b3]
      refine hK _ ?_
      refine XWP.seq (Gx.t rfl ?_)
      refine XWP.skip ?_
      have hle5 := View.le_trans hV4 hV5
      have hv5 := hrL.up hle5
      have hm5 := hrM.up hle5
      have g1 := pos_lt hi hk
      have g2 := pos_lt hk hi
      obtain ⟨b, o, rfl⟩ := SlAt.addr hv5 (by omega)
      obtain ⟨m6, n6, d6, hx6, ⟨p1, p2, p3⟩, hld6⟩ := Rats.get hv5 k (by omega)
      obtain ⟨m7, n7, d7, hx7, ⟨p4, p5, p6⟩, hld7⟩ := Rats.get hv5 i (by omega)
      have k6 := h.qL _ (cf_mem (l := qs L) (i := k) (by omega))
      have k7 := h.qL _ (cf_mem (l := qs L) (i := i) (by omega))
      have k8 := h.qM _ (cf_mem (l := qs M) (i := k * n + i) (by omega))
      have f6 := k6.qf (show B ≤ 17592186044416 by omega)
      have f7 := k7.qf (show B ≤ 17592186044416 by omega)
      have f8 := k8.qf (show B ≤ 17592186044416 by omega)
      have f10 := (k6.mul k8).qf (show B + B ≤ 17592186044416 by omega)
      refine XWP.cutD 3 (fun s => ∃ (V6 : View) (H6 : Heap) (so : Value) (co : List Value), StIs (fun Z => [.v (.slice (some ⟨b, o, none⟩) n c1), Z 1,Z 2, .p 0 0, .p 1 0, Z 5,Z 6,Z 7,Z 8, .p 2 0, .v (.int .i64 (i : Int)), Z 11,Z 12,Z 13,Z 14,Z 15,Z 16,Z 17,Z 18,Z 19,Z 20,Z 21,Z 22,Z 23,Z 24,Z 25,Z 26,Z 27,Z 28,Z 29,Z 30,Z 31,Z 32,Z 33,Z 34,Z 35,Z 36,Z 37,Z 38, .v (.int .i64 (n : Int)), .v (.int .i64 (i : Int)), Z 41,Z 42,Z 43, .v (.int .i64 (n : Int)), .v (.int .i64 (k : Int)), Z 46,Z 47,Z 48,Z 49,Z 50,Z 51,Z 52,Z 53,Z 54,Z 55,Z 56,Z 57,Z 58,Z 59,Z 60,Z 61,Z 62,Z 63,Z 64,Z 65,Z 66,Z 67,Z 68,Z 69,Z 70,Z 71,Z 72,Z 73]) [[.int .i64 (n : Int), .int .i64 (n : Int), .slice A2 M.length c2], [.int .i64 0, .int .i64 0, .slice none 0 0], [.int .i64 (n : Int), .int .i64 (n : Int), so]] H6 V6 s ∧ V5.le V6 ∧ Own H6 49 3 so (i * n + k + 1) co ∧ RowAt ratE V6 co (mk (i * n + k + 1) (flatF Q n))) ?_ ?_
      · refine XWP.block ?_
        refine Gx.a (by kernel_rfl) fun K hK => ?_
        simp only [XA]
        refine hK _ ?_
        refine XWP.cutD 4 (fun s => ∃ (V6 : View) (bs : Bool) (xs ys : Value), StIs (fun Z => [.v (.slice (some ⟨b, o, none⟩) n c1), Z 1,Z 2, .p 0 0, .p 1 0, Z 5,Z 6,Z 7,Z 8, .p 2 0, .v (.int .i64 (i : Int)), Z 11, .p 3 0, Z 13,Z 14,Z 15,Z 16,Z 17,Z 18,Z 19,Z 20,Z 21,Z 22,Z 23,Z 24,Z 25,Z 26,Z 27,Z 28,Z 29,Z 30,Z 31,Z 32,Z 33,Z 34,Z 35,Z 36,Z 37,Z 38, .v (.int .i64 (n : Int)), .v (.int .i64 (i : Int)), Z 41,Z 42,Z 43, .v (.int .i64 (n : Int)), .v (.int .i64 (k : Int)), Z 46,Z 47,Z 48,Z 49,Z 50,Z 51,Z 52,Z 53,Z 54,Z 55,Z 56,Z 57,Z 58,Z 59,Z 60,Z 61,Z 62,Z 63,Z 64,Z 65,Z 66,Z 67,Z 68,Z 69,Z 70,Z 71,Z 72,Z 73]) [[.int .i64 (n : Int), .int .i64 (n : Int), .slice A2 M.length c2], [.int .i64 0, .int .i64 0, .slice none 0 0], [.int .i64 (n : Int), .int .i64 (n : Int), so], [.bool bs, xs, ys]] H5 V6 s ∧ V5.le V6 ∧ RatC V6 (.agg #[.bool bs, xs, ys]) (cf (qs L) k * cf (qs M) (k * n + i) / cf (qs L) i) ∧ isOne xs = true ∧ isOne ys = true) ?_ ?_
        · (refine XWP.drwT1 (.lin [0, 1, 2, 3, 4, 5, 6, 9, 10, 11, 12] (.two (.lin [7] (.two (.lin [8] (.two (.lin [13, 14, 15, 16, 17, 18, 19] .nil) (.lin [17, 13, 14, 15, 16, 18, 19] .nil))) (.lin [17, 8, 13, 14, 15, 16, 18, 19] .nil))) (.lin [17, 7, 8, 13, 14, 15, 16, 18, 19] .nil))) (by kernel_rfl) (by kernel_rfl) (by kernel_rfl) fun K hK => ?_)
          simp only [XA, XB]
          refine ⟨by omega, by omega, ld_mem (hld6 _) ?_⟩
          simp only [XM, XA, XB, Nat.reduceAdd, Nat.reduceLeDiff, ↓reduceIte]
          refine ⟨by omega, by omega, ld_mem (hld7 _) ?_⟩
          simp only [XA, XB, Nat.reduceAdd]
          refine And.intro ?_ ?_
          · refine call_go (by kernel_rfl) rfl (bat_c _ _ _ n k i (qs M) hm5 (by omega) hn (by omega) (by omega)) fun v8 V8 hV8 h8 => ?_
            simp only [XA, XB, Nat.reduceAdd]
            refine And.intro ?_ ?_
            · refine call_go (by kernel_rfl) rfl (qmul_c _ _ _ _ _ (hx6.mono hV8) h8 f6 f8) fun v9 V9 hV9 h9 => ?_
              have hle9 := View.le_trans hV8 hV9
              simp only [XA, XB, Nat.reduceAdd]
              refine And.intro ?_ ?_
              · refine call_go (by kernel_rfl) rfl (qdiv_c _ _ _ _ _ h9 ((hx7.mono hle9)) f10 f7) fun v10 V10 hV10 h10 => ?_
                obtain ⟨w10, rfl, k10⟩ := h10.2 (hnz i hi)
                obtain ⟨x10, y10, rfl, o1, o2⟩ := k10.form
                simp only [XA, XB, Nat.reduceAdd]
                refine st_rat rfl rfl rfl o1 o2 ?_
                simp only [XA]
                exact hK _ fun f => ⟨V10, _, x10, y10, StIs.of (by exact rfl), View.le_trans hle9 hV10, k10, o1, o2⟩
              · refine call_go (by kernel_rfl) rfl (qdiv_c _ _ _ _ _ h9 ((hx7.mono hle9)) f10 f7) fun v10 V10 hV10 h10 => ?_
                obtain ⟨w10, rfl, k10⟩ := h10.2 (hnz i hi)
                obtain ⟨x10, y10, rfl, o1, o2⟩ := k10.form
                simp only [XA]
                refine st_rat rfl rfl rfl o1 o2 ?_
                simp only [XA]
                exact hK _ fun f => ⟨V10, _, x10, y10, StIs.of (by exact rfl), View.le_trans hle9 hV10, k10, o1, o2⟩
            · refine call_go (by kernel_rfl) rfl (qmul_c _ _ _ _ _ (hx6.mono hV8) h8 f6 f8) fun v9 V9 hV9 h9 => ?_
              have hle9 := View.le_trans hV8 hV9
              simp only [XA]
              refine call_go (by kernel_rfl) rfl (qdiv_c _ _ _ _ _ h9 ((hx7.mono hle9)) f10 f7) fun v10 V10 hV10 h10 => ?_
              obtain ⟨w10, rfl, k10⟩ := h10.2 (hnz i hi)
              obtain ⟨x10, y10, rfl, o1, o2⟩ := k10.form
              simp only [XA]
              refine st_rat rfl rfl rfl o1 o2 ?_
              simp only [XA]
              exact hK _ fun f => ⟨V10, _, x10, y10, StIs.of (by exact rfl), View.le_trans hle9 hV10, k10, o1, o2⟩
          · refine call_go (by kernel_rfl) rfl (bat_c _ _ _ n k i (qs M) hm5 (by omega) hn (by omega) (by omega)) fun v8 V8 hV8 h8 => ?_
            simp only [XA]
            refine call_go (by kernel_rfl) rfl (qmul_c _ _ _ _ _ (hx6.mono hV8) h8 f6 f8) fun v9 V9 hV9 h9 => ?_
            have hle9 := View.le_trans hV8 hV9
            simp only [XA]
            refine call_go (by kernel_rfl) rfl (qdiv_c _ _ _ _ _ h9 ((hx7.mono hle9)) f10 f7) fun v10 V10 hV10 h10 => ?_
            obtain ⟨w10, rfl, k10⟩ := h10.2 (hnz i hi)
            obtain ⟨x10, y10, rfl, o1, o2⟩ := k10.form
            simp only [XA]
            refine st_rat rfl rfl rfl o1 o2 ?_
            simp only [XA]
            exact hK _ fun f => ⟨V10, _, x10, y10, StIs.of (by exact rfl), View.le_trans hle9 hV10, k10, o1, o2⟩
        rintro s ⟨V6, bs, xs, ys, hs, hV6, h6, o1, o2⟩
        obtain ⟨z, rfl⟩ := hs.out
        try dsimp only
        clear hs
        refine Gx.c (by kernel_rfl) fun K hK => ?_
        simp only [XM, XA, XB, Nat.reduceAdd, Nat.reduceLeDiff, ↓reduceIte]
        refine bs_go (by kernel_rfl) #[(0, .agg #[.bool bs, xs, ys])] (by simp [ev_tmp, SV.val]) (bs_rat elemT_22) fun b3 hb3 hb4 => ?_
        simp only [XA, Nat.reduceAdd]
        refine ap_go elemT_22 (by kernel_rfl) zeroT_49 rfl (by omega) (own_upd hown hb3) (src3 (upd_at _ _ _) rfl o1 o2) (by omega) (by omega) fun v' H' hres => ?_
        simp only [XM, XA]
        refine st_one shapeT_22 rfl (own_isOne hres.1) (by simp) ?_
        simp only [XA]
        have hrow' := (hrow.mono ratE_ok hV6).snoc (show isOne (.bool bs) = true from rfl) o1 o2 h6
        rw [← hQd, ← flatF_at Q hk, ← mk_succ (i * n + k) (flatF Q n)] at hrow'
        exact hK _ fun f => ⟨V6, H', v', _, StIs.of (by exact rfl), hV6, hres.1, hrow'⟩
      clear hown hrow
      rintro s ⟨V6, H6, so, co, hs, hV6, hown, hrow⟩
      obtain ⟨z, rfl⟩ := hs.out
      try dsimp only
      refine Gx.c (by kernel_rfl) fun K hK => ?_
      simp only [XA, XB, i64_succ k (by omega)]
      exact hK _ ⟨p - 1, by omega, fun f => ⟨k + 1, V6, H6, so, co, StIs.of (by exact rfl), by omega, View.le_trans hV5 hV6, hown, hrow⟩⟩
    clear hown hrow
    rintro s ⟨V5, H5, so, co, hs, hV5, hown, hrow⟩
    obtain ⟨z, rfl⟩ := hs.out
    try dsimp only
    have ei : (i + 1) * n = i * n + n := by rw [Nat.add_mul, Nat.one_mul]
    refine Gx.c (by kernel_rfl) fun K hK => ?_
    simp only [XA, XB, i64_succ i (by omega)]
    exact hK _ ⟨q - 1, by omega, fun f => ⟨i + 1, V5, H5, so, co, StIs.of (by exact rfl), by omega, View.le_trans hV4 hV5, by rw [ei]; exact hown, by rw [ei]; exact hrow⟩⟩
  rintro s ⟨V4, H4, so, co, hs, hown, hrow⟩
  obtain ⟨z, rfl⟩ := hs.out
  try dsimp only
  clear hs
  refine XWP.pubR ratE_ok hown hrow fun H5 V5 hV5 hs5 _ => ?_
  obtain ⟨A5, c5, rfl, _, _⟩ := hs5.form
  refine Gx.a (by kernel_rfl) fun K hK => ?_
  simp only [XM, XA, Nat.reduceAdd, Nat.reduceLeDiff, ↓reduceIte]
  refine st_mat shapeT_24 rfl rfl rfl rfl rfl ?_
  simp only [XA]
  refine hK _ (XWP.ret ?_)
  try simp only [thenX_ret, inBlockX_ret]
  refine ret_go _ (by simp [resAll, resV, cellsV, shapeT_24]; rfl) ?_
  exact fin _ _ hs5
end Go.Proofs.YtkgmicakfmllmaaGreat
end
section
namespace Go.Proofs.YtkgmicakfmllmaaGreat
open Go Go.RowKit
set_option linter.unusedSimpArgs false
set_option linter.unusedVariables false
attribute [local irreducible] XWP Spec SpecO XPub XCall seqX clX apX stX ldX iaX slX
theorem dZero_o (V : View) (r c : Nat) (hr : r ≤ 60) (hc : c ≤ 60) : SpecO Tryz.prog 99 [.int .i64 (r : Int), .int .i64 (c : Int)] V fun v' V' o => ∃ sl cells, v' = .tuple #[.agg #[.int .i64 (r : Int), .int .i64 (c : Int), sl], .int .i64 0] ∧ Own (addRow (fun _ => none) o) 49 3 sl (r * c) cells ∧ RowAt ratE V' cells (mk (r * c) fun _ => 0) := by
  have b1 : decide ((r : Int) < 0) = false := decide_eq_false (by omega)
  have b2 : decide ((c : Int) < 0) = false := decide_eq_false (by omega)
  have b3 : decide ((60 : Int) < (r : Int)) = false := decide_eq_false (by omega)
  have b4 : decide ((60 : Int) < (c : Int)) = false := decide_eq_false (by omega)
  refine (SpecO.enter Tryz.func99 rfl fun Γ => ?_)
  simp only [Tryz.ntmps99, List.map_cons, List.map_nil, List.length_cons, List.length_nil, Nat.reduceAdd, Nat.reduceSub, List.replicate_succ, List.replicate_zero, List.cons_append, List.nil_append]
  refine Gx.a (by kernel_rfl) fun K hK => ?_
  simp only [XM, XA]
  refine hK _ ?_
  refine XWP.cut (fun s => StIs (fun Z => [.v (.int .i64 (r : Int)), .v (.int .i64 (c : Int)), Z 2,Z 3, .p 0 0, .v (.int .i64 0), Z 6,Z 7,Z 8,Z 9,Z 10,Z 11,Z 12,Z 13,Z 14,Z 15,Z 16,Z 17,Z 18,Z 19,Z 20,Z 21,Z 22,Z 23,Z 24]) [[.int .i64 0, .int .i64 0, .slice none 0 0]] (fun _ => none) V s ∧ True) ?_ ?_
  · refine XWP.block ?_
    refine XWP.seq ?_
    refine Gx.c (by kernel_rfl) fun K hK => ?_
    simp only [XA, XB, gateX, ↓reduceIte, beq_self_eq_true, b1, b2]
    refine hK _ ?_
    refine Gx.f rfl ?_
    refine Gx.a (by kernel_rfl) fun K hK => ?_
    simp only [XA, XB, gateX, ↓reduceIte, beq_self_eq_true, b3, b4]
    refine hK _ ?_
    refine Gx.f rfl ?_
    refine XWP.skip ?_
    exact ⟨StIs.of (by exact rfl), trivial⟩
  rintro s ⟨hs, _⟩
  obtain ⟨z, rfl⟩ := hs.out
  try dsimp only
  refine Gx.a (by kernel_rfl) fun K hK => ?_
  simp only [XA]
  refine call_own (by kernel_rfl) rfl (dzeros_o _ r c hr hc) fun v1 V1 o1 hV1 hs1 h1 => ?_
  obtain ⟨sl, cells, rfl, hown, hrow⟩ := h1
  have osl := own_isOne hown
  simp only [XA]
  refine st_mat shapeT_31 rfl rfl rfl rfl osl ?_
  simp only [XA]
  refine hK _ (XWP.ret ?_)
  try simp only [thenX_ret, inBlockX_ret]
  rcases own_parts hown with ⟨rfl, h0, rfl⟩ | ⟨g, cap, rfl, hg, hle, hcap, hcl⟩
  · refine ret_own _ none (by simp [resAll, resV, cellsV, shapeT_31]; rfl) (fun g' q e => by cases e) ⟨_, [], rfl, ⟨by rw [h0]; rfl, .inl ⟨rfl, h0⟩⟩, hrow⟩
  · refine ret_own _ (some (g, _)) (by simp [resAll, resV, cellsV, shapeT_31]; rfl) (fun g' q e => by cases e; exact hg) ⟨_, cells, rfl, own3 (show upd (fun _ => none) g (some _) g = some _ from upd_at _ _ _) hcl hle (by unfold maxLen at hcap; omega), hrow⟩
theorem dMsame_c (V : View) (s1 s2 : Value) (r1 c1 r2 c2 : Int) (l m : List Rat) (hv : Rats V s1 l) (hu : Rats V s2 m) (hl : ∀ x ∈ l, QF x) (hm : ∀ x ∈ m, QF x) : Spec Tryz.prog 46 [.agg #[.int .i64 r1, .int .i64 c1, s1], .agg #[.int .i64 r2, .int .i64 c2, s2]] V fun v' V' => v' = .bool (decide (r1 = r2) && decide (c1 = c2) && decide (l = m)) := by
  obtain ⟨A1, q1, rfl, hc1, hm1⟩ := hv.form
  obtain ⟨A2, q2, rfl, hc2, hm2⟩ := hu.form
  refine (Spec.enter Tryz.func46 rfl fun Γ => ?_)
  simp only [Tryz.ntmps46, List.map_cons, List.map_nil, List.length_cons, List.length_nil, Nat.reduceAdd, Nat.reduceSub, List.replicate_succ, List.replicate_zero, List.cons_append, List.nil_append]
  refine Gx.a (by kernel_rfl) fun K hK => ?_
  simp only [XA]
  refine hK _ ?_
  refine XWP.seq ?_
  cases b1 : decide (r1 = r2)
  · refine Gx.a (by kernel_rfl) fun K hK => ?_
    simp only [XM, XA, XB, gateX, ↓reduceIte, b1]
    refine hK _ ?_
    refine Gx.t rfl ?_
    refine Gx.a (by kernel_rfl) fun K hK => ?_
    simp only [XA]
    refine hK _ (XWP.ret ?_)
    try simp only [thenX_ret, inBlockX_ret]
    refine ret_go _ rfl ?_
    rfl
  cases b2 : decide (c1 = c2)
  · refine Gx.a (by kernel_rfl) fun K hK => ?_
    simp only [XM, XA, XB, gateX, ↓reduceIte, beq_self_eq_true, b1, b2]
    refine hK _ ?_
    refine Gx.t rfl ?_
    refine Gx.a (by kernel_rfl) fun K hK => ?_
    simp only [XA]
    refine hK _ (XWP.ret ?_)
    try simp only [thenX_ret, inBlockX_ret]
    refine ret_go _ rfl ?_
    rfl
  by_cases hlen : l.length = m.length
  rotate_left
  · have b3 : decide ((l.length : Int) = (m.length : Int)) = false := decide_eq_false (by omega)
    refine Gx.a (by kernel_rfl) fun K hK => ?_
    simp only [XM, XA, XB, gateX, ↓reduceIte, beq_self_eq_true, b1, b2, b3]
    refine hK _ ?_
    refine Gx.t rfl ?_
    refine Gx.a (by kernel_rfl) fun K hK => ?_
    simp only [XA]
    refine hK _ (XWP.ret ?_)
    try simp only [thenX_ret, inBlockX_ret]
    refine ret_go _ rfl ?_
    rw [decide_eq_false (fun e => hlen (by rw [e]))]; rfl
  have b3 : decide ((l.length : Int) = (m.length : Int)) = true := decide_eq_true (by omega)
  refine Gx.a (by kernel_rfl) fun K hK => ?_
  simp only [XM, XA, XB, gateX, ↓reduceIte, beq_self_eq_true, b1, b2, b3]
  refine hK _ ?_
  refine Gx.f rfl ?_
  refine XWP.skip ?_
  refine XWP.cutD 2 (fun s => ∃ V2, StIs (fun Z => [Z 0,Z 1,Z 2,Z 3,Z 4,Z 5,Z 6,Z 7,Z 8,Z 9,Z 10,Z 11,Z 12,Z 13,Z 14,Z 15,Z 16,Z 17,Z 18,Z 19,Z 20,Z 21,Z 22,Z 23,Z 24,Z 25,Z 26,Z 27,Z 28,Z 29,Z 30,Z 31,Z 32,Z 33,Z 34,Z 35,Z 36,Z 37,Z 38,Z 39,Z 40,Z 41,Z 42,Z 43,Z 44,Z 45]) [[.int .i64 r1, .int .i64 c1, .slice A1 l.length q1], [.int .i64 r2, .int .i64 c2, .slice A2 m.length q2]] (fun _ => none) V2 s ∧ l = m) ?_ ?_
  · refine Gx.a (by kernel_rfl) fun K hK => ?_
    simp only [XM, XA, XB]
    refine hK _ ?_
    clear hK
    refine XWP.block ?_
    refine XWP.loopD 2 (fun n s => ∃ (k : Nat) (V2 : View), StIs (fun Z => [Z 0,Z 1, .p 0 0, .p 1 0, Z 4,Z 5,Z 6,Z 7,Z 8,Z 9,Z 10,Z 11,Z 12,Z 13,Z 14,Z 15,Z 16,Z 17,Z 18,Z 19,Z 20,Z 21,Z 22,Z 23,Z 24,Z 25,Z 26,Z 27,Z 28, .v (.int .i64 (l.length : Int)), .v (.int .i64 (k : Int)), Z 31,Z 32,Z 33,Z 34,Z 35,Z 36,Z 37,Z 38,Z 39,Z 40,Z 41,Z 42,Z 43,Z 44,Z 45]) [[.int .i64 r1, .int .i64 c1, .slice A1 l.length q1], [.int .i64 r2, .int .i64 c2, .slice A2 m.length q2]] (fun _ => none) V2 s ∧ V.le V2 ∧ n + k = l.length ∧ ∀ i, i < k → cf l i = cf m i) l.length ⟨0, V, StIs.of (by exact rfl), View.le_refl _, by omega, fun i hi => by omega⟩ ?_
    rintro n s ⟨k, V2, hs, hV2, hn, hk⟩
    obtain ⟨z, rfl⟩ := hs.out
    try dsimp only
    clear hs
    by_cases hlt : k < l.length
    rotate_left
    · have b4 : decide ((k : Int) < (l.length : Int)) = false := decide_eq_false (by omega)
      refine Gx.a (by kernel_rfl) fun K hK => ?_
      simp only [XA, XB, b4]
      refine hK _ ?_
      refine XWP.seq (Gx.f rfl ?_)
      refine XWP.exit ?_
      refine fun f => ⟨V2, StIs.of (by exact rfl), List.ext_getElem hlen fun i h1 h2 => ?_⟩
      rw [cf_get h1, cf_get h2]; exact hk i (by omega)
    have b4 : decide ((k : Int) < (l.length : Int)) = true := decide_eq_true (by omega)
    refine Gx.a (by kernel_rfl) fun K hK => ?_
    simp only [XA, XB, b4]
    refine hK _ ?_
    refine XWP.seq (Gx.t rfl ?_)
    refine XWP.skip ?_
    have hv2 := Rats.up hv hV2
    have hu2 := Rats.up hu hV2
    obtain ⟨b, o, rfl⟩ := SlAt.addr hv2 (by omega)
    obtain ⟨b', o', rfl⟩ := SlAt.addr hu2 (by omega)
    obtain ⟨m3, n3, d3, hx3, ⟨p1, p2, p3⟩, hld3⟩ := Rats.get hv2 k (by omega)
    obtain ⟨m4, n4, d4, hx4, ⟨r1, r2, r3⟩, hld4⟩ := Rats.get hu2 k (by omega)
    refine XWP.seq ?_
    refine XWP.block ?_
    refine Gx.a (by kernel_rfl) fun K hK => ?_
    simp only [XA]
    refine hK _ ?_
    (refine XWP.drw [0, 1, 2, 3, 4, 5, 6, 7, 8, 9, 10, 11] (by kernel_rfl) (by kernel_rfl) (by kernel_rfl) fun K hK => ?_) <;> dsimp only [pickOps, List.getElem?_cons_zero, List.getElem?_cons_succ]
    simp only [XM, XA, XB]
    refine ⟨by omega, by omega, ld_mem (hld3 _) ?_⟩
    simp only [XM, XA, XB]
    refine ⟨by omega, by omega, ld_mem (hld4 _) ?_⟩
    simp only [XA]
    have f3 := hl _ (cf_mem hlt)
    have f4 := hm _ (cf_mem (show k < m.length by omega))
    refine call_go (by kernel_rfl) rfl (psame_c _ _ _ _ _ (hx3.toV f3) (hx4.toV f4) f3 f4) fun v5 V5 hV5 h5 => ?_
    subst h5
    by_cases he : cf l k = cf m k
    · have b5 : decide (cf l k = cf m k) = true := decide_eq_true he
      simp only [XA, b5]
      refine hK _ ?_
      refine Gx.f rfl ?_
      refine XWP.skip ?_
      refine Gx.c (by kernel_rfl) fun K hK => ?_
      simp only [XA, XB, i64_succ k (by omega)]
      refine hK _ ⟨n - 1, by omega, fun f => ⟨k + 1, V5, StIs.of (by exact rfl), View.le_trans hV2 hV5, by omega, fun i hi => ?_⟩⟩
      by_cases e : i = k
      · rw [e]; exact he
      · exact hk i (by omega)
    · have b5 : decide (cf l k = cf m k) = false := decide_eq_false he
      simp only [XA, b5]
      refine hK _ ?_
      refine Gx.t rfl ?_
      refine Gx.a (by kernel_rfl) fun K hK => ?_
      simp only [XA]
      refine hK _ (XWP.ret ?_)
      try simp only [thenX_ret, inBlockX_ret]
      refine ret_go _ rfl ?_
      rw [decide_eq_false (fun e => he (by rw [e]))]; rfl
  rintro s ⟨V2, hs, he⟩
  obtain ⟨z, rfl⟩ := hs.out
  try dsimp only
  refine Gx.a (by kernel_rfl) fun K hK => ?_
  simp only [XA]
  refine hK _ (XWP.ret ?_)
  try simp only [thenX_ret, inBlockX_ret]
  refine ret_go _ rfl ?_
  rw [decide_eq_true he]; rfl
end Go.Proofs.YtkgmicakfmllmaaGreat
end
section
namespace Go.Proofs.YtkgmicakfmllmaaGreat
open Go Go.RowKit
set_option linter.unusedSimpArgs false
set_option linter.unusedVariables false
attribute [local irreducible] XWP Spec SpecO XPub XCall seqX clX apX stX ldX iaX slX
end Go.Proofs.YtkgmicakfmllmaaGreat
end
section
namespace Go.Proofs.YtkgmicakfmllmaaGreat
set_option linter.unusedVariables false
def hf : Rat := 1 / 2
def pw : Nat → Rat
  | 0 => 1
  | k + 1 => pw k * hf
theorem hf_mk : hf = mkRat 1 2 := by decide +kernel
theorem pw_mk (k : Nat) : pw k = mkRat 1 (2 ^ k) := by
  induction k with
  | zero => decide +kernel
  | succ k ih => rw [pw, ih, hf_mk, Rat.mkRat_mul_mkRat, Nat.pow_succ]; rfl
theorem pw_over {n k : Nat} (h : k ≤ n) : Over (2 ^ n) n (pw k) := by
  refine ⟨((2 ^ (n - k) : Nat) : Int), ?_, ?_⟩
  · rw [Int.natAbs_natCast]; exact two_mono (by omega)
  · have e : 2 ^ n = 2 ^ k * 2 ^ (n - k) := by rw [← Nat.pow_add]; congr 1; omega
    have h2 : 2 ^ (n - k) ≠ 0 := by have := two_pos (n - k); omega
    rw [pw_mk, e]
    have := Rat.mkRat_mul_right (n := 1) (d := 2 ^ k) h2
    rw [Int.one_mul] at this
    exact this.symm
theorem pw_CB1 (n : Nat) : CB n [pw n] := by
  refine ⟨2 ^ n, two_pos n, Nat.le_refl _, fun i => ?_⟩
  cases i with
  | zero => exact pw_over (Nat.le_refl _)
  | succ i => rw [cf_none (by simp)]; exact Over.zero _ _
theorem hf_QB : QB 1 hf := by
  have := (pw_CB1 1).at 0
  have e : cf [pw 1] 0 = hf := by decide +kernel
  rw [e] at this; exact this
end Go.Proofs.YtkgmicakfmllmaaGreat
end
section
namespace Go.Proofs.YtkgmicakfmllmaaGreat
open Go Go.RowKit
set_option linter.unusedSimpArgs false
set_option linter.unusedVariables false
attribute [local irreducible] XWP Spec SpecO XPub XCall seqX clX apX stX ldX iaX slX
theorem dsize_c (V : View) (n : Nat) (hn : n < 4611686018427387904) : Spec Tryz.prog 64 [.int .i64 (n : Int)] V fun v' V' => ∃ w, v' = .tuple #[w, .bool false] ∧ NatC V' w n := by
  have b1 : decide ((n : Int) < 0) = false := decide_eq_false (by omega)
  have w1 : IntKind.u64.wrap (n : Int) = (n : Int) := w64_id (by omega) (by omega)
  refine (Spec.enter Tryz.func64 rfl fun Γ => ?_)
  simp only [Tryz.ntmps64, List.map_cons, List.map_nil, List.length_cons, List.length_nil, Nat.reduceAdd, Nat.reduceSub, List.replicate_succ, List.replicate_zero, List.cons_append, List.nil_append]
  refine Gx.a (by kernel_rfl) fun K hK => ?_
  simp only [XA]
  refine hK _ ?_
  refine XWP.seq ?_
  refine Gx.a (by kernel_rfl) fun K hK => ?_
  simp only [XA, XB, b1]
  refine hK _ ?_
  refine Gx.f rfl ?_
  refine XWP.skip ?_
  refine Gx.a (by kernel_rfl) fun K hK => ?_
  simp only [XA, XB, w1]
  refine call_go (by kernel_rfl) rfl (rof_c _ n (by omega)) fun v1 V1 hV1 h1 => ?_
  simp only [XA]
  refine hK _ (XWP.ret ?_)
  try simp only [thenX_ret, inBlockX_ret]
  refine ret_go _ rfl ?_
  exact ⟨_, rfl, h1⟩
theorem dmake_c (V : View) : Spec Tryz.prog 25 [.int .i64 1, .int .i64 2] V fun v' V' => ∃ w, v' = .tuple #[w, .int .i64 0] ∧ RatC V' w hf := by
  refine (Spec.enter Tryz.func25 rfl fun Γ => ?_)
  simp only [Tryz.ntmps25, List.map_cons, List.map_nil, List.length_cons, List.length_nil, Nat.reduceAdd, Nat.reduceSub, List.replicate_succ, List.replicate_zero, List.cons_append, List.nil_append]
  refine Gx.a (by kernel_rfl) fun K hK => ?_
  simp only [XA, XB]
  refine hK _ ?_
  refine Gx.a (by kernel_rfl) fun K hK => ?_
  simp only [XA]
  refine call_go (by kernel_rfl) rfl (dsize_c _ 1 (by omega)) fun v1 V1 hV1 h1 => ?_
  obtain ⟨w1, rfl, h1⟩ := h1
  simp only [XA]
  refine hK _ ?_
  refine Gx.a (by kernel_rfl) fun K hK => ?_
  simp only [XA]
  refine call_go (by kernel_rfl) rfl (dsize_c _ 2 (by omega)) fun v2 V2 hV2 h2 => ?_
  obtain ⟨w2, rfl, h2⟩ := h2
  simp only [XA]
  refine hK _ ?_
  refine Gx.a (by kernel_rfl) fun K hK => ?_
  simp only [XA, XB, beq_self_eq_true]
  refine call_go (by kernel_rfl) rfl (pof_c _ _ _ _ 1 2 (h1.mono hV2) h2 (Fit1.of_two (B := 1) (by decide) (by omega)) (Fit1.of_two (B := 1) (by decide) (by omega))) fun v3 V3 hV3 h3 => ?_
  obtain ⟨w3, rfl, r3⟩ := h3.2 (by omega)
  clear h3
  obtain ⟨x3, y3, rfl, o1, o2⟩ := r3.form
  simp only [XA]
  refine st_rat rfl rfl rfl o1 o2 ?_
  simp only [XA]
  refine hK _ (XWP.ret ?_)
  try simp only [thenX_ret, inBlockX_ret]
  refine ret_rat2 rfl rfl rfl rfl ⟨_, rfl, ?_⟩
  rw [show hf = rv false 1 2 by decide +kernel]
  exact r3
end Go.Proofs.YtkgmicakfmllmaaGreat
end
