/- The program's period of a class is that of its reference. (part 10 of 11) -/
import Derived.OrdersHeld
import Derived.Below
import Derived.Tactics
import Derived.KernelRfl
import Derived.RangeFuncCalls
import Derived.RangeFuncFrom
import Derived.RangeFuncLeaves
import Derived.OrdersIn
import Derived.Laws.AppendOwn
import Derived.Laws.MakeOwn
import Derived.Laws.CopyRow
import Derived.Laws.Cells
import Derived.Laws.World
import Derived.Laws.Alloc2
import Derived.Laws.NewBlocks
import Derived.Maps.AppendAt
import Derived.Test.YtkgmicakfmllmaaGreatProg
import Init.Data.List.Lemmas
import Init.Omega
import Derived.WalkKit
import Derived.ProofKit
import Derived.OpenShut
import Derived.ChangeOld
import Derived.SizedLaws
import Derived.ChangeSlices
import Derived.ChangeArms
import Derived.Deep.Slices
import Derived.MapKept
import Derived.Test.YtkgmicakfmllmaaGreatPE9
section
namespace Go.Proofs.YtkgmicakfmllmaaGreat
open Go Go.RowKit
set_option linter.unusedSimpArgs false
set_option linter.unusedVariables false
attribute [local irreducible] XWP Spec SpecO XPub XCall seqX clX apX stX ldX iaX slX
theorem LinG.congr {G G' : Grid} {R n : Nat} {r r' x : Nat → Rat} (h : LinG G R n r x) (e : ∀ i j, i < R → j < n → G i j = G' i j) (er : ∀ i, i < R → r i = r' i) : LinG G' R n r' x := fun i hi => by
  rw [← er i hi, ← h i hi]
  exact Sm_congr _ fun j hj => by rw [e i j hi hj]
theorem UniG.congr {G G' : Grid} {R n : Nat} (h : UniG G R n) (e : ∀ i j, i < R → j < n → G i j = G' i j) : UniG G' R n := fun x hx => h x (hx.congr (fun i j hi hj => (e i j hi hj).symm) fun _ _ => rfl)
theorem gridL_flat (G : Grid) {R C i j : Nat} (hi : i < R) (hj : j < C) : gridL (flatG G R C) C i j = G i j := flatG_at G hi hj
/-- the right-hand sides -/
def oneB (n : Nat) (k : Nat) : Rat := if k + 1 = n then 1 else 0
/-- parts of a class, laid at their states -/
def scat (C : List Nat) (X : Nat → Rat) (n : Nat) : Nat → List Rat
  | 0 => mk n fun _ => 0
  | k + 1 => (scat C X n k).set (C.getD k 0) (X k)
theorem scat_len (C : List Nat) (X : Nat → Rat) (n : Nat) : ∀ k, (scat C X n k).length = n
  | 0 => mk_len _ _
  | k + 1 => by rw [scat, List.length_set]; exact scat_len C X n k
theorem scat_congr {C : List Nat} {X Y : Nat → Rat} {n : Nat} : ∀ k, (∀ j, j < k → X j = Y j) → scat C X n k = scat C Y n k
  | 0, _ => rfl
  | k + 1, h => by rw [scat, scat, scat_congr k fun j hj => h j (by omega), h k (by omega)]
theorem own_keep {H H' : Heap} {V : View} {e e2 sz sz2 n n2 : Nat} {v v' v2 : Value} {xs xs2 : List Value} (h2 : Own H e2 sz2 v2 n2 xs2) (h : AppRes H V e sz v n xs v' H') (hd : ∀ b, v2.ownBlock = some b → v.ownBlock ≠ some b) : Own H' e2 sz2 v2 n2 xs2 ∧ ∀ b, v2.ownBlock = some b → v'.ownBlock ≠ some b := by
  rcases h2.2 with ⟨rfl, hn⟩ | ⟨b, cap, rfl, hb, h3⟩
  · exact ⟨⟨h2.1, .inl ⟨rfl, hn⟩⟩, fun b e => by cases e⟩
  · have := app_keep h hb (hd b rfl)
    exact ⟨⟨h2.1, .inr ⟨b, cap, rfl, this.1, h3⟩⟩, fun b' e => by
      have : b = b' := by simpa [Value.ownBlock] using e
      subst this; exact (app_keep h hb (hd b rfl)).2⟩
theorem lawQ_QB {l : List Rat} {n B : Nat} {C : List Nat} (hq : ∀ x ∈ l, QB B x) (ll : l.length = n * n) (hC : ∀ x ∈ C, x < n) {k i : Nat} (hk : k < C.length) (hi : i < C.length) : QB (B + 1) (lawG (subG (gridL l n) C) C.length k i) := by
  have hm : ∀ j, j < C.length → C.getD j 0 < n := fun j hj => hC _ (by rw [List.getD_eq_getElem?_getD, List.getElem?_eq_getElem hj]; exact List.getElem_mem hj)
  have h1 : QB B (subG (gridL l n) C i k) := hq _ (cf_mem (by rw [ll]; exact pos_lt (hm i hi) (hm k hk)))
  unfold lawG
  split
  · exact QB_one _
  · split
    · exact (h1.sub (QB_one 0)).mono (by omega)
    · exact h1.mono (by omega)
set_option maxHeartbeats 4000000 in
theorem balone_c (V : View) (s vC : Value) (n B : Nat) (l : List Rat) (C : List Nat) (h : Rats V s l) (ll : l.length = n * n) (hn : n ≤ 60) (hC : Sl1 natE V vC C) (hlt : ∀ x ∈ C, x < n) (h1 : 1 ≤ C.length) (hl : C.length ≤ 60)
    (hu : UniG (lawG (subG (gridL l n) C) C.length) C.length C.length) (hq : ∀ x ∈ l, QB B x) (hB : ge (B + 1) (2 * C.length + 1) ≤ 17592186044416) :
    Spec Tryz.prog 58 [.agg #[.int .i64 (n : Int), .int .i64 (n : Int), s], vC] V fun v' V' => ∃ X : Nat → Rat, LinG (lawG (subG (gridL l n) C) C.length) C.length C.length (oneB C.length) X ∧ (∀ j, j < C.length → QB (2 * ge (B + 1) (2 * C.length)) (X j)) ∧ Rats V' v' (scat C X n C.length) := by
  obtain ⟨A, cp, rfl, hc, hm⟩ := h.form
  obtain ⟨A2, c2, rfl, hc2, hm2⟩ := hC.form
  obtain ⟨m, hmm⟩ : ∃ m, m = C.length := ⟨_, rfl⟩
  obtain ⟨bC, oC, rfl⟩ := hC.addr (by omega)
  obtain ⟨Q, hQ⟩ : ∃ Q, Q = lawG (subG (gridL l n) C) C.length := ⟨_, rfl⟩
  have hqQ : ∀ k i, k < m → i < m → QB (B + 1) (Q k i) := fun k i hk hi => by rw [hQ]; exact lawQ_QB hq ll hlt (by omega) (by omega)
  have hQd : ∀ k i, Q k i = if k + 1 = m then 1 else if i = k then cf l (C.getD i 0 * n + C.getD k 0) - 1 else cf l (C.getD i 0 * n + C.getD k 0) := fun k i => by rw [hQ, hmm]; rfl
  rw [← hQ] at hu ⊢
  have hnn : n * n ≤ 3600 := Nat.le_trans (Nat.mul_le_mul hn hn) (by decide)
  have hmmm : m * m ≤ 3600 := Nat.le_trans (Nat.mul_le_mul (by omega) (by omega)) (by decide : 60 * 60 ≤ 3600)
  have hB0 : B + 1 ≤ 17592186044416 := Nat.le_trans (ge_le _ _) hB
  have hCl : ∀ i, i < m → C.getD i 0 < n ∧ ∀ V', V.le V' → ∀ H, Loads Tryz.prog H V' 3 bC (oC + i) (.int .i64 ((C.getD i 0 : Nat) : Int)) := fun i hi => by
    have hi' : i < C.length := by omega
    have e : C.getD i 0 = C[i] := by rw [List.getD_eq_getElem?_getD, List.getElem?_eq_getElem hi']; rfl
    refine ⟨by rw [e]; exact hlt _ (List.getElem_mem hi'), fun V' hV H => ?_⟩
    obtain ⟨u, g1, _, g2⟩ := Sl1.load (hC.mono natE_ok hV) i hi'
    cases g1
    rw [e]; exact g2 H _ _ shapeT_3
  rw [← hmm] at hu hl h1 hc2 hB ⊢
  clear hC
  refine (Spec.enter Tryz.func58 rfl fun Γ => ?_)
  simp only [Tryz.ntmps58, List.map_cons, List.map_nil, List.length_cons, List.length_nil, Nat.reduceAdd, Nat.reduceSub, List.replicate_succ, List.replicate_zero, List.cons_append, List.nil_append]
  refine Gx.a (by kernel_rfl) fun K hK => ?_
  simp only [XA]
  refine hK _ ?_
  refine Gx.a (by kernel_rfl) fun K hK => ?_
  simp only [XN, XA]
  refine hK _ ?_
  refine Gx.a (by kernel_rfl) fun K hK => ?_
  simp only [XA]
  refine bd_go (by kernel_rfl) #[(0, .int .i64 (m : Int)), (1, .int .i64 (m : Int))] (by simp [ev_tmp, SV.val]) (bd_mtx2 rfl rfl) ?_
  simp only [XA]
  refine bd_go (by kernel_rfl) #[(0, .int .i64 (m : Int)), (1, .int .i64 1)] (by simp [ev_tmp, ev_const, SV.val]) (bd_mtx2 rfl rfl) ?_
  simp only [XM, XA, Nat.reduceAdd]
  refine st_mat shapeT_24 rfl rfl rfl rfl rfl ?_
  simp only [XA]
  refine st_mat shapeT_24 rfl rfl rfl rfl rfl ?_
  simp only [XA]
  refine hK _ ?_
  refine XWP.cutD 3 (fun s => ∃ (V2 : View) (H2 : Heap) (sa sb : Value) (ca cb : List Value), StIs (fun Z => [Z 0, .v (.slice (some ⟨bC, oC, none⟩) m c2), .p 0 0, Z 3,Z 4, .v (.int .i64 (m : Int)), .p 1 0, .p 2 0, Z 8,Z 9,Z 10,Z 11,Z 12,Z 13,Z 14,Z 15,Z 16,Z 17,Z 18,Z 19,Z 20,Z 21,Z 22,Z 23,Z 24,Z 25,Z 26,Z 27,Z 28,Z 29,Z 30,Z 31,Z 32,Z 33,Z 34,Z 35,Z 36,Z 37,Z 38,Z 39,Z 40,Z 41,Z 42,Z 43,Z 44,Z 45,Z 46,Z 47,Z 48,Z 49,Z 50,Z 51,Z 52,Z 53,Z 54,Z 55,Z 56,Z 57,Z 58,Z 59,Z 60,Z 61,Z 62,Z 63,Z 64,Z 65,Z 66,Z 67,Z 68,Z 69,Z 70,Z 71,Z 72,Z 73,Z 74,Z 75,Z 76,Z 77,Z 78,Z 79,Z 80,Z 81,Z 82,Z 83,Z 84,Z 85,Z 86,Z 87,Z 88,Z 89,Z 90,Z 91,Z 92,Z 93,Z 94,Z 95,Z 96,Z 97,Z 98,Z 99,Z 100,Z 101,Z 102,Z 103,Z 104,Z 105,Z 106,Z 107]) [[.int .i64 (n : Int), .int .i64 (n : Int), .slice A l.length cp], [.int .i64 (m : Int), .int .i64 (m : Int), sa], [.int .i64 (m : Int), .int .i64 1, sb]] H2 V2 s ∧ V.le V2 ∧ Own H2 49 3 sa (m * m) ca ∧ RowAt ratE V2 ca (mk (m * m) (flatF Q m)) ∧ Own H2 49 3 sb m cb ∧ RowAt ratE V2 cb (mk m (oneB m)) ∧ ∀ b, sa.ownBlock = some b → sb.ownBlock ≠ some b) ?_ ?_
  · refine Gx.a (by kernel_rfl) fun K hK => ?_
    simp only [XN, XA]
    refine hK _ ?_
    clear hK
    refine XWP.block ?_
    refine XWP.loopD 3 (fun q s => ∃ (k : Nat) (V2 : View) (H2 : Heap) (sa sb : Value) (ca cb : List Value), StIs (fun Z => [Z 0, .v (.slice (some ⟨bC, oC, none⟩) m c2), .p 0 0, Z 3,Z 4, .v (.int .i64 (m : Int)), .p 1 0, .p 2 0, Z 8,Z 9,Z 10,Z 11,Z 12,Z 13,Z 14,Z 15,Z 16,Z 17,Z 18,Z 19,Z 20,Z 21,Z 22,Z 23,Z 24,Z 25,Z 26, .v (.slice (some ⟨bC, oC, none⟩) m c2), .v (.int .i64 (m : Int)), .v (.int .i64 (k : Int)), Z 30,Z 31,Z 32,Z 33,Z 34,Z 35,Z 36,Z 37,Z 38,Z 39,Z 40,Z 41,Z 42,Z 43,Z 44,Z 45,Z 46,Z 47,Z 48,Z 49,Z 50,Z 51,Z 52,Z 53,Z 54,Z 55,Z 56,Z 57,Z 58,Z 59,Z 60,Z 61,Z 62,Z 63,Z 64,Z 65,Z 66,Z 67,Z 68,Z 69,Z 70,Z 71,Z 72,Z 73,Z 74,Z 75,Z 76,Z 77,Z 78,Z 79,Z 80,Z 81,Z 82,Z 83,Z 84,Z 85,Z 86,Z 87,Z 88,Z 89,Z 90,Z 91,Z 92,Z 93,Z 94,Z 95,Z 96,Z 97,Z 98,Z 99,Z 100,Z 101,Z 102,Z 103,Z 104,Z 105,Z 106,Z 107]) [[.int .i64 (n : Int), .int .i64 (n : Int), .slice A l.length cp], [.int .i64 (m : Int), .int .i64 (m : Int), sa], [.int .i64 (m : Int), .int .i64 1, sb]] H2 V2 s ∧ q + k = m ∧ V.le V2 ∧ Own H2 49 3 sa (k * m) ca ∧ RowAt ratE V2 ca (mk (k * m) (flatF Q m)) ∧ Own H2 49 3 sb k cb ∧ RowAt ratE V2 cb (mk k (oneB m)) ∧ ∀ b, sa.ownBlock = some b → sb.ownBlock ≠ some b) m ⟨0, V, _, _, _, [], [], StIs.of (by exact rfl), by omega, View.le_refl _, by rw [Nat.zero_mul]; exact own_nil, by rw [Nat.zero_mul]; exact RowAt.nil _, own_nil, RowAt.nil _, fun b e => by cases e⟩ ?_
    rintro q s ⟨k, V2, H2, sa, sb, ca, cb, hs, hqk, hV2, hoa, hra, hob, hrb, hdis⟩
    obtain ⟨z, rfl⟩ := hs.out
    try dsimp only
    clear hs
    by_cases hk : k < m
    rotate_left
    · obtain rfl : k = m := by omega
      have b1 : decide ((k : Int) < (k : Int)) = false := decide_eq_false (by omega)
      refine Gx.a (by kernel_rfl) fun K hK => ?_
      simp only [XA, XB, b1]
      refine hK _ ?_
      refine XWP.seq (Gx.f rfl ?_)
      refine XWP.exit ?_
      exact fun f => ⟨V2, H2, sa, sb, ca, cb, StIs.of (by exact rfl), hV2, hoa, hra, hob, hrb, hdis⟩
    have b1 : decide ((k : Int) < (m : Int)) = true := decide_eq_true (by omega)
    refine Gx.a (by kernel_rfl) fun K hK => ?_
    simp only [XA, XB, b1]
    refine hK _ ?_
    refine XWP.seq (Gx.t rfl ?_)
    refine XWP.skip ?_
    obtain ⟨hck, hldk⟩ := hCl k hk
    refine XWP.cutD 3 (fun s => ∃ (V3 : View) (H3 : Heap) (sa sb : Value) (ca cb : List Value), StIs (fun Z => [Z 0, .v (.slice (some ⟨bC, oC, none⟩) m c2), .p 0 0, Z 3,Z 4, .v (.int .i64 (m : Int)), .p 1 0, .p 2 0, Z 8,Z 9,Z 10,Z 11,Z 12,Z 13,Z 14,Z 15,Z 16,Z 17,Z 18,Z 19,Z 20,Z 21,Z 22,Z 23,Z 24,Z 25,Z 26, .v (.slice (some ⟨bC, oC, none⟩) m c2), .v (.int .i64 (m : Int)), .v (.int .i64 (k : Int)), Z 30,Z 31,Z 32,Z 33,Z 34,Z 35,Z 36,Z 37,Z 38,Z 39,Z 40,Z 41,Z 42,Z 43,Z 44,Z 45,Z 46,Z 47,Z 48,Z 49,Z 50,Z 51,Z 52,Z 53,Z 54,Z 55,Z 56,Z 57,Z 58,Z 59,Z 60,Z 61,Z 62,Z 63,Z 64,Z 65,Z 66,Z 67,Z 68,Z 69,Z 70,Z 71,Z 72,Z 73,Z 74,Z 75,Z 76,Z 77,Z 78,Z 79,Z 80,Z 81,Z 82,Z 83,Z 84,Z 85,Z 86,Z 87,Z 88,Z 89,Z 90,Z 91,Z 92,Z 93,Z 94,Z 95,Z 96,Z 97,Z 98,Z 99,Z 100,Z 101,Z 102,Z 103,Z 104,Z 105,Z 106,Z 107]) [[.int .i64 (n : Int), .int .i64 (n : Int), .slice A l.length cp], [.int .i64 (m : Int), .int .i64 (m : Int), sa], [.int .i64 (m : Int), .int .i64 1, sb]] H3 V3 s ∧ V2.le V3 ∧ Own H3 49 3 sa ((k + 1) * m) ca ∧ RowAt ratE V3 ca (mk ((k + 1) * m) (flatF Q m)) ∧ Own H3 49 3 sb (k + 1) cb ∧ RowAt ratE V3 cb (mk (k + 1) (oneB m)) ∧ ∀ b, sa.ownBlock = some b → sb.ownBlock ≠ some b) ?_ ?_
    · refine XWP.block ?_
      refine Gx.a (by kernel_rfl) fun K hK => ?_
      simp only [XN, XA, XB]
      refine ⟨by omega, by omega, ?_⟩
      refine ld_mem (by simpa using hldk V2 hV2 _) ?_
      simp only [XA]
      refine hK _ ?_
      refine Gx.a (by kernel_rfl) fun K hK => ?_
      simp only [XA]
      refine call_go (by kernel_rfl) rfl (qzero_c _) fun v4 V4 hV4 h4 => ?_
      obtain ⟨x4, y4, rfl, o1, o2⟩ := h4.form
      simp only [XA, XB, Nat.reduceAdd]
      refine st_rat rfl rfl rfl o1 o2 ?_
      simp only [XA]
      refine hK _ ?_
      refine XWP.cutD 4 (fun s => ∃ (V5 : View) (H5 : Heap) (sa : Value) (ca : List Value) (bs : Bool) (xs ys : Value), StIs (fun Z => [Z 0, .v (.slice (some ⟨bC, oC, none⟩) m c2), .p 0 0, Z 3,Z 4, .v (.int .i64 (m : Int)), .p 1 0, .p 2 0, .v (.int .i64 (k : Int)), Z 9, .p 3 0, Z 11,Z 12,Z 13,Z 14,Z 15,Z 16,Z 17,Z 18,Z 19,Z 20,Z 21,Z 22,Z 23,Z 24,Z 25,Z 26, .v (.slice (some ⟨bC, oC, none⟩) m c2), .v (.int .i64 (m : Int)), .v (.int .i64 (k : Int)), Z 30,Z 31,Z 32,Z 33,Z 34,Z 35,Z 36,Z 37,Z 38,Z 39,Z 40,Z 41,Z 42,Z 43,Z 44,Z 45,Z 46,Z 47,Z 48,Z 49,Z 50,Z 51,Z 52,Z 53,Z 54,Z 55,Z 56,Z 57,Z 58,Z 59,Z 60,Z 61,Z 62,Z 63,Z 64,Z 65,Z 66,Z 67,Z 68,Z 69,Z 70,Z 71,Z 72,Z 73,Z 74,Z 75,Z 76,Z 77,Z 78,Z 79,Z 80,Z 81,Z 82,Z 83,Z 84,Z 85,Z 86,Z 87,Z 88,Z 89,Z 90,Z 91,Z 92,Z 93,Z 94,Z 95,Z 96,Z 97,Z 98,Z 99,Z 100,Z 101,Z 102,Z 103,Z 104,Z 105,Z 106,Z 107]) [[.int .i64 (n : Int), .int .i64 (n : Int), .slice A l.length cp], [.int .i64 (m : Int), .int .i64 (m : Int), sa], [.int .i64 (m : Int), .int .i64 1, sb], [.bool bs, xs, ys]] H5 V5 s ∧ V2.le V5 ∧ Own H5 49 3 sa (k * m + m) ca ∧ RowAt ratE V5 ca (mk (k * m + m) (flatF Q m)) ∧ Own H5 49 3 sb k cb ∧ (∀ b, sb.ownBlock = some b → sa.ownBlock ≠ some b) ∧ RatC V5 (.agg #[.bool bs, xs, ys]) (oneB m k) ∧ isOne xs = true ∧ isOne ys = true) ?_ ?_
      · refine Gx.a (by kernel_rfl) fun K hK => ?_
        simp only [XN, XA]
        refine hK _ ?_
        clear hK
        refine XWP.block ?_
        refine XWP.loopD 4 (fun p s => ∃ (i : Nat) (V5 : View) (H5 : Heap) (sa : Value) (ca : List Value) (bs : Bool) (xs ys : Value), StIs (fun Z => [Z 0, .v (.slice (some ⟨bC, oC, none⟩) m c2), .p 0 0, Z 3,Z 4, .v (.int .i64 (m : Int)), .p 1 0, .p 2 0, .v (.int .i64 (k : Int)), .v (.int .i64 ((C.getD k 0 : Nat) : Int)), .p 3 0, Z 11,Z 12,Z 13,Z 14,Z 15,Z 16,Z 17,Z 18,Z 19,Z 20,Z 21,Z 22,Z 23,Z 24,Z 25,Z 26, .v (.slice (some ⟨bC, oC, none⟩) m c2), .v (.int .i64 (m : Int)), .v (.int .i64 (k : Int)), Z 30,Z 31,Z 32,Z 33,Z 34, .v (.slice (some ⟨bC, oC, none⟩) m c2), .v (.int .i64 (m : Int)), .v (.int .i64 (i : Int)), Z 38,Z 39,Z 40,Z 41,Z 42,Z 43,Z 44,Z 45,Z 46,Z 47,Z 48,Z 49,Z 50,Z 51,Z 52,Z 53,Z 54,Z 55,Z 56,Z 57,Z 58,Z 59,Z 60,Z 61,Z 62,Z 63,Z 64,Z 65,Z 66,Z 67,Z 68,Z 69,Z 70,Z 71,Z 72,Z 73,Z 74,Z 75,Z 76,Z 77,Z 78,Z 79,Z 80,Z 81,Z 82,Z 83,Z 84,Z 85,Z 86,Z 87,Z 88,Z 89,Z 90,Z 91,Z 92,Z 93,Z 94,Z 95,Z 96,Z 97,Z 98,Z 99,Z 100,Z 101,Z 102,Z 103,Z 104,Z 105,Z 106,Z 107]) [[.int .i64 (n : Int), .int .i64 (n : Int), .slice A l.length cp], [.int .i64 (m : Int), .int .i64 (m : Int), sa], [.int .i64 (m : Int), .int .i64 1, sb], [.bool bs, xs, ys]] H5 V5 s ∧ p + i = m ∧ V2.le V5 ∧ Own H5 49 3 sa (k * m + i) ca ∧ RowAt ratE V5 ca (mk (k * m + i) (flatF Q m)) ∧ Own H5 49 3 sb k cb ∧ (∀ b, sb.ownBlock = some b → sa.ownBlock ≠ some b) ∧ RatC V5 (.agg #[.bool bs, xs, ys]) (if 0 < i then oneB m k else 0) ∧ isOne xs = true ∧ isOne ys = true) m ⟨0, V4, H2, sa, ca, _, x4, y4, StIs.of (by exact rfl), by omega, hV4, hoa, hra.mono ratE_ok hV4, hob, fun b e1 e2 => hdis b e2 e1, h4, o1, o2⟩ ?_
        clear h4 o1 o2 hoa hra hob
        rintro p s ⟨i, V5, H5, sa, ca, bs, xs, ys, hs, hp, hV5, hoa, hra, hob, hds, h5, o1, o2⟩
        obtain ⟨z, rfl⟩ := hs.out
        try dsimp only
        clear hs
        by_cases hi : i < m
        rotate_left
        · obtain rfl : i = m := by omega
          have b2 : decide ((i : Int) < (i : Int)) = false := decide_eq_false (by omega)
          refine Gx.a (by kernel_rfl) fun K hK => ?_
          simp only [XA, XB, b2]
          refine hK _ ?_
          refine XWP.seq (Gx.f rfl ?_)
          refine XWP.exit ?_
          rw [if_pos (by omega)] at h5
          exact fun f => ⟨V5, H5, sa, ca, bs, xs, ys, StIs.of (by exact rfl), hV5, hoa, hra, hob, hds, h5, o1, o2⟩
        have b2 : decide ((i : Int) < (m : Int)) = true := decide_eq_true (by omega)
        refine Gx.a (by kernel_rfl) fun K hK => ?_
        simp only [XA, XB, b2]
        refine hK _ ?_
        refine XWP.seq (Gx.t rfl ?_)
        refine XWP.skip ?_
        obtain ⟨hci, hldi⟩ := hCl i hi
        have hp1 := pos_lt hk hi
        have hp2 := pos_lt hci hck
        have hle5 := View.le_trans hV2 hV5
        refine XWP.cutD 4 (fun s => ∃ (V6 : View) (H6 : Heap) (sa : Value) (ca : List Value) (bs : Bool) (xs ys : Value), StIs (fun Z => [Z 0, .v (.slice (some ⟨bC, oC, none⟩) m c2), .p 0 0, Z 3,Z 4, .v (.int .i64 (m : Int)), .p 1 0, .p 2 0, .v (.int .i64 (k : Int)), .v (.int .i64 ((C.getD k 0 : Nat) : Int)), .p 3 0, Z 11,Z 12,Z 13,Z 14,Z 15,Z 16,Z 17,Z 18,Z 19,Z 20,Z 21,Z 22,Z 23,Z 24,Z 25,Z 26, .v (.slice (some ⟨bC, oC, none⟩) m c2), .v (.int .i64 (m : Int)), .v (.int .i64 (k : Int)), Z 30,Z 31,Z 32,Z 33,Z 34, .v (.slice (some ⟨bC, oC, none⟩) m c2), .v (.int .i64 (m : Int)), .v (.int .i64 (i : Int)), Z 38,Z 39,Z 40,Z 41,Z 42,Z 43,Z 44,Z 45,Z 46,Z 47,Z 48,Z 49,Z 50,Z 51,Z 52,Z 53,Z 54,Z 55,Z 56,Z 57,Z 58,Z 59,Z 60,Z 61,Z 62,Z 63,Z 64,Z 65,Z 66,Z 67,Z 68,Z 69,Z 70,Z 71,Z 72,Z 73,Z 74,Z 75,Z 76,Z 77,Z 78,Z 79,Z 80,Z 81,Z 82,Z 83,Z 84,Z 85,Z 86,Z 87,Z 88,Z 89,Z 90,Z 91,Z 92,Z 93,Z 94,Z 95,Z 96,Z 97,Z 98,Z 99,Z 100,Z 101,Z 102,Z 103,Z 104,Z 105,Z 106,Z 107]) [[.int .i64 (n : Int), .int .i64 (n : Int), .slice A l.length cp], [.int .i64 (m : Int), .int .i64 (m : Int), sa], [.int .i64 (m : Int), .int .i64 1, sb], [.bool bs, xs, ys]] H6 V6 s ∧ V5.le V6 ∧ Own H6 49 3 sa (k * m + i + 1) ca ∧ RowAt ratE V6 ca (mk (k * m + i + 1) (flatF Q m)) ∧ Own H6 49 3 sb k cb ∧ (∀ b, sb.ownBlock = some b → sa.ownBlock ≠ some b) ∧ RatC V6 (.agg #[.bool bs, xs, ys]) (oneB m k) ∧ isOne xs = true ∧ isOne ys = true) ?_ ?_
        · refine XWP.block ?_
          refine Gx.a (by kernel_rfl) fun K hK => ?_
          simp only [XN, XA, XB]
          refine ⟨by omega, by omega, ?_⟩
          refine ld_mem (by simpa using hldi V5 hle5 _) ?_
          simp only [XA]
          refine hK _ ?_
          refine Gx.a (by kernel_rfl) fun K hK => ?_
          simp only [XM, XA, Nat.reduceAdd, Nat.reduceLeDiff, ↓reduceIte]
          refine call_go (by kernel_rfl) rfl (bat_c _ _ _ n (C.getD i 0) (C.getD k 0) l (h.up hle5) (by omega) hn (by omega) (by omega)) fun v7 V7 hV7 h7 => ?_
          obtain ⟨x7, y7, rfl, p1, p2⟩ := h7.form
          simp only [XA, XB, Nat.reduceAdd]
          refine st_rat rfl rfl rfl p1 p2 ?_
          simp only [XA]
          refine hK _ ?_
          obtain ⟨e0, he0⟩ : ∃ e0, e0 = cf l (C.getD i 0 * n + C.getD k 0) := ⟨_, rfl⟩
          have hqe : QB B e0 := by rw [he0]; exact hq _ (cf_mem (by omega))
          rw [← he0] at h7
          refine XWP.cutD 5 (fun s => ∃ (V8 : View) (br : Bool) (xr yr : Value), StIs (fun Z => [Z 0, .v (.slice (some ⟨bC, oC, none⟩) m c2), .p 0 0, Z 3,Z 4, .v (.int .i64 (m : Int)), .p 1 0, .p 2 0, .v (.int .i64 (k : Int)), .v (.int .i64 ((C.getD k 0 : Nat) : Int)), .p 3 0, .v (.int .i64 (i : Int)), Z 12, .p 4 0, Z 14,Z 15,Z 16,Z 17,Z 18,Z 19,Z 20,Z 21,Z 22,Z 23,Z 24,Z 25,Z 26, .v (.slice (some ⟨bC, oC, none⟩) m c2), .v (.int .i64 (m : Int)), .v (.int .i64 (k : Int)), Z 30,Z 31,Z 32,Z 33,Z 34, .v (.slice (some ⟨bC, oC, none⟩) m c2), .v (.int .i64 (m : Int)), .v (.int .i64 (i : Int)), Z 38,Z 39,Z 40,Z 41,Z 42,Z 43,Z 44,Z 45,Z 46,Z 47,Z 48,Z 49,Z 50,Z 51,Z 52,Z 53,Z 54,Z 55,Z 56,Z 57,Z 58,Z 59,Z 60,Z 61,Z 62,Z 63,Z 64,Z 65,Z 66,Z 67,Z 68,Z 69,Z 70,Z 71,Z 72,Z 73,Z 74,Z 75,Z 76,Z 77,Z 78,Z 79,Z 80,Z 81,Z 82,Z 83,Z 84,Z 85,Z 86,Z 87,Z 88,Z 89,Z 90,Z 91,Z 92,Z 93,Z 94,Z 95,Z 96,Z 97,Z 98,Z 99,Z 100,Z 101,Z 102,Z 103,Z 104,Z 105,Z 106,Z 107]) [[.int .i64 (n : Int), .int .i64 (n : Int), .slice A l.length cp], [.int .i64 (m : Int), .int .i64 (m : Int), sa], [.int .i64 (m : Int), .int .i64 1, sb], [.bool bs, xs, ys], [.bool br, xr, yr]] H5 V8 s ∧ V7.le V8 ∧ RatC V8 (.agg #[.bool br, xr, yr]) (if i = k then e0 - 1 else e0) ∧ isOne xr = true ∧ isOne yr = true) ?_ ?_
          · by_cases hik : i = k
            · subst hik
              rw [← he0]
              refine Gx.a (by kernel_rfl) fun K hK => ?_
              simp only [XA, XB, decide_true]
              refine hK _ ?_
              refine Gx.t rfl ?_
              (refine XWP.drw1 [0, 1, 2, 3] (by kernel_rfl) (by kernel_rfl) (by kernel_rfl) fun K hK => ?_) <;> dsimp only [pickOps, List.getElem?_cons_zero, List.getElem?_cons_succ]
              simp only [XA, XB, Nat.reduceAdd, Nat.reduceLeDiff, ↓reduceIte]
              refine call_go (by kernel_rfl) rfl (qone_c _) fun v8 V8 hV8 h8 => ?_
              simp only [XA]
              refine call_go (by kernel_rfl) rfl (qsub_c _ _ _ _ _ (h7.mono hV8) h8 (hqe.qf (by omega)) QF_one) fun v9 V9 hV9 h9 => ?_
              obtain ⟨x9, y9, rfl, r1, r2⟩ := h9.form
              simp only [XA]
              refine st_rat rfl rfl rfl r1 r2 ?_
              simp only [XA]
              exact hK _ fun f => ⟨V9, _, x9, y9, StIs.of (by exact rfl), View.le_trans hV8 hV9, by rw [if_pos rfl]; exact h9, r1, r2⟩
            · have b4 : decide ((i : Int) = (k : Int)) = false := decide_eq_false (by omega)
              rw [← he0]
              refine Gx.a (by kernel_rfl) fun K hK => ?_
              simp only [XA, XB, b4]
              refine hK _ ?_
              refine Gx.f rfl ?_
              refine XWP.skip ?_
              exact fun f => ⟨V7, _, x7, y7, StIs.of (by exact rfl), View.le_refl _, by rw [if_neg hik]; exact h7, p1, p2⟩
          rintro s ⟨V8, br, xr, yr, hs, hV8, h8, r1, r2⟩
          obtain ⟨z, rfl⟩ := hs.out
          try dsimp only
          clear hs h7 p1 p2
          have hV58 := View.le_trans hV7 hV8
          have h5' := h5.mono hV58
          refine XWP.cutD 5 (fun s => ∃ (V9 : View) (bs : Bool) (xs ys : Value) (br : Bool) (xr yr : Value), StIs (fun Z => [Z 0, .v (.slice (some ⟨bC, oC, none⟩) m c2), .p 0 0, Z 3,Z 4, .v (.int .i64 (m : Int)), .p 1 0, .p 2 0, .v (.int .i64 (k : Int)), .v (.int .i64 ((C.getD k 0 : Nat) : Int)), .p 3 0, .v (.int .i64 (i : Int)), Z 12, .p 4 0, Z 14,Z 15,Z 16,Z 17,Z 18,Z 19,Z 20,Z 21,Z 22,Z 23,Z 24,Z 25,Z 26, .v (.slice (some ⟨bC, oC, none⟩) m c2), .v (.int .i64 (m : Int)), .v (.int .i64 (k : Int)), Z 30,Z 31,Z 32,Z 33,Z 34, .v (.slice (some ⟨bC, oC, none⟩) m c2), .v (.int .i64 (m : Int)), .v (.int .i64 (i : Int)), Z 38,Z 39,Z 40,Z 41,Z 42,Z 43,Z 44,Z 45,Z 46,Z 47,Z 48,Z 49,Z 50,Z 51,Z 52,Z 53,Z 54,Z 55,Z 56,Z 57,Z 58,Z 59,Z 60,Z 61,Z 62,Z 63,Z 64,Z 65,Z 66,Z 67,Z 68,Z 69,Z 70,Z 71,Z 72,Z 73,Z 74,Z 75,Z 76,Z 77,Z 78,Z 79,Z 80,Z 81,Z 82,Z 83,Z 84,Z 85,Z 86,Z 87,Z 88,Z 89,Z 90,Z 91,Z 92,Z 93,Z 94,Z 95,Z 96,Z 97,Z 98,Z 99,Z 100,Z 101,Z 102,Z 103,Z 104,Z 105,Z 106,Z 107]) [[.int .i64 (n : Int), .int .i64 (n : Int), .slice A l.length cp], [.int .i64 (m : Int), .int .i64 (m : Int), sa], [.int .i64 (m : Int), .int .i64 1, sb], [.bool bs, xs, ys], [.bool br, xr, yr]] H5 V9 s ∧ V8.le V9 ∧ RatC V9 (.agg #[.bool br, xr, yr]) (Q k i) ∧ isOne xr = true ∧ isOne yr = true ∧ RatC V9 (.agg #[.bool bs, xs, ys]) (oneB m k) ∧ isOne xs = true ∧ isOne ys = true) ?_ ?_
          · have w1 : IntKind.i64.wrap ((m : Int) - 1) = ((m - 1 : Nat) : Int) := by rw [wrap_id (by omega) (by omega)]; omega
            by_cases hkm : k + 1 = m
            · have b5 : decide ((k : Int) = ((m - 1 : Nat) : Int)) = true := decide_eq_true (by omega)
              refine Gx.a (by kernel_rfl) fun K hK => ?_
              simp only [XA, XB, w1, b5]
              refine hK _ ?_
              refine Gx.t rfl ?_
              refine Gx.c (by kernel_rfl) fun K hK => ?_
              simp only [XA]
              refine call_go (by kernel_rfl) rfl (qone_c _) fun v9 V9 hV9 h9 => ?_
              obtain ⟨x9, y9, rfl, q1, q2⟩ := h9.form
              simp only [XA]
              refine call_go (by kernel_rfl) rfl (qone_c _) fun v10 V10 hV10 h10 => ?_
              obtain ⟨x10, y10, rfl, q3, q4⟩ := h10.form
              simp only [XA]
              refine st_rat rfl rfl rfl q1 q2 ?_
              simp only [XA]
              refine st_rat rfl rfl rfl q3 q4 ?_
              simp only [XA]
              have eQ : Q k i = 1 := by rw [hQd, if_pos hkm]
              have eo : oneB m k = 1 := by unfold oneB; rw [if_pos hkm]
              exact hK _ fun f => ⟨V10, _, x10, y10, _, x9, y9, StIs.of (by exact rfl), View.le_trans hV9 hV10, by rw [eQ]; exact h9.mono hV10, q1, q2, by rw [eo]; exact h10, q3, q4⟩
            · have b5 : decide ((k : Int) = ((m - 1 : Nat) : Int)) = false := decide_eq_false (by omega)
              refine Gx.a (by kernel_rfl) fun K hK => ?_
              simp only [XA, XB, w1, b5]
              refine hK _ ?_
              refine Gx.f rfl ?_
              refine XWP.skip ?_
              have eQ : Q k i = if i = k then e0 - 1 else e0 := by rw [hQd, if_neg hkm, he0]
              have eo : oneB m k = 0 := by unfold oneB; rw [if_neg hkm]
              rw [eo, ite_self] at h5'
              exact fun f => ⟨V8, _, xs, ys, _, xr, yr, StIs.of (by exact rfl), View.le_refl _, by rw [eQ]; exact h8, r1, r2, by rw [eo]; exact h5', o1, o2⟩
          clear h8 r1 r2 h5' h5 o1 o2
          rintro s ⟨V9, bs, xs, ys, br, xr, yr, hs, hV9, h9, r1, r2, h5, o1, o2⟩
          obtain ⟨z, rfl⟩ := hs.out
          try dsimp only
          clear hs
          have hV59 := View.le_trans hV58 hV9
          refine Gx.c (by kernel_rfl) fun K hK => ?_
          simp only [XM, XA, XB, Nat.reduceAdd, Nat.reduceLeDiff, ↓reduceIte]
          refine bs_go (by kernel_rfl) #[(0, .agg #[.bool br, xr, yr])] (by simp [ev_tmp, SV.val]) (bs_rat elemT_22) fun b3 hb3 hb4 => ?_
          simp only [XA, Nat.reduceAdd]
          refine ap_go elemT_22 (by kernel_rfl) zeroT_49 rfl (by omega) (own_upd hoa hb3) (src3 (upd_at _ _ _) rfl r1 r2) (by omega) (by omega) fun v' H' hres => ?_
          obtain ⟨hob', hds'⟩ := own_keep (own_upd (r := some ⟨49, [.bool br, xr, yr], 3⟩) hob hb3) hres hds
          simp only [XM, XA]
          refine st_one shapeT_22 rfl (own_isOne hres.1) (by simp) ?_
          simp only [XA]
          have hra' := (hra.mono ratE_ok hV59).snoc (show isOne (.bool br) = true from rfl) r1 r2 h9
          rw [← flatF_at Q hi, ← mk_succ (k * m + i) (flatF Q m)] at hra'
          exact hK _ fun f => ⟨V9, H', v', _, bs, xs, ys, StIs.of (by exact rfl), hV59, hres.1, hra', hob', hds', h5, o1, o2⟩
        clear hoa hra hob hds h5 o1 o2
        rintro s ⟨V6, H6, sa, ca, bs, xs, ys, hs, hV6, hoa, hra, hob, hds, h5, o1, o2⟩
        obtain ⟨z, rfl⟩ := hs.out
        try dsimp only
        refine Gx.c (by kernel_rfl) fun K hK => ?_
        simp only [XA, XB, i64_succ i (by omega)]
        exact hK _ ⟨p - 1, by omega, fun f => ⟨i + 1, V6, H6, sa, ca, bs, xs, ys, StIs.of (by exact rfl), by omega, View.le_trans hV5 hV6, hoa, hra, hob, hds, by rw [if_pos (by omega)]; exact h5, o1, o2⟩⟩
      clear h4 o1 o2 hoa hra hob
      rintro s ⟨V5, H5, sa, ca, bs, xs, ys, hs, hV5, hoa, hra, hob, hds, h5, o1, o2⟩
      obtain ⟨z, rfl⟩ := hs.out
      try dsimp only
      clear hs
      refine Gx.c (by kernel_rfl) fun K hK => ?_
      simp only [XM, XA, XB, Nat.reduceAdd, Nat.reduceLeDiff, ↓reduceIte]
      refine bs_go (by kernel_rfl) #[(0, .agg #[.bool bs, xs, ys])] (by simp [ev_tmp, SV.val]) (bs_rat elemT_22) fun b3 hb3 hb4 => ?_
      simp only [XA, Nat.reduceAdd]
      refine ap_go elemT_22 (by kernel_rfl) zeroT_49 rfl (by omega) (own_upd hob hb3) (src3 (upd_at _ _ _) rfl o1 o2) (by omega) (by omega) fun v' H' hres => ?_
      obtain ⟨hoa', hds'⟩ := own_keep (own_upd (r := some ⟨49, [.bool bs, xs, ys], 3⟩) hoa hb3) hres (fun b e1 e2 => hds b e2 e1)
      simp only [XM, XA]
      refine st_one shapeT_22 rfl (own_isOne hres.1) (by simp) ?_
      simp only [XA]
      have hrb' := (hrb.mono ratE_ok hV5).snoc (show isOne (.bool bs) = true from rfl) o1 o2 h5
      rw [← mk_succ k (oneB m)] at hrb'
      have ekm : (k + 1) * m = k * m + m := by rw [Nat.add_mul, Nat.one_mul]
      exact hK _ fun f => ⟨V5, H', sa, v', ca, _, StIs.of (by exact rfl), hV5, by rw [ekm]; exact hoa', by rw [ekm]; exact hra, hres.1, hrb', hds'⟩
    clear hoa hra hob hrb hdis
    rintro s ⟨V3, H3, sa, sb, ca, cb, hs, hV3, hoa, hra, hob, hrb, hdis⟩
    obtain ⟨z, rfl⟩ := hs.out
    try dsimp only
    refine Gx.c (by kernel_rfl) fun K hK => ?_
    simp only [XA, XB, i64_succ k (by omega)]
    exact hK _ ⟨q - 1, by omega, fun f => ⟨k + 1, V3, H3, sa, sb, ca, cb, StIs.of (by exact rfl), by omega, View.le_trans hV2 hV3, hoa, hra, hob, hrb, hdis⟩⟩
  rintro s ⟨V2, H2, sa, sb, ca, cb, hs, hV2, hoa, hra, hob, hrb, hdis⟩
  obtain ⟨z, rfl⟩ := hs.out
  try dsimp only
  clear hs
  refine XWP.pubR ratE_ok hoa hra fun H3 V3 hV3 ra hk3 => ?_
  have hob3 : Own H3 49 3 sb m cb := by
    refine ⟨hob.1, ?_⟩
    rcases hob.2 with h | ⟨g, cap, e, hg, h⟩
    · exact .inl h
    · exact .inr ⟨g, cap, e, by rw [hk3 g fun e2 => hdis g e2 (by rw [e]; rfl)]; exact hg, h⟩
  refine XWP.pubR ratE_ok hob3 (hrb.mono ratE_ok hV3) fun H4 V4 hV4 rb hk4 => ?_
  have ra : Rats V4 sa (flatG Q m m) := Rats.up ra hV4
  have hV24 := View.le_trans hV3 hV4
  have g1 : ∀ x ∈ flatG Q m m, QB (B + 1) x := fun x hx => by
    unfold flatG mk at hx
    obtain ⟨p, hp, rfl⟩ := List.mem_map.1 hx
    have hp := List.mem_range.1 hp
    exact hqQ _ _ ((Nat.div_lt_iff_lt_mul (by omega)).2 hp) (Nat.mod_lt _ (by omega))
  have g2 : ∀ x ∈ mk m (oneB m), QB (B + 1) x := fun x hx => by
    unfold mk at hx
    obtain ⟨p, hp, rfl⟩ := List.mem_map.1 hx
    unfold oneB
    split
    · exact QB_one _
    · exact QB_zero _
  refine Gx.a (by kernel_rfl) fun K hK => ?_
  simp only [XM, XA, Nat.reduceAdd, Nat.reduceLeDiff, ↓reduceIte]
  refine call_go (by kernel_rfl) rfl (mSolve_c _ _ _ m 1 (B + 1) (flatG Q m m) (mk m (oneB m)) ra rb (flatG_len _ _ _) (by rw [mk_len, Nat.mul_one]) h1 hl (by omega) g1 g2 hB) fun v5 V5 hV5 h5 => ?_
  have hu' : UniG (gridL (flatG Q m m) m) m m := hu.congr fun i j hi hj => (gridL_flat Q hi hj).symm
  obtain ⟨w, X, rfl, hw, hX, hqX⟩ := h5.2 hu'
  have hX0 : LinG Q m m (oneB m) (fun j => X j 0) := (hX 0 (by omega)).congr (fun i j hi hj => gridL_flat Q hi hj) fun i hi => by
    show cf (mk m (oneB m)) (i * 1 + 0) = oneB m i
    rw [Nat.mul_one, Nat.add_zero, cf_mk, if_pos hi]
  obtain ⟨A5, c5, rfl, _, _⟩ := hw.form
  obtain ⟨bw, ow, rfl⟩ := SlAt.addr hw (by rw [flatG_len]; omega)
  simp only [XM, XA, Nat.reduceAdd]
  refine st_mat shapeT_24 rfl rfl rfl rfl rfl ?_
  simp only [XA]
  refine hK _ ?_
  refine Gx.a (by kernel_rfl) fun K hK => ?_
  simp only [XM, XA, XB]
  refine mk_go rfl rfl elemT_22 zeroT_49 (by omega) (by omega) (by omega) (by omega) rfl (by omega) fun go hgo1 hgo2 => ?_
  simp only [XA]
  refine hK _ ?_
  clear hK
  have hle4 := View.le_trans hV2 hV24
  have hle5 := View.le_trans hle4 hV5
  refine XWP.cutD 4 (fun s => ∃ (V6 : View) (H6 : Heap) (co : List Value), StIs (fun Z => [Z 0, .v (.slice (some ⟨bC, oC, none⟩) m c2), Z 2,Z 3,Z 4,Z 5,Z 6,Z 7,Z 8,Z 9,Z 10,Z 11,Z 12,Z 13, .p 3 0, Z 15, .v (.slice (some ⟨go, 0, none⟩) n n), Z 17,Z 18,Z 19,Z 20,Z 21,Z 22,Z 23,Z 24,Z 25,Z 26,Z 27,Z 28,Z 29,Z 30,Z 31,Z 32,Z 33,Z 34,Z 35,Z 36,Z 37,Z 38,Z 39,Z 40,Z 41,Z 42,Z 43,Z 44,Z 45,Z 46,Z 47,Z 48,Z 49,Z 50,Z 51,Z 52,Z 53,Z 54,Z 55,Z 56,Z 57,Z 58,Z 59,Z 60,Z 61,Z 62,Z 63,Z 64,Z 65,Z 66,Z 67,Z 68,Z 69,Z 70,Z 71,Z 72,Z 73,Z 74,Z 75,Z 76,Z 77,Z 78,Z 79,Z 80,Z 81,Z 82,Z 83,Z 84,Z 85,Z 86,Z 87,Z 88,Z 89,Z 90,Z 91,Z 92,Z 93,Z 94,Z 95,Z 96,Z 97,Z 98,Z 99,Z 100,Z 101,Z 102,Z 103,Z 104,Z 105,Z 106,Z 107]) [[.int .i64 (n : Int), .int .i64 (n : Int), .slice A l.length cp], [.int .i64 (m : Int), .int .i64 (m : Int), sa], [.int .i64 (m : Int), .int .i64 1, sb], [.int .i64 (m : Int), .int .i64 1, .slice (some ⟨bw, ow, none⟩) (flatG X m 1).length c5]] H6 V6 s ∧ V5.le V6 ∧ H6 go = some ⟨49, co, n * 3⟩ ∧ RowAt ratE V6 co (mk n fun _ => 0)) ?_ ?_
  · refine Gx.a (by kernel_rfl) fun K hK => ?_
    simp only [XA, XB]
    refine hK _ ?_
    clear hK
    refine XWP.block ?_
    refine XWP.loopD 4 (fun r s => ∃ (k : Nat) (V6 : View) (H6 : Heap) (co : List Value), StIs (fun Z => [Z 0, .v (.slice (some ⟨bC, oC, none⟩) m c2), Z 2,Z 3,Z 4,Z 5,Z 6,Z 7,Z 8,Z 9,Z 10,Z 11,Z 12,Z 13, .p 3 0, Z 15, .v (.slice (some ⟨go, 0, none⟩) n n), Z 17,Z 18,Z 19,Z 20,Z 21,Z 22,Z 23,Z 24,Z 25,Z 26,Z 27,Z 28,Z 29,Z 30,Z 31,Z 32,Z 33,Z 34,Z 35,Z 36,Z 37,Z 38,Z 39,Z 40,Z 41,Z 42,Z 43,Z 44,Z 45,Z 46,Z 47,Z 48,Z 49,Z 50,Z 51,Z 52,Z 53,Z 54,Z 55,Z 56,Z 57,Z 58,Z 59,Z 60,Z 61,Z 62,Z 63,Z 64,Z 65,Z 66,Z 67,Z 68,Z 69,Z 70,Z 71,Z 72,Z 73,Z 74,Z 75,Z 76,Z 77,Z 78,Z 79,Z 80,Z 81, .v (.int .i64 (n : Int)), .v (.int .i64 (k : Int)), Z 84,Z 85,Z 86,Z 87,Z 88,Z 89,Z 90,Z 91,Z 92,Z 93,Z 94,Z 95,Z 96,Z 97,Z 98,Z 99,Z 100,Z 101,Z 102,Z 103,Z 104,Z 105,Z 106,Z 107]) [[.int .i64 (n : Int), .int .i64 (n : Int), .slice A l.length cp], [.int .i64 (m : Int), .int .i64 (m : Int), sa], [.int .i64 (m : Int), .int .i64 1, sb], [.int .i64 (m : Int), .int .i64 1, .slice (some ⟨bw, ow, none⟩) (flatG X m 1).length c5]] H6 V6 s ∧ r + k = n ∧ V5.le V6 ∧ H6 go = some ⟨49, co, n * 3⟩ ∧ RowAt (optE ratE) V6 co (part n (fun _ => 0) k)) n ⟨0, V5, _, _, StIs.of (by exact rfl), by omega, View.le_refl _, upd_at _ _ _, by rw [part_zero]; exact RowAt.new V5 n⟩ ?_
    rintro r s ⟨k, V6, H6, co, hs, hr, hV6, hH, hrow⟩
    obtain ⟨z, rfl⟩ := hs.out
    try dsimp only
    clear hs
    by_cases hk : k < n
    rotate_left
    · obtain rfl : k = n := by omega
      have b1 : decide ((k : Int) < (k : Int)) = false := decide_eq_false (by omega)
      refine Gx.a (by kernel_rfl) fun K hK => ?_
      simp only [XA, XB, b1]
      refine hK _ ?_
      refine XWP.seq (Gx.f rfl ?_)
      refine XWP.exit ?_
      rw [part_all] at hrow
      exact fun f => ⟨V6, H6, co, StIs.of (by exact rfl), hV6, hH, hrow.all⟩
    have b1 : decide ((k : Int) < (n : Int)) = true := decide_eq_true (by omega)
    refine Gx.a (by kernel_rfl) fun K hK => ?_
    simp only [XA, XB, b1]
    refine hK _ ?_
    refine XWP.seq (Gx.t rfl ?_)
    refine XWP.skip ?_
    refine XWP.seq ?_
    refine XWP.block ?_
    refine Gx.a (by kernel_rfl) fun K hK => ?_
    simp only [XA]
    refine hK _ ?_
    refine Gx.c (by kernel_rfl) fun K hK => ?_
    simp only [XA]
    refine call_go (by kernel_rfl) rfl (qzero_c _) fun v7 V7 hV7 h7 => ?_
    obtain ⟨x7, y7, rfl, o1, o2⟩ := h7.form
    have hrow := hrow.mono (optE_ok ratE_ok) hV7
    have hlr := hrow.1
    rw [part_len] at hlr
    simp only [XA, XB]
    refine ⟨by omega, by omega, ?_⟩
    refine st_rowA shapeT_49 (all3 rfl o1 o2) rfl hH (by dsimp only; omega) ?_
    simp only [XA]
    refine hK _ ?_
    have hrow2 := hrow.set k (by rw [part_len]; omega) (x := some 0) (show isOne (.bool (ng 0)) = true from rfl) o1 o2 h7
    rw [part_step n (fun _ => 0) k] at hrow2
    refine Gx.c (by kernel_rfl) fun K hK => ?_
    simp only [XA, XB, i64_succ k (by omega)]
    exact hK _ ⟨r - 1, by omega, fun f => ⟨k + 1, V7, _, _, StIs.of (by exact rfl), by omega, View.le_trans hV6 hV7, upd_at _ _ _, by simpa using hrow2⟩⟩
  rintro s ⟨V6, H6, co, hs, hV6, hH, hrow⟩
  obtain ⟨z, rfl⟩ := hs.out
  try dsimp only
  clear hs
  have hw6 := hw.up hV6
  refine XWP.cutD 4 (fun s => ∃ (H7 : Heap) (co : List Value), StIs (fun Z => [Z 0,Z 1,Z 2,Z 3,Z 4,Z 5,Z 6,Z 7,Z 8,Z 9,Z 10,Z 11,Z 12,Z 13,Z 14,Z 15, .v (.slice (some ⟨go, 0, none⟩) n n), Z 17,Z 18,Z 19,Z 20,Z 21,Z 22,Z 23,Z 24,Z 25,Z 26,Z 27,Z 28,Z 29,Z 30,Z 31,Z 32,Z 33,Z 34,Z 35,Z 36,Z 37,Z 38,Z 39,Z 40,Z 41,Z 42,Z 43,Z 44,Z 45,Z 46,Z 47,Z 48,Z 49,Z 50,Z 51,Z 52,Z 53,Z 54,Z 55,Z 56,Z 57,Z 58,Z 59,Z 60,Z 61,Z 62,Z 63,Z 64,Z 65,Z 66,Z 67,Z 68,Z 69,Z 70,Z 71,Z 72,Z 73,Z 74,Z 75,Z 76,Z 77,Z 78,Z 79,Z 80,Z 81,Z 82,Z 83,Z 84,Z 85,Z 86,Z 87,Z 88,Z 89,Z 90,Z 91,Z 92,Z 93,Z 94,Z 95,Z 96,Z 97,Z 98,Z 99,Z 100,Z 101,Z 102,Z 103,Z 104,Z 105,Z 106,Z 107]) [[.int .i64 (n : Int), .int .i64 (n : Int), .slice A l.length cp], [.int .i64 (m : Int), .int .i64 (m : Int), sa], [.int .i64 (m : Int), .int .i64 1, sb], [.int .i64 (m : Int), .int .i64 1, .slice (some ⟨bw, ow, none⟩) (flatG X m 1).length c5]] H7 V6 s ∧ H7 go = some ⟨49, co, n * 3⟩ ∧ RowAt ratE V6 co (scat C (fun j => X j 0) n m)) ?_ ?_
  · refine Gx.a (by kernel_rfl) fun K hK => ?_
    simp only [XN, XA]
    refine hK _ ?_
    clear hK
    refine XWP.block ?_
    refine XWP.loopD 4 (fun r s => ∃ (k : Nat) (H7 : Heap) (co : List Value), StIs (fun Z => [Z 0, .v (.slice (some ⟨bC, oC, none⟩) m c2), Z 2,Z 3,Z 4,Z 5,Z 6,Z 7,Z 8,Z 9,Z 10,Z 11,Z 12,Z 13, .p 3 0, Z 15, .v (.slice (some ⟨go, 0, none⟩) n n), Z 17,Z 18,Z 19,Z 20,Z 21,Z 22,Z 23,Z 24,Z 25,Z 26,Z 27,Z 28,Z 29,Z 30,Z 31,Z 32,Z 33,Z 34,Z 35,Z 36,Z 37,Z 38,Z 39,Z 40,Z 41,Z 42,Z 43,Z 44,Z 45,Z 46,Z 47,Z 48,Z 49,Z 50,Z 51,Z 52,Z 53,Z 54,Z 55,Z 56,Z 57,Z 58,Z 59,Z 60,Z 61,Z 62,Z 63,Z 64,Z 65,Z 66,Z 67,Z 68,Z 69,Z 70,Z 71,Z 72,Z 73,Z 74,Z 75,Z 76,Z 77,Z 78,Z 79,Z 80,Z 81,Z 82,Z 83,Z 84,Z 85,Z 86,Z 87,Z 88,Z 89,Z 90, .v (.slice (some ⟨bC, oC, none⟩) m c2), .v (.int .i64 (m : Int)), .v (.int .i64 (k : Int)), Z 94,Z 95,Z 96,Z 97,Z 98,Z 99,Z 100,Z 101,Z 102,Z 103,Z 104,Z 105,Z 106,Z 107]) [[.int .i64 (n : Int), .int .i64 (n : Int), .slice A l.length cp], [.int .i64 (m : Int), .int .i64 (m : Int), sa], [.int .i64 (m : Int), .int .i64 1, sb], [.int .i64 (m : Int), .int .i64 1, .slice (some ⟨bw, ow, none⟩) (flatG X m 1).length c5]] H7 V6 s ∧ r + k = m ∧ H7 go = some ⟨49, co, n * 3⟩ ∧ RowAt ratE V6 co (scat C (fun j => X j 0) n k)) m ⟨0, H6, co, StIs.of (by exact rfl), by omega, hH, hrow⟩ ?_
    clear hH hrow
    rintro r s ⟨k, H7, co, hs, hr, hH, hrow⟩
    obtain ⟨z, rfl⟩ := hs.out
    try dsimp only
    clear hs
    by_cases hk : k < m
    rotate_left
    · obtain rfl : k = m := by omega
      have b1 : decide ((k : Int) < (k : Int)) = false := decide_eq_false (by omega)
      refine Gx.a (by kernel_rfl) fun K hK => ?_
      simp only [XA, XB, b1]
      refine hK _ ?_
      refine XWP.seq (Gx.f rfl ?_)
      refine XWP.exit ?_
      exact fun f => ⟨H7, co, StIs.of (by exact rfl), hH, hrow⟩
    have b1 : decide ((k : Int) < (m : Int)) = true := decide_eq_true (by omega)
    refine Gx.a (by kernel_rfl) fun K hK => ?_
    simp only [XA, XB, b1]
    refine hK _ ?_
    refine XWP.seq (Gx.t rfl ?_)
    refine XWP.skip ?_
    obtain ⟨hck, hldk⟩ := hCl k hk
    have hlf : (flatG X m 1).length = m := by rw [flatG_len, Nat.mul_one]
    obtain ⟨m3, n3, d3, hx, ⟨p1, p2, p3⟩, hld⟩ := Rats.get hw6 k (by omega)
    have eX : cf (flatG X m 1) k = X k 0 := by
      have := flatG_at X (R := m) (C := 1) (i := k) (k := 0) hk (by omega)
      rwa [Nat.mul_one, Nat.add_zero] at this
    rw [eX] at hx
    have hlr := hrow.1
    rw [scat_len] at hlr
    refine XWP.seq ?_
    refine XWP.block ?_
    refine Gx.a (by kernel_rfl) fun K hK => ?_
    simp only [XN, XA, XB]
    refine ⟨by omega, by omega, ?_⟩
    refine ld_mem (hldk V6 (View.le_trans hle5 hV6) _) ?_
    simp only [XA]
    refine hK _ ?_
    refine Gx.c (by kernel_rfl) fun K hK => ?_
    simp only [XM, XA, XB]
    refine ⟨by omega, by omega, ld_mem (hld _) ?_⟩
    simp only [XA, XB]
    refine ⟨by omega, by omega, ?_⟩
    refine st_rowA shapeT_49 (all3 p1 p2 p3) rfl hH (by dsimp only; omega) ?_
    simp only [XA]
    refine hK _ ?_
    have hrow2 := hrow.set (C.getD k 0) (by rw [scat_len]; exact hck) (x := X k 0) p1 p2 p3 hx
    refine Gx.c (by kernel_rfl) fun K hK => ?_
    simp only [XA, XB, i64_succ k (by omega)]
    exact hK _ ⟨r - 1, by omega, fun f => ⟨k + 1, _, _, StIs.of (by exact rfl), by omega, upd_at _ _ _, by rw [scat]; simpa using hrow2⟩⟩
  rintro s ⟨H7, co, hs, hH, hrow⟩
  obtain ⟨z, rfl⟩ := hs.out
  try dsimp only
  refine Gx.a (by kernel_rfl) fun K hK => ?_
  simp only [XA]
  refine hK _ (XWP.ret ?_)
  try simp only [thenX_ret, inBlockX_ret]
  refine ret_pub go _ hH fun o ho hle => ret_go _ rfl ⟨fun j => X j 0, hX0, fun j hj => hqX j 0 hj (by omega), ?_⟩
  exact hrow.pub ratE_ok ho hle (scat_len _ _ _ _) (Nat.le_refl _) (by omega)
end Go.Proofs.YtkgmicakfmllmaaGreat
end
section
namespace Go.Proofs.YtkgmicakfmllmaaGreat
open Go Go.RowKit
set_option linter.unusedSimpArgs false
set_option linter.unusedVariables false
attribute [local irreducible] XWP Spec SpecO XPub XCall seqX clX apX stX ldX iaX slX
theorem Rch.imp {E E' : Nat → Nat → Prop} {n i k : Nat} (h : Rch E n i k) (e : ∀ a b, a < n → b < n → E a b → E' a b) : Rch E' n i k := by
  induction h with
  | refl h => exact .refl h
  | step hr hk he ih => exact .step ih hk (e _ _ hr.lt.2 hk he)
theorem eM_iff {l : List Rat} {n a b : Nat} : eM l n a b = true ↔ gridL l n a b ≠ 0 := by unfold eM gridL; rw [decide_eq_true_eq]
structure ClsG (l : List Rat) (n : Nat) (C : List Nat) : Prop where
  ne : 1 ≤ C.length
  le : C.length ≤ n
  lt : ∀ x ∈ C, x < n
  sto : StoG (subG (gridL l n) C) C.length
  irr : IrrG (subG (gridL l n) C) C.length
/-- a closed class of a stochastic matrix is an irreducible matrix of its own -/
theorem cls_irr {l : List Rat} {n : Nat} (hS : StoG (gridL l n) n) {C : List Nat} (hC : C ∈ clsL l n) : ClsG l n C := by
  obtain ⟨i, hi, rfl, hall⟩ := shutL_mem hC
  have hpos : ∀ a b, a < n → b < n → (eM l n a b = true ↔ 0 < gridL l n a b) := fun a b ha hb => by
    rw [eM_iff]
    have := hS.nn a b ha hb
    constructor
    · intro h; grind
    · intro h; grind
  have hc : ∀ a b, a < n → b < n → wR (eM l n) n i a = true → 0 < gridL l n a b → wR (eM l n) n i b = true := fun a b ha hb h1 h2 => by
    rw [wR_iff] at h1 ⊢
    exact .step h1 hb ((hpos a b ha hb).2 h2)
  refine ⟨?_, ?_, fun x hx => ?_, sub_sto hS hc, sub_irr hc fun a b ha hb h1 h2 => ?_⟩
  · have : i ∈ (List.range n).filter (wR (eM l n) n i) := by
      rw [List.mem_filter, List.mem_range, wR_iff]; exact ⟨hi, .refl hi⟩
    exact List.length_pos_of_mem this
  · have := List.length_filter_le (wR (eM l n) n i) (List.range n)
    rwa [List.length_range] at this
  · rw [List.mem_filter, List.mem_range] at hx; exact hx.1
  · have h3 := (hall a ha h1).1
    rw [wR_iff] at h3 h2
    exact (h3.trans h2).imp fun a b ha hb he => (hpos a b ha hb).1 he
theorem clsL_len (l : List Rat) (n : Nat) : (clsL l n).length ≤ n := shutP_len _ _ _ n
/-- the law of a class -/
noncomputable def theX (l : List Rat) (n : Nat) (C : List Nat) : Nat → Rat := @dite _ (∃ X, LinG (lawG (subG (gridL l n) C) C.length) C.length C.length (oneB C.length) X) (Classical.propDecidable _) (fun h => Classical.choose h) fun _ _ => 0
theorem theX_eq {l : List Rat} {n : Nat} {C : List Nat} (hu : UniG (lawG (subG (gridL l n) C) C.length) C.length C.length) {X : Nat → Rat} (hX : LinG (lawG (subG (gridL l n) C) C.length) C.length C.length (oneB C.length) X) : ∀ j, j < C.length → X j = theX l n C j := by
  have he : ∃ X, LinG (lawG (subG (gridL l n) C) C.length) C.length C.length (oneB C.length) X := ⟨X, hX⟩
  unfold theX
  rw [dif_pos he]
  exact hu.same hX (Classical.choose_spec he)
noncomputable def lawC (l : List Rat) (n : Nat) (C : List Nat) : List Rat := scat C (theX l n C) n C.length
noncomputable def allL (l : List Rat) (n : Nat) : List (List Rat) := (clsL l n).map (lawC l n)
structure LawOk (l : List Rat) (n B : Nat) (C : List Nat) : Prop where
  lin : LinG (lawG (subG (gridL l n) C) C.length) C.length C.length (oneB C.length) (theX l n C)
  qb : ∀ j, j < C.length → QB (2 * ge (B + 1) (2 * C.length)) (theX l n C j)
theorem balone2_c (V : View) (s vC : Value) (n B : Nat) (l : List Rat) (C : List Nat) (h : Rats V s l) (ll : l.length = n * n) (hn : n ≤ 60) (hC : Sl1 natE V vC C) (hlt : ∀ x ∈ C, x < n) (h1 : 1 ≤ C.length) (hl : C.length ≤ 60)
    (hu : UniG (lawG (subG (gridL l n) C) C.length) C.length C.length) (hq : ∀ x ∈ l, QB B x) (hB : ge (B + 1) (2 * C.length + 1) ≤ 17592186044416) :
    Spec Tryz.prog 58 [.agg #[.int .i64 (n : Int), .int .i64 (n : Int), s], vC] V fun v' V' => LawOk l n B C ∧ Rats V' v' (lawC l n C) :=
  (balone_c V s vC n B l C h ll hn hC hlt h1 hl hu hq hB).mono fun v' V' _ ⟨X, hX, hqX, hr⟩ => by
    have e := theX_eq hu hX
    refine ⟨⟨fun i hi => by rw [← hX i hi]; exact Sm_congr _ fun j hj => by rw [e j hj], fun j hj => by rw [← e j hj]; exact hqX j hj⟩, ?_⟩
    have e2 : scat C X n C.length = lawC l n C := scat_congr _ e
    rw [← e2]; exact hr
theorem rats_ok : ElOk Rats := fun _ _ _ _ hV h => Rats.up h hV
theorem rats_one {V : View} {v : Value} {l : List Rat} (h : Rats V v l) : isOne v = true := by obtain ⟨A, c, rfl, _⟩ := h.form; rfl
set_option maxHeartbeats 4000000 in
theorem ball_c (V : View) (s : Value) (r c : Int) (L : List Raw) (B : Nat) (h : Raws V s L) (f : fitR L) (ll : L.length ≤ 100000) (hq : okR L = true → ∀ x ∈ qs L, QB B x) (hB : 1001 * (B + 1) ≤ 17592186044416) (hB2 : stoB r c L = true → ge (B + 1) (2 * r.toNat + 1) ≤ 17592186044416) :
    Spec Tryz.prog 19 [.agg #[.int .i64 r, .int .i64 c, s]] V fun v' V' => (stoB r c L = false → v' = .tuple #[.slice none 0 0, .int .i64 1]) ∧ (stoB r c L = true → ∃ w, v' = .tuple #[w, .int .i64 0] ∧ (∀ C ∈ clsL (qs L) r.toNat, LawOk (qs L) r.toNat B C) ∧ Sl1 Rats V' w (allL (qs L) r.toNat)) := by
  obtain ⟨A, cp, rfl, hc, hm⟩ := h.form
  refine (Spec.enter Tryz.func19 rfl fun Γ => ?_)
  simp only [Tryz.ntmps19, List.map_cons, List.map_nil, List.length_cons, List.length_nil, Nat.reduceAdd, Nat.reduceSub, List.replicate_succ, List.replicate_zero, List.cons_append, List.nil_append]
  refine Gx.a (by kernel_rfl) fun K hK => ?_
  simp only [XA]
  refine hK _ ?_
  refine Gx.a (by kernel_rfl) fun K hK => ?_
  simp only [XM, XA, Nat.reduceAdd, Nat.reduceLeDiff, ↓reduceIte]
  refine call_go (by kernel_rfl) rfl (bClasses_c _ _ r c L B h f ll hq hB) fun v1 V1 hV1 h1 => ?_
  cases e : stoB r c L
  · obtain rfl := h1.1 e
    simp only [XA]
    refine hK _ ?_
    refine XWP.seq ?_
    refine Gx.a (by kernel_rfl) fun K hK => ?_
    simp only [XA, XB]
    refine hK _ ?_
    refine Gx.t rfl ?_
    refine Gx.a (by kernel_rfl) fun K hK => ?_
    simp only [XA]
    refine hK _ (XWP.ret ?_)
    try simp only [thenX_ret, inBlockX_ret]
    refine ret_go _ rfl ?_
    exact ⟨fun _ => rfl, fun h => by rw [e] at h; cases h⟩
  obtain ⟨w, rfl, hw⟩ := h1.2 e
  have hB3 := hB2 e
  clear hB2
  obtain ⟨n, rfl, rfl, hn, kl, ok, hS⟩ := stoB_parts e
  rw [Int.toNat_natCast] at hw hB3
  have hq := hq ok
  have hr := Rats.up (Raws.rats h ok) hV1
  have hlen := qs_len L
  rw [← hlen] at hr
  have hr : Rats V1 (.slice A L.length cp) (qs L) := by rw [hlen] at hr; exact hr
  obtain ⟨A2, c2, rfl, hc2, hm2⟩ := hw.form
  have hcn := clsL_len (qs L) n
  have hcls := fun C => cls_irr hS (C := C)
  obtain ⟨Ks, hK0⟩ : ∃ Ks, Ks = clsL (qs L) n := ⟨_, rfl⟩
  rw [← hK0] at hw hc2 hcn hcls ⊢
  simp only [XA]
  refine hK _ ?_
  refine XWP.seq ?_
  refine Gx.a (by kernel_rfl) fun K hK => ?_
  simp only [XA, XB]
  refine hK _ ?_
  refine Gx.f rfl ?_
  refine XWP.skip ?_
  refine Gx.a (by kernel_rfl) fun K hK => ?_
  simp only [XA]
  refine hK _ ?_
  refine XWP.cutD 1 (fun s => ∃ (V2 : View) (H2 : Heap) (wo : Value) (outs : List Value), StIs (fun Z => [Z 0,Z 1,Z 2,Z 3,Z 4,Z 5, .v wo, Z 7,Z 8,Z 9,Z 10,Z 11,Z 12,Z 13,Z 14,Z 15,Z 16,Z 17,Z 18,Z 19,Z 20,Z 21,Z 22,Z 23,Z 24,Z 25,Z 26,Z 27,Z 28,Z 29,Z 30]) [[.int .i64 (n : Int), .int .i64 (n : Int), .slice A L.length cp]] H2 V2 s ∧ Own H2 22 1 wo Ks.length outs ∧ R1At Rats V2 outs (Ks.map (lawC (qs L) n)) ∧ ∀ C ∈ Ks, LawOk (qs L) n B C) ?_ ?_
  · refine Gx.a (by kernel_rfl) fun K hK => ?_
    simp only [XN, XA]
    refine hK _ ?_
    clear hK
    refine XWP.block ?_
    refine XWP.loopD 1 (fun q s => ∃ (i : Nat) (V2 : View) (H2 : Heap) (wo : Value) (outs : List Value), StIs (fun Z => [Z 0, .p 0 0, Z 2,Z 3,Z 4,Z 5, .v wo, Z 7,Z 8,Z 9,Z 10,Z 11,Z 12,Z 13,Z 14,Z 15,Z 16, .v (.slice A2 Ks.length c2), .v (.int .i64 (Ks.length : Int)), .v (.int .i64 (i : Int)), Z 20,Z 21,Z 22,Z 23,Z 24,Z 25,Z 26,Z 27,Z 28,Z 29,Z 30]) [[.int .i64 (n : Int), .int .i64 (n : Int), .slice A L.length cp]] H2 V2 s ∧ q + i = Ks.length ∧ V1.le V2 ∧ Own H2 22 1 wo i outs ∧ R1At Rats V2 outs ((Ks.take i).map (lawC (qs L) n)) ∧ ∀ C ∈ Ks.take i, LawOk (qs L) n B C) Ks.length ⟨0, V1, _, _, [], StIs.of (by exact rfl), by omega, View.le_refl _, own_nil, R1At.nil _, fun C hC => by simp at hC⟩ ?_
    rintro q s ⟨i, V2, H2, wo, outs, hs, hqi, hV2, hown, hrow, hok⟩
    obtain ⟨z, rfl⟩ := hs.out
    try dsimp only
    clear hs
    by_cases hi : i < Ks.length
    rotate_left
    · obtain rfl : i = Ks.length := by omega
      have b1 : decide ((Ks.length : Int) < (Ks.length : Int)) = false := decide_eq_false (by omega)
      refine Gx.a (by kernel_rfl) fun K hK => ?_
      simp only [XA, XB, b1]
      refine hK _ ?_
      refine XWP.seq (Gx.f rfl ?_)
      refine XWP.exit ?_
      rw [List.take_length] at hrow hok
      exact fun f => ⟨V2, H2, wo, outs, StIs.of (by exact rfl), hown, hrow, hok⟩
    have b1 : decide ((i : Int) < (Ks.length : Int)) = true := decide_eq_true (by omega)
    refine Gx.a (by kernel_rfl) fun K hK => ?_
    simp only [XA, XB, b1]
    refine hK _ ?_
    refine XWP.seq (Gx.t rfl ?_)
    refine XWP.skip ?_
    obtain ⟨bw, ow, rfl⟩ := hw.addr (by omega)
    obtain ⟨u, g1, o1, g2⟩ := Sl1.load (hw.mono (Sl1_ok natE_ok) hV2) i hi
    have g2 := fun H => g2 H _ _ shapeT_34
    have hm := List.getElem_mem hi
    obtain ⟨C, hCe⟩ : ∃ C, C = Ks[i] := ⟨_, rfl⟩
    rw [← hCe] at g1 hm
    have hc := hcls C hm
    obtain ⟨A3, c3, rfl, _, _⟩ := g1.form
    refine XWP.cutD 1 (fun s => ∃ (V3 : View) (H3 : Heap) (wo : Value) (outs : List Value), StIs (fun Z => [Z 0, .p 0 0, Z 2,Z 3,Z 4,Z 5, .v wo, Z 7,Z 8,Z 9,Z 10,Z 11,Z 12,Z 13,Z 14,Z 15,Z 16, .v (.slice (some ⟨bw, ow, none⟩) Ks.length c2), .v (.int .i64 (Ks.length : Int)), .v (.int .i64 (i : Int)), Z 20,Z 21,Z 22,Z 23,Z 24,Z 25,Z 26,Z 27,Z 28,Z 29,Z 30]) [[.int .i64 (n : Int), .int .i64 (n : Int), .slice A L.length cp]] H3 V3 s ∧ V2.le V3 ∧ Own H3 22 1 wo (i + 1) outs ∧ R1At Rats V3 outs ((Ks.take (i + 1)).map (lawC (qs L) n)) ∧ ∀ C ∈ Ks.take (i + 1), LawOk (qs L) n B C) ?_ ?_
    · refine XWP.block ?_
      refine Gx.a (by kernel_rfl) fun K hK => ?_
      simp only [XN, XA]
      refine ⟨by omega, by omega, ?_⟩
      refine ld_mem (by simpa using g2 _) ?_
      simp only [XA]
      refine hK _ ?_
      refine Gx.c (by kernel_rfl) fun K hK => ?_
      simp only [XM, XA, Nat.reduceAdd, Nat.reduceLeDiff, ↓reduceIte]
      refine call_go (by kernel_rfl) rfl (balone2_c _ _ _ n B (qs L) C (hr.up hV2) (by omega) hn g1 hc.lt hc.ne (by have := hc.le; omega) (law_uni hc.sto hc.irr) hq (Nat.le_trans (ge_mono _ (by have := hc.le; omega)) hB3)) fun v3 V3 hV3 h3 => ?_
      obtain ⟨h3, r3⟩ := h3
      have o3 := rats_one r3
      simp only [XA]
      refine bs_go (by kernel_rfl) #[(0, v3)] (by simp [ev_tmp, SV.val]) (bs_one elemT_38 zeroT_22 o3) fun bq hbq1 hbq2 => ?_
      simp only [XA]
      refine ap_go elemT_38 (by kernel_rfl) zeroT_22 rfl (by omega) (own_upd hown hbq1) (src_one (upd_at _ _ _) o3) (by omega) (by omega) fun v' H' hres => ?_
      simp only [XA]
      have et : Ks.take (i + 1) = Ks.take i ++ [C] := by rw [List.take_add_one, List.getElem?_eq_getElem hi, ← hCe]; rfl
      have hrow' := (hrow.mono rats_ok hV3).snoc o3 r3
      exact hK _ fun f => ⟨V3, H', v', outs ++ [v3], StIs.of (by exact rfl), hV3, hres.1, by rw [et, List.map_append]; exact hrow', fun D hD => by
        rw [et, List.mem_append] at hD
        rcases hD with hD | hD
        · exact hok D hD
        · rw [List.mem_singleton.1 hD]; exact h3⟩
    clear hown hrow hok
    rintro s ⟨V3, H3, wo, outs, hs, hV3, hown, hrow, hok⟩
    obtain ⟨z, rfl⟩ := hs.out
    try dsimp only
    refine Gx.c (by kernel_rfl) fun K hK => ?_
    simp only [XA, XB, i64_succ i (by omega)]
    exact hK _ ⟨q - 1, by omega, fun f => ⟨i + 1, V3, H3, wo, outs, StIs.of (by exact rfl), by omega, View.le_trans hV2 hV3, hown, hrow, hok⟩⟩
  rintro s ⟨V2, H2, wo, outs, hs, hown, hrow, hok⟩
  obtain ⟨z, rfl⟩ := hs.out
  try dsimp only
  refine Gx.a (by kernel_rfl) fun K hK => ?_
  simp only [XA]
  refine hK _ ?_
  have hown' : Own H2 22 1 wo (Ks.map (lawC (qs L) n)).length outs := by rw [List.length_map]; exact hown
  refine XWP.pub1 rats_ok hown' hrow fun H4 V4 hV4 hs4 _ => ?_
  refine XWP.ret ?_
  try simp only [thenX_ret, inBlockX_ret]
  refine ret_go _ rfl ⟨fun h => (by rw [e] at h; cases h), fun _ => ⟨_, rfl, by rw [Int.toNat_natCast, ← hK0]; exact hok, ?_⟩⟩
  rw [Int.toNat_natCast]; unfold allL; rw [← hK0]; exact hs4
/-- the only law of a matrix: none where there are several classes -/
theorem balone1_c (V : View) (s : Value) (r c : Int) (L : List Raw) (B : Nat) (h : Raws V s L) (f : fitR L) (ll : L.length ≤ 100000) (hq : okR L = true → ∀ x ∈ qs L, QB B x) (hB : 1001 * (B + 1) ≤ 17592186044416) (hB2 : stoB r c L = true → ge (B + 1) (2 * r.toNat + 1) ≤ 17592186044416) :
    Spec Tryz.prog 17 [.agg #[.int .i64 r, .int .i64 c, s]] V fun v' V' => (stoB r c L = false → v' = .tuple #[.slice none 0 0, .int .i64 1]) ∧ (stoB r c L = true → (∀ C ∈ clsL (qs L) r.toNat, LawOk (qs L) r.toNat B C) ∧ ((clsL (qs L) r.toNat).length ≠ 1 → v' = .tuple #[.slice none 0 0, .int .i64 3]) ∧ ∀ C, clsL (qs L) r.toNat = [C] → ∃ w, v' = .tuple #[w, .int .i64 0] ∧ Rats V' w (lawC (qs L) r.toNat C)) := by
  obtain ⟨A, cp, rfl, hc, hm⟩ := h.form
  refine (Spec.enter Tryz.func17 rfl fun Γ => ?_)
  simp only [Tryz.ntmps17, List.map_cons, List.map_nil, List.length_cons, List.length_nil, Nat.reduceAdd, Nat.reduceSub, List.replicate_succ, List.replicate_zero, List.cons_append, List.nil_append]
  refine Gx.a (by kernel_rfl) fun K hK => ?_
  simp only [XA]
  refine hK _ ?_
  refine Gx.a (by kernel_rfl) fun K hK => ?_
  simp only [XM, XA, Nat.reduceAdd, Nat.reduceLeDiff, ↓reduceIte]
  refine call_go (by kernel_rfl) rfl (ball_c _ _ r c L B h f ll hq hB hB2) fun v1 V1 hV1 h1 => ?_
  cases e : stoB r c L
  · obtain rfl := h1.1 e
    simp only [XA]
    refine hK _ ?_
    refine XWP.seq ?_
    refine Gx.a (by kernel_rfl) fun K hK => ?_
    simp only [XA, XB]
    refine hK _ ?_
    refine Gx.t rfl ?_
    refine Gx.a (by kernel_rfl) fun K hK => ?_
    simp only [XA]
    refine hK _ (XWP.ret ?_)
    try simp only [thenX_ret, inBlockX_ret]
    refine ret_go _ rfl ?_
    exact ⟨fun _ => rfl, fun h => by rw [e] at h; cases h⟩
  obtain ⟨w, rfl, hok, hw⟩ := h1.2 e
  obtain ⟨A2, c2, rfl, hc2, hm2⟩ := hw.form
  have hl : (allL (qs L) r.toNat).length = (clsL (qs L) r.toNat).length := List.length_map ..
  simp only [XA]
  refine hK _ ?_
  refine XWP.seq ?_
  refine Gx.a (by kernel_rfl) fun K hK => ?_
  simp only [XA, XB]
  refine hK _ ?_
  refine Gx.f rfl ?_
  refine XWP.skip ?_
  refine XWP.seq ?_
  have hcl := clsL_len (qs L) r.toNat
  by_cases e1 : (clsL (qs L) r.toNat).length = 1
  rotate_left
  · have b1 : decide (((allL (qs L) r.toNat).length : Int) = 1) = false := decide_eq_false (by omega)
    refine Gx.a (by kernel_rfl) fun K hK => ?_
    simp only [XN, XA, XB, b1]
    refine hK _ ?_
    refine Gx.t rfl ?_
    refine Gx.a (by kernel_rfl) fun K hK => ?_
    simp only [XA]
    refine hK _ (XWP.ret ?_)
    try simp only [thenX_ret, inBlockX_ret]
    refine ret_go _ rfl ?_
    exact ⟨fun h => (by rw [e] at h; cases h), fun _ => ⟨hok, fun _ => rfl, fun C hC => absurd (by rw [hC]; rfl) e1⟩⟩
  obtain ⟨C, hC⟩ := List.length_eq_one_iff.1 e1
  have eA : allL (qs L) r.toNat = [lawC (qs L) r.toNat C] := by unfold allL; rw [hC]; rfl
  have b1 : decide (((allL (qs L) r.toNat).length : Int) = 1) = true := decide_eq_true (by omega)
  refine Gx.a (by kernel_rfl) fun K hK => ?_
  simp only [XN, XA, XB, b1]
  refine hK _ ?_
  refine Gx.f rfl ?_
  refine XWP.skip ?_
  rw [eA] at hw
  obtain ⟨bw, ow, rfl⟩ := hw.addr (by simp)
  obtain ⟨u, g1, _, g2⟩ := Sl1.load hw 0 (by simp)
  have g2 := fun H => g2 H _ _ shapeT_22
  obtain ⟨A3, c3, rfl, _, _⟩ := SlAt.form g1
  refine Gx.a (by kernel_rfl) fun K hK => ?_
  simp only [XN, XA, XB, Int.reduceLE]
  refine ⟨by omega, ?_⟩
  refine ld_mem (by simpa using g2 _) ?_
  simp only [XA]
  refine hK _ (XWP.ret ?_)
  try simp only [thenX_ret, inBlockX_ret]
  refine ret_go _ rfl ⟨fun h => (by rw [e] at h; cases h), fun _ => ⟨hok, fun h => absurd e1 h, fun D hD => ⟨_, rfl, ?_⟩⟩⟩
  rw [hC] at hD
  cases hD
  exact g1
end Go.Proofs.YtkgmicakfmllmaaGreat
end
section
namespace Go.Proofs.YtkgmicakfmllmaaGreat
open Go Go.RowKit
set_option linter.unusedVariables false
theorem cls_con {l : List Rat} {n : Nat} {C : List Nat} (hC : C ∈ clsL l n) : ConC (eM l n) C ∧ (∀ k, k ∈ C → k < n) ∧ 1 ≤ C.length ∧ C.length ≤ n := by
  obtain ⟨i0, hi0, hCe, hall⟩ := shutL_mem hC
  have mem : ∀ k, k ∈ C ↔ k < n ∧ Rch (fun a b => eM l n a b = true) n i0 k := fun k => by rw [hCe, List.mem_filter, List.mem_range, wR_iff]
  have i0m : i0 ∈ C := (mem i0).2 ⟨hi0, .refl hi0⟩
  refine ⟨fun i k hi hk => ?_, fun k hk => ((mem k).1 hk).1, List.length_pos_of_mem i0m, ?_⟩
  · have hi' := (mem i).1 hi
    have hk' := (mem k).1 hk
    have hb := (wR_iff _ _ _ _).1 (hall i hi'.1 ((wR_iff _ _ _ _).2 hi'.2)).1
    have hik := hb.trans hk'.2
    have key : ∀ j, Rch (fun a b => eM l n a b = true) n i j → ∃ m, Wk (eM l n) C i m j := by
      intro j hj
      induction hj with
      | refl _ => exact ⟨0, .nil⟩
      | step hj hlt he ih =>
        obtain ⟨m, hm⟩ := ih
        exact ⟨m + 1, .step hm ((mem _).2 ⟨hlt, hi'.2.trans (.step hj hlt he)⟩) he⟩
    exact key k hik
  · rw [hCe]
    have := List.length_filter_le (wR (eM l n) n i0) (List.range n)
    rwa [List.length_range] at this
/-! ### The map of the distances -/
def entL (F : List (Nat × Nat)) : List (Int × Value) := F.map fun p => ((p.1 : Int), .int .i64 (p.2 : Int))
theorem getM_some {k d : Nat} : ∀ {F : List (Nat × Nat)}, farO F k = some d → ∃ j, getM (entL F) k = some (j, .int .i64 (d : Int))
  | [], h => by cases h
  | (a, b) :: F, h => by
    rw [farO] at h
    show ∃ j, getM (((a : Int), .int .i64 (b : Int)) :: entL F) k = _
    rw [getM]
    by_cases e : a = k
    · rw [if_pos e] at h
      cases h
      exact ⟨0, by rw [if_pos (by omega)]⟩
    · rw [if_neg e] at h
      obtain ⟨j, hj⟩ := getM_some h
      exact ⟨j + 1, by rw [if_neg (by omega), hj]; rfl⟩
theorem getM_none {k : Nat} : ∀ {F : List (Nat × Nat)}, farO F k = none → getM (entL F) k = none
  | [], _ => rfl
  | (a, b) :: F, h => by
    rw [farO] at h
    show getM (((a : Int), .int .i64 (b : Int)) :: entL F) k = _
    rw [getM]
    by_cases e : a = k
    · rw [if_pos e] at h; cases h
    · rw [if_neg e] at h
      rw [if_neg (by omega), getM_none h]; rfl
theorem putM_ent {k d : Nat} {F : List (Nat × Nat)} (h : farO F k = none) : putM (entL F) k (.int .i64 (d : Int)) = entL (F ++ [(k, d)]) := by
  rw [putM_new _ (getM_none h)]; simp [entL]
theorem le_addV {V V2 : View} {r : Nat} {o : Obj} (h : V.le V2) (hr : V r = none) : V.le (addV V2 r o) := fun k ob hk => by
  unfold addV
  split
  · rename_i e; rw [e, hr] at hk; cases hk
  · exact h k ob hk
/-! ### The queue -/
def QueO (H : Heap) (v : Value) (q : List Nat) : Prop := ∃ g o c pre tot, v = .slice (some ⟨g, o, none⟩) q.length c ∧ H g = some ⟨3, pre ++ ivs q, tot⟩ ∧ tot = o + c ∧ pre.length = o ∧ q.length ≤ c ∧ tot ≤ 9223372036854775807
def QueQ (H : Heap) (V : View) (v : Value) (q : List Nat) : Prop :=
  (∃ b o, v = .slice (some ⟨b, o, none⟩) q.length q.length ∧ q.length ≤ 1 ∧ ∀ k, q = [k] → ∀ H', Loads Tryz.prog H' V 3 b o (.int .i64 (k : Int))) ∨ QueO H v q
theorem QueQ.form {H : Heap} {V : View} {v : Value} {q : List Nat} (h : QueQ H V v q) : ∃ b o c, v = .slice (some ⟨b, o, none⟩) q.length c ∧ q.length ≤ c ∧ c ≤ 9223372036854775807 := by
  rcases h with ⟨b, o, rfl, h1, _⟩ | ⟨g, o, c, pre, tot, rfl, _, h1, _, h2, h3⟩
  · exact ⟨b, o, _, rfl, Nat.le_refl _, by omega⟩
  · exact ⟨g, o, c, rfl, h2, by omega⟩
theorem Loads_up {V V' : View} {t b o : Nat} {u : Value} (h : ∀ H', Loads Tryz.prog H' V t b o u) (hV : V.le V') : ∀ H', Loads Tryz.prog H' V' t b o u := fun H' => by
  obtain ⟨g, m, hs, h1⟩ := h H'
  refine ⟨g, m, hs, ?_⟩
  rcases h1 with ⟨hg, vs, hl, hc, e⟩ | ⟨hg, hc⟩
  · exact .inl ⟨hg, vs, hl, fun j x hj => (hc j x hj).imp id fun ⟨arr, ty, fr, ha, hb⟩ => ⟨arr, ty, fr, hV _ _ ha, hb⟩, e⟩
  · exact .inr ⟨hg, hc.imp id fun ⟨arr, ty, fr, ha, hb⟩ => ⟨arr, ty, fr, hV _ _ ha, hb⟩⟩
/-- the queue does not see what is new in the view, if its first cell is not there -/
theorem QueQ.mono {H : Heap} {V V' : View} {v : Value} {q : List Nat} (h : QueQ H V v q) (hV : V.le V') : QueQ H V' v q := by
  rcases h with ⟨b, o, h1, h2, h3⟩ | h
  · exact .inl ⟨b, o, h1, h2, fun k e => Loads_up (h3 k e) hV⟩
  · exact .inr h
theorem QueQ.any {H : Heap} {V V' : View} {v : Value} {q : List Nat} (h : QueQ H V v q) (ho : ∀ k, q = [k] → QueO H v q) : QueQ H V' v q := by
  rcases h with ⟨b, o, h1, h2, h3⟩ | h
  · rcases Nat.eq_zero_or_pos q.length with e | e
    · exact .inl ⟨b, o, h1, h2, fun k ek => by rw [ek] at e; cases e⟩
    · match q, h2, e, ho with
      | [k'], _, _, ho => exact .inr (ho k' rfl)
  · exact .inr h
theorem QueO.upd {H : Heap} {v : Value} {q : List Nat} {b : Nat} {r : Option Row} (h : QueO H v q) (hb : H b = none) : QueO (upd H b r) v q := by
  obtain ⟨g, o, c, pre, tot, e, hH, h1⟩ := h
  exact ⟨g, o, c, pre, tot, e, by rw [upd_off (fun e => by rw [e, hb] at hH; cases hH)]; exact hH, h1⟩
theorem QueQ.upd {H : Heap} {V : View} {v : Value} {q : List Nat} {b : Nat} {r : Option Row} (h : QueQ H V v q) (hb : H b = none) : QueQ (upd H b r) V v q := h.imp id fun h => h.upd hb
theorem QueQ.head {H : Heap} {V : View} {b o c m : Nat} {k : Nat} {q : List Nat} (h : QueQ H V (.slice (some ⟨b, o, none⟩) m c) (k :: q)) : Loads Tryz.prog H V 3 b o (.int .i64 (k : Int)) ∧ QueQ H V (sliceV (some ⟨b, o, none⟩) c 1 1 (q.length + 1)) q ∧ ∀ k', q = [k'] → QueO H (sliceV (some ⟨b, o, none⟩) c 1 1 (q.length + 1)) q := by
  rcases h with ⟨b', o', e, h2, h3⟩ | ⟨g, o', c', pre, tot, e, hH, h1, h2, h4, h5⟩
  · have hq : q = [] := List.length_eq_zero_iff.1 (by rw [List.length_cons] at h2; omega)
    subst hq
    injection e with e1 e2 e3
    injection e1 with e1
    injection e1 with e4 e5
    subst e3 e4 e5
    exact ⟨h3 k rfl _, .inl ⟨b, o, rfl, by simp, fun k e => by cases e⟩, fun k e => by cases e⟩
  · injection e with e1 e2 e3
    injection e1 with e1
    injection e1 with e4 e5
    subst e3 e4 e5
    refine ⟨ldH1 hH (by rw [List.getElem?_append_right (by omega), h2, Nat.sub_self]; rfl) shapeT_3, ?_⟩
    have hq4 : q.length + 1 ≤ c := by simpa using h4
    unfold sliceV
    by_cases ec : c = 1
    · have hq : q = [] := List.length_eq_zero_iff.1 (by omega)
      subst hq
      subst ec
      exact ⟨.inl ⟨b, o, rfl, by simp, fun k e => by cases e⟩, fun k e => by cases e⟩
    · rw [if_neg ec]
      have own : QueO H (.slice (some ⟨b, o + 1, none⟩) q.length (c - 1)) q := ⟨b, o + 1, c - 1, pre ++ [.int .i64 (k : Int)], tot, rfl, by rw [hH]; simp [ivs], by omega, by simp; omega, by omega, h5⟩
      have ev : Value.slice (Option.map (fun x => x.add (1 * 1)) (some (⟨b, o, none⟩ : Addr))) (q.length + 1 - 1) (c - 1) = .slice (some ⟨b, o + 1, none⟩) q.length (c - 1) := by simp [Addr.add]
      rw [ev]
      exact ⟨.inr own, fun _ _ => own⟩
section
variable {Γ : Cx} {ops : Array Oper} {Q : Exit → XS → Prop} {s : XS} {j : Nat}
theorem Rest.pushQ {d : Option Tmp} {x y : Operand} {ty pos af} (hi : ops[j]? = some ⟨d, .call ⟨.builtin .append, #[x, y], #[34, 34]⟩, ty, pos, af, none⟩) {v yv : Value} {k : Nat} {q : List Nat}
    (hx : s.ev x = .v v) (hy : s.ev y = .v yv) (hq : QueQ s.H s.V v q) (hc : ∀ k, q = [k] → QueO s.H v q) (hsrc : Src s.H s.V 1 yv 1 [.int .i64 (k : Int)]) (hl : q.length ≤ 1000000)
    (h : ∀ v' H', QueQ H' s.V v' (q ++ [k]) → QueO H' v' (q ++ [k]) → Rest Γ Tryz.prog ops Q (j + 1) (XS.put ⟨s.t, s.bx, H', s.V⟩ d (.v v'))) : Rest Γ Tryz.prog ops Q j s := by
  have ei : ivs (q ++ [k]) = ivs q ++ [.int .i64 (k : Int)] := by simp [ivs]
  have el : (q ++ [k]).length = q.length + 1 := by simp
  have own : QueO s.H v q → Rest Γ Tryz.prog ops Q j s := by
    rintro ⟨g, o, c, pre, tot, rfl, hH, h1, h2, h3, h4⟩
    refine Rest.appendQ hi hx hy hH h1 h2 (ivs_len q) h3 elemT_34 (by kernel_rfl) zeroT_3 rfl hsrc (by omega) (by omega) (fun hr => ?_) fun g' c' a1 a2 a3 a4 => ?_
    · refine h _ _ ?_ ?_
      · exact .inr ⟨g, o, c, pre, tot, by rw [el], by rw [upd_at, ei], h1, h2, by rw [el]; exact hr, h4⟩
      · exact ⟨g, o, c, pre, tot, by rw [el], by rw [upd_at, ei], h1, h2, by rw [el]; exact hr, h4⟩
    · refine h _ _ ?_ ?_
      · exact .inr ⟨g', 0, c', [], c', by rw [el], by rw [upd_at, ei]; rfl, by omega, rfl, by rw [el]; exact a3, a4⟩
      · exact ⟨g', 0, c', [], c', by rw [el], by rw [upd_at, ei]; rfl, by omega, rfl, by rw [el]; exact a3, a4⟩
  rcases hq with ⟨b, o, rfl, h2, h3⟩ | ho
  · rcases Nat.eq_zero_or_pos q.length with e | e
    · have hq : q = [] := List.length_eq_zero_iff.1 e
      subst hq
      refine Rest.append0 hi hx hy elemT_34 (by kernel_rfl) zeroT_3 rfl (by omega) hsrc (by omega) (by omega) (by omega) fun v' H' hres => ?_
      rcases own_parts hres.1 with ⟨_, h0, _⟩ | ⟨g, cap, rfl, hg, hle, hcap, _⟩
      · omega
      · refine h _ _ ?_ ?_
        · exact .inr ⟨g, 0, cap, [], cap * 1, rfl, hg, by omega, rfl, hle, by unfold maxLen at hcap; omega⟩
        · exact ⟨g, 0, cap, [], cap * 1, rfl, hg, by omega, rfl, hle, by unfold maxLen at hcap; omega⟩
    · obtain ⟨k', hk'⟩ : ∃ k', q = [k'] := by
        match q, h2, e with
        | [k'], _, _ => exact ⟨k', rfl⟩
      exact own (hc k' hk')
  · exact own ho
end
end Go.Proofs.YtkgmicakfmllmaaGreat
end
section
namespace Go.Proofs.YtkgmicakfmllmaaGreat
open Go Go.RowKit
set_option linter.unusedSimpArgs false
set_option linter.unusedVariables false
attribute [local irreducible] XWP Spec SpecO XPub XCall seqX clX apX stX ldX iaX slX
theorem bx_sl {P : Program} {ops : Array Oper} {rest : List Oper} {K : XS → Prop} {s : XS} {d : Option Tmp} (A : Option Addr) (n c : Nat) : bxS P ops rest K s d (.v (.slice A n c)) = seqX P ops rest K (XS.put ⟨s.t, s.bx ++ [[.slice A n c]], s.H, s.V⟩ d (.p s.bx.length 0)) := by simp [bxS, Value.cells]
theorem Sl1.nats {V : View} {v : Value} {l : List Nat} (h : Sl1 intE V v (zs l)) : Sl1 natE V v l := by
  obtain ⟨A, c, rfl, h1, h2, h3⟩ := h
  have el : (zs l).length = l.length := by simp [zs]
  refine ⟨A, c, by rw [el], by rw [el] at h1; exact h1, h2, ?_⟩
  rcases h3 with h3 | ⟨b, o, arr, ty, fr, rfl, hb, hx⟩
  · exact .inl (List.length_eq_zero_iff.1 (by rw [← el, h3]; rfl))
  · exact .inr ⟨b, o, arr, ty, fr, rfl, hb, fun i x hi => hx i (x : Int) (by unfold zs; rw [List.getElem?_map, hi]; rfl)⟩
theorem zs_inj {l m : List Nat} (h : zs l = zs m) : l = m := by
  have hl : l.length = m.length := by have := congrArg List.length h; simpa [zs] using this
  refine List.ext_getElem hl fun i h1 h2 => ?_
  have : (zs l)[i]? = (zs m)[i]? := by rw [h]
  unfold zs at this
  rw [List.getElem?_map, List.getElem?_map, List.getElem?_eq_getElem h1, List.getElem?_eq_getElem h2] at this
  have : ((l[i] : Nat) : Int) = ((m[i] : Nat) : Int) := by simpa using this
  omega
theorem cntC_len (p : Nat → Bool) (C : List Nat) : cntC p C ≤ C.length := List.length_filter_le _ _
theorem gcd_small {d : Nat} {x : Int} (hd : d ≤ 100) (hx : x.natAbs ≤ 100) : Nat.gcd d x.natAbs ≤ 100 := by
  rcases Nat.eq_zero_or_pos d with e | e
  · rw [e, Nat.gcd_zero_left]; exact hx
  · exact Nat.le_trans (Nat.gcd_le_left _ e) hd
/-- whether a list is a class of the matrix -/
noncomputable def perB (r c : Int) (L : List Raw) (ws : List Int) : Bool := stoB r c L && (clsL (qs L) r.toNat).any fun l => decide (zs l = ws)
/-- the lengths of the walks home -/
def homeP (l : List Rat) (n : Nat) (C : List Nat) : Nat → Prop := fun m => Wk (eM l n) C (C.getD 0 0) m (C.getD 0 0)
set_option maxHeartbeats 4000000 in
theorem bperiod_c (V : View) (s u : Value) (r c : Int) (L : List Raw) (B : Nat) (ws : List Int) (h : Raws V s L) (hu : Sl1 intE V u ws) (lw : ws.length ≤ 20) (f : fitR L) (ll : L.length ≤ 100000) (hq : okR L = true → ∀ x ∈ qs L, QB B x) (hB : 1001 * (B + 1) ≤ 17592186044416) :
    Spec Tryz.prog 37 [.agg #[.int .i64 r, .int .i64 c, s], u] V fun v' V' => (perB r c L ws = false → v' = .tuple #[.int .i64 0, .int .i64 1]) ∧ (perB r c L ws = true → ∀ C, zs C = ws → v' = .tuple #[.int .i64 (pG (homeP (qs L) r.toNat C) (2 * C.length * C.length + 2) : Nat), .int .i64 0]) := by
  obtain ⟨A, cp, rfl, hc, hm⟩ := h.form
  obtain ⟨Au, cu, rfl, hcu, hmu⟩ := hu.form
  refine (Spec.enterR Tryz.func37 rfl fun Γ hΓ => ?_)
  simp only [Tryz.ntmps37, List.map_cons, List.map_nil, List.length_cons, List.length_nil, Nat.reduceAdd, Nat.reduceSub, List.replicate_succ, List.replicate_zero, List.cons_append, List.nil_append]
  refine Gx.a (by kernel_rfl) fun K hK => ?_
  simp only [XA, bx_sl]
  refine hK _ ?_
  refine XWP.row1 (bx := [_]) fun b e hb1 hb2 => ?_
  simp only [List.map_cons, List.map_nil, rowS_v, rowS_p, List.length_nil, List.length_cons, Nat.reduceAdd, Nat.reduceEqDiff, ↓reduceIte]
  refine XWP.pub b _ (upd_at _ _ _) fun ob hob hle => ?_
  have eob := row_obj hob
  subst eob
  have hVb := addV_at V b (.cells ([.slice Au ws.length cu] : List Value).toArray e (0, 0))
  have eH : upd (upd (fun _ => none) b (some ⟨e, [.slice Au ws.length cu], 1⟩)) b none = fun _ => none := by
    funext k; unfold upd; split <;> rfl
  have h := Raws.up h hle
  have hu := hu.mono intE_ok hle
  generalize addV V b (.cells ([.slice Au ws.length cu] : List Value).toArray e (0, 0)) = V1 at *
  clear hob hb1 hb2 hle
  rw [eH]
  refine Gx.a (by kernel_rfl) fun K hK => ?_
  simp only [XM, XA, Nat.reduceAdd, Nat.reduceLeDiff, ↓reduceIte]
  refine call_go (by kernel_rfl) rfl (bClasses_c _ _ r c L B h f ll hq hB) fun v2 V2 hV2 h2 => ?_
  have h := Raws.up h hV2
  have hu := hu.mono intE_ok hV2
  have hVb := hV2 _ _ hVb
  obtain ⟨h3, h4⟩ := h2
  have hpe : perB r c L ws = (stoB r c L && (clsL (qs L) r.toNat).any fun l => decide (zs l = ws)) := rfl
  have d10 : decide ((1 : Int) = 0) = false := rfl
  cases est : stoB r c L
  · rw [h3 est]
    simp only [XA]
    refine hK _ ?_
    refine Gx.b (by kernel_rfl) fun K hK => ?_
    simp only [XA, XB, gateX, ↓reduceIte, d10]
    refine hK _ ?_
    refine Gx.t rfl ?_
    refine Gx.a (by kernel_rfl) fun K hK => ?_
    simp only [XA]
    refine hK _ (XWP.ret ?_)
    try simp only [thenX_ret, inBlockX_ret]
    refine ret_go _ rfl ?_
    exact ⟨fun _ => rfl, fun g => by rw [hpe, est] at g; cases g⟩
  obtain ⟨w, rfl, hw⟩ := h4 est
  rw [est, Bool.true_and] at hpe
  obtain ⟨n, rfl, rfl, hn, kl, ok, hS⟩ := stoB_parts est
  rw [Int.toNat_natCast] at *
  simp only [XA]
  refine hK _ ?_
  obtain ⟨Aw, cw, rfl, hcw, hmw⟩ := hw.form
  have hlc := clsL_len (qs L) n
  have hcl : ∀ l ∈ clsL (qs L) n, l.length ≤ 1000000 := fun l hl => by have := (cls_con hl).2.2.2; omega
  refine XWP.cut (fun s => ∃ (V3 : View), StIs (fun Z => [Z 0,Z 1, .p 0 0, .v (.pointer (some ⟨b, 0, none⟩)), Z 4,Z 5,Z 6,Z 7,Z 8,Z 9,Z 10,Z 11,Z 12,Z 13,Z 14,Z 15,Z 16,Z 17,Z 18,Z 19,Z 20,Z 21,Z 22,Z 23,Z 24,Z 25,Z 26,Z 27,Z 28,Z 29,Z 30,Z 31,Z 32,Z 33,Z 34,Z 35,Z 36,Z 37,Z 38,Z 39,Z 40,Z 41,Z 42,Z 43,Z 44,Z 45,Z 46,Z 47,Z 48,Z 49,Z 50,Z 51,Z 52,Z 53,Z 54,Z 55,Z 56,Z 57,Z 58,Z 59,Z 60,Z 61,Z 62,Z 63,Z 64,Z 65,Z 66,Z 67,Z 68,Z 69,Z 70,Z 71,Z 72,Z 73,Z 74,Z 75,Z 76,Z 77,Z 78,Z 79,Z 80,Z 81,Z 82,Z 83]) [[.int .i64 (n : Int), .int .i64 (n : Int), .slice A L.length cp]] (fun _ => none) V3 s ∧ V2.le V3 ∧ perB (n : Int) (n : Int) L ws = true) ?_ ?_
  · refine Gx.a (by kernel_rfl) fun K hK => ?_
    simp only [XA, XB, gateX, ↓reduceIte, beq_self_eq_true, decide_true]
    refine mkf_go [.pointer (some ⟨b, 0, none⟩)] rfl ?_
    simp only [XA, gateX, ↓reduceIte, beq_self_eq_true]
    refine call_go (by kernel_rfl) rfl (pcontains_c _ b e _ _ ws (clsL (qs L) n) hVb hu hw hcl (by omega) (by omega)) fun v3 V3 hV3 h3 => ?_
    subst h3
    rw [← hpe]
    cases ep : perB (n : Int) (n : Int) L ws
    · simp only [XA, gateX, ↓reduceIte, beq_self_eq_true]
      refine hK _ ?_
      refine Gx.t rfl ?_
      refine Gx.a (by kernel_rfl) fun K hK => ?_
      simp only [XA]
      refine hK _ (XWP.ret ?_)
      try simp only [thenX_ret, inBlockX_ret]
      refine ret_go _ rfl ?_
      exact ⟨fun _ => rfl, fun g => by rw [ep] at g; cases g⟩
    · simp only [XA, gateX, ↓reduceIte, beq_self_eq_true]
      refine hK _ ?_
      refine Gx.f rfl ?_
      refine XWP.skip ?_
      exact ⟨V3, StIs.of (by exact rfl), hV3, ep⟩
  rintro s ⟨V3, hs, hV3, ep⟩
  obtain ⟨z, rfl⟩ := hs.out
  try dsimp only
  clear hs
  have h := Raws.up h hV3
  have hu := hu.mono intE_ok hV3
  have hVb := hV3 _ _ hVb
  have ep2 := ep
  rw [hpe] at ep2
  obtain ⟨C, hCm, hCe⟩ := List.any_eq_true.1 ep2
  have hCe : zs C = ws := of_decide_eq_true hCe
  subst hCe
  have hC := hu.nats
  obtain ⟨hcon, hlt, h1C, hCn⟩ := cls_con hCm
  -- the map
  have lC : (zs C).length = C.length := by simp [zs]
  rw [lC] at hC hu hVb lw hcu
  obtain ⟨bu, ou, rfl⟩ := hC.addr (by omega)
  have hc0 : ∀ V', V3.le V' → ∀ H', Loads Tryz.prog H' V' 3 bu ou (.int .i64 ((C.getD 0 0 : Nat) : Int)) := fun V' hV' H' => by
    obtain ⟨x, hx, _, hld⟩ := hC.load 0 (by omega)
    have e0 : x = .int .i64 ((C.getD 0 0 : Nat) : Int) := by rw [List.getD_eq_getElem?_getD, List.getElem?_eq_getElem (by omega)]; exact hx
    subst e0
    exact Loads_up (fun H' => by simpa using hld H' 3 1 shapeT_3) hV' H'
  have hz0 : zvT Tryz.prog 3 = some (.int .i64 0) := by kernel_rfl
  have hmt : Tryz.prog.underlying 113 = some (.map 3 3) := by kernel_rfl
  have hkt : Tryz.prog.underlying 3 = some (.int .i64) := by kernel_rfl
  refine XWP.cut (fun s => ∃ (V4 : View) (r : Nat), StIs (fun Z => [Z 0,Z 1, .p 0 0, .v (.pointer (some ⟨b, 0, none⟩)), Z 4,Z 5,Z 6,Z 7, .v (.map (some r)), Z 9,Z 10,Z 11,Z 12,Z 13,Z 14,Z 15,Z 16,Z 17,Z 18,Z 19,Z 20,Z 21,Z 22,Z 23,Z 24,Z 25,Z 26,Z 27,Z 28,Z 29,Z 30,Z 31,Z 32,Z 33,Z 34,Z 35,Z 36,Z 37,Z 38,Z 39,Z 40,Z 41,Z 42,Z 43,Z 44,Z 45,Z 46,Z 47,Z 48,Z 49,Z 50,Z 51,Z 52,Z 53,Z 54,Z 55,Z 56,Z 57,Z 58,Z 59,Z 60,Z 61,Z 62,Z 63,Z 64,Z 65,Z 66,Z 67,Z 68,Z 69,Z 70,Z 71,Z 72,Z 73,Z 74,Z 75,Z 76,Z 77,Z 78,Z 79,Z 80,Z 81,Z 82,Z 83]) [[.int .i64 (n : Int), .int .i64 (n : Int), .slice A L.length cp]] (fun _ => none) V4 s ∧ V3.le V4 ∧ V3 r = none ∧ Γ.own r ∧ V4 r = some (mapO (entL [(C.getD 0 0, 0)]))) ?_ ?_
  · refine XWP.rest (by kernel_rfl) ?_
    refine Rest.makeMap rfl fun r hown hVr hHr => ?_
    refine Rest.part 3 (by decide) fun K2 hK2 => ?_
    simp only [XA]
    have hleA := le_addV (o := mapO []) (View.le_refl V3) hVr
    refine ld_mem (ldV1 (off := 0) (hleA _ _ hVb) rfl shapeT_34 _) ?_
    simp only [XN, XA, XB, Int.reduceLE]
    refine ⟨by omega, ?_⟩
    refine ld_mem (by simpa using hc0 _ hleA _) ?_
    simp only [XA]
    refine hK2 _ ?_
    refine Rest.putMap (L := []) (u := .int .i64 0) (n := (C.getD 0 0 : Nat)) rfl (.inr rfl) hΓ rfl rfl rfl hown (addV_at _ _ _) hmt hkt ?_
    refine Rest.fin fun K3 hK3 => ?_
    simp only [XA, Nat.reduceAdd]
    refine hK3 _ ?_
    exact ⟨_, r, StIs.of (by exact rfl), le_addV hleA hVr, hVr, hown, addV_at _ _ _⟩
  rintro s ⟨V4, r, hs, hV4, hVr, hown, hmp⟩
  obtain ⟨z, rfl⟩ := hs.out
  try dsimp only
  clear hs
  refine Gx.a (by kernel_rfl) fun K hK => ?_
  simp only [XA]
  refine hK _ ?_
  refine XWP.cutD 1 (fun s => ∃ (V5 : View) (H5 : Heap) (d : Nat), StIs (fun Z => [Z 0,Z 1,Z 2,Z 3,Z 4,Z 5,Z 6,Z 7,Z 8, .v (.int .i64 (d : Int)), Z 10,Z 11,Z 12,Z 13,Z 14,Z 15,Z 16,Z 17,Z 18,Z 19,Z 20,Z 21,Z 22,Z 23,Z 24,Z 25,Z 26,Z 27,Z 28,Z 29,Z 30,Z 31,Z 32,Z 33,Z 34,Z 35,Z 36,Z 37,Z 38,Z 39,Z 40,Z 41,Z 42,Z 43,Z 44,Z 45,Z 46,Z 47,Z 48,Z 49,Z 50,Z 51,Z 52,Z 53,Z 54,Z 55,Z 56,Z 57,Z 58,Z 59,Z 60,Z 61,Z 62,Z 63,Z 64,Z 65,Z 66,Z 67,Z 68,Z 69,Z 70,Z 71,Z 72,Z 73,Z 74,Z 75,Z 76,Z 77,Z 78,Z 79,Z 80,Z 81,Z 82,Z 83]) [[.int .i64 (n : Int), .int .i64 (n : Int), .slice A L.length cp]] H5 V5 s ∧ d = pG (homeP (qs L) n C) (2 * C.length * C.length + 2)) ?_ ?_
  · refine XWP.rest2 (by kernel_rfl) fun K hK => ?_
    refine Rest.part 1 (by decide) fun K2 hK2 => ?_
    simp only [XA]
    refine ld_mem (ldV1 (off := 0) (hV4 _ _ hVb) rfl shapeT_34 _) ?_
    simp only [XA]
    refine hK2 _ ?_
    refine Rest.slice3 (h := 1) (m := 1) rfl rfl rfl rfl (by omega) (by omega) elemT_34 shapeT_3 ?_
    refine Rest.fin fun K3 hK3 => ?_
    simp only [XA, Nat.reduceAdd]
    refine hK3 _ (hK _ ?_)
    clear hK hK2 hK3
    have hcn := cntC_len (domB [(C.getD 0 0, 0)]) C
    have hr : Rats V3 (.slice A L.length cp) (qs L) := Raws.rats h ok
    have hck : ∀ i, i < C.length → ∀ V', V3.le V' → ∀ H', Loads Tryz.prog H' V' 3 bu (ou + i) (.int .i64 ((C.getD i 0 : Nat) : Int)) := fun i hi V' hV' H' => by
      obtain ⟨x, hx, _, hld⟩ := hC.load i hi
      have e0 : x = .int .i64 ((C.getD i 0 : Nat) : Int) := by rw [List.getD_eq_getElem?_getD, List.getElem?_eq_getElem hi]; exact hx
      subst e0
      exact Loads_up (fun H' => by simpa using hld H' 3 1 shapeT_3) hV' H'
    have hml : ∀ i, i < C.length → C.getD i 0 ∈ C := fun i hi => by rw [List.getD_eq_getElem?_getD, List.getElem?_eq_getElem hi]; exact List.getElem_mem hi
    refine XWP.block ?_
    refine XWP.loopD 1 (fun q s => ∃ (V5 : View) (H5 : Heap) (v10 : Value) (F : List (Nat × Nat)) (qu : List Nat) (d : Nat), StIs (fun Z => [Z 0,Z 1, .p 0 0, .v (.pointer (some ⟨b, 0, none⟩)), Z 4,Z 5,Z 6,Z 7, .v (.map (some r)), .v (.int .i64 (d : Int)), .v v10, Z 11,Z 12,Z 13,Z 14,Z 15,Z 16,Z 17,Z 18,Z 19,Z 20,Z 21,Z 22,Z 23,Z 24,Z 25,Z 26,Z 27,Z 28,Z 29,Z 30,Z 31,Z 32,Z 33,Z 34,Z 35,Z 36,Z 37,Z 38,Z 39,Z 40,Z 41,Z 42,Z 43,Z 44,Z 45,Z 46,Z 47,Z 48,Z 49,Z 50,Z 51,Z 52,Z 53,Z 54,Z 55,Z 56,Z 57,Z 58,Z 59,Z 60,Z 61,Z 62,Z 63,Z 64,Z 65,Z 66,Z 67,Z 68,Z 69,Z 70,Z 71,Z 72,Z 73,Z 74,Z 75,Z 76,Z 77,Z 78,Z 79,Z 80,Z 81,Z 82,Z 83]) [[.int .i64 (n : Int), .int .i64 (n : Int), .slice A L.length cp]] H5 V5 s ∧ qu.length + cntC (domB F) C ≤ q ∧ q ≤ 1 + C.length ∧ V3.le V5 ∧ V5 r = some (mapO (entL F)) ∧ d ≤ 100 ∧ QueQ H5 V5 v10 qu ∧ BfI (eM (qs L) n) C F qu d) (1 + C.length) ⟨V4, _, _, [(C.getD 0 0, 0)], [C.getD 0 0], 0, StIs.of (by exact rfl), by simpa using (by omega : 1 + cntC (domB [(C.getD 0 0, 0)]) C ≤ 1 + C.length), Nat.le_refl _, hV4, hmp, by omega, .inl ⟨bu, ou, rfl, by simp, fun k e => by cases e; exact fun H' => by simpa using hck 0 (by omega) V4 hV4 H'⟩, BfI.start h1C⟩ ?_
    clear hcn hmp
    rintro q s ⟨V5, H5, v10, F, qu, d, hs, hq1, hq2, hV5, hmp, hd, hQ, hI⟩
    obtain ⟨z, rfl⟩ := hs.out
    try dsimp only
    clear hs
    obtain ⟨bq, oq, cq, rfl, hcq1, hcq2⟩ := hQ.form
    cases qu with
    | nil =>
      rw [List.length_nil] at *
      refine Gx.b (by kernel_rfl) fun K hK => ?_
      simp only [XN, XA, XB]
      refine hK _ ?_
      refine Gx.f rfl ?_
      refine XWP.exit ?_
      exact fun f => ⟨V5, H5, d, StIs.of (by exact rfl), hI.period hcon h1C (by have := Nat.mul_le_mul_left (2 * C.length) h1C; omega)⟩
    | cons s0 qu =>
    rw [List.length_cons] at *
    obtain ⟨hhd, hQ2, hQo⟩ := hQ.head
    obtain ⟨a0, hJ⟩ := hI.pop
    have b1 : decide ((0 : Int) < ((qu.length + 1 : Nat) : Int)) = true := decide_eq_true (by omega)
    refine Gx.b (by kernel_rfl) fun K hK => ?_
    simp only [XN, XA, XB, b1]
    refine hK _ ?_
    refine Gx.t rfl ?_
    refine XWP.skip ?_
    refine XWP.block ?_
    refine Gx.a (by kernel_rfl) fun K hK => ?_
    simp only [XN, XA, XB, Int.reduceLE]
    refine ⟨by omega, ?_⟩
    refine ld_mem hhd ?_
    simp only [XA]
    refine hK _ ?_
    refine Gx.a (by kernel_rfl) fun K hK => ?_
    simp only [XN, XA, XB, Int.reduceToNat, Int.reduceLE]
    refine ⟨by omega, by omega, ?_⟩
    try simp only [XM, XN, XA, XB, gateX, Nat.reduceAdd, Nat.reduceLeDiff, Nat.reduceSub, Nat.reduceMul, ↓reduceIte, Int.reduceToNat, Int.reduceLE, beq_self_eq_true]
    refine hK _ ?_
    generalize sliceV (some ⟨bq, oq, none⟩) cq 1 1 (qu.length + 1) = v11 at *
    refine Gx.a (by kernel_rfl) fun K hK => ?_
    simp only [XA]
    refine ld_mem (ldV1 (off := 0) (hV5 _ _ hVb) rfl shapeT_34 _) ?_
    simp only [XN, XA]
    refine hK _ ?_
    clear hQ hI hhd hK
    refine XWP.block ?_
    refine XWP.loopD 1 (fun p s => ∃ (i : Nat) (V6 : View) (H6 : Heap) (v10 : Value) (F : List (Nat × Nat)) (qu : List Nat) (d : Nat), StIs (fun Z => [Z 0,Z 1, .p 0 0, .v (.pointer (some ⟨b, 0, none⟩)), Z 4,Z 5,Z 6,Z 7, .v (.map (some r)), .v (.int .i64 (d : Int)), .v v10, .v (.int .i64 (s0 : Int)), Z 12,Z 13,Z 14,Z 15,Z 16,Z 17,Z 18,Z 19,Z 20,Z 21,Z 22,Z 23,Z 24,Z 25,Z 26,Z 27,Z 28,Z 29,Z 30,Z 31,Z 32,Z 33,Z 34,Z 35,Z 36,Z 37,Z 38,Z 39,Z 40,Z 41,Z 42,Z 43, .v (.slice (some ⟨bu, ou, none⟩) C.length cu), .v (.int .i64 (C.length : Int)), .v (.int .i64 (i : Int)), Z 47,Z 48,Z 49,Z 50,Z 51,Z 52,Z 53,Z 54,Z 55,Z 56,Z 57,Z 58,Z 59,Z 60,Z 61,Z 62,Z 63,Z 64,Z 65,Z 66,Z 67,Z 68,Z 69,Z 70,Z 71,Z 72,Z 73,Z 74,Z 75,Z 76,Z 77,Z 78,Z 79,Z 80,Z 81,Z 82,Z 83]) [[.int .i64 (n : Int), .int .i64 (n : Int), .slice A L.length cp]] H6 V6 s ∧ p + i = C.length ∧ qu.length + cntC (domB F) C + 1 ≤ q ∧ V3.le V6 ∧ V6 r = some (mapO (entL F)) ∧ d ≤ 100 ∧ QueQ H6 V6 v10 qu ∧ (∀ k, qu = [k] → QueO H6 v10 qu) ∧ BfJ (eM (qs L) n) C F qu d s0 a0 i) C.length ⟨0, V5, _, v11, F, qu, d, StIs.of (by exact rfl), by omega, by omega, hV5, hmp, hd, hQ2, hQo, hJ⟩ ?_
    clear hQ2 hQo hJ hmp hd
    rintro p s ⟨i, V6, H6, v10, F, qu, d, hs, hp, hq3, hV6, hmp, hd, hQ, hQo, hJ⟩
    obtain ⟨z, rfl⟩ := hs.out
    try dsimp only
    clear hs
    by_cases hi : i < C.length
    rotate_left
    · obtain rfl : i = C.length := by omega
      have b2 : decide ((C.length : Int) < (C.length : Int)) = false := decide_eq_false (by omega)
      refine Gx.a (by kernel_rfl) fun K hK => ?_
      simp only [XA, XB, b2]
      refine hK _ ?_
      refine XWP.seq (Gx.f rfl ?_)
      refine XWP.exit ?_
      exact ⟨q - 1, by omega, fun f => ⟨V6, H6, v10, F, qu, d, StIs.of (by exact rfl), by omega, by omega, hV6, hmp, hd, hQ, hJ.done⟩⟩
    have b2 : decide ((i : Int) < (C.length : Int)) = true := decide_eq_true (by omega)
    refine Gx.a (by kernel_rfl) fun K hK => ?_
    simp only [XA, XB, b2]
    refine hK _ ?_
    refine XWP.seq (Gx.t rfl ?_)
    refine XWP.skip ?_
    obtain ⟨ck, hcke⟩ : ∃ ck, ck = C.getD i 0 := ⟨_, rfl⟩
    have hckm : ck ∈ C := by rw [hcke]; exact hml i hi
    have hckn := hlt ck hckm
    have hcki : ∀ V', V3.le V' → ∀ H', Loads Tryz.prog H' V' 3 bu (ou + i) (.int .i64 (ck : Int)) := by rw [hcke]; exact hck i hi
    have hs0m := (hJ.sub _ _ hJ.at_).1
    have hs0n := hlt s0 hs0m
    refine XWP.cutD 1 (fun s => ∃ (V7 : View) (H7 : Heap) (v10 : Value) (F : List (Nat × Nat)) (qu : List Nat) (d : Nat), StIs (fun Z => [Z 0,Z 1, .p 0 0, .v (.pointer (some ⟨b, 0, none⟩)), Z 4,Z 5,Z 6,Z 7, .v (.map (some r)), .v (.int .i64 (d : Int)), .v v10, .v (.int .i64 (s0 : Int)), Z 12,Z 13,Z 14,Z 15,Z 16,Z 17,Z 18,Z 19,Z 20,Z 21,Z 22,Z 23,Z 24,Z 25,Z 26,Z 27,Z 28,Z 29,Z 30,Z 31,Z 32,Z 33,Z 34,Z 35,Z 36,Z 37,Z 38,Z 39,Z 40,Z 41,Z 42,Z 43, .v (.slice (some ⟨bu, ou, none⟩) C.length cu), .v (.int .i64 (C.length : Int)), .v (.int .i64 (i : Int)), Z 47,Z 48,Z 49,Z 50,Z 51,Z 52,Z 53,Z 54,Z 55,Z 56,Z 57,Z 58,Z 59,Z 60,Z 61,Z 62,Z 63,Z 64,Z 65,Z 66,Z 67,Z 68,Z 69,Z 70,Z 71,Z 72,Z 73,Z 74,Z 75,Z 76,Z 77,Z 78,Z 79,Z 80,Z 81,Z 82,Z 83]) [[.int .i64 (n : Int), .int .i64 (n : Int), .slice A L.length cp]] H7 V7 s ∧ qu.length + cntC (domB F) C + 1 ≤ q ∧ V3.le V7 ∧ V7 r = some (mapO (entL F)) ∧ d ≤ 100 ∧ QueQ H7 V7 v10 qu ∧ (∀ k, qu = [k] → QueO H7 v10 qu) ∧ BfJ (eM (qs L) n) C F qu d s0 a0 (i + 1)) ?_ ?_
    · refine XWP.block ?_
      refine Gx.a (by kernel_rfl) fun K hK => ?_
      simp only [XN, XA, XB]
      refine ⟨by omega, by omega, ?_⟩
      refine ld_mem (by simpa using hcki V6 hV6 _) ?_
      simp only [XA]
      refine hK _ ?_
      -- is there a step
      refine Gx.b (by kernel_rfl) fun K hK => ?_
      simp only [XM, XA, Nat.reduceAdd, Nat.reduceLeDiff, ↓reduceIte]
      have hp2 := pos_lt hs0n hckn
      have hql := qs_len L
      refine call_go (by kernel_rfl) rfl (bat_c _ _ _ n s0 ck (qs L) (hr.up hV6) (by omega) hn (by omega) (by omega)) fun v7 V7 hV7 h7 => ?_
      obtain ⟨n7, d7, rfl, hn7, hd7⟩ := h7
      obtain ⟨A7, c7, rfl, _, _⟩ := NatAt.form hn7
      simp only [XA, XB]
      have hmp := hV7 _ _ hmp
      have hQ := hQ.mono hV7
      have hV7 := View.le_trans hV6 hV7
      by_cases hz : cf (qs L) (s0 * n + ck) = 0
      · have b5 : decide (((dg (cf (qs L) (s0 * n + ck)).num.natAbs).length : Int) = 0) = true := by rw [hz]; exact decide_eq_true (by show ((dg 0).length : Int) = 0; rw [dg_zero]; rfl)
        have he : eM (qs L) n s0 ck = false := by unfold eM; exact decide_eq_false (fun h => h hz)
        simp only [b5]
        refine hK _ ?_
        refine Gx.t rfl ?_
        refine XWP.exit ?_
        exact fun f => ⟨V7, H6, v10, F, qu, d, StIs.of (by exact rfl), hq3, hV7, hmp, hd, hQ, hQo, hJ.skip (by rw [← hcke]; exact he)⟩
      have he : eM (qs L) n s0 ck = true := by unfold eM; exact decide_eq_true hz
      have b5 : decide (((dg (cf (qs L) (s0 * n + ck)).num.natAbs).length : Int) = 0) = false := by
        refine decide_eq_false fun e => ?_
        exact absurd ((rat_zero_iff _).2 (dg_nil (by omega))) hz
      simp only [b5]
      refine hK _ ?_
      refine Gx.f rfl ?_
      refine XWP.skip ?_
      clear hn7 hd7 hK
      -- was it met
      obtain ⟨ja, hja⟩ := getM_some hJ.at_
      cases hfar : farO F ck with
      | some bk =>
        obtain ⟨jb, hjb⟩ := getM_some hfar
        have hJ2 := hJ.seen hi (by rw [← hcke]; exact he) (by rw [← hcke]; exact hfar)
        obtain ⟨_, _, x1⟩ := hJ.sub _ _ hJ.at_
        obtain ⟨_, _, x2⟩ := hJ.sub _ _ hfar
        have w1 : IntKind.i64.wrap ((a0 : Int) + 1) = (a0 : Int) + 1 := wrap_id (by omega) (by omega)
        have w2 : IntKind.i64.wrap ((a0 : Int) + 1 - (bk : Int)) = (a0 : Int) + 1 - (bk : Int) := wrap_id (by omega) (by omega)
        refine XWP.seq ?_
        refine XWP.rest2 (by kernel_rfl) fun K hK => ?_
        refine Rest.part 2 (by decide) fun K2 hK2 => ?_
        simp only [XA]
        refine hK2 _ ?_
        refine Rest.lookup rfl (L := entL F) (n := (ck : Int)) rfl rfl hmp hmt hkt hz0 ?_
        rw [hjb]
        refine Rest.fin fun K3 hK3 => ?_
        simp only [XA, Nat.reduceAdd, lookV]
        refine hK3 _ (hK _ ?_)
        clear hK hK2 hK3
        refine Gx.a (by kernel_rfl) fun K hK => ?_
        simp only [XA]
        refine hK _ ?_
        refine Gx.t rfl ?_
        refine XWP.rest2 (by kernel_rfl) fun K hK => ?_
        refine Rest.part 3 (by decide) fun K2 hK2 => ?_
        simp only [XA]
        refine hK2 _ ?_
        refine Rest.lookup rfl (L := entL F) (n := (s0 : Int)) rfl rfl hmp hmt hkt hz0 ?_
        rw [hja]
        refine Rest.fin fun K3 hK3 => ?_
        simp only [XA, XB, Nat.reduceAdd, lookV, w1, w2]
        refine call_go (by kernel_rfl) rfl (bgcd_c _ (d : Int) _ (by omega) (by omega)) fun v8 V8 hV8 h8 => ?_
        subst h8
        simp only [XA]
        refine hK3 _ (hK _ ?_)
        clear hK hK2 hK3
        refine XWP.exit ?_
        exact fun f => ⟨V8, H6, v10, F, qu, _, StIs.of (by exact rfl), hq3, View.le_trans hV7 hV8, hV8 _ _ hmp, gcd_small hd (by omega), hQ.mono hV8, hQo, hJ2⟩
      | none =>
        have hjb := getM_none hfar
        obtain ⟨hJ2, hcnt⟩ := hJ.push hi (by rw [← hcke]; exact he) (by rw [← hcke]; exact hfar)
        rw [← hcke] at hJ2 hcnt
        have hlq := cntC_len (domB F) C
        have w1 : IntKind.i64.wrap ((a0 : Int) + 1) = ((a0 + 1 : Nat) : Int) := by
          obtain ⟨_, _, x1⟩ := hJ.sub _ _ hJ.at_
          rw [wrap_id (by omega) (by omega)]; omega
        refine XWP.seq ?_
        refine XWP.rest2 (by kernel_rfl) fun K hK => ?_
        refine Rest.part 2 (by decide) fun K2 hK2 => ?_
        simp only [XA]
        refine hK2 _ ?_
        refine Rest.lookup rfl (L := entL F) (n := (ck : Int)) rfl rfl hmp hmt hkt hz0 ?_
        rw [hjb]
        refine Rest.fin fun K3 hK3 => ?_
        simp only [XA, Nat.reduceAdd, lookV]
        refine hK3 _ (hK _ ?_)
        clear hK hK2 hK3
        refine Gx.a (by kernel_rfl) fun K hK => ?_
        simp only [XA]
        refine hK _ ?_
        refine Gx.f rfl ?_
        refine XWP.skip ?_
        refine XWP.rest2 (by kernel_rfl) fun K hK => ?_
        refine Rest.part 4 (by decide) fun K2 hK2 => ?_
        simp only [XA]
        refine hK2 _ ?_
        refine Rest.lookup rfl (L := entL F) (n := (s0 : Int)) rfl rfl hmp hmt hkt hz0 ?_
        rw [hja]
        refine Rest.part 1 (by decide) fun K3 hK3 => ?_
        simp only [XA, XB, Nat.reduceAdd, lookV, w1]
        refine hK3 _ ?_
        refine Rest.putMap (L := entL F) (u := .int .i64 ((a0 + 1 : Nat) : Int)) (n := (ck : Int)) rfl (.inl rfl) hΓ rfl rfl rfl hown hmp hmt hkt ?_
        rw [putM_ent hfar]
        refine Rest.fin fun K4 hK4 => ?_
        simp only [XA, Nat.reduceAdd]
        refine hK4 _ (hK _ ?_)
        clear hK hK2 hK3 hK4
        have hmp8 := addV_at V7 r (mapO (entL (F ++ [(ck, a0 + 1)])))
        have hV8 := le_addV (o := mapO (entL (F ++ [(ck, a0 + 1)]))) hV7 hVr
        have hQ8 : QueQ H6 (addV V7 r (mapO (entL (F ++ [(ck, a0 + 1)])))) v10 qu := hQ.any hQo
        generalize addV V7 r (mapO (entL (F ++ [(ck, a0 + 1)]))) = V8 at *
        refine XWP.rest (by kernel_rfl) ?_
        refine Rest.part 3 (by decide) fun K2 hK2 => ?_
        simp only [XA]
        refine bs_go (by kernel_rfl) #[(0, .int .i64 (ck : Int))] (by simp [ev_tmp, SV.val]) (bs_one elemT_34 zeroT_3 rfl) fun bq hbq1 hbq2 => ?_
        simp only [XA]
        refine hK2 _ ?_
        refine Rest.pushQ rfl (v := v10) (k := ck) (q := qu) rfl rfl (hQ8.upd hbq1) (fun k ek => (hQo k ek).upd hbq1) (src_one (upd_at _ _ _) rfl) (by omega) fun v' H' hq' ho' => ?_
        refine Rest.fin fun K3 hK3 => ?_
        simp only [XA, Nat.reduceAdd]
        refine hK3 _ ?_
        exact fun f => ⟨V8, H', v', F ++ [(ck, a0 + 1)], qu ++ [ck], d, StIs.of (by exact rfl), by simp; omega, hV8, hmp8, hd, hq', fun _ _ => ho', hJ2⟩
    rintro s ⟨V7, H7, v10, F, qu, d, hs, hq3, hV7, hmp, hd, hQ, hQo, hJ⟩
    obtain ⟨z, rfl⟩ := hs.out
    try dsimp only
    refine Gx.c (by kernel_rfl) fun K hK => ?_
    simp only [XA, XB, i64_succ i (by omega)]
    exact hK _ ⟨p - 1, by omega, fun f => ⟨i + 1, V7, H7, v10, F, qu, d, StIs.of (by exact rfl), by omega, hq3, hV7, hmp, hd, hQ, hQo, hJ⟩⟩
  rintro s ⟨V5, H5, d, hs, hd⟩
  obtain ⟨z, rfl⟩ := hs.out
  try dsimp only
  refine Gx.a (by kernel_rfl) fun K hK => ?_
  simp only [XA]
  refine hK _ (XWP.ret ?_)
  try simp only [thenX_ret, inBlockX_ret]
  refine ret_go _ rfl ?_
  refine ⟨fun g => (by rw [ep] at g; cases g), fun _ D hD => ?_⟩
  have : D = C := zs_inj hD
  subst this
  rw [hd]
  rfl
end Go.Proofs.YtkgmicakfmllmaaGreat
end
section
namespace Go.Proofs.YtkgmicakfmllmaaGreat
end Go.Proofs.YtkgmicakfmllmaaGreat
end
section
namespace Go.Proofs.YtkgmicakfmllmaaGreat
open Go Go.RowKit
set_option linter.unusedSimpArgs false
set_option linter.unusedVariables false
attribute [local irreducible] XWP Spec SpecO XPub XCall seqX clX apX stX ldX iaX slX
def fewB (L : List Raw) : Bool := decide (L.length ≤ 70) && L.all fun r => decide (r.nd.length ≤ 3) && decide (r.dd.length ≤ 3)
theorem fewB_few {L : List Raw} (h : fewB L = true) : L.length ≤ 70 ∧ fewR L := by
  unfold fewB at h
  rw [Bool.and_eq_true, decide_eq_true_eq] at h
  refine ⟨h.1, fun r hr => ?_⟩
  have := List.all_eq_true.1 h.2 r hr
  simpa using this
theorem fewB_bad {L : List Raw} {r : Raw} (hr : r ∈ L) (h : ¬ (r.nd.length ≤ 3 ∧ r.dd.length ≤ 3)) : fewB L = false := by
  cases e : fewB L
  · rfl
  · exact absurd ((fewB_few e).2 r hr) h
/-- the fields of a number in a list -/
theorem Raws.fld {V : View} {b o n c : Nat} {l : List Raw} (h : Raws V (.slice (some ⟨b, o, none⟩) n c) l) (i : Nat) (hi : i < l.length) : ∃ n1 c1 A1 n2 c2 A2, (∀ H, Loads Tryz.prog H V 47 b (o + i * 3 + 1) (.slice A1 n1 c1)) ∧ (∀ H, Loads Tryz.prog H V 47 b (o + i * 3 + 2) (.slice A2 n2 c2)) ∧ n1 = l[i].nd.length ∧ n2 = l[i].dd.length ∧ n1 ≤ c1 ∧ n2 ≤ c2 ∧ c1 ≤ 9223372036854775807 ∧ c2 ≤ 9223372036854775807 := by
  obtain ⟨A', c', e, _, _, h3⟩ := h
  cases e
  rcases h3 with rfl | ⟨b', o', arr, ty, fr, e1, e2, h4⟩
  · simp at hi
  · cases e1
    obtain ⟨m, n, d, g1, g2, g3, o1, o2, o3, n', d', hE, k1, k2⟩ := h4 i l[i] (List.getElem?_eq_getElem hi)
    cases hE
    obtain ⟨A1, c1, rfl, q1, q2⟩ := k1.form
    obtain ⟨A2, c2, rfl, q3, q4⟩ := k2.form
    exact ⟨_, c1, A1, _, c2, A2, fun H => ⟨false, _, shapeT_47, .inr ⟨rfl, .inr ⟨arr, ty, fr, e2, g2⟩⟩⟩, fun H => ⟨false, _, shapeT_47, .inr ⟨rfl, .inr ⟨arr, ty, fr, e2, g3⟩⟩⟩, rfl, rfl, q1, q3, q2, q4⟩
theorem few34_c (V : View) (v : Value) (L : List Raw) (h : Raws V v L) : Spec Tryz.prog 23 [v] V fun v' V' => v' = .bool (fewB L) := by
  obtain ⟨A, c, rfl, hc, hm⟩ := h.form
  refine (Spec.enter Tryz.func23 rfl fun Γ => ?_)
  simp only [Tryz.ntmps23, List.map_cons, List.map_nil, List.length_cons, List.length_nil, Nat.reduceAdd, Nat.reduceSub, List.replicate_succ, List.replicate_zero, List.cons_append, List.nil_append]
  refine Gx.a (by kernel_rfl) fun K hK => ?_
  simp only [XA]
  refine hK _ ?_
  refine XWP.seq ?_
  by_cases h70 : 70 < L.length
  · have b1 : decide ((70 : Int) < (L.length : Int)) = true := decide_eq_true (by omega)
    refine Gx.a (by kernel_rfl) fun K hK => ?_
    simp only [XA, XB, b1]
    refine hK _ ?_
    refine Gx.t rfl ?_
    refine Gx.a (by kernel_rfl) fun K hK => ?_
    simp only [XA]
    refine hK _ (XWP.ret ?_)
    try simp only [thenX_ret, inBlockX_ret]
    refine ret_go _ rfl ?_
    unfold fewB; rw [decide_eq_false (by omega)]; rfl
  have b1 : decide ((70 : Int) < (L.length : Int)) = false := decide_eq_false (by omega)
  refine Gx.a (by kernel_rfl) fun K hK => ?_
  simp only [XA, XB, b1]
  refine hK _ ?_
  refine Gx.f rfl ?_
  refine XWP.skip ?_
  refine XWP.cutD 0 (fun s => ∃ V2, StIs (fun Z => [Z 0,Z 1,Z 2,Z 3,Z 4,Z 5,Z 6,Z 7,Z 8,Z 9,Z 10,Z 11,Z 12,Z 13,Z 14,Z 15,Z 16,Z 17,Z 18,Z 19,Z 20,Z 21,Z 22,Z 23,Z 24,Z 25,Z 26,Z 27,Z 28]) [] (fun _ => none) V2 s ∧ fewB L = true) ?_ ?_
  · refine Gx.a (by kernel_rfl) fun K hK => ?_
    simp only [XA, XB]
    refine hK _ ?_
    clear hK
    refine XWP.block ?_
    refine XWP.loopD 0 (fun n s => ∃ (k : Nat), StIs (fun Z => [.v (.slice A L.length c), Z 1,Z 2,Z 3,Z 4,Z 5,Z 6,Z 7, .v (.int .i64 (L.length : Int)), .v (.int .i64 (k : Int)), Z 10,Z 11,Z 12,Z 13,Z 14,Z 15,Z 16,Z 17,Z 18,Z 19,Z 20,Z 21,Z 22,Z 23,Z 24,Z 25,Z 26,Z 27,Z 28]) [] (fun _ => none) V s ∧ n + k = L.length ∧ ∀ r ∈ L.take k, r.nd.length ≤ 3 ∧ r.dd.length ≤ 3) L.length ⟨0, StIs.of (by exact rfl), by omega, fun r hr => by simp at hr⟩ ?_
    rintro n s ⟨k, hs, hn, hk⟩
    obtain ⟨z, rfl⟩ := hs.out
    try dsimp only
    clear hs
    by_cases hlt : k < L.length
    rotate_left
    · obtain rfl : k = L.length := by omega
      have b2 : decide ((L.length : Int) < (L.length : Int)) = false := decide_eq_false (by omega)
      refine Gx.a (by kernel_rfl) fun K hK => ?_
      simp only [XA, XB, b2]
      refine hK _ ?_
      refine XWP.seq (Gx.f rfl ?_)
      refine XWP.exit ?_
      rw [List.take_length] at hk
      refine fun f => ⟨V, StIs.of (by exact rfl), ?_⟩
      unfold fewB
      rw [decide_eq_true (by omega), Bool.true_and, List.all_eq_true]
      intro r hr
      have := hk r hr
      rw [decide_eq_true this.1, decide_eq_true this.2]; rfl
    have b2 : decide ((k : Int) < (L.length : Int)) = true := decide_eq_true (by omega)
    refine Gx.a (by kernel_rfl) fun K hK => ?_
    simp only [XA, XB, b2]
    refine hK _ ?_
    refine XWP.seq (Gx.t rfl ?_)
    refine XWP.skip ?_
    obtain ⟨b, o, rfl⟩ := SlAt.addr h (by omega)
    obtain ⟨n1, c1, A1, n2, c2, A2, l1, l2, e1, e2, q1, q2, q3, q4⟩ := Raws.fld h k hlt
    have hmem : L[k] ∈ L := List.getElem_mem hlt
    have et : L.take (k + 1) = L.take k ++ [L[k]] := by rw [List.take_succ_eq_append_getElem hlt]
    refine XWP.seq ?_
    refine XWP.block ?_
    refine Gx.a (by kernel_rfl) fun K hK => ?_
    simp only [XA]
    refine hK _ ?_
    refine Gx.a (by kernel_rfl) fun K hK => ?_
    simp only [XA, XB]
    refine ⟨by omega, by omega, ld_mem (l1 _) ?_⟩
    by_cases d1 : 3 < n1
    · have b3 : decide ((3 : Int) < (n1 : Int)) = true := decide_eq_true (by omega)
      simp only [XA, XB, gateX, ↓reduceIte, b3]
      refine hK _ ?_
      refine Gx.t rfl ?_
      refine Gx.a (by kernel_rfl) fun K hK => ?_
      simp only [XA]
      refine hK _ (XWP.ret ?_)
      try simp only [thenX_ret, inBlockX_ret]
      refine ret_go _ rfl ?_
      rw [fewB_bad hmem (by omega)]; rfl
    have b3 : decide ((3 : Int) < (n1 : Int)) = false := decide_eq_false (by omega)
    simp only [XA, XB, gateX, ↓reduceIte, beq_self_eq_true, b3]
    refine ⟨by omega, by omega, ld_mem (l2 _) ?_⟩
    by_cases d2 : 3 < n2
    · have b4 : decide ((3 : Int) < (n2 : Int)) = true := decide_eq_true (by omega)
      simp only [XA, XB, gateX, ↓reduceIte, beq_self_eq_true, b4]
      refine hK _ ?_
      refine Gx.t rfl ?_
      refine Gx.a (by kernel_rfl) fun K hK => ?_
      simp only [XA]
      refine hK _ (XWP.ret ?_)
      try simp only [thenX_ret, inBlockX_ret]
      refine ret_go _ rfl ?_
      rw [fewB_bad hmem (by omega)]; rfl
    have b4 : decide ((3 : Int) < (n2 : Int)) = false := decide_eq_false (by omega)
    simp only [XA, XB, gateX, ↓reduceIte, beq_self_eq_true, b4]
    refine hK _ ?_
    refine Gx.f rfl ?_
    refine XWP.skip ?_
    refine Gx.c (by kernel_rfl) fun K hK => ?_
    simp only [XA, XB, i64_succ k (by omega)]
    refine hK _ ⟨n - 1, by omega, fun f => ⟨k + 1, StIs.of (by exact rfl), by omega, fun r hr => ?_⟩⟩
    rw [et, List.mem_append] at hr
    rcases hr with hr | hr
    · exact hk r hr
    · rw [List.mem_singleton.1 hr]; omega
  rintro s ⟨V2, hs, hf⟩
  obtain ⟨z, rfl⟩ := hs.out
  try dsimp only
  refine Gx.a (by kernel_rfl) fun K hK => ?_
  simp only [XA]
  refine hK _ (XWP.ret ?_)
  try simp only [thenX_ret, inBlockX_ret]
  refine ret_go _ rfl ?_
  rw [hf]; rfl
def fineB (r c : Int) (L : List Raw) : Bool := decide (r ≤ 8) && decide (c ≤ 8) && fewB L
theorem fine34_c (V : View) (s : Value) (r c : Int) (L : List Raw) (h : Raws V s L) : Spec Tryz.prog 12 [.agg #[.int .i64 r, .int .i64 c, s]] V fun v' V' => v' = .bool (fineB r c L) := by
  obtain ⟨A, cp, rfl, hc, hm⟩ := h.form
  refine (Spec.enter Tryz.func12 rfl fun Γ => ?_)
  simp only [Tryz.ntmps12, List.map_cons, List.map_nil, List.length_cons, List.length_nil, Nat.reduceAdd, Nat.reduceSub, List.replicate_succ, List.replicate_zero, List.cons_append, List.nil_append]
  refine Gx.a (by kernel_rfl) fun K hK => ?_
  simp only [XA]
  refine hK _ ?_
  unfold fineB
  cases b1 : decide (r ≤ 8)
  · refine Gx.a (by kernel_rfl) fun K hK => ?_
    simp only [XM, XA, XB, gateX, ↓reduceIte, b1]
    refine hK _ (XWP.ret ?_)
    try simp only [thenX_ret, inBlockX_ret]
    refine ret_go _ rfl ?_
    rfl
  cases b2 : decide (c ≤ 8)
  · refine Gx.a (by kernel_rfl) fun K hK => ?_
    simp only [XM, XA, XB, gateX, ↓reduceIte, beq_self_eq_true, b1, b2]
    refine hK _ (XWP.ret ?_)
    try simp only [thenX_ret, inBlockX_ret]
    refine ret_go _ rfl ?_
    rfl
  refine Gx.a (by kernel_rfl) fun K hK => ?_
  simp only [XM, XA, XB, gateX, ↓reduceIte, beq_self_eq_true, b1, b2]
  refine call_go (by kernel_rfl) rfl (few34_c _ _ L h) fun v1 V1 hV1 h1 => ?_
  subst h1
  simp only [XA, ↓reduceIte]
  refine hK _ (XWP.ret ?_)
  try simp only [thenX_ret, inBlockX_ret]
  refine ret_go _ rfl ?_
  rw [Bool.true_and, Bool.true_and]; rfl
theorem of34_c (V : View) (x y z : Value) (h1 : isOne x = true) (h2 : isOne y = true) (h3 : isOne z = true) : Spec Tryz.prog 15 [.agg #[x, y, z]] V fun v' V' => v' = .agg #[x, y, z] := by
  refine (Spec.enter Tryz.func15 rfl fun Γ => ?_)
  simp only [Tryz.ntmps15, List.map_cons, List.map_nil, List.length_cons, List.length_nil, Nat.reduceAdd, Nat.reduceSub, List.replicate_succ, List.replicate_zero, List.cons_append, List.nil_append]
  refine Gx.a (by kernel_rfl) fun K hK => ?_
  simp only [XM, XA]
  refine hK _ ?_
  refine Gx.a (by kernel_rfl) fun K hK => ?_
  simp only [XM, XA, Nat.reduceAdd, Nat.reduceLeDiff, ↓reduceIte]
  refine st_mat shapeT_31 rfl rfl h1 h2 h3 ?_
  simp only [XA]
  refine hK _ (XWP.ret ?_)
  try simp only [thenX_ret, inBlockX_ret]
  exact ret_go _ (by simp [resAll, resV, cellsV, shapeT_31]; rfl) rfl
end Go.Proofs.YtkgmicakfmllmaaGreat
end
section
namespace Go.Proofs.YtkgmicakfmllmaaGreat
open Go Go.RowKit
set_option linter.unusedSimpArgs false
set_option linter.unusedVariables false
attribute [local irreducible] XWP Spec SpecO XPub XCall seqX clX apX stX ldX iaX slX
theorem sgI_lt (q : Rat) : decide (sgI q < 0) = ng q := by
  unfold sgI
  split
  · rename_i h; subst h; rfl
  · cases h : ng q
    · rfl
    · rfl
theorem psum_c (V : View) (v : Value) (l : List Rat) (B : Nat) (h : Rats V v l) (hq : ∀ x ∈ l, QB B x) (ll : l.length ≤ 1000) (hB : 1001 * (B + 1) ≤ 17592186044416) : Spec Tryz.prog 62 [v] V fun v' V' => RatC V' v' (sumL l l.length) := by
  obtain ⟨A, c, rfl, hc, hm⟩ := h.form
  have hS : ∀ k, k ≤ l.length → QB (1000 * (B + 1)) (sumL l k) := fun k hk => (sumL_QB hq k hk).mono (Nat.mul_le_mul_right _ (by omega))
  have hf : 1000 * (B + 1) ≤ 17592186044416 := by omega
  refine (Spec.enter Tryz.func62 rfl fun Γ => ?_)
  simp only [Tryz.ntmps62, List.map_cons, List.map_nil, List.length_cons, List.length_nil, Nat.reduceAdd, Nat.reduceSub, List.replicate_succ, List.replicate_zero, List.cons_append, List.nil_append]
  refine Gx.a (by kernel_rfl) fun K hK => ?_
  simp only [XA, XB]
  refine hK _ ?_
  refine Gx.a (by kernel_rfl) fun K hK => ?_
  simp only [XA]
  refine call_go (by kernel_rfl) rfl (pzero_c _) fun v1 V1 hV1 h1 => ?_
  obtain ⟨x1, y1, rfl, o1, o2⟩ := h1.form
  simp only [XA, XB]
  refine st_rat rfl rfl rfl o1 o2 ?_
  simp only [XA]
  refine hK _ ?_
  refine XWP.cutD 2 (fun s => ∃ (V2 : View) (m : Bool) (x y : Value), StIs (fun Z => [Z 0,Z 1, .p 0 0, .p 1 0, Z 4,Z 5,Z 6,Z 7,Z 8,Z 9,Z 10,Z 11,Z 12,Z 13,Z 14,Z 15,Z 16,Z 17,Z 18]) [[.bool false, .slice none 0 0, .slice none 0 0], [.bool m, x, y]] (fun _ => none) V2 s ∧ RatC V2 (.agg #[.bool m, x, y]) (sumL l l.length) ∧ isOne x = true ∧ isOne y = true) ?_ ?_
  · refine Gx.a (by kernel_rfl) fun K hK => ?_
    simp only [XA]
    refine hK _ ?_
    clear hK
    refine XWP.block ?_
    refine XWP.loopD 2 (fun n s => ∃ (k : Nat) (V2 : View) (m : Bool) (x y : Value), StIs (fun Z => [.v (.slice A l.length c), Z 1, .p 0 0, .p 1 0, .v (.int .i64 (k : Int)), Z 5,Z 6,Z 7,Z 8,Z 9,Z 10,Z 11,Z 12,Z 13,Z 14,Z 15,Z 16,Z 17,Z 18]) [[.bool false, .slice none 0 0, .slice none 0 0], [.bool m, x, y]] (fun _ => none) V2 s ∧ n + k = l.length ∧ V.le V2 ∧ RatC V2 (.agg #[.bool m, x, y]) (sumL l k) ∧ isOne x = true ∧ isOne y = true) l.length ⟨0, V1, _, _, _, StIs.of (by exact rfl), by omega, hV1, h1, o1, o2⟩ ?_
    clear h1 o1 o2
    rintro n s ⟨k, V2, m, x, y, hs, hn, hV2, h2, o1, o2⟩
    obtain ⟨z, rfl⟩ := hs.out
    try dsimp only
    clear hs
    by_cases hk : k < l.length
    rotate_left
    · obtain rfl : k = l.length := by omega
      have b1 : decide ((l.length : Int) < (l.length : Int)) = false := decide_eq_false (by omega)
      refine XWP.seq ?_
      refine Gx.a (by kernel_rfl) fun K hK => ?_
      simp only [XA, XB, b1]
      refine hK _ ?_
      refine Gx.f rfl ?_
      refine XWP.exit ?_
      exact fun f => ⟨V2, m, x, y, StIs.of (by exact rfl), h2, o1, o2⟩
    have b1 : decide ((k : Int) < (l.length : Int)) = true := decide_eq_true (by omega)
    have hv2 := h.up hV2
    obtain ⟨b, o, rfl⟩ := SlAt.addr hv2 (by omega)
    obtain ⟨m3, n3, d3, hx, ⟨p1, p2, p3⟩, hld⟩ := Rats.get hv2 k hk
    refine XWP.seq ?_
    refine Gx.a (by kernel_rfl) fun K hK => ?_
    simp only [XA, XB, b1]
    refine hK _ ?_
    refine Gx.t rfl ?_
    refine XWP.skip ?_
    refine XWP.seq ?_
    refine XWP.block ?_
    (refine XWP.drw1 [0, 1, 2, 3, 4, 5, 6] (by kernel_rfl) (by kernel_rfl) (by kernel_rfl) fun K hK => ?_) <;> dsimp only [pickOps, List.getElem?_cons_zero, List.getElem?_cons_succ]
    simp only [XA, XB, Nat.reduceAdd, Nat.reduceLeDiff, ↓reduceIte]
    refine ⟨by omega, by omega, ld_mem (hld _) ?_⟩
    simp only [XA]
    have q1 := (hS k (by omega)).qf hf
    have q2 := (hq _ (cf_mem hk)).qf (by omega)
    refine call_go (by kernel_rfl) rfl (padd_c _ _ _ _ _ (h2.toV q1) (hx.toV q2) q1 q2) fun v3 V3 hV3 h3 => ?_
    obtain ⟨x3, y3, rfl, o3, o4⟩ := h3.form
    simp only [XA]
    refine st_rat rfl rfl rfl o3 o4 ?_
    simp only [XA]
    refine hK _ ?_
    refine Gx.c (by kernel_rfl) fun K hK => ?_
    simp only [XA, XB, i64_succ k (by omega)]
    exact hK _ ⟨n - 1, by omega, fun f => ⟨k + 1, V3, _, x3, y3, StIs.of (by exact rfl), by omega, View.le_trans hV2 hV3, h3, o3, o4⟩⟩
  rintro s ⟨V2, m, x, y, hs, h2, o1, o2⟩
  obtain ⟨z, rfl⟩ := hs.out
  try dsimp only
  refine Gx.a (by kernel_rfl) fun K hK => ?_
  simp only [XA, XB, Nat.reduceAdd, Nat.reduceLeDiff, ↓reduceIte]
  refine st_rat rfl rfl rfl o1 o2 ?_
  simp only [XA]
  refine hK _ (XWP.ret ?_)
  try simp only [thenX_ret, inBlockX_ret]
  exact ret_rat1 rfl rfl rfl h2
end Go.Proofs.YtkgmicakfmllmaaGreat
end
section
namespace Go.Proofs.YtkgmicakfmllmaaGreat
open Go Go.RowKit
set_option linter.unusedSimpArgs false
set_option linter.unusedVariables false
attribute [local irreducible] XWP Spec SpecO XPub XCall seqX clX apX stX ldX iaX slX
theorem ratsE_ok : ElOk Rats := fun _ _ _ _ hV h => Rats.up h hV
theorem own_off {H : Heap} {e sz n b : Nat} {v : Value} {xs : List Value} {r : Option Row} (h : Own H e sz v n xs) (hb : v.ownBlock ≠ some b) : Own (upd H b r) e sz v n xs := by
  refine ⟨h.1, ?_⟩
  rcases h.2 with h1 | ⟨g, cap, rfl, hg, h2⟩
  · exact .inl h1
  · exact .inr ⟨g, cap, rfl, (upd_off fun e => hb (by rw [← e]; rfl)).trans hg, h2⟩
/-- a list that is filled from the first on -/
def prt {α : Type} (n : Nat) (f : Nat → α) (k : Nat) : List (Option α) := (List.range n).map fun i => if i < k then some (f i) else none
theorem prt_len {α : Type} (n : Nat) (f : Nat → α) (k : Nat) : (prt n f k).length = n := by simp [prt]
theorem prt_get {α : Type} {n : Nat} {f : Nat → α} {k i : Nat} (hi : i < n) : (prt n f k)[i]? = some (if i < k then some (f i) else none) := by simp [prt, hi]
theorem prt_zero {α : Type} (n : Nat) (f : Nat → α) : prt n f 0 = List.replicate n none := by
  refine List.ext_getElem? fun i => ?_
  by_cases hi : i < n
  · rw [prt_get hi, if_neg (by omega), List.getElem?_replicate, if_pos hi]
  · rw [List.getElem?_eq_none (by rw [prt_len]; omega), List.getElem?_eq_none (by simp; omega)]
theorem prt_step {α : Type} (n : Nat) (f : Nat → α) {k : Nat} (hk : k < n) : (prt n f k).set k (some (f k)) = prt n f (k + 1) := by
  refine List.ext_getElem? fun i => ?_
  by_cases hi : i < n
  · by_cases e : k = i
    · subst e
      rw [List.getElem?_set_self (by rw [prt_len]; exact hi), prt_get hi, if_pos (by omega)]
    · rw [List.getElem?_set_ne e, prt_get hi, prt_get hi]
      by_cases h : i < k
      · rw [if_pos h, if_pos (by omega)]
      · rw [if_neg h, if_neg (by omega)]
  · rw [List.getElem?_eq_none (by rw [List.length_set, prt_len]; omega), List.getElem?_eq_none (by rw [prt_len]; omega)]
theorem R1At.prt_all {α : Type} {E : El α} {V : View} {cells : List Value} {n : Nat} {f : Nat → α} (h : R1At (optE E) V cells (prt n f n)) : R1At E V cells ((List.range n).map f) := by
  refine ⟨by rw [h.1, prt_len]; simp, fun i x hi => ?_⟩
  have hlt : i < n := by
    rcases Nat.lt_or_ge i n with g | g
    · exact g
    · rw [List.getElem?_eq_none (by simpa using g)] at hi; cases hi
  have hx : x = f i := by simpa [hlt] using hi.symm
  obtain ⟨u, a, b, c⟩ := h.2 i (some (f i)) (by rw [prt_get hlt, if_pos hlt])
  exact ⟨u, a, b, by rw [hx]; exact c⟩
/-- the rows of a matrix -/
def rowL (l : List Rat) (C i : Nat) : List Rat := (l.take ((i + 1) * C)).drop (i * C)
theorem drows_c (V : View) (s : Value) (R C : Nat) (l : List Rat) (h : Rats V s l) (ll : l.length = R * C) (hR : R ≤ 60) (hC : C ≤ 60) :
    Spec Tryz.prog 61 [.agg #[.int .i64 (R : Int), .int .i64 (C : Int), s]] V fun v' V' => Sl1 Rats V' v' ((List.range R).map (rowL l C)) := by
  obtain ⟨A, cp, rfl, hc, hm⟩ := h.form
  have hRC : R * C ≤ 3600 := Nat.le_trans (Nat.mul_le_mul hR hC) (by decide)
  refine (Spec.enter Tryz.func61 rfl fun Γ => ?_)
  simp only [Tryz.ntmps61, List.map_cons, List.map_nil, List.length_cons, List.length_nil, Nat.reduceAdd, Nat.reduceSub, List.replicate_succ, List.replicate_zero, List.cons_append, List.nil_append]
  refine Gx.a (by kernel_rfl) fun K hK => ?_
  simp only [XA]
  refine hK _ ?_
  refine Gx.a (by kernel_rfl) fun K hK => ?_
  simp only [XM, XA, XB]
  refine mk_go rfl rfl elemT_38 zeroT_22 (by omega) (by omega) (by omega) (by omega) rfl (by omega) fun go hgo1 hgo2 => ?_
  simp only [XA, flat_one]
  refine hK _ ?_
  clear hK
  refine XWP.cutD 1 (fun s => ∃ (V2 : View) (H2 : Heap) (co : List Value), StIs (fun Z => [Z 0,Z 1,Z 2, .v (.slice (some ⟨go, 0, none⟩) R R), Z 4,Z 5,Z 6,Z 7,Z 8,Z 9,Z 10,Z 11,Z 12,Z 13,Z 14,Z 15,Z 16,Z 17,Z 18,Z 19,Z 20,Z 21,Z 22,Z 23,Z 24,Z 25,Z 26,Z 27,Z 28,Z 29,Z 30,Z 31]) [[.int .i64 (R : Int), .int .i64 (C : Int), .slice A l.length cp]] H2 V2 s ∧ H2 go = some ⟨22, co, R⟩ ∧ R1At Rats V2 co ((List.range R).map (rowL l C))) ?_ ?_
  · refine Gx.a (by kernel_rfl) fun K hK => ?_
    simp only [XN, XA]
    refine hK _ ?_
    clear hK
    refine XWP.block ?_
    refine XWP.loopD 1 (fun q s => ∃ (i : Nat) (V2 : View) (H2 : Heap) (co : List Value), StIs (fun Z => [Z 0, .p 0 0, Z 2, .v (.slice (some ⟨go, 0, none⟩) R R), Z 4,Z 5,Z 6,Z 7,Z 8, .v (.int .i64 (R : Int)), .v (.int .i64 (i : Int)), Z 11,Z 12,Z 13,Z 14,Z 15,Z 16,Z 17,Z 18,Z 19,Z 20,Z 21,Z 22,Z 23,Z 24,Z 25,Z 26,Z 27,Z 28,Z 29,Z 30,Z 31]) [[.int .i64 (R : Int), .int .i64 (C : Int), .slice A l.length cp]] H2 V2 s ∧ q + i = R ∧ V.le V2 ∧ H2 go = some ⟨22, co, R⟩ ∧ R1At (optE Rats) V2 co (prt R (rowL l C) i)) R ⟨0, V, _, _, StIs.of (by exact rfl), by omega, View.le_refl _, upd_at _ _ _, by rw [prt_zero]; exact R1At.rep (u := .slice none 0 0) _ rfl trivial⟩ ?_
    clear hgo1 hgo2
    rintro q s ⟨i, V2, H2, co, hs, hq, hV2, hH, hrow⟩
    obtain ⟨z, rfl⟩ := hs.out
    try dsimp only
    clear hs
    by_cases hi : i < R
    rotate_left
    · obtain rfl : i = R := by omega
      have b1 : decide ((i : Int) < (i : Int)) = false := decide_eq_false (by omega)
      refine Gx.a (by kernel_rfl) fun K hK => ?_
      simp only [XA, XB, b1]
      refine hK _ ?_
      refine XWP.seq (Gx.f rfl ?_)
      refine XWP.exit ?_
      exact fun f => ⟨V2, H2, co, StIs.of (by exact rfl), hH, hrow.prt_all⟩
    have b1 : decide ((i : Int) < (R : Int)) = true := decide_eq_true (by omega)
    refine Gx.a (by kernel_rfl) fun K hK => ?_
    simp only [XA, XB, b1]
    refine hK _ ?_
    refine XWP.seq (Gx.t rfl ?_)
    refine XWP.skip ?_
    have w1 := wr_mul (i := i) (C := C) (by omega) (by omega)
    have w2 := wr_mul (i := i + 1) (C := C) (by omega) (by omega)
    have w3 := i64_succ i (by omega)
    have hle : i * C ≤ (i + 1) * C := Nat.mul_le_mul_right C (by omega)
    have hle2 : (i + 1) * C ≤ l.length := by rw [ll]; exact Nat.mul_le_mul_right C (by omega)
    have hsl : Rats V2 (sliceV A cp 3 (i * C) ((i + 1) * C)) (rowL l C i) := Rats.up (SlAt.drop (SlAt.take h hle2) (by rw [List.length_take, Nat.min_eq_left hle2]; exact hle)) hV2
    have hrl : (rowL l C i).length = C := row_len ll hi
    obtain ⟨cells, hcells, hsrc⟩ := SlAt.src hsl
    rw [hrl] at hsrc
    have hlr := hrow.1
    rw [prt_len] at hlr
    refine XWP.cutD 1 (fun s => ∃ (H3 : Heap) (v' : Value), StIs (fun Z => [Z 0, .p 0 0, Z 2, .v (.slice (some ⟨go, 0, none⟩) R R), Z 4,Z 5,Z 6,Z 7,Z 8, .v (.int .i64 (R : Int)), .v (.int .i64 (i : Int)), Z 11,Z 12,Z 13,Z 14,Z 15,Z 16,Z 17,Z 18,Z 19,Z 20,Z 21,Z 22,Z 23,Z 24,Z 25,Z 26,Z 27,Z 28,Z 29,Z 30,Z 31]) [[.int .i64 (R : Int), .int .i64 (C : Int), .slice A l.length cp]] H3 V2 s ∧ H3 go = some ⟨22, co.set i v', R⟩ ∧ Own H3 49 3 v' C cells ∧ v'.ownBlock ≠ some go) ?_ ?_
    · refine XWP.block ?_
      refine Gx.a (by kernel_rfl) fun K hK => ?_
      simp only [XA]
      refine hK _ ?_
      refine Gx.c (by kernel_rfl) fun K hK => ?_
      simp only [XA]
      refine bs_go (by kernel_rfl) #[] (by simp) (bs_zero elemT_22 zeroT_49) fun b hb1 hb2 => ?_
      simp only [XM, XA, XB, w1, w2, w3]
      refine ⟨by omega, by omega, by omega, ?_⟩
      have hne : go ≠ b := fun e => by rw [e] at hH; rw [show H2 b = none from hb1] at hH; cases hH
      have hgo3 : upd H2 b (some ⟨49, [], 0⟩) go = some ⟨22, co, R⟩ := (upd_off hne).trans hH
      refine ap_go elemT_22 (by kernel_rfl) zeroT_49 rfl (by omega) (own3 (n := 0) (cap := 0) (xs := []) (by simp only [upd_at]) rfl (Nat.le_refl _) (by omega)) (hsrc _) (by omega) (by omega) fun v' H' hres => ?_
      have hk2 := app_keep hres hgo3 (fun e => hne (by simpa [Value.ownBlock] using e.symm))
      have hon := hres.1
      rw [Nat.zero_add, List.nil_append] at hon
      obtain ⟨A', c', rfl⟩ := own_form hon
      simp only [XN, XA, XB]
      refine ⟨by omega, by omega, ?_⟩
      refine st_row shapeT_22 rfl rfl hk2.1 (by dsimp only; omega) ?_
      simp only [XA]
      exact hK _ fun f => ⟨_, .slice A' C c', StIs.of (by exact rfl), by simp only [upd_at], own_off hon hk2.2, hk2.2⟩
    rintro s ⟨H3, v', hs, hH3, hon, hne⟩
    obtain ⟨z, rfl⟩ := hs.out
    try dsimp only
    clear hs
    refine XWP.pubR ratE_ok hon hcells fun H4 V4 hV4 hs4 hk4 => ?_
    have hrow4 := (hrow.mono (optE_ok ratsE_ok) hV4).set i (by rw [prt_len]; exact hi) (x := some (rowL l C i)) (SlAt.one hs4) hs4
    rw [prt_step R (rowL l C) hi] at hrow4
    refine Gx.c (by kernel_rfl) fun K hK => ?_
    simp only [XA, XB, i64_succ i (by omega)]
    exact hK _ ⟨q - 1, by omega, fun f => ⟨i + 1, V4, H4, _, StIs.of (by exact rfl), by omega, View.le_trans hV2 hV4, (hk4 go hne).trans hH3, hrow4⟩⟩
  rintro s ⟨V2, H2, co, hs', hH, hrow⟩
  obtain ⟨z, rfl⟩ := hs'.out
  try dsimp only
  refine Gx.a (by kernel_rfl) fun K hK => ?_
  simp only [XA]
  refine hK _ (XWP.ret ?_)
  try simp only [thenX_ret, inBlockX_ret]
  refine ret_pub go _ hH fun o ho hle' => ret_go _ rfl ?_
  exact hrow.pub ratsE_ok ho hle' (by simp) (Nat.le_refl _) (by omega)
end Go.Proofs.YtkgmicakfmllmaaGreat
end
section
namespace Go.Proofs.YtkgmicakfmllmaaGreat
open Go Go.RowKit
set_option linter.unusedSimpArgs false
set_option linter.unusedVariables false
attribute [local irreducible] XWP Spec SpecO XPub XCall seqX clX apX stX ldX iaX slX
end Go.Proofs.YtkgmicakfmllmaaGreat
end
section
namespace Go.Proofs.YtkgmicakfmllmaaGreat
open Go Go.RowKit
set_option linter.unusedSimpArgs false
set_option linter.unusedVariables false
attribute [local irreducible] XWP Spec SpecO XPub XCall seqX clX apX stX ldX iaX slX
end Go.Proofs.YtkgmicakfmllmaaGreat
end
section
namespace Go.Proofs.YtkgmicakfmllmaaGreat
open Go Go.RowKit
set_option linter.unusedSimpArgs false
set_option linter.unusedVariables false
attribute [local irreducible] XWP Spec SpecO XPub XCall seqX clX apX stX ldX iaX slX
end Go.Proofs.YtkgmicakfmllmaaGreat
end
section
namespace Go.Proofs.YtkgmicakfmllmaaGreat
open Go Go.RowKit
set_option linter.unusedSimpArgs false
set_option linter.unusedVariables false
attribute [local irreducible] XWP Spec SpecO XPub XCall seqX clX apX stX ldX iaX slX
end Go.Proofs.YtkgmicakfmllmaaGreat
end
section
namespace Go.Proofs.YtkgmicakfmllmaaGreat
open Go Go.RowKit
set_option linter.unusedSimpArgs false
set_option linter.unusedVariables false
attribute [local irreducible] XWP Spec SpecO XPub XCall seqX clX apX stX ldX iaX slX
end Go.Proofs.YtkgmicakfmllmaaGreat
end
section
namespace Go.Proofs.YtkgmicakfmllmaaGreat
open Go Go.RowKit
set_option linter.unusedSimpArgs false
set_option linter.unusedVariables false
attribute [local irreducible] XWP Spec SpecO XPub XCall seqX clX apX stX ldX iaX slX
theorem stoB_bad {n : Nat} {L : List Raw} {i : Nat} (hi : i < n) (h : rowOk (qs L) n i = false) : stoB (n : Int) (n : Int) L = false := by
  unfold stoB
  have : (List.range (n : Int).toNat).all (rowOk (qs L) (n : Int).toNat) = false := by
    rw [Int.toNat_natCast, List.all_eq_false]
    exact ⟨i, List.mem_range.2 hi, by rw [h]; simp⟩
  rw [this, Bool.and_false]
set_option maxHeartbeats 4000000 in
theorem dsto_c (V : View) (s : Value) (r c : Int) (L : List Raw) (B : Nat) (h : Raws V s L) (f : fitR L) (ll : L.length ≤ 100000) (hq : ∀ x ∈ qs L, QB B x) (hB : 1001 * (B + 1) ≤ 17592186044416) :
    Spec Tryz.prog 24 [.agg #[.int .i64 r, .int .i64 c, s]] V fun v' V' => v' = .bool (stoB r c L) := by
  obtain ⟨A, cp, rfl, hc, hm⟩ := h.form
  refine (Spec.enter Tryz.func24 rfl fun Γ => ?_)
  simp only [Tryz.ntmps24, List.map_cons, List.map_nil, List.length_cons, List.length_nil, Nat.reduceAdd, Nat.reduceSub, List.replicate_succ, List.replicate_zero, List.cons_append, List.nil_append]
  refine Gx.a (by kernel_rfl) fun K hK => ?_
  simp only [XA]
  refine hK _ ?_
  refine XWP.seq ?_
  refine Gx.a (by kernel_rfl) fun K hK => ?_
  simp only [XM, XA, Nat.reduceAdd, Nat.reduceLeDiff, ↓reduceIte]
  refine call_go (by kernel_rfl) rfl (dmright_c _ _ _ _ L h f (by omega)) fun v1 V1 hV1 h1 => ?_
  subst h1
  cases e1 : matR r c L
  · simp only [XA, gateX, ↓reduceIte]
    refine hK _ ?_
    refine Gx.t rfl ?_
    refine Gx.a (by kernel_rfl) fun K hK => ?_
    simp only [XA]
    refine hK _ (XWP.ret ?_)
    try simp only [thenX_ret, inBlockX_ret]
    refine ret_go _ rfl ?_
    unfold stoB
    rw [e1]; rfl
  by_cases e2 : r = c
  rotate_left
  · have b1 : decide (r = c) = false := decide_eq_false e2
    simp only [XM, XA, XB, gateX, ↓reduceIte, beq_self_eq_true, b1]
    refine hK _ ?_
    refine Gx.t rfl ?_
    refine Gx.a (by kernel_rfl) fun K hK => ?_
    simp only [XA]
    refine hK _ (XWP.ret ?_)
    try simp only [thenX_ret, inBlockX_ret]
    refine ret_go _ rfl ?_
    unfold stoB
    rw [e1, b1]; rfl
  subst e2
  have hmat := e1
  unfold matR at e1
  rw [Bool.and_eq_true, decide_eq_true_eq] at e1
  obtain ⟨⟨k1, k2, _, _, k5⟩, ok⟩ := e1
  obtain ⟨n, rfl⟩ : ∃ n : Nat, r = n := ⟨r.toNat, by omega⟩
  have kl : L.length = n * n := by rw [← Int.natCast_mul] at k5; omega
  have hn : n ≤ 60 := by omega
  have hr := (Raws.rats h ok).up hV1
  have hlen := qs_len L
  have lln : (qs L).length = n * n := by omega
  simp only [XM, XA, XB, gateX, ↓reduceIte, beq_self_eq_true, decide_true]
  refine hK _ ?_
  refine Gx.f rfl ?_
  refine XWP.skip ?_
  refine XWP.cutD 1 (fun s => StIs (fun Z => [Z 0,Z 1,Z 2,Z 3,Z 4,Z 5,Z 6,Z 7,Z 8,Z 9,Z 10,Z 11,Z 12,Z 13,Z 14,Z 15,Z 16,Z 17,Z 18,Z 19,Z 20,Z 21,Z 22,Z 23,Z 24,Z 25,Z 26,Z 27,Z 28,Z 29,Z 30,Z 31,Z 32,Z 33,Z 34,Z 35,Z 36,Z 37,Z 38,Z 39]) [[.int .i64 (n : Int), .int .i64 (n : Int), .slice A L.length cp]] (fun _ => none) s.V s ∧ stoB (n : Int) (n : Int) L = true) ?_ ?_
  · refine Gx.a (by kernel_rfl) fun K hK => ?_
    simp only [XM, XA, Nat.reduceAdd, Nat.reduceLeDiff, ↓reduceIte]
    refine call_go (by kernel_rfl) rfl (drows_c _ _ n n (qs L) hr lln hn hn) fun v2 V2 hV2 h2 => ?_
    obtain ⟨A2, c2, rfl, hc2, hm2⟩ := h2.form
    have el : ((List.range n).map (rowL (qs L) n)).length = n := by simp
    rw [el] at h2 hc2 ⊢
    simp only [XN, XA]
    refine hK _ ?_
    clear hK
    refine XWP.block ?_
    refine XWP.loopD 1 (fun q s => ∃ (i : Nat) (V3 : View), StIs (fun Z => [Z 0, .p 0 0, Z 2,Z 3,Z 4,Z 5,Z 6,Z 7,Z 8,Z 9,Z 10,Z 11,Z 12,Z 13,Z 14,Z 15,Z 16,Z 17, .v (.slice A2 n c2), .v (.int .i64 (n : Int)), .v (.int .i64 (i : Int)), Z 21,Z 22,Z 23,Z 24,Z 25,Z 26,Z 27,Z 28,Z 29,Z 30,Z 31,Z 32,Z 33,Z 34,Z 35,Z 36,Z 37,Z 38,Z 39]) [[.int .i64 (n : Int), .int .i64 (n : Int), .slice A L.length cp]] (fun _ => none) V3 s ∧ q + i = n ∧ V2.le V3 ∧ (List.range i).all (rowOk (qs L) n) = true) n ⟨0, V2, StIs.of (by exact rfl), by omega, View.le_refl _, rfl⟩ ?_
    rintro q s ⟨i, V3, hs, hqi, hV3, hall⟩
    obtain ⟨z, rfl⟩ := hs.out
    try dsimp only
    clear hs
    by_cases hi : i < n
    rotate_left
    · obtain rfl : i = n := by omega
      have b1 : decide ((i : Int) < (i : Int)) = false := decide_eq_false (by omega)
      refine Gx.a (by kernel_rfl) fun K hK => ?_
      simp only [XA, XB, b1]
      refine hK _ ?_
      refine XWP.seq (Gx.f rfl ?_)
      refine XWP.exit ?_
      refine fun f => ⟨StIs.of (by exact rfl), ?_⟩
      unfold stoB
      rw [hmat, decide_eq_true rfl, Int.toNat_natCast, hall]; rfl
    have b1 : decide ((i : Int) < (n : Int)) = true := decide_eq_true (by omega)
    refine Gx.a (by kernel_rfl) fun K hK => ?_
    simp only [XA, XB, b1]
    refine hK _ ?_
    refine XWP.seq (Gx.t rfl ?_)
    refine XWP.skip ?_
    obtain ⟨bw, ow, rfl⟩ := h2.addr (by simp; omega)
    obtain ⟨u, g1, _, g2⟩ := Sl1.load (n := n) (h2.mono ratsE_ok hV3) i (by simp; omega)
    have eg : ((List.range n).map (rowL (qs L) n))[i]'(by simp; omega) = rowL (qs L) n i := by simp
    rw [eg] at g1
    have g3 := fun H => g2 H _ _ shapeT_22
    clear g2
    have hrl : (rowL (qs L) n i).length = n := row_len lln hi
    obtain ⟨A3, c3, rfl, hc3, hm3⟩ := SlAt.form g1
    rw [hrl] at g1 hc3 g3
    have hcf : ∀ k, k < n → cf (rowL (qs L) n i) k = cf (qs L) (i * n + k) := fun k hk => cf_row lln hi hk
    have hQr : ∀ x ∈ rowL (qs L) n i, QB B x := fun x hx => hq x (List.mem_of_mem_take (List.mem_of_mem_drop hx))
    generalize rowL (qs L) n i = R at *
    have g1 : Rats V3 (.slice A3 n c3) R := g1
    refine XWP.cutD 1 (fun s => ∃ (V4 : View), StIs (fun Z => [Z 0, .p 0 0, Z 2,Z 3,Z 4,Z 5,Z 6,Z 7,Z 8,Z 9,Z 10,Z 11,Z 12,Z 13,Z 14,Z 15,Z 16,Z 17, .v (.slice (some ⟨bw, ow, none⟩) n c2), .v (.int .i64 (n : Int)), .v (.int .i64 (i : Int)), Z 21,Z 22,Z 23,Z 24,Z 25,Z 26,Z 27,Z 28,Z 29,Z 30,Z 31,Z 32,Z 33,Z 34,Z 35,Z 36,Z 37,Z 38,Z 39]) [[.int .i64 (n : Int), .int .i64 (n : Int), .slice A L.length cp]] (fun _ => none) V4 s ∧ V3.le V4 ∧ rowOk (qs L) n i = true) ?_ ?_
    · refine XWP.block ?_
      refine Gx.a (by kernel_rfl) fun K hK => ?_
      simp only [XN, XA, XB]
      refine ⟨by omega, by omega, ?_⟩
      refine ld_mem (by simpa using g3 _) ?_
      simp only [XA]
      refine hK _ ?_
      refine XWP.cutD 1 (fun s => ∃ (V4 : View), StIs (fun Z => [Z 0, .p 0 0, Z 2,Z 3, .v (.slice A3 n c3), Z 5,Z 6,Z 7,Z 8,Z 9,Z 10,Z 11,Z 12,Z 13,Z 14,Z 15,Z 16,Z 17, .v (.slice (some ⟨bw, ow, none⟩) n c2), .v (.int .i64 (n : Int)), .v (.int .i64 (i : Int)), Z 21,Z 22,Z 23,Z 24,Z 25,Z 26,Z 27,Z 28,Z 29,Z 30,Z 31,Z 32,Z 33,Z 34,Z 35,Z 36,Z 37,Z 38,Z 39]) [[.int .i64 (n : Int), .int .i64 (n : Int), .slice A L.length cp]] (fun _ => none) V4 s ∧ V3.le V4 ∧ (List.range n).all (fun k => !ng (cf (qs L) (i * n + k))) = true) ?_ ?_
      · refine Gx.a (by kernel_rfl) fun K hK => ?_
        simp only [XA, XB]
        refine hK _ ?_
        clear hK
        refine XWP.block ?_
        refine XWP.loopD 1 (fun p s => ∃ (k : Nat) (V4 : View), StIs (fun Z => [Z 0, .p 0 0, Z 2,Z 3, .v (.slice A3 n c3), Z 5,Z 6,Z 7,Z 8,Z 9,Z 10,Z 11,Z 12,Z 13,Z 14,Z 15,Z 16,Z 17, .v (.slice (some ⟨bw, ow, none⟩) n c2), .v (.int .i64 (n : Int)), .v (.int .i64 (i : Int)), Z 21,Z 22,Z 23, .v (.slice A3 n c3), .v (.int .i64 (n : Int)), .v (.int .i64 (k : Int)), Z 27,Z 28,Z 29,Z 30,Z 31,Z 32,Z 33,Z 34,Z 35,Z 36,Z 37,Z 38,Z 39]) [[.int .i64 (n : Int), .int .i64 (n : Int), .slice A L.length cp]] (fun _ => none) V4 s ∧ p + k = n ∧ V3.le V4 ∧ (List.range k).all (fun k => !ng (cf (qs L) (i * n + k))) = true) n ⟨0, V3, StIs.of (by exact rfl), by omega, View.le_refl _, rfl⟩ ?_
        rintro p s ⟨k, V4, hs, hp, hV4, hk⟩
        obtain ⟨z, rfl⟩ := hs.out
        try dsimp only
        clear hs
        by_cases hkn : k < n
        rotate_left
        · obtain rfl : k = n := by omega
          have b3 : decide ((k : Int) < (k : Int)) = false := decide_eq_false (by omega)
          refine Gx.a (by kernel_rfl) fun K hK => ?_
          simp only [XA, XB, b3]
          refine hK _ ?_
          refine XWP.seq (Gx.f rfl ?_)
          refine XWP.exit ?_
          exact fun f => ⟨V4, StIs.of (by exact rfl), hV4, hk⟩
        have b3 : decide ((k : Int) < (n : Int)) = true := decide_eq_true (by omega)
        refine Gx.a (by kernel_rfl) fun K hK => ?_
        simp only [XA, XB, b3]
        refine hK _ ?_
        refine XWP.seq (Gx.t rfl ?_)
        refine XWP.skip ?_
        have hrow3 := g1.up hV4
        obtain ⟨bb, oo, rfl⟩ := SlAt.addr hrow3 (by omega)
        obtain ⟨m3, n3, d3, hx, ⟨p1, p2, p3⟩, hld⟩ := Rats.get hrow3 k (by omega)
        have qx : QF (cf (qs L) (i * n + k)) := by rw [← hcf k hkn]; exact (hQr _ (cf_mem (by omega))).qf (by omega)
        rw [hcf k hkn] at hx
        refine XWP.seq ?_
        refine XWP.block ?_
        refine Gx.a (by kernel_rfl) fun K hK => ?_
        simp only [XA, XB]
        refine ⟨by omega, by omega, ld_mem (hld _) ?_⟩
        simp only [XA, XB]
        refine st_rat rfl rfl p1 p2 p3 ?_
        simp only [XA]
        refine hK _ ?_
        have en := sgI_lt (cf (qs L) (i * n + k))
        refine Gx.a (by kernel_rfl) fun K hK => ?_
        simp only [XA, XB, Nat.reduceAdd, Nat.reduceLeDiff, ↓reduceIte]
        refine call_go (by kernel_rfl) rfl (psign_c _ _ _ (hx.toV qx)) fun v5 V5 hV5 h5 => ?_
        subst h5
        cases hng : ng (cf (qs L) (i * n + k))
        · rw [hng] at en
          simp only [XA, XB, en]
          refine hK _ ?_
          refine Gx.f rfl ?_
          refine XWP.skip ?_
          refine Gx.c (by kernel_rfl) fun K hK => ?_
          simp only [XA, XB, i64_succ k (by omega)]
          exact hK _ ⟨p - 1, by omega, fun f => ⟨k + 1, V5, StIs.of (by exact rfl), by omega, View.le_trans hV4 hV5, by rw [List.range_succ, List.all_append, hk]; simp [hng]⟩⟩
        · rw [hng] at en
          simp only [XA, XB, en]
          refine hK _ ?_
          refine Gx.t rfl ?_
          refine Gx.a (by kernel_rfl) fun K hK => ?_
          simp only [XA]
          refine hK _ (XWP.ret ?_)
          try simp only [thenX_ret, inBlockX_ret]
          refine ret_go _ rfl ?_
          have : rowOk (qs L) n i = false := by
            unfold rowOk
            have : ((List.range n).all fun k => !ng (cf (qs L) (i * n + k))) = false := by
              rw [List.all_eq_false]
              exact ⟨k, List.mem_range.2 hkn, by rw [hng]; simp⟩
            rw [this]; rfl
          rw [stoB_bad hi this]; rfl
      rintro s ⟨V4, hs, hV4, hall2⟩
      obtain ⟨z, rfl⟩ := hs.out
      try dsimp only
      clear hs
      have hrow4 := g1.up hV4
      refine Gx.a (by kernel_rfl) fun K hK => ?_
      simp only [XA]
      refine call_go (by kernel_rfl) rfl (psum_c _ _ _ B hrow4 hQr (by omega) hB) fun v5 V5 hV5 h5 => ?_
      rw [hrl] at h5
      have esum : sumL R n = Sm (fun k => cf (qs L) (i * n + k)) n := Sm_congr n fun k hk => hcf k hk
      have qsum : QF (sumL R n) := (sumL_QB hQr n (by omega)).qf (Nat.le_trans (Nat.mul_le_mul_right _ (show n ≤ 1001 by omega)) hB)
      simp only [XA]
      refine call_go (by kernel_rfl) rfl (pone_c _) fun v6 V6 hV6 h6 => ?_
      simp only [XA]
      refine call_go (by kernel_rfl) rfl (psame_c _ _ _ _ _ ((h5.mono hV6).toV qsum) (h6.toV QF_one) qsum QF_one) fun v7 V7 hV7 h7 => ?_
      subst h7
      rw [esum]
      have hle7 := View.le_trans hV4 (View.le_trans hV5 (View.le_trans hV6 hV7))
      by_cases hs1 : Sm (fun k => cf (qs L) (i * n + k)) n = 1
      · have b3 : decide (Sm (fun k => cf (qs L) (i * n + k)) n = 1) = true := decide_eq_true hs1
        simp only [XA, b3]
        refine hK _ ?_
        refine Gx.f rfl ?_
        refine XWP.skip ?_
        exact fun f => ⟨V7, StIs.of (by exact rfl), hle7, by unfold rowOk; rw [hall2, b3]; rfl⟩
      · have b3 : decide (Sm (fun k => cf (qs L) (i * n + k)) n = 1) = false := decide_eq_false hs1
        simp only [XA, b3]
        refine hK _ ?_
        refine Gx.t rfl ?_
        refine Gx.a (by kernel_rfl) fun K hK => ?_
        simp only [XA]
        refine hK _ (XWP.ret ?_)
        try simp only [thenX_ret, inBlockX_ret]
        refine ret_go _ rfl ?_
        have : rowOk (qs L) n i = false := by unfold rowOk; rw [b3, Bool.and_false]
        rw [stoB_bad hi this]; rfl
    rintro s ⟨V4, hs, hV4, hro⟩
    obtain ⟨z, rfl⟩ := hs.out
    try dsimp only
    refine Gx.c (by kernel_rfl) fun K hK => ?_
    simp only [XA, XB, i64_succ i (by omega)]
    exact hK _ ⟨q - 1, by omega, fun f => ⟨i + 1, V4, StIs.of (by exact rfl), by omega, View.le_trans hV3 hV4, by rw [List.range_succ, List.all_append, hall]; simp [hro]⟩⟩
  rintro s ⟨hs, e⟩
  obtain ⟨t, bx, H, V2⟩ := s
  obtain ⟨z, e3⟩ := hs.out
  cases e3
  try dsimp only
  refine Gx.a (by kernel_rfl) fun K hK => ?_
  simp only [XA]
  refine hK _ (XWP.ret ?_)
  try simp only [thenX_ret, inBlockX_ret]
  refine ret_go _ rfl ?_
  rw [e]; rfl
end Go.Proofs.YtkgmicakfmllmaaGreat
end
