/- The law BalanceClasses (the closed classes and the stationary distributions are those of the reference, errors included) answers true at every matrix: no premise. (part 11 of 12) -/
import Derived.OrdersHeld
import Derived.Below
import Derived.Tactics
import Derived.KernelRfl
import Derived.RangeFuncCalls
import Derived.RangeFuncFrom
import Derived.RangeFuncLeaves
import Derived.OrdersIn
import Derived.Laws.AppendOwn
import Derived.Laws.MakeOwn
import Derived.Laws.CopyRow
import Derived.Laws.Cells
import Derived.Laws.World
import Derived.Laws.Alloc2
import Derived.Laws.NewBlocks
import Derived.Maps.AppendAt
import Derived.Test.YtkgmicakfmllmaaGreatProg
import Init.Data.List.Lemmas
import Init.Omega
import Derived.WalkKit
import Derived.ProofKit
import Derived.OpenShut
import Derived.ChangeOld
import Derived.SizedLaws
import Derived.ChangeSlices
import Derived.ChangeArms
import Derived.Deep.Slices
import Derived.Test.YtkgmicakfmllmaaGreatCL10
section
namespace Go.Proofs.YtkgmicakfmllmaaGreat
open Go Go.RowKit
set_option linter.unusedSimpArgs false
set_option linter.unusedVariables false
attribute [local irreducible] XWP Spec SpecO XPub XCall seqX clX apX stX ldX iaX slX
theorem QB_neg {B : Nat} {q : Rat} (h : QB B q) : QB B (-q) := ⟨by rw [Rat.neg_num, Int.natAbs_neg]; exact h.1, by rw [Rat.neg_den]; exact h.2⟩
/-- the memory of an elimination under way -/
structure CMem (H : Heap) (V : View) (w : Value) (n gw b4 : Nat) (r4 : Row) (G : Grid) : Prop where
  grid : GridAt H V w n (n + 1) G [b4]
  wr : ∃ cw tot, H gw = some ⟨3, cw, tot⟩ ∧ cw.length = n
  at4 : H b4 = some r4
  ng : ∀ g c, w = .slice (some ⟨g, 0, none⟩) n c → g ≠ b4
  nw : gw ≠ b4
theorem CMem.mono {H : Heap} {V V' : View} {w : Value} {n gw b4 : Nat} {r4 : Row} {G : Grid} (h : CMem H V w n gw b4 r4 G) (hV : V.le V') : CMem H V' w n gw b4 r4 G := ⟨h.grid.mono hV, h.wr, h.at4, h.ng, h.nw⟩
theorem CMem.congr {H : Heap} {V : View} {w : Value} {n gw b4 : Nat} {r4 : Row} {G G' : Grid} (h : CMem H V w n gw b4 r4 G) (e : ∀ i j, i < n → j < n + 1 → G i j = G' i j) : CMem H V w n gw b4 r4 G' := ⟨h.grid.congr e, h.wr, h.at4, h.ng, h.nw⟩
theorem CMem.at {H : Heap} {V : View} {w : Value} {n gw b4 : Nat} {r4 : Row} {G : Grid} (h : CMem H V w n gw b4 r4 G) {i : Nat} (hi : i < n) :
    ∃ g cap b c cs, w = .slice (some ⟨g, 0, none⟩) n cap ∧ Loads Tryz.prog H V 22 g i (.slice (some ⟨b, 0, none⟩) (n + 1) c) ∧ H b = some ⟨49, cs, c * 3⟩ ∧ cs.length = (n + 1) * 3 ∧ n + 1 ≤ c ∧
      (∀ j, j < n + 1 → ∃ x y z, RatC V (.agg #[x, y, z]) (G i j) ∧ (isOne x = true ∧ isOne y = true ∧ isOne z = true) ∧ Loads Tryz.prog H V 49 b (j * 3) (.agg #[x, y, z])) ∧
      ∀ V' j q x y z, j < n + 1 → V.le V' → RatC V' (.agg #[x, y, z]) q → isOne x = true → isOne y = true → isOne z = true → CMem (upd H b (some ⟨49, splice cs (j * 3) [x, y, z], c * 3⟩)) V' w n gw b4 r4 (fun i' j' => if i' = i ∧ j' = j then q else G i' j') := by
  obtain ⟨g, cap, b, c, cs, e, h1, h2, h3, h4, h5, h6, h7⟩ := h.grid.at hi
  refine ⟨g, cap, b, c, cs, e, h1, h2, by rw [h3.1, mk_len], h4, fun j hj => ?_, fun V' j q x y z hj hV hx o1 o2 o3 => ?_⟩
  · obtain ⟨x, y, z, a1, a2, a3⟩ := rowQ_load h2 h3 j (by rw [mk_len]; exact hj)
    rw [cf_mk, if_pos hj] at a1
    exact ⟨x, y, z, a1, a2, a3⟩
  · have hr := (h3.mono ratE_ok hV).set j (by rw [mk_len]; exact hj) o1 o2 o3 hx
    rw [mk_set1 hj] at hr
    obtain ⟨cw, tot, w1, w2⟩ := h.wr
    have hgb : gw ≠ b := fun e => by subst e; rw [h2] at w1; cases w1
    have hob : b4 ≠ b := fun e => h6 (by rw [e]; simp)
    refine ⟨(h7 V' _ _ hV hr).congr fun i' j' _ _ => ?_, ⟨cw, tot, (upd_off hgb).trans w1, w2⟩, (upd_off hob).trans h.at4, h.ng, h.nw⟩
    by_cases e1 : i' = i
    · by_cases e2 : j' = j
      · simp [e1, e2]
      · simp [e1, e2]
    · simp [e1]
theorem CMem.swap {H : Heap} {V : View} {w : Value} {n gw b4 : Nat} {r4 : Row} {G : Grid} (h : CMem H V w n gw b4 r4 G) {p t : Nat} (hp : p < n) (ht : t < n) :
    ∃ g cap cells vp vt, w = .slice (some ⟨g, 0, none⟩) n cap ∧ H g = some ⟨22, cells, cap * 1⟩ ∧ cells.length = n ∧ Loads Tryz.prog H V 22 g p vp ∧ Loads Tryz.prog H V 22 g t vt ∧ isOne vp = true ∧ isOne vt = true ∧
      CMem (upd (upd H g (some ⟨22, cells.set p vt, cap * 1⟩)) g (some ⟨22, (cells.set p vt).set t vp, cap * 1⟩)) V w n gw b4 r4 (gsw G p t) := by
  obtain ⟨g, cap, cells, vp, vt, e, h1, h2, h3, h4, h5, h6, h7⟩ := h.grid.swap hp ht
  obtain ⟨cw, tot, w1, w2⟩ := h.wr
  have n1 : gw ≠ g := fun e => by subst e; rw [h1] at w1; cases w1
  have n2 : b4 ≠ g := fun e' => h.ng g cap e e'.symm
  exact ⟨g, cap, cells, vp, vt, e, h1, h2, h3, h4, h5, h6, h7, ⟨cw, tot, (upd_off n1).trans ((upd_off n1).trans w1), w2⟩, (upd_off n2).trans ((upd_off n2).trans h.at4), h.ng, h.nw⟩
theorem CMem.where {H : Heap} {V : View} {w : Value} {n gw b4 : Nat} {r4 : Row} {G : Grid} (h : CMem H V w n gw b4 r4 G) (k : Nat) (x : Int) :
    ∃ cw tot, H gw = some ⟨3, cw, tot⟩ ∧ cw.length = n ∧ CMem (upd H gw (some ⟨3, cw.set k (.int .i64 x), tot⟩)) V w n gw b4 r4 G := by
  obtain ⟨cw, tot, w1, w2⟩ := h.wr
  have hne : ∀ b cs t, H b = some ⟨49, cs, t⟩ → upd H gw (some ⟨3, cw.set k (.int .i64 x), tot⟩) b = H b := fun b cs t hb => by
    unfold upd; split
    · rename_i e; subst e; rw [w1] at hb; cases hb
    · rfl
  have hne2 : ∀ b cs t, H b = some ⟨22, cs, t⟩ → upd H gw (some ⟨3, cw.set k (.int .i64 x), tot⟩) b = H b := fun b cs t hb => by
    unfold upd; split
    · rename_i e; subst e; rw [w1] at hb; cases hb
    · rfl
  exact ⟨cw, tot, w1, w2, h.grid.frame hne2 fun b cs t ha hb => ⟨hne b cs t hb, ha⟩, ⟨_, tot, upd_at _ _ _, by rw [List.length_set]; exact w2⟩, (upd_off (Ne.symm h.nw)).trans h.at4, h.ng, h.nw⟩
/-- what is known of an elimination under way -/
structure CInv (G0 : Grid) (n B : Nat) (G : Grid) (k : Nat) : Prop where
  unit : UnitG G0 G n k
  qb : ∀ i j, i < n → j < n + 1 → QB (ge B k) (G i j)
theorem CInv.piv {G0 G : Grid} {n B k p : Nat} (h : CInv G0 n B G k) (hk : k < n) (h1 : k ≤ p) (h2 : p < n) (hd : G p k ≠ 0) : CInv G0 n B (gcol (gsw G p k) k k) (k + 1) := by
  refine ⟨h.unit.step hk h1 h2 hd, fun i j hi hj => ?_⟩
  have hq : ∀ i j, i < n → j < n + 1 → QB (ge B k) (gsw G p k i j) := fun i j hi hj => h.qb _ j (swp_lt h2 (by omega) hi) hj
  have q1 := (hq k j (by omega) hj).div (hq k k (by omega) (by omega))
  unfold gcol
  split
  · exact q1.mono (by simp only [ge]; omega)
  · exact ((hq i j hi hj).sub ((hq i k hi (by omega)).mul q1)).mono (by simp only [ge]; omega)
theorem gsw_self (G : Grid) (k : Nat) : gsw G k k = G := by
  funext i j
  unfold gsw swp
  by_cases e : i = k
  · rw [if_pos e, e]
  · rw [if_neg e, if_neg e]
set_option maxRecDepth 100000 in
set_option maxHeartbeats 0 in
theorem dcleared_m (H0 : Heap) (V : View) (g cap n B b4 : Nat) (r4 : Row) (G0 : Grid) (hgrid : GridAt H0 V (.slice (some ⟨g, 0, none⟩) n cap) n (n + 1) G0 [b4]) (hb4 : H0 b4 = some r4) (hgb : g ≠ b4) (hu : UniG G0 n n) (h1 : 1 ≤ n) (hn : n ≤ 60) (hq : ∀ i j, i < n → j < n + 1 → QB B (G0 i j)) (hfit : (n + 1) * ge B (n + 1) ≤ 17592186044416) :
    MSpec Tryz.prog 157 [.slice (some ⟨g, 0, none⟩) n cap, .int .i64 (n : Int)] H0 V fun v' H' V' => V.le V' ∧ H' b4 = some r4 ∧ ∃ u dm dx dy d G, v' = .tuple #[u, .agg #[.bool dm, dx, dy]] ∧ isOne u = true ∧ isOne dx = true ∧ isOne dy = true ∧ RatC V' (.agg #[.bool dm, dx, dy]) d ∧ d ≠ 0 ∧ QF d ∧
      GridAt H' V' (.slice (some ⟨g, 0, none⟩) n cap) n (n + 1) G [b4] ∧ CInv G0 n B G n := by
  refine (MSpec.enter Tryz.func157 rfl fun Γ hΓ => ?_)
  simp only [Tryz.ntmps157, List.map_cons, List.map_nil, List.length_cons, List.length_nil, Nat.reduceAdd, Nat.reduceSub, List.replicate_succ, List.replicate_zero, List.cons_append, List.nil_append]
  have hmulB : ∀ k, k ≤ n + 1 → k * ge B (n + 1) ≤ 17592186044416 := fun k hk => Nat.le_trans (Nat.mul_le_mul_right _ hk) hfit
  have hgeB : ge B (n + 1) ≤ 17592186044416 := by have := hmulB 1 (by omega); omega
  refine Gx.a (by kernel_rfl) fun K hK => ?_
  simp only [XA, XB]
  refine hK _ ?_
  refine Gx.a (by kernel_rfl) fun K hK => ?_
  simp only [XA]
  refine call_go (by kernel_rfl) rfl (pone_c _) fun v1 V1 hV1 k1 => ?_
  obtain ⟨x1, y1, rfl, p1, p2⟩ := k1.form
  simp only [XA, XB]
  refine st_rat rfl rfl rfl p1 p2 ?_
  simp only [XA]
  refine hK _ ?_
  refine Gx.a (by kernel_rfl) fun K hK => ?_
  simp only [XA]
  refine mk_go rfl rfl eII zeroT_3 (by omega) (by omega) (by omega) (by omega) rfl (by omega) fun gw hgw1 hgw2 => ?_
  simp only [XA]
  refine hK _ ?_
  refine Gx.a (by kernel_rfl) fun K hK => ?_
  simp only [XA]
  refine hK _ ?_
  have hgw1 : H0 gw = none := hgw1
  have hmem0 : CMem (upd H0 gw (some ⟨3, (List.replicate n [Value.int .i64 0]).flatten, n⟩)) V1 (.slice (some ⟨g, 0, none⟩) n cap) n gw b4 r4 G0 := by
    refine ⟨(hgrid.mono hV1).alloc hgw1, ⟨_, _, upd_at _ _ _, by simp⟩, (upd_off (new_ne hgw1 hb4)).trans hb4, fun g' c' e => ?_, fun e => by rw [e, hb4] at hgw1; cases hgw1⟩
    cases e; exact hgb
  have hinv0 : CInv G0 n B G0 0 := ⟨UnitG.zero _ _, hq⟩
  generalize upd H0 gw _ = H1 at *
  clear hgw1 hgw2
  refine XWP.cutD 2 (fun s => ∃ (V8 : View) (H8 : Heap) (dm : Bool) (dx dy : Value) (d : Rat) (G : Grid), StIs (fun Z => [.v (.slice (some ⟨g, 0, none⟩) n cap), .v (.int .i64 (n : Int)), Z 2,Z 3,Z 4, .p 0 0, .p 1 0, .v (.slice (some ⟨gw, 0, none⟩) n n), Z 8,Z 9,Z 10,Z 11,Z 12,Z 13,Z 14,Z 15,Z 16,Z 17,Z 18,Z 19,Z 20,Z 21,Z 22,Z 23,Z 24,Z 25,Z 26,Z 27,Z 28,Z 29,Z 30,Z 31,Z 32,Z 33,Z 34,Z 35,Z 36,Z 37,Z 38,Z 39,Z 40,Z 41,Z 42,Z 43,Z 44,Z 45,Z 46,Z 47,Z 48,Z 49,Z 50,Z 51,Z 52,Z 53,Z 54,Z 55,Z 56,Z 57,Z 58,Z 59,Z 60,Z 61,Z 62,Z 63,Z 64,Z 65,Z 66,Z 67,Z 68,Z 69,Z 70,Z 71,Z 72,Z 73,Z 74,Z 75,Z 76,Z 77,Z 78,Z 79,Z 80,Z 81,Z 82,Z 83,Z 84,Z 85,Z 86,Z 87,Z 88,Z 89,Z 90,Z 91,Z 92,Z 93,Z 94,Z 95,Z 96,Z 97,Z 98,Z 99,Z 100,Z 101,Z 102,Z 103,Z 104,Z 105,Z 106,Z 107,Z 108,Z 109,Z 110,Z 111,Z 112,Z 113,Z 114,Z 115,Z 116,Z 117,Z 118,Z 119,Z 120,Z 121,Z 122,Z 123,Z 124,Z 125,Z 126,Z 127,Z 128,Z 129,Z 130,Z 131,Z 132,Z 133,Z 134,Z 135,Z 136,Z 137,Z 138,Z 139,Z 140,Z 141,Z 142,Z 143,Z 144,Z 145,Z 146,Z 147,Z 148,Z 149,Z 150,Z 151,Z 152,Z 153,Z 154,Z 155,Z 156,Z 157,Z 158,Z 159,Z 160,Z 161,Z 162,Z 163,Z 164,Z 165,Z 166,Z 167,Z 168,Z 169,Z 170,Z 171,Z 172]) [[.bool false, .slice none 0 0, .slice none 0 0], [.bool dm, dx, dy]] H8 V8 s ∧ V.le V8 ∧ RatC V8 (.agg #[.bool dm, dx, dy]) d ∧ isOne dx = true ∧ isOne dy = true ∧ d ≠ 0 ∧ QB (n * ge B (n + 1) + 1) d ∧ CMem H8 V8 (.slice (some ⟨g, 0, none⟩) n cap) n gw b4 r4 G ∧ CInv G0 n B G n) ?_ ?_
  · --{
    refine Gx.a (by kernel_rfl) fun K hK => ?_
    simp only [XA]
    refine hK _ ?_
    clear hK
    refine XWP.block ?_
    refine XWP.loopD 2 (fun q s => ∃ (k : Nat) (V8 : View) (H8 : Heap) (dm : Bool) (dx dy : Value) (d : Rat) (G : Grid), StIs (fun Z => [.v (.slice (some ⟨g, 0, none⟩) n cap), .v (.int .i64 (n : Int)), Z 2,Z 3,Z 4, .p 0 0, .p 1 0, .v (.slice (some ⟨gw, 0, none⟩) n n), .v (.int .i64 (k : Int)), .v (.int .i64 (k : Int)), Z 10,Z 11,Z 12,Z 13,Z 14,Z 15,Z 16,Z 17,Z 18,Z 19,Z 20,Z 21,Z 22,Z 23,Z 24,Z 25,Z 26,Z 27,Z 28,Z 29,Z 30,Z 31,Z 32,Z 33,Z 34,Z 35,Z 36,Z 37,Z 38,Z 39,Z 40,Z 41,Z 42,Z 43,Z 44,Z 45,Z 46,Z 47,Z 48,Z 49,Z 50,Z 51,Z 52,Z 53,Z 54,Z 55,Z 56,Z 57,Z 58,Z 59,Z 60,Z 61,Z 62,Z 63,Z 64,Z 65,Z 66,Z 67,Z 68,Z 69,Z 70,Z 71,Z 72,Z 73,Z 74,Z 75,Z 76,Z 77,Z 78,Z 79,Z 80,Z 81,Z 82,Z 83,Z 84,Z 85,Z 86,Z 87,Z 88,Z 89,Z 90,Z 91,Z 92,Z 93,Z 94,Z 95,Z 96,Z 97,Z 98,Z 99,Z 100,Z 101,Z 102,Z 103,Z 104,Z 105,Z 106,Z 107,Z 108,Z 109,Z 110,Z 111,Z 112,Z 113,Z 114,Z 115,Z 116,Z 117,Z 118,Z 119,Z 120,Z 121,Z 122,Z 123,Z 124,Z 125,Z 126,Z 127,Z 128,Z 129,Z 130,Z 131,Z 132,Z 133,Z 134,Z 135,Z 136,Z 137,Z 138,Z 139,Z 140,Z 141,Z 142,Z 143,Z 144,Z 145,Z 146,Z 147,Z 148,Z 149,Z 150,Z 151,Z 152,Z 153,Z 154,Z 155,Z 156,Z 157,Z 158,Z 159,Z 160,Z 161,Z 162,Z 163,Z 164,Z 165,Z 166,Z 167,Z 168,Z 169,Z 170,Z 171,Z 172]) [[.bool false, .slice none 0 0, .slice none 0 0], [.bool dm, dx, dy]] H8 V8 s ∧ q + k = n ∧ V.le V8 ∧ RatC V8 (.agg #[.bool dm, dx, dy]) d ∧ isOne dx = true ∧ isOne dy = true ∧ d ≠ 0 ∧ QB (k * ge B (n + 1) + 1) d ∧ CMem H8 V8 (.slice (some ⟨g, 0, none⟩) n cap) n gw b4 r4 G ∧ CInv G0 n B G k) n ⟨0, V1, H1, _, x1, y1, 1, G0, StIs.of (by exact rfl), by omega, hV1, k1, p1, p2, by decide, (QB_one 1).mono (by omega), hmem0, hinv0⟩ ?_
    clear hmem0 hinv0 k1 p1 p2 hgrid hb4 hq
    rintro q s ⟨k, V8, H8, dm, dx, dy, d, G, hs, hqk, hV8, kd, p1, p2, dnz, dq, hmem, hinv⟩
    obtain ⟨z, rfl⟩ := hs.out
    try dsimp only
    clear hs
    refine XWP.seq ?_
    by_cases hk : k < n
    rotate_left
    · obtain rfl : k = n := by omega
      have b2 : decide ((k : Int) < (k : Int)) = false := decide_eq_false (by omega)
      refine Gx.a (by kernel_rfl) fun K hK => ?_
      simp only [XA, XB, b2]
      refine hK _ ?_
      refine Gx.f rfl ?_
      refine XWP.exit ?_
      exact fun f => ⟨V8, H8, dm, dx, dy, d, G, StIs.of (by exact rfl), hV8, kd, p1, p2, dnz, dq, hmem, hinv⟩
    have b2 : decide ((k : Int) < (n : Int)) = true := decide_eq_true (by omega)
    refine Gx.a (by kernel_rfl) fun K hK => ?_
    simp only [XA, XB, b2]
    refine hK _ ?_
    refine Gx.t rfl ?_
    refine XWP.skip ?_
    refine XWP.cutD 2 (fun s => ∃ (V9 : View) (H9 : Heap) (dm : Bool) (dx dy : Value) (d : Rat) (G : Grid), StIs (fun Z => [.v (.slice (some ⟨g, 0, none⟩) n cap), .v (.int .i64 (n : Int)), Z 2,Z 3,Z 4, .p 0 0, .p 1 0, .v (.slice (some ⟨gw, 0, none⟩) n n), .v (.int .i64 ((k + 1 : Nat) : Int)), .v (.int .i64 (k : Int)), Z 10,Z 11,Z 12,Z 13,Z 14,Z 15,Z 16,Z 17,Z 18,Z 19,Z 20,Z 21,Z 22,Z 23,Z 24,Z 25,Z 26,Z 27,Z 28,Z 29,Z 30,Z 31,Z 32,Z 33,Z 34,Z 35,Z 36,Z 37,Z 38,Z 39,Z 40,Z 41,Z 42,Z 43,Z 44,Z 45,Z 46,Z 47,Z 48,Z 49,Z 50,Z 51,Z 52,Z 53,Z 54,Z 55,Z 56,Z 57,Z 58,Z 59,Z 60,Z 61,Z 62,Z 63,Z 64,Z 65,Z 66,Z 67,Z 68,Z 69,Z 70,Z 71,Z 72,Z 73,Z 74,Z 75,Z 76,Z 77,Z 78,Z 79,Z 80,Z 81,Z 82,Z 83,Z 84,Z 85,Z 86,Z 87,Z 88,Z 89,Z 90,Z 91,Z 92,Z 93,Z 94,Z 95,Z 96,Z 97,Z 98,Z 99,Z 100,Z 101,Z 102,Z 103,Z 104,Z 105,Z 106,Z 107,Z 108,Z 109,Z 110,Z 111,Z 112,Z 113,Z 114,Z 115,Z 116,Z 117,Z 118,Z 119,Z 120,Z 121,Z 122,Z 123,Z 124,Z 125,Z 126,Z 127,Z 128,Z 129,Z 130,Z 131,Z 132,Z 133,Z 134,Z 135,Z 136,Z 137,Z 138,Z 139,Z 140,Z 141,Z 142,Z 143,Z 144,Z 145,Z 146,Z 147,Z 148,Z 149,Z 150,Z 151,Z 152,Z 153,Z 154,Z 155,Z 156,Z 157,Z 158,Z 159,Z 160,Z 161,Z 162,Z 163,Z 164,Z 165,Z 166,Z 167,Z 168,Z 169,Z 170,Z 171,Z 172]) [[.bool false, .slice none 0 0, .slice none 0 0], [.bool dm, dx, dy]] H9 V9 s ∧ V8.le V9 ∧ RatC V9 (.agg #[.bool dm, dx, dy]) d ∧ isOne dx = true ∧ isOne dy = true ∧ d ≠ 0 ∧ QB ((k + 1) * ge B (n + 1) + 1) d ∧ CMem H9 V9 (.slice (some ⟨g, 0, none⟩) n cap) n gw b4 r4 G ∧ CInv G0 n B G (k + 1)) ?_ ?_
    rotate_left
    · clear kd p1 p2
      rintro s ⟨V9, H9, dm, dx, dy, d', G', hs, hV9, kd, p1, p2, dnz', dq', hmem', hinv'⟩
      obtain ⟨z, rfl⟩ := hs.out
      try dsimp only
      clear hs
      refine Gx.c (by kernel_rfl) fun K hK => ?_
      simp only [XA, XB, i64_succ k (by omega)]
      exact hK _ ⟨q - 1, by omega, fun f => ⟨k + 1, V9, H9, dm, dx, dy, d', G', StIs.of (by exact rfl), by omega, View.le_trans hV8 hV9, kd, p1, p2, dnz', dq', hmem', hinv'⟩⟩
    clear hK
    refine XWP.block ?_
    obtain ⟨cw, tot, hw1, hw2, hmem1⟩ := hmem.where k (-1)
    clear hmem
    refine Gx.a (by kernel_rfl) fun K hK => ?_
    simp only [XN, XA, XB]
    refine ⟨by omega, by omega, ?_⟩
    refine st_row shapeT_3 rfl rfl hw1 (by dsimp only; omega) ?_
    simp only [XA]
    refine hK _ ?_
    obtain ⟨H9, hH9⟩ : ∃ H9, H9 = upd H8 gw (some ⟨3, cw.set k (.int .i64 (-1)), tot⟩) := ⟨_, rfl⟩
    rw [← hH9] at hmem1
    rw [← hH9]
    clear hH9 hw1
    refine Gx.a (by kernel_rfl) fun K hK => ?_
    simp only [XA]
    refine hK _ ?_
    have hfk : ge B (k + 1) ≤ ge B (n + 1) := ge_mono B (by omega)
    have hfk2 : 4 * ge B k + 2 ≤ ge B (n + 1) := hfk
    have hqf : ∀ i j, i < n → j < n + 1 → QF (G i j) := fun i j hi hj => (hinv.qb i j hi hj).qf (by omega)
    refine XWP.cutD 2 (fun s => ∃ (p : Nat) (V9 : View), StIs (fun Z => [.v (.slice (some ⟨g, 0, none⟩) n cap), .v (.int .i64 (n : Int)), Z 2,Z 3,Z 4, .p 0 0, .p 1 0, .v (.slice (some ⟨gw, 0, none⟩) n n), .v (.int .i64 (k : Int)), .v (.int .i64 (k : Int)), .v (.int .i64 (p : Int)), Z 11,Z 12,Z 13,Z 14,Z 15,Z 16,Z 17,Z 18,Z 19,Z 20,Z 21,Z 22,Z 23,Z 24,Z 25,Z 26,Z 27,Z 28,Z 29,Z 30,Z 31,Z 32,Z 33,Z 34,Z 35,Z 36,Z 37,Z 38,Z 39,Z 40,Z 41,Z 42,Z 43,Z 44,Z 45,Z 46,Z 47,Z 48,Z 49,Z 50,Z 51,Z 52,Z 53,Z 54,Z 55,Z 56,Z 57,Z 58,Z 59,Z 60,Z 61,Z 62,Z 63,Z 64,Z 65,Z 66,Z 67,Z 68,Z 69,Z 70,Z 71,Z 72,Z 73,Z 74,Z 75,Z 76,Z 77,Z 78,Z 79,Z 80,Z 81,Z 82,Z 83,Z 84,Z 85,Z 86,Z 87,Z 88,Z 89,Z 90,Z 91,Z 92,Z 93,Z 94,Z 95,Z 96,Z 97,Z 98,Z 99,Z 100,Z 101,Z 102,Z 103,Z 104,Z 105,Z 106,Z 107,Z 108,Z 109,Z 110,Z 111,Z 112,Z 113,Z 114,Z 115,Z 116,Z 117,Z 118,Z 119,Z 120,Z 121,Z 122,Z 123,Z 124,Z 125,Z 126,Z 127,Z 128,Z 129,Z 130,Z 131,Z 132,Z 133,Z 134,Z 135,Z 136,Z 137,Z 138,Z 139,Z 140,Z 141,Z 142,Z 143,Z 144,Z 145,Z 146,Z 147,Z 148,Z 149,Z 150,Z 151,Z 152,Z 153,Z 154,Z 155,Z 156,Z 157,Z 158,Z 159,Z 160,Z 161,Z 162,Z 163,Z 164,Z 165,Z 166,Z 167,Z 168,Z 169,Z 170,Z 171,Z 172]) [[.bool false, .slice none 0 0, .slice none 0 0], [.bool dm, dx, dy]] H9 V9 s ∧ V8.le V9 ∧ k ≤ p ∧ p ≤ n ∧ (∀ i, k ≤ i → i < p → G i k = 0) ∧ (p < n → G p k ≠ 0)) ?_ ?_
    · --{
      refine XWP.block ?_
      refine XWP.loopD 2 (fun d s => ∃ (p : Nat) (V9 : View), StIs (fun Z => [.v (.slice (some ⟨g, 0, none⟩) n cap), .v (.int .i64 (n : Int)), Z 2,Z 3,Z 4, .p 0 0, .p 1 0, .v (.slice (some ⟨gw, 0, none⟩) n n), .v (.int .i64 (k : Int)), .v (.int .i64 (k : Int)), .v (.int .i64 (p : Int)), Z 11,Z 12,Z 13,Z 14,Z 15,Z 16,Z 17,Z 18,Z 19,Z 20,Z 21,Z 22,Z 23,Z 24,Z 25,Z 26,Z 27,Z 28,Z 29,Z 30,Z 31,Z 32,Z 33,Z 34,Z 35,Z 36,Z 37,Z 38,Z 39,Z 40,Z 41,Z 42,Z 43,Z 44,Z 45,Z 46,Z 47,Z 48,Z 49,Z 50,Z 51,Z 52,Z 53,Z 54,Z 55,Z 56,Z 57,Z 58,Z 59,Z 60,Z 61,Z 62,Z 63,Z 64,Z 65,Z 66,Z 67,Z 68,Z 69,Z 70,Z 71,Z 72,Z 73,Z 74,Z 75,Z 76,Z 77,Z 78,Z 79,Z 80,Z 81,Z 82,Z 83,Z 84,Z 85,Z 86,Z 87,Z 88,Z 89,Z 90,Z 91,Z 92,Z 93,Z 94,Z 95,Z 96,Z 97,Z 98,Z 99,Z 100,Z 101,Z 102,Z 103,Z 104,Z 105,Z 106,Z 107,Z 108,Z 109,Z 110,Z 111,Z 112,Z 113,Z 114,Z 115,Z 116,Z 117,Z 118,Z 119,Z 120,Z 121,Z 122,Z 123,Z 124,Z 125,Z 126,Z 127,Z 128,Z 129,Z 130,Z 131,Z 132,Z 133,Z 134,Z 135,Z 136,Z 137,Z 138,Z 139,Z 140,Z 141,Z 142,Z 143,Z 144,Z 145,Z 146,Z 147,Z 148,Z 149,Z 150,Z 151,Z 152,Z 153,Z 154,Z 155,Z 156,Z 157,Z 158,Z 159,Z 160,Z 161,Z 162,Z 163,Z 164,Z 165,Z 166,Z 167,Z 168,Z 169,Z 170,Z 171,Z 172]) [[.bool false, .slice none 0 0, .slice none 0 0], [.bool dm, dx, dy]] H9 V9 s ∧ V8.le V9 ∧ d + p = n ∧ k ≤ p ∧ (∀ i, k ≤ i → i < p → G i k = 0)) (n - k) ⟨k, V8, StIs.of (by exact rfl), View.le_refl _, by omega, Nat.le_refl _, fun i h1 h2 => by omega⟩ ?_
      rintro d2 s ⟨p, V9, hs, hV9, hd2, hp, hz⟩
      obtain ⟨z, rfl⟩ := hs.out
      try dsimp only
      clear hs
      refine XWP.seq ?_
      by_cases hpR : p < n
      rotate_left
      · have b3 : decide ((p : Int) < (n : Int)) = false := decide_eq_false (by omega)
        refine Gx.a (by kernel_rfl) fun K hK => ?_
        simp only [XN, XA, XB, gateX, ↓reduceIte, b3]
        refine hK _ ?_
        refine Gx.f rfl ?_
        refine XWP.exit ?_
        exact fun f => ⟨p, V9, StIs.of (by exact rfl), hV9, hp, by omega, hz, fun h => absurd h hpR⟩
      have b3 : decide ((p : Int) < (n : Int)) = true := decide_eq_true (by omega)
      obtain ⟨g', cap', b, c, cs, e6, hl1, hb, hcl, hc, hget, _⟩ := (hmem1.mono hV9).at hpR
      cases e6
      obtain ⟨x, y, w, hx, ⟨o1, o2, o3⟩, hl2⟩ := hget k (by omega)
      refine Gx.a (by kernel_rfl) fun K hK => ?_
      simp only [XN, XA, XB, gateX, ↓reduceIte, beq_self_eq_true, b3]
      refine ⟨by omega, by omega, ld_mem hl1 ?_⟩
      simp only [XA, XB, gateX, ↓reduceIte, beq_self_eq_true]
      refine ⟨by omega, by omega, ld_mem hl2 ?_⟩
      simp only [XA, gateX, ↓reduceIte, beq_self_eq_true]
      refine call_go (by kernel_rfl) rfl (psign_c _ _ _ (hx.toV (hqf p k hpR (by omega)))) fun v10 V10 hV10 h10 => ?_
      subst h10
      by_cases hz0 : G p k = 0
      · have b4' : decide (G p k = 0) = true := decide_eq_true hz0
        simp only [XA, XB, gateX, ↓reduceIte, beq_self_eq_true, sgI_zero, b4']
        refine hK _ ?_
        refine Gx.t rfl ?_
        refine XWP.skip ?_
        refine XWP.block ?_
        refine Gx.c (by kernel_rfl) fun K hK => ?_
        simp only [XA, XB, i64_succ p (by omega)]
        refine hK _ ⟨d2 - 1, by omega, fun f => ⟨p + 1, V10, StIs.of (by exact rfl), View.le_trans hV9 hV10, by omega, by omega, fun i h1 h2 => ?_⟩⟩
        by_cases e : i = p
        · rw [e]; exact hz0
        · exact hz i h1 (by omega)
      · have b4' : decide (G p k = 0) = false := decide_eq_false hz0
        simp only [XA, XB, gateX, ↓reduceIte, beq_self_eq_true, sgI_zero, b4']
        refine hK _ ?_
        refine Gx.f rfl ?_
        refine XWP.exit ?_
        exact fun f => ⟨p, V10, StIs.of (by exact rfl), View.le_trans hV9 hV10, hp, by omega, hz, fun _ => hz0⟩
      --}
    rintro s ⟨p, V9, hs, hV9, hp1, hp2, hz, hnz⟩
    obtain ⟨z, rfl⟩ := hs.out
    try dsimp only
    clear hs
    by_cases hpR : p < n
    rotate_left
    · exact (hinv.unit.pivot hu hk fun i a b => hz i a (by omega)).elim
    refine XWP.seq ?_
    have b3 : decide ((p : Int) = (n : Int)) = false := decide_eq_false (by omega)
    refine Gx.a (by kernel_rfl) fun K hK => ?_
    simp only [XN, XA, XB, b3]
    refine hK _ ?_
    refine Gx.f rfl ?_
    refine XWP.skip ?_
    have hnz := hnz hpR
    have hpiv := hinv.piv hk hp1 hpR hnz
    have hq2 : ∀ i j, i < n → j < n + 1 → QB (ge B k) (gsw G p k i j) := fun i j hi hj => hinv.qb _ j (swp_lt hpR (by omega) hi) hj
    have e0 : gsw G p k k k ≠ 0 := by
      have et : swp p k k = p := by unfold swp; split <;> (try split) <;> omega
      unfold gsw; rw [et]; exact hnz
    have hqk1 : (k + 1) * ge B (n + 1) = k * ge B (n + 1) + ge B (n + 1) := by rw [Nat.add_mul, Nat.one_mul]
    have hqk2 := hmulB (k + 1) (by omega)
    have dqf : QF d := dq.qf (by have : 1 ≤ ge B (n + 1) := by (simp only [ge]; omega)
                                 omega)
    refine XWP.cut (fun s => ∃ (V10 : View) (H10 : Heap) (dm : Bool) (dx dy : Value) (d' : Rat), StIs (fun Z => [.v (.slice (some ⟨g, 0, none⟩) n cap), .v (.int .i64 (n : Int)), Z 2,Z 3,Z 4, .p 0 0, .p 1 0, .v (.slice (some ⟨gw, 0, none⟩) n n), .v (.int .i64 (k : Int)), .v (.int .i64 (k : Int)), Z 10,Z 11,Z 12,Z 13,Z 14,Z 15,Z 16,Z 17,Z 18,Z 19,Z 20,Z 21,Z 22,Z 23,Z 24,Z 25,Z 26,Z 27,Z 28,Z 29,Z 30,Z 31,Z 32,Z 33,Z 34,Z 35,Z 36,Z 37,Z 38,Z 39,Z 40,Z 41,Z 42,Z 43,Z 44,Z 45,Z 46,Z 47,Z 48,Z 49,Z 50,Z 51,Z 52,Z 53,Z 54,Z 55,Z 56,Z 57,Z 58,Z 59,Z 60,Z 61,Z 62,Z 63,Z 64,Z 65,Z 66,Z 67,Z 68,Z 69,Z 70,Z 71,Z 72,Z 73,Z 74,Z 75,Z 76,Z 77,Z 78,Z 79,Z 80,Z 81,Z 82,Z 83,Z 84,Z 85,Z 86,Z 87,Z 88,Z 89,Z 90,Z 91,Z 92,Z 93,Z 94,Z 95,Z 96,Z 97,Z 98,Z 99,Z 100,Z 101,Z 102,Z 103,Z 104,Z 105,Z 106,Z 107,Z 108,Z 109,Z 110,Z 111,Z 112,Z 113,Z 114,Z 115,Z 116,Z 117,Z 118,Z 119,Z 120,Z 121,Z 122,Z 123,Z 124,Z 125,Z 126,Z 127,Z 128,Z 129,Z 130,Z 131,Z 132,Z 133,Z 134,Z 135,Z 136,Z 137,Z 138,Z 139,Z 140,Z 141,Z 142,Z 143,Z 144,Z 145,Z 146,Z 147,Z 148,Z 149,Z 150,Z 151,Z 152,Z 153,Z 154,Z 155,Z 156,Z 157,Z 158,Z 159,Z 160,Z 161,Z 162,Z 163,Z 164,Z 165,Z 166,Z 167,Z 168,Z 169,Z 170,Z 171,Z 172]) [[.bool false, .slice none 0 0, .slice none 0 0], [.bool dm, dx, dy]] H10 V10 s ∧ V8.le V10 ∧ RatC V10 (.agg #[.bool dm, dx, dy]) d' ∧ isOne dx = true ∧ isOne dy = true ∧ d' ≠ 0 ∧ QB (k * ge B (n + 1) + 1) d' ∧ CMem H10 V10 (.slice (some ⟨g, 0, none⟩) n cap) n gw b4 r4 (gsw G p k)) ?_ ?_
    · by_cases hpk : p = k
      · subst hpk
        refine Gx.a (by kernel_rfl) fun K hK => ?_
        simp only [XA, XB, decide_true]
        refine hK _ ?_
        refine Gx.f rfl ?_
        refine XWP.skip ?_
        exact ⟨V9, H9, dm, dx, dy, d, StIs.of (by exact rfl), hV9, kd.mono hV9, p1, p2, dnz, dq, by rw [gsw_self]; exact hmem1.mono hV9⟩
      have b5 : decide ((p : Int) = (k : Int)) = false := decide_eq_false (by omega)
      refine Gx.a (by kernel_rfl) fun K hK => ?_
      simp only [XA, XB, b5]
      refine hK _ ?_
      refine Gx.t rfl ?_
      have hmem2 := (hmem1.mono hV9).swap hpR hk
      clear hmem1
      obtain ⟨g', cap', cells, vp, vt, e6, hg, hcl, hlp, hlt, op, ot, hmem2⟩ := hmem2
      cases e6
      (refine XWP.drw [0, 1, 2, 3, 4, 5, 6, 7, 8, 9, 10, 11, 12, 13, 14, 15] (by kernel_rfl) (by kernel_rfl) (by kernel_rfl) fun K hK => ?_) <;> dsimp only [pickOps, List.getElem?_cons_zero, List.getElem?_cons_succ]
      simp only [XN, XA, XB]
      refine ⟨by omega, by omega, ld_mem hlt ?_⟩
      simp only [XN, XA, XB]
      refine ⟨by omega, by omega, ld_mem hlp ?_⟩
      simp only [XN, XA, XB]
      refine ⟨by omega, by omega, ?_⟩
      refine st_row shapeT_22 ot rfl hg (by dsimp only; omega) ?_
      simp only [XN, XA, XB]
      refine ⟨by omega, by omega, ?_⟩
      refine st_row shapeT_22 op rfl (upd_at _ _ _) (by simp only [List.length_set]; omega) ?_
      simp only [XA]
      refine hK _ ?_
      obtain ⟨H2, hH2⟩ : ∃ H2, H2 = upd (upd H9 g (some ⟨22, cells.set p vt, cap * 1⟩)) g (some ⟨22, (cells.set p vt).set k vp, cap * 1⟩) := ⟨_, rfl⟩
      rw [← hH2] at hmem2
      simp only [Nat.mul_one] at hH2
      rw [← hH2]
      clear hH2 hlp hlt op ot hg hcl hz
      refine Gx.c (by kernel_rfl) fun K hK => ?_
      simp only [XA, XB, Nat.reduceAdd, Nat.reduceLeDiff, ↓reduceIte]
      refine call_go (by kernel_rfl) rfl (pneg_c _ _ _ ((kd.mono hV9).toV dqf)) fun v10 V10 hV10 k10 => ?_
      obtain ⟨x10, y10, rfl, o1, o2⟩ := k10.form
      simp only [XA]
      refine st_rat rfl rfl rfl o1 o2 ?_
      simp only [XA]
      exact hK _ ⟨V10, H2, _, x10, y10, -d, StIs.of (by exact rfl), View.le_trans hV9 hV10, k10, o1, o2, fun e => dnz (by grind), QB_neg dq, hmem2.mono hV10⟩
    clear hmem1 kd p1 p2 dnz dq dqf
    rintro s ⟨V10, H10, dm, dx, dy, d', hs, hV10, kd, p1, p2, dnz, dq, hmem2⟩
    obtain ⟨z, rfl⟩ := hs.out
    try dsimp only
    clear hs
    generalize gsw G p k = G2 at *
    have dqf : QF d' := dq.qf (by have : 1 ≤ ge B (n + 1) := by (simp only [ge]; omega)
                                  omega)
    have hqf2 : ∀ i j, i < n → j < n + 1 → QF (G2 i j) := fun i j hi hj => (hq2 i j hi hj).qf (by omega)
    obtain ⟨g', cap', b, c, cs, e6, hl1, hb, hcl, hc, hget, _⟩ := hmem2.at hk
    cases e6
    obtain ⟨x, y, w, hx, ⟨o1, o2, o3⟩, hl2⟩ := hget k (by omega)
    refine Gx.a (by kernel_rfl) fun K hK => ?_
    simp only [XN, XA, XB]
    refine ⟨by omega, by omega, ld_mem hl1 ?_⟩
    simp only [XA, XB]
    refine ⟨by omega, by omega, ld_mem hl2 ?_⟩
    simp only [XA, XB, Nat.reduceAdd]
    refine st_rat rfl rfl o1 o2 o3 ?_
    simp only [XA]
    refine hK _ ?_
    refine Gx.a (by kernel_rfl) fun K hK => ?_
    simp only [XA, XB, Nat.reduceAdd, Nat.reduceLeDiff, ↓reduceIte]
    refine call_go (by kernel_rfl) rfl (pmul_c _ _ _ _ _ (kd.toV dqf) (hx.toV (hqf2 k k hk (by omega))) dqf (hqf2 k k hk (by omega))) fun v11 V11 hV11 k11 => ?_
    obtain ⟨x11, y11, rfl, s1, s2⟩ := k11.form
    simp only [XA]
    refine st_rat rfl rfl rfl s1 s2 ?_
    simp only [XA]
    refine hK _ ?_
    have dq3 : QB ((k + 1) * ge B (n + 1) + 1) (d' * G2 k k) := (dq.mul (hq2 k k hk (by omega))).mono (by omega)
    have dnz3 : d' * G2 k k ≠ 0 := fun e => by
      rcases Rat.mul_eq_zero.1 e with e | e
      · exact dnz e
      · exact e0 e
    have hmem2 := hmem2.mono hV11
    have hx := hx.mono hV11
    have hV11 := View.le_trans hV10 hV11
    generalize d' * G2 k k = d3 at *
    clear hl1 hb hcl hc hget hl2 kd p1 p2 dq dnz dqf hV10
    refine XWP.cutD 3 (fun s => ∃ (V12 : View) (H12 : Heap), StIs (fun Z => [.v (.slice (some ⟨g, 0, none⟩) n cap), .v (.int .i64 (n : Int)), Z 2,Z 3,Z 4, .p 0 0, .p 1 0, .v (.slice (some ⟨gw, 0, none⟩) n n), .v (.int .i64 (k : Int)), .v (.int .i64 (k : Int)), Z 10,Z 11,Z 12,Z 13,Z 14,Z 15,Z 16,Z 17,Z 18,Z 19,Z 20,Z 21,Z 22,Z 23,Z 24,Z 25,Z 26,Z 27,Z 28,Z 29,Z 30,Z 31,Z 32,Z 33,Z 34,Z 35,Z 36,Z 37,Z 38,Z 39,Z 40,Z 41,Z 42,Z 43,Z 44,Z 45,Z 46,Z 47,Z 48,Z 49,Z 50,Z 51,Z 52,Z 53,Z 54,Z 55,Z 56,Z 57,Z 58,Z 59,Z 60,Z 61,Z 62,Z 63,Z 64,Z 65,Z 66,Z 67,Z 68,Z 69,Z 70,Z 71,Z 72,Z 73,Z 74,Z 75,Z 76,Z 77,Z 78,Z 79,Z 80,Z 81,Z 82,Z 83,Z 84,Z 85,Z 86,Z 87,Z 88,Z 89,Z 90,Z 91,Z 92,Z 93,Z 94,Z 95,Z 96,Z 97,Z 98,Z 99,Z 100,Z 101,Z 102,Z 103,Z 104,Z 105,Z 106,Z 107,Z 108,Z 109,Z 110,Z 111,Z 112,Z 113,Z 114,Z 115,Z 116,Z 117,Z 118,Z 119,Z 120,Z 121,Z 122,Z 123,Z 124,Z 125,Z 126,Z 127,Z 128,Z 129,Z 130,Z 131,Z 132,Z 133,Z 134,Z 135,Z 136,Z 137,Z 138,Z 139,Z 140,Z 141,Z 142,Z 143,Z 144,Z 145,Z 146,Z 147,Z 148,Z 149,Z 150,Z 151,Z 152,Z 153,Z 154,Z 155,Z 156,Z 157,Z 158,Z 159,Z 160,Z 161,Z 162,Z 163,Z 164,Z 165,Z 166,Z 167,Z 168,Z 169,Z 170,Z 171,Z 172]) [[.bool false, .slice none 0 0, .slice none 0 0], [.bool (ng d3), x11, y11], [x, y, w]] H12 V12 s ∧ V11.le V12 ∧ CMem H12 V12 (.slice (some ⟨g, 0, none⟩) n cap) n gw b4 r4 (fun i c => if i = k then G2 k c / G2 k k else G2 i c)) ?_ ?_
    · --{
      obtain ⟨g', cap', b, c, cs, e6, hl1, hb, hcl, hc, hget, _⟩ := hmem2.at hk
      cases e6
      refine Gx.a (by kernel_rfl) fun K hK => ?_
      simp only [XN, XA, XB]
      refine ⟨by omega, by omega, ld_mem hl1 ?_⟩
      simp only [XA, XB]
      refine hK _ ?_
      clear hl1 hb hcl hc hget
      refine XWP.block ?_
      refine XWP.loopD 3 (fun d s => ∃ (j : Nat) (V12 : View) (H12 : Heap), StIs (fun Z => [.v (.slice (some ⟨g, 0, none⟩) n cap), .v (.int .i64 (n : Int)), Z 2,Z 3,Z 4, .p 0 0, .p 1 0, .v (.slice (some ⟨gw, 0, none⟩) n n), .v (.int .i64 (k : Int)), .v (.int .i64 (k : Int)), Z 10, .p 2 0, Z 12,Z 13,Z 14,Z 15,Z 16,Z 17,Z 18,Z 19,Z 20,Z 21,Z 22,Z 23,Z 24,Z 25,Z 26,Z 27,Z 28,Z 29,Z 30,Z 31,Z 32,Z 33,Z 34,Z 35,Z 36,Z 37,Z 38,Z 39,Z 40,Z 41,Z 42,Z 43,Z 44,Z 45,Z 46,Z 47,Z 48,Z 49,Z 50,Z 51,Z 52,Z 53,Z 54,Z 55,Z 56,Z 57,Z 58,Z 59,Z 60,Z 61,Z 62,Z 63,Z 64,Z 65,Z 66,Z 67,Z 68,Z 69,Z 70,Z 71,Z 72,Z 73,Z 74,Z 75,Z 76,Z 77,Z 78,Z 79,Z 80,Z 81,Z 82, .v (.int .i64 ((n + 1 : Nat) : Int)), .v (.int .i64 (j : Int)), Z 85,Z 86,Z 87,Z 88,Z 89,Z 90,Z 91,Z 92,Z 93,Z 94,Z 95,Z 96,Z 97,Z 98,Z 99,Z 100,Z 101,Z 102,Z 103,Z 104,Z 105,Z 106,Z 107,Z 108,Z 109,Z 110,Z 111,Z 112,Z 113,Z 114,Z 115,Z 116,Z 117,Z 118,Z 119,Z 120,Z 121,Z 122,Z 123,Z 124,Z 125,Z 126,Z 127,Z 128,Z 129,Z 130,Z 131,Z 132,Z 133,Z 134,Z 135,Z 136,Z 137,Z 138,Z 139,Z 140,Z 141,Z 142,Z 143,Z 144,Z 145,Z 146,Z 147,Z 148,Z 149,Z 150,Z 151,Z 152,Z 153,Z 154,Z 155,Z 156,Z 157,Z 158,Z 159,Z 160,Z 161,Z 162,Z 163,Z 164,Z 165,Z 166,Z 167,Z 168,Z 169,Z 170,Z 171,Z 172]) [[.bool false, .slice none 0 0, .slice none 0 0], [.bool (ng d3), x11, y11], [x, y, w]] H12 V12 s ∧ V11.le V12 ∧ d + j = n + 1 ∧ CMem H12 V12 (.slice (some ⟨g, 0, none⟩) n cap) n gw b4 r4 (fun i c => if i = k ∧ c < j then G2 k c / G2 k k else G2 i c)) (n + 1) ⟨0, V11, H10, StIs.of (by exact rfl), View.le_refl _, by omega, hmem2.congr fun i c _ _ => by rw [if_neg (by omega)]⟩ ?_
      rintro d2 s ⟨j, V12, H12, hs, hV12, hd2, hmem3⟩
      obtain ⟨z, rfl⟩ := hs.out
      try dsimp only
      clear hs
      by_cases hj : j < n + 1
      rotate_left
      · obtain rfl : j = n + 1 := by omega
        have b6 : decide (((n + 1 : Nat) : Int) < ((n + 1 : Nat) : Int)) = false := decide_eq_false (by omega)
        refine Gx.a (by kernel_rfl) fun K hK => ?_
        simp only [XA, XB, b6]
        refine hK _ ?_
        refine XWP.seq (Gx.f rfl ?_)
        refine XWP.exit ?_
        exact fun f => ⟨V12, H12, StIs.of (by exact rfl), hV12, hmem3.congr fun i c hi hc => by
          by_cases e : i = k
          · rw [if_pos ⟨e, hc⟩, if_pos e]
          · rw [if_neg (fun h => e h.1), if_neg e]⟩
      have b6 : decide ((j : Int) < ((n + 1 : Nat) : Int)) = true := decide_eq_true (by omega)
      refine Gx.a (by kernel_rfl) fun K hK => ?_
      simp only [XA, XB, b6]
      refine hK _ ?_
      refine XWP.seq (Gx.t rfl ?_)
      refine XWP.skip ?_
      refine XWP.seq ?_
      refine XWP.block ?_
      refine Gx.a (by kernel_rfl) fun K hK => ?_
      simp only [XA]
      refine hK _ ?_
      obtain ⟨g', cap', b, c, cs, e6, hl1, hb, hcl, hc, hget, hset⟩ := hmem3.at hk
      cases e6
      obtain ⟨x1, y1, w1, hx1, _, hl2⟩ := hget j hj
      rw [if_neg (by omega)] at hx1
      (refine XWP.drw1 [0, 1, 2, 3, 4, 5, 6, 7, 8, 9, 10, 11, 12, 13, 14, 15, 16, 17, 18] (by kernel_rfl) (by kernel_rfl) (by kernel_rfl) fun K hK => ?_) <;> dsimp only [pickOps, List.getElem?_cons_zero, List.getElem?_cons_succ]
      simp only [XN, XA, XB]
      refine ⟨by omega, by omega, ld_mem hl1 ?_⟩
      simp only [XN, XA, XB]
      refine ⟨by omega, by omega, ld_mem hl1 ?_⟩
      simp only [XA, XB]
      refine ⟨by omega, by omega, ld_mem hl2 ?_⟩
      simp only [XA, XB, Nat.reduceAdd, Nat.reduceLeDiff, ↓reduceIte]
      refine call_go (by kernel_rfl) rfl (pdiv_c _ _ _ _ _ (hx1.toV (hqf2 k j hk hj)) ((hx.mono hV12).toV (hqf2 k k hk (by omega))) (hqf2 k j hk hj) (hqf2 k k hk (by omega))) fun v13 V13 hV13 h13 => ?_
      obtain ⟨r, rfl, hr⟩ := h13.2 e0
      obtain ⟨x2, y2, rfl, o4, o5⟩ := hr.form
      simp only [XA, XB]
      refine ⟨by omega, by omega, ?_⟩
      refine st_rowA shapeT_49 (all3 rfl o4 o5) rfl hb (by dsimp only; omega) ?_
      simp only [XA]
      refine hK _ ?_
      refine Gx.c (by kernel_rfl) fun K hK => ?_
      simp only [XA, XB, i64_succ j (by omega)]
      have hmem4 := hset V13 j _ _ _ _ hj hV13 hr rfl o4 o5
      refine hK _ ⟨d2 - 1, by omega, fun f => ⟨j + 1, V13, _, StIs.of (by exact rfl), View.le_trans hV12 hV13, by omega, hmem4.congr fun i c _ _ => ?_⟩⟩
      by_cases e : i = k
      · subst e
        by_cases e2 : c = j
        · subst e2; rw [if_pos ⟨rfl, rfl⟩, if_pos ⟨rfl, by omega⟩]
        · rw [if_neg (fun h => e2 h.2)]
          by_cases e3 : c < j
          · rw [if_pos ⟨rfl, e3⟩, if_pos ⟨rfl, by omega⟩]
          · rw [if_neg (fun h => e3 h.2), if_neg (fun h => by omega)]
      · rw [if_neg (fun h => e h.1), if_neg (fun h => e h.1), if_neg (fun h => e h.1)]
      --}
    clear hmem2 hx
    rintro s ⟨V12, H12, hs, hV12, hmem3⟩
    obtain ⟨z, rfl⟩ := hs.out
    try dsimp only
    clear hs
    obtain ⟨G3, hG3⟩ : ∃ G3 : Grid, G3 = fun i c => if i = k then G2 k c / G2 k k else G2 i c := ⟨_, rfl⟩
    rw [← hG3] at hmem3
    have g3t : ∀ c, G3 k c = G2 k c / G2 k k := fun c => by rw [hG3]; simp
    have g3i : ∀ i c, i ≠ k → G3 i c = G2 i c := fun i c h => by rw [hG3]; simp [h]
    have gct : ∀ c, gcol G2 k k k c = G3 k c := fun c => by unfold gcol; rw [if_pos rfl, g3t]
    have gci : ∀ i c, i ≠ k → gcol G2 k k i c = G2 i c - G2 i k * (G2 k c / G2 k k) := fun i c h => by unfold gcol; rw [if_neg h]
    clear hG3
    refine XWP.cutD 3 (fun s => ∃ (V13 : View) (H13 : Heap), StIs (fun Z => [.v (.slice (some ⟨g, 0, none⟩) n cap), .v (.int .i64 (n : Int)), Z 2,Z 3,Z 4, .p 0 0, .p 1 0, .v (.slice (some ⟨gw, 0, none⟩) n n), .v (.int .i64 (k : Int)), .v (.int .i64 (k : Int)), Z 10,Z 11,Z 12,Z 13,Z 14,Z 15,Z 16,Z 17,Z 18,Z 19,Z 20,Z 21,Z 22,Z 23,Z 24,Z 25,Z 26,Z 27,Z 28,Z 29,Z 30,Z 31,Z 32,Z 33,Z 34,Z 35,Z 36,Z 37,Z 38,Z 39,Z 40,Z 41,Z 42,Z 43,Z 44,Z 45,Z 46,Z 47,Z 48,Z 49,Z 50,Z 51,Z 52,Z 53,Z 54,Z 55,Z 56,Z 57,Z 58,Z 59,Z 60,Z 61,Z 62,Z 63,Z 64,Z 65,Z 66,Z 67,Z 68,Z 69,Z 70,Z 71,Z 72,Z 73,Z 74,Z 75,Z 76,Z 77,Z 78,Z 79,Z 80,Z 81,Z 82,Z 83,Z 84,Z 85,Z 86,Z 87,Z 88,Z 89,Z 90,Z 91,Z 92,Z 93,Z 94,Z 95,Z 96,Z 97,Z 98,Z 99,Z 100,Z 101,Z 102,Z 103,Z 104,Z 105,Z 106,Z 107,Z 108,Z 109,Z 110,Z 111,Z 112,Z 113,Z 114,Z 115,Z 116,Z 117,Z 118,Z 119,Z 120,Z 121,Z 122,Z 123,Z 124,Z 125,Z 126,Z 127,Z 128,Z 129,Z 130,Z 131,Z 132,Z 133,Z 134,Z 135,Z 136,Z 137,Z 138,Z 139,Z 140,Z 141,Z 142,Z 143,Z 144,Z 145,Z 146,Z 147,Z 148,Z 149,Z 150,Z 151,Z 152,Z 153,Z 154,Z 155,Z 156,Z 157,Z 158,Z 159,Z 160,Z 161,Z 162,Z 163,Z 164,Z 165,Z 166,Z 167,Z 168,Z 169,Z 170,Z 171,Z 172]) [[.bool false, .slice none 0 0, .slice none 0 0], [.bool (ng d3), x11, y11], [x, y, w]] H13 V13 s ∧ V12.le V13 ∧ CMem H13 V13 (.slice (some ⟨g, 0, none⟩) n cap) n gw b4 r4 (gcol G2 k k)) ?_ ?_
    · --{
      refine Gx.a (by kernel_rfl) fun K hK => ?_
      simp only [XN, XA]
      refine hK _ ?_
      clear hK
      refine XWP.block ?_
      refine XWP.loopD 3 (fun d s => ∃ (i : Nat) (V13 : View) (H13 : Heap), StIs (fun Z => [.v (.slice (some ⟨g, 0, none⟩) n cap), .v (.int .i64 (n : Int)), Z 2,Z 3,Z 4, .p 0 0, .p 1 0, .v (.slice (some ⟨gw, 0, none⟩) n n), .v (.int .i64 (k : Int)), .v (.int .i64 (k : Int)), Z 10,Z 11,Z 12,Z 13,Z 14,Z 15,Z 16,Z 17,Z 18,Z 19,Z 20,Z 21,Z 22,Z 23,Z 24,Z 25,Z 26,Z 27,Z 28,Z 29,Z 30,Z 31,Z 32,Z 33,Z 34,Z 35,Z 36,Z 37,Z 38,Z 39,Z 40,Z 41,Z 42,Z 43,Z 44,Z 45,Z 46,Z 47,Z 48,Z 49,Z 50,Z 51,Z 52,Z 53,Z 54,Z 55,Z 56,Z 57,Z 58,Z 59,Z 60,Z 61,Z 62,Z 63,Z 64,Z 65,Z 66,Z 67,Z 68,Z 69,Z 70,Z 71,Z 72,Z 73,Z 74,Z 75,Z 76,Z 77,Z 78,Z 79,Z 80,Z 81,Z 82,Z 83,Z 84,Z 85,Z 86,Z 87,Z 88,Z 89,Z 90,Z 91,Z 92,Z 93,Z 94,Z 95,Z 96,Z 97,Z 98,Z 99,Z 100,Z 101,Z 102,Z 103,Z 104,Z 105,Z 106, .v (.int .i64 (n : Int)), .v (.int .i64 (i : Int)), Z 109,Z 110,Z 111,Z 112,Z 113,Z 114,Z 115,Z 116,Z 117,Z 118,Z 119,Z 120,Z 121,Z 122,Z 123,Z 124,Z 125,Z 126,Z 127,Z 128,Z 129,Z 130,Z 131,Z 132,Z 133,Z 134,Z 135,Z 136,Z 137,Z 138,Z 139,Z 140,Z 141,Z 142,Z 143,Z 144,Z 145,Z 146,Z 147,Z 148,Z 149,Z 150,Z 151,Z 152,Z 153,Z 154,Z 155,Z 156,Z 157,Z 158,Z 159,Z 160,Z 161,Z 162,Z 163,Z 164,Z 165,Z 166,Z 167,Z 168,Z 169,Z 170,Z 171,Z 172]) [[.bool false, .slice none 0 0, .slice none 0 0], [.bool (ng d3), x11, y11], [x, y, w]] H13 V13 s ∧ V12.le V13 ∧ d + i = n ∧ CMem H13 V13 (.slice (some ⟨g, 0, none⟩) n cap) n gw b4 r4 (fun i' c => if i' < i then gcol G2 k k i' c else G3 i' c)) n ⟨0, V12, H12, StIs.of (by exact rfl), View.le_refl _, by omega, hmem3.congr fun i c _ _ => by rw [if_neg (by omega)]⟩ ?_
      rintro d2 s ⟨i, V13, H13, hs, hV13, hd2, hmem4⟩
      obtain ⟨z, rfl⟩ := hs.out
      try dsimp only
      clear hs
      by_cases hi : i < n
      rotate_left
      · obtain rfl : i = n := by omega
        have b6 : decide ((i : Int) < (i : Int)) = false := decide_eq_false (by omega)
        refine Gx.a (by kernel_rfl) fun K hK => ?_
        simp only [XA, XB, b6]
        refine hK _ ?_
        refine XWP.seq (Gx.f rfl ?_)
        refine XWP.exit ?_
        exact fun f => ⟨V13, H13, StIs.of (by exact rfl), hV13, hmem4.congr fun i' c h1 h2 => by rw [if_pos h1]⟩
      have b6 : decide ((i : Int) < (n : Int)) = true := decide_eq_true (by omega)
      refine Gx.a (by kernel_rfl) fun K hK => ?_
      simp only [XA, XB, b6]
      refine hK _ ?_
      refine XWP.seq (Gx.t rfl ?_)
      refine XWP.skip ?_
      refine XWP.cutD 3 (fun s => ∃ (V14 : View) (H14 : Heap), StIs (fun Z => [.v (.slice (some ⟨g, 0, none⟩) n cap), .v (.int .i64 (n : Int)), Z 2,Z 3,Z 4, .p 0 0, .p 1 0, .v (.slice (some ⟨gw, 0, none⟩) n n), .v (.int .i64 (k : Int)), .v (.int .i64 (k : Int)), Z 10,Z 11,Z 12,Z 13,Z 14,Z 15,Z 16,Z 17,Z 18,Z 19,Z 20,Z 21,Z 22,Z 23,Z 24,Z 25,Z 26,Z 27,Z 28,Z 29,Z 30,Z 31,Z 32,Z 33,Z 34,Z 35,Z 36,Z 37,Z 38,Z 39,Z 40,Z 41,Z 42,Z 43,Z 44,Z 45,Z 46,Z 47,Z 48,Z 49,Z 50,Z 51,Z 52,Z 53,Z 54,Z 55,Z 56,Z 57,Z 58,Z 59,Z 60,Z 61,Z 62,Z 63,Z 64,Z 65,Z 66,Z 67,Z 68,Z 69,Z 70,Z 71,Z 72,Z 73,Z 74,Z 75,Z 76,Z 77,Z 78,Z 79,Z 80,Z 81,Z 82,Z 83,Z 84,Z 85,Z 86,Z 87,Z 88,Z 89,Z 90,Z 91,Z 92,Z 93,Z 94,Z 95,Z 96,Z 97,Z 98,Z 99,Z 100,Z 101,Z 102,Z 103,Z 104,Z 105,Z 106, .v (.int .i64 (n : Int)), .v (.int .i64 (i : Int)), Z 109,Z 110,Z 111,Z 112,Z 113,Z 114,Z 115,Z 116,Z 117,Z 118,Z 119,Z 120,Z 121,Z 122,Z 123,Z 124,Z 125,Z 126,Z 127,Z 128,Z 129,Z 130,Z 131,Z 132,Z 133,Z 134,Z 135,Z 136,Z 137,Z 138,Z 139,Z 140,Z 141,Z 142,Z 143,Z 144,Z 145,Z 146,Z 147,Z 148,Z 149,Z 150,Z 151,Z 152,Z 153,Z 154,Z 155,Z 156,Z 157,Z 158,Z 159,Z 160,Z 161,Z 162,Z 163,Z 164,Z 165,Z 166,Z 167,Z 168,Z 169,Z 170,Z 171,Z 172]) [[.bool false, .slice none 0 0, .slice none 0 0], [.bool (ng d3), x11, y11], [x, y, w]] H14 V14 s ∧ V13.le V14 ∧ CMem H14 V14 (.slice (some ⟨g, 0, none⟩) n cap) n gw b4 r4 (fun i' c => if i' < i + 1 then gcol G2 k k i' c else G3 i' c)) ?_ ?_
      rotate_left
      · rintro s ⟨V14, H14, hs, hV14, hmem5⟩
        obtain ⟨z, rfl⟩ := hs.out
        try dsimp only
        clear hs
        refine Gx.c (by kernel_rfl) fun K hK => ?_
        simp only [XA, XB, i64_succ i (by omega)]
        exact hK _ ⟨d2 - 1, by omega, fun f => ⟨i + 1, V14, H14, StIs.of (by exact rfl), View.le_trans hV13 hV14, by omega, hmem5⟩⟩
      clear hK
      refine XWP.block ?_
      refine Gx.a (by kernel_rfl) fun K hK => ?_
      simp only [XA]
      refine hK _ ?_
      have hskip : (∀ c, gcol G2 k k i c = G3 i c) → ∀ V14, V13.le V14 → CMem H13 V14 (.slice (some ⟨g, 0, none⟩) n cap) n gw b4 r4 (fun i' c => if i' < i + 1 then gcol G2 k k i' c else G3 i' c) := fun h V14 hV => (hmem4.mono hV).congr fun i' c _ _ => by
        by_cases e : i' = i
        · rw [e, if_neg (by omega), if_pos (by omega), h]
        · by_cases e2 : i' < i
          · rw [if_pos e2, if_pos (by omega)]
          · rw [if_neg e2, if_neg (by omega)]
      refine XWP.seq ?_
      by_cases hit : i = k
      · subst hit
        refine Gx.a (by kernel_rfl) fun K hK => ?_
        simp only [XA, XB, gateX, ↓reduceIte, decide_true]
        refine hK _ ?_
        refine Gx.t rfl ?_
        refine XWP.exit ?_
        exact fun f => ⟨V13, H13, StIs.of (by exact rfl), View.le_refl _, hskip gct V13 (View.le_refl _)⟩
      have b5 : decide ((i : Int) = (k : Int)) = false := decide_eq_false (by omega)
      obtain ⟨g', cap', b, c, cs, e6, hl1, hb, hcl, hc, hget, _⟩ := hmem4.at hi
      cases e6
      obtain ⟨x3, y3, w3, hx3, ⟨o1, o2, o3⟩, hl2⟩ := hget k (by omega)
      rw [if_neg (by omega), g3i i k hit] at hx3
      refine Gx.a (by kernel_rfl) fun K hK => ?_
      simp only [XN, XA, XB, gateX, ↓reduceIte, beq_self_eq_true, b5]
      refine ⟨by omega, by omega, ld_mem hl1 ?_⟩
      simp only [XA, XB, gateX, ↓reduceIte, beq_self_eq_true]
      refine ⟨by omega, by omega, ld_mem hl2 ?_⟩
      simp only [XA, gateX, ↓reduceIte, beq_self_eq_true]
      refine call_go (by kernel_rfl) rfl (psign_c _ _ _ (hx3.toV (hqf2 i k hi (by omega)))) fun v14 V14 hV14 h14 => ?_
      subst h14
      by_cases hz0 : G2 i k = 0
      · have b7 : decide (G2 i k = 0) = true := decide_eq_true hz0
        simp only [XA, XB, gateX, ↓reduceIte, beq_self_eq_true, sgI_zero, b7]
        refine hK _ ?_
        refine Gx.t rfl ?_
        refine XWP.exit ?_
        exact fun f => ⟨V14, H13, StIs.of (by exact rfl), hV14, hskip (fun c => by rw [gci i c hit, g3i i c hit, hz0]; grind) V14 hV14⟩
      have b7 : decide (G2 i k = 0) = false := decide_eq_false hz0
      simp only [XA, XB, gateX, ↓reduceIte, beq_self_eq_true, sgI_zero, b7]
      refine hK _ ?_
      refine Gx.f rfl ?_
      refine XWP.skip ?_
      clear hl1 hl2 hskip
      obtain ⟨g', cap', b, c, cs, e6, hl1, hb, hcl, hc, hget, _⟩ := (hmem4.mono hV14).at hi
      cases e6
      obtain ⟨x3, y3, w3, hx3, ⟨o1, o2, o3⟩, hl2⟩ := hget k (by omega)
      rw [if_neg (by omega), g3i i k hit] at hx3
      refine Gx.a (by kernel_rfl) fun K hK => ?_
      simp only [XN, XA, XB]
      refine ⟨by omega, by omega, ld_mem hl1 ?_⟩
      simp only [XA, XB]
      refine ⟨by omega, by omega, ld_mem hl2 ?_⟩
      simp only [XA, XB, Nat.reduceAdd]
      refine st_rat rfl rfl o1 o2 o3 ?_
      simp only [XA]
      refine hK _ ?_
      refine Gx.a (by kernel_rfl) fun K hK => ?_
      simp only [XN, XA, XB]
      refine ⟨by omega, by omega, ld_mem hl1 ?_⟩
      simp only [XA, XB]
      refine hK _ ?_
      clear hl1 hb hcl hc hget hl2
      refine XWP.block ?_
      refine XWP.loopD 4 (fun d s => ∃ (j : Nat) (V15 : View) (H15 : Heap), StIs (fun Z => [.v (.slice (some ⟨g, 0, none⟩) n cap), .v (.int .i64 (n : Int)), Z 2,Z 3,Z 4, .p 0 0, .p 1 0, .v (.slice (some ⟨gw, 0, none⟩) n n), .v (.int .i64 (k : Int)), .v (.int .i64 (k : Int)), Z 10,Z 11,Z 12, .v (.int .i64 (i : Int)), .p 3 0, Z 15,Z 16,Z 17,Z 18,Z 19,Z 20,Z 21,Z 22,Z 23,Z 24,Z 25,Z 26,Z 27,Z 28,Z 29,Z 30,Z 31,Z 32,Z 33,Z 34,Z 35,Z 36,Z 37,Z 38,Z 39,Z 40,Z 41,Z 42,Z 43,Z 44,Z 45,Z 46,Z 47,Z 48,Z 49,Z 50,Z 51,Z 52,Z 53,Z 54,Z 55,Z 56,Z 57,Z 58,Z 59,Z 60,Z 61,Z 62,Z 63,Z 64,Z 65,Z 66,Z 67,Z 68,Z 69,Z 70,Z 71,Z 72,Z 73,Z 74,Z 75,Z 76,Z 77,Z 78,Z 79,Z 80,Z 81,Z 82,Z 83,Z 84,Z 85,Z 86,Z 87,Z 88,Z 89,Z 90,Z 91,Z 92,Z 93,Z 94,Z 95,Z 96,Z 97,Z 98,Z 99,Z 100,Z 101,Z 102,Z 103,Z 104,Z 105,Z 106, .v (.int .i64 (n : Int)), .v (.int .i64 (i : Int)), Z 109,Z 110,Z 111,Z 112,Z 113,Z 114,Z 115,Z 116,Z 117,Z 118,Z 119,Z 120,Z 121,Z 122,Z 123,Z 124,Z 125,Z 126,Z 127,Z 128,Z 129,Z 130,Z 131,Z 132,Z 133,Z 134,Z 135, .v (.int .i64 ((n + 1 : Nat) : Int)), .v (.int .i64 (j : Int)), Z 138,Z 139,Z 140,Z 141,Z 142,Z 143,Z 144,Z 145,Z 146,Z 147,Z 148,Z 149,Z 150,Z 151,Z 152,Z 153,Z 154,Z 155,Z 156,Z 157,Z 158,Z 159,Z 160,Z 161,Z 162,Z 163,Z 164,Z 165,Z 166,Z 167,Z 168,Z 169,Z 170,Z 171,Z 172]) [[.bool false, .slice none 0 0, .slice none 0 0], [.bool (ng d3), x11, y11], [x, y, w], [x3, y3, w3]] H15 V15 s ∧ V14.le V15 ∧ d + j = n + 1 ∧ CMem H15 V15 (.slice (some ⟨g, 0, none⟩) n cap) n gw b4 r4 (fun i' c => if i' < i ∨ (i' = i ∧ c < j) then gcol G2 k k i' c else G3 i' c)) (n + 1) ⟨0, V14, H13, StIs.of (by exact rfl), View.le_refl _, by omega, (hmem4.mono hV14).congr fun i' c _ _ => by
        by_cases e2 : i' < i
        · rw [if_pos e2, if_pos (.inl e2)]
        · rw [if_neg e2, if_neg (fun h => by omega)]⟩ ?_
      clear hmem4
      rintro d3' s ⟨j, V15, H15, hs, hV15, hd3, hmem5⟩
      obtain ⟨z, rfl⟩ := hs.out
      try dsimp only
      clear hs
      by_cases hj : j < n + 1
      rotate_left
      · obtain rfl : j = n + 1 := by omega
        have b8 : decide (((n + 1 : Nat) : Int) < ((n + 1 : Nat) : Int)) = false := decide_eq_false (by omega)
        refine Gx.a (by kernel_rfl) fun K hK => ?_
        simp only [XA, XB, b8]
        refine hK _ ?_
        refine XWP.seq (Gx.f rfl ?_)
        refine XWP.exit ?_
        exact fun f => ⟨V15, H15, StIs.of (by exact rfl), View.le_trans hV14 hV15, hmem5.congr fun i' c h1 h2 => by
          by_cases e2 : i' < i + 1
          · rw [if_pos e2, if_pos (by omega)]
          · rw [if_neg e2, if_neg (fun h => by omega)]⟩
      have b8 : decide ((j : Int) < ((n + 1 : Nat) : Int)) = true := decide_eq_true (by omega)
      refine Gx.a (by kernel_rfl) fun K hK => ?_
      simp only [XA, XB, b8]
      refine hK _ ?_
      refine XWP.seq (Gx.t rfl ?_)
      refine XWP.skip ?_
      refine XWP.seq ?_
      refine XWP.block ?_
      refine Gx.a (by kernel_rfl) fun K hK => ?_
      simp only [XA]
      refine hK _ ?_
      obtain ⟨g', cap', b, c, cs, e6, hl1, hb, hcl, hc, hget, hset⟩ := hmem5.at hi
      cases e6
      obtain ⟨x4, y4, w4, hx4, _, hl2⟩ := hget j hj
      rw [if_neg (by omega), g3i i j hit] at hx4
      obtain ⟨g', cap', b', c', cs', e6, hl1', hb', hcl', hc', hget', _⟩ := hmem5.at hk
      cases e6
      obtain ⟨x2, y2, w2, hx2, _, hl2'⟩ := hget' j hj
      have et : (if k < i ∨ (k = i ∧ j < j) then gcol G2 k k k j else G3 k j) = G2 k j / G2 k k := by
        split
        · rw [gct, g3t]
        · exact g3t j
      rw [et] at hx2
      have qq : QB (2 * ge B k) (G2 k j / G2 k k) := ((hq2 k j hk hj).div (hq2 k k hk (by omega))).mono (by omega)
      have qm : QB (3 * ge B k) (G2 i k * (G2 k j / G2 k k)) := ((hq2 i k hi (by omega)).mul qq).mono (by omega)
      (refine XWP.drw1 [0, 1, 2, 3, 4, 5, 6, 7, 8, 9, 10, 11, 12, 13, 14, 15, 16, 17, 18, 19, 20, 21, 22, 23] (by kernel_rfl) (by kernel_rfl) (by kernel_rfl) fun K hK => ?_) <;> dsimp only [pickOps, List.getElem?_cons_zero, List.getElem?_cons_succ]
      simp only [XN, XA, XB]
      refine ⟨by omega, by omega, ld_mem hl1 ?_⟩
      simp only [XN, XA, XB]
      refine ⟨by omega, by omega, ld_mem hl1 ?_⟩
      simp only [XA, XB]
      refine ⟨by omega, by omega, ld_mem hl2 ?_⟩
      simp only [XN, XA, XB, Nat.reduceAdd, Nat.reduceLeDiff, ↓reduceIte]
      refine ⟨by omega, by omega, ld_mem hl1' ?_⟩
      simp only [XA, XB]
      refine ⟨by omega, by omega, ld_mem hl2' ?_⟩
      simp only [XA]
      refine call_go (by kernel_rfl) rfl (pmul_c _ _ _ _ _ ((hx3.mono hV15).toV (hqf2 i k hi (by omega))) (hx2.toV (qq.qf (by omega))) (hqf2 i k hi (by omega)) (qq.qf (by omega))) fun v16 V16 hV16 h16 => ?_
      simp only [XA]
      refine call_go (by kernel_rfl) rfl (psub_c _ _ _ _ _ ((hx4.mono hV16).toV (hqf2 i j hi hj)) (h16.toV (qm.qf (by omega))) (hqf2 i j hi hj) (qm.qf (by omega))) fun v17 V17 hV17 h17 => ?_
      obtain ⟨x5, y5, rfl, o4, o5⟩ := h17.form
      simp only [XA, XB]
      refine ⟨by omega, by omega, ?_⟩
      refine st_rowA shapeT_49 (all3 rfl o4 o5) rfl hb (by dsimp only; omega) ?_
      simp only [XA]
      refine hK _ ?_
      refine Gx.c (by kernel_rfl) fun K hK => ?_
      simp only [XA, XB, i64_succ j (by omega)]
      have hmem6 := hset V17 j _ _ _ _ hj (View.le_trans hV16 hV17) h17 rfl o4 o5
      refine hK _ ⟨d3' - 1, by omega, fun f => ⟨j + 1, V17, _, StIs.of (by exact rfl), View.le_trans hV15 (View.le_trans hV16 hV17), by omega, hmem6.congr fun i' c _ _ => ?_⟩⟩
      by_cases e : i' = i
      · subst e
        by_cases e2 : c = j
        · subst e2; rw [if_pos ⟨rfl, rfl⟩, if_pos (.inr ⟨rfl, by omega⟩), gci _ _ hit]
        · rw [if_neg (fun h => e2 h.2)]
          by_cases e3 : c < j
          · rw [if_pos (.inr ⟨rfl, e3⟩), if_pos (.inr ⟨rfl, by omega⟩)]
          · rw [if_neg (fun h => by omega), if_neg (fun h => by omega)]
      · rw [if_neg (fun h => e h.1)]
        by_cases e2 : i' < i
        · rw [if_pos (.inl e2), if_pos (.inl e2)]
        · rw [if_neg (fun h => by omega), if_neg (fun h => by omega)]
      --}
    clear hmem3
    rintro s ⟨V13, H13, hs, hV13, hmem4⟩
    obtain ⟨z, rfl⟩ := hs.out
    try dsimp only
    clear hs
    obtain ⟨cw2, tot2, hw3, hw4, hmem5⟩ := hmem4.where k (k : Int)
    have hle13 := View.le_trans hV12 hV13
    refine Gx.a (by kernel_rfl) fun K hK => ?_
    simp only [XN, XA, XB]
    refine ⟨by omega, by omega, ?_⟩
    refine st_row shapeT_3 rfl rfl hw3 (by dsimp only; omega) ?_
    simp only [XA]
    refine hK _ ?_
    refine Gx.c (by kernel_rfl) fun K hK => ?_
    simp only [XA, XB, i64_succ k (by omega)]
    exact hK _ fun f => ⟨V13, _, _, x11, y11, d3, _, StIs.of (by exact rfl), View.le_trans hV11 hle13, k11.mono hle13, s1, s2, dnz3, dq3, hmem5, hpiv⟩
    --}
  clear hmem0 hinv0 k1 p1 p2
  rintro s ⟨V8, H8, dm, dx, dy, d, G, hs, hV8, kd, p1, p2, dnz, dq, hmem, hinv⟩
  obtain ⟨z, rfl⟩ := hs.out
  try dsimp only
  clear hs
  have dqf : QF d := dq.qf (by have h := hmulB (n + 1) (by omega); have : 1 ≤ ge B (n + 1) := by (simp only [ge]; omega)
                               have : (n + 1) * ge B (n + 1) = n * ge B (n + 1) + ge B (n + 1) := by rw [Nat.add_mul, Nat.one_mul]
                               omega)
  (refine XWP.drw [0, 1, 2, 3] (by kernel_rfl) (by kernel_rfl) (by kernel_rfl) fun K hK => ?_) <;> dsimp only [pickOps, List.getElem?_cons_zero, List.getElem?_cons_succ]
  simp only [XA, XB, Nat.reduceAdd, Nat.reduceLeDiff, ↓reduceIte]
  refine st_rat rfl rfl rfl p1 p2 ?_
  simp only [XA]
  refine hK _ (XWP.ret ?_)
  try simp only [thenX_ret, inBlockX_ret]
  exact retM_go _ (by simp [resAll, resV, cellsV, shapeT_49]; rfl) ⟨hV8, hmem.at4, _, dm, dx, dy, d, G, rfl, rfl, p1, p2, kd, dnz, dqf, hmem.grid, hinv⟩
end Go.Proofs.YtkgmicakfmllmaaGreat
end
section
namespace Go.Proofs.YtkgmicakfmllmaaGreat
open Go Go.RowKit
set_option linter.unusedSimpArgs false
set_option linter.unusedVariables false
attribute [local irreducible] XWP Spec SpecO XPub XCall seqX clX apX stX ldX iaX slX
theorem mk_last (n : Nat) (f : Nat → Rat) : (mk (n + 1) f).drop n = [f n] := by
  rw [mk_succ, List.drop_append_of_le_length (by rw [mk_len]; exact Nat.le_refl _), List.drop_eq_nil_of_le (by rw [mk_len]; exact Nat.le_refl _), List.nil_append]
set_option maxHeartbeats 8000000 in
theorem dSolve_c (V : View) (sa sb : Value) (n B : Nat) (la lb : List Rat) (ha : Rats V sa la) (hb : Rats V sb lb) (lla : la.length = n * n) (llb : lb.length = n) (h1 : 1 ≤ n) (hn : n ≤ 60) (hqa : ∀ x ∈ la, QB B x) (hqb : ∀ x ∈ lb, QB B x) (hu : UniG (gridL la n) n n) (hfit : (n + 1) * ge B (n + 1) ≤ 17592186044416) :
    Spec Tryz.prog 123 [.agg #[.int .i64 (n : Int), .int .i64 (n : Int), sa], .agg #[.int .i64 (n : Int), .int .i64 1, sb]] V fun v' V' => ∃ w X, v' = .tuple #[.agg #[.int .i64 (n : Int), .int .i64 1, w], .int .i64 0] ∧ Rats V' w (mk n X) ∧ LinG (gridL la n) n n (cf lb) X ∧ ∀ i, i < n → QB (ge B n) (X i) := by
  obtain ⟨A1, c1, rfl, hc1, hm1⟩ := ha.form
  obtain ⟨A2, c2, rfl, hc2, hm2⟩ := hb.form
  have hgeB : ge B (n + 1) ≤ 17592186044416 := Nat.le_trans (Nat.le_mul_of_pos_left _ (by omega)) hfit
  have hB0 : B ≤ 17592186044416 := Nat.le_trans (ge_le B _) hgeB
  have hnn : n * n ≤ 3600 := Nat.le_trans (Nat.mul_le_mul hn hn) (by decide)
  have qfa : ∀ x ∈ la, QF x := fun x hx => (hqa x hx).qf hB0
  have qfb : ∀ x ∈ lb, QF x := fun x hx => (hqb x hx).qf hB0
  obtain ⟨G0, hG0⟩ : ∃ G0, G0 = augG (gridL la n) (gridL lb 1) n := ⟨_, rfl⟩
  have hqG : ∀ i k, i < n → k < n + 1 → QB B (G0 i k) := fun i k hi hk => by
    rw [hG0]
    unfold augG
    split
    · exact hqa _ (cf_mem (by rw [lla]; exact pos_lt hi (by assumption)))
    · exact hqb _ (cf_mem (by omega))
  have eA : ∀ i j, i < n → j < n → gridL la n i j = G0 i j := fun i j _ hj => by rw [hG0]; unfold augG; rw [if_pos hj]
  have eB : ∀ i, mk (n + 1) (G0 i) = mk n (G0 i) ++ mk 1 (gridL lb 1 i) := fun i => by
    have e2 : G0 i n = gridL lb 1 i 0 := by rw [hG0]; unfold augG; rw [if_neg (by omega), Nat.sub_self]
    have e3 : mk 1 (gridL lb 1 i) = [gridL lb 1 i 0] := rfl
    rw [mk_succ, e2, e3]
  have huG : UniG G0 n n := by rw [hG0]; exact aug_ker.2 hu
  refine (Spec.enterR Tryz.func123 rfl fun Γ hΓ => ?_)
  simp only [Tryz.ntmps123, List.map_cons, List.map_nil, List.length_cons, List.length_nil, Nat.reduceAdd, Nat.reduceSub, List.replicate_succ, List.replicate_zero, List.cons_append, List.nil_append]
  refine Gx.a (by kernel_rfl) fun K hK => ?_
  simp only [XM, XA, Nat.reduceAdd]
  refine hK _ ?_
  refine XWP.cut (fun s => ∃ V2, StIs (fun Z => [Z 0,Z 1, .p 0 0, .p 1 0, .p 2 0, Z 5,Z 6,Z 7,Z 8,Z 9,Z 10,Z 11,Z 12,Z 13,Z 14,Z 15,Z 16,Z 17,Z 18,Z 19,Z 20,Z 21,Z 22,Z 23,Z 24,Z 25,Z 26,Z 27,Z 28,Z 29,Z 30,Z 31,Z 32,Z 33,Z 34,Z 35,Z 36,Z 37,Z 38,Z 39,Z 40,Z 41,Z 42,Z 43,Z 44,Z 45,Z 46,Z 47,Z 48,Z 49,Z 50,Z 51,Z 52,Z 53,Z 54,Z 55,Z 56,Z 57,Z 58,Z 59,Z 60,Z 61,Z 62,Z 63,Z 64,Z 65,Z 66,Z 67,Z 68,Z 69,Z 70,Z 71,Z 72,Z 73,Z 74,Z 75,Z 76,Z 77,Z 78,Z 79,Z 80,Z 81,Z 82,Z 83,Z 84,Z 85,Z 86,Z 87,Z 88,Z 89]) [[.int .i64 (n : Int), .int .i64 (n : Int), .slice A1 la.length c1], [.int .i64 (n : Int), .int .i64 1, .slice A2 lb.length c2], [.int .i64 0, .int .i64 0, .slice none 0 0]] (fun _ => none) V2 s ∧ V.le V2) ?_ ?_
  · refine XWP.block ?_
    refine Gx.a (by kernel_rfl) fun K hK => ?_
    simp only [XM, XA, Nat.reduceAdd, Nat.reduceLeDiff, ↓reduceIte]
    refine call_go (by kernel_rfl) rfl (dmright_c _ _ _ _ (la.map toRaw) (Rats.raws ha) (fitR_toRaw qfa) (by rw [List.length_map]; omega)) fun v1 V1 hV1 k1 => ?_
    rw [matR_rats lla hn hn] at k1
    subst k1
    simp only [XM, XA, gateX, Nat.reduceAdd, Nat.reduceLeDiff, ↓reduceIte, beq_self_eq_true]
    refine call_go (by kernel_rfl) rfl (dmright_c _ _ _ _ (lb.map toRaw) (Rats.raws (hb.up hV1)) (fitR_toRaw qfb) (by rw [List.length_map]; omega)) fun v2 V2 hV2 k2 => ?_
    have e2 : matR (n : Int) 1 (lb.map toRaw) = true := matR_rats (n := n) (m := 1) (by omega) hn (by omega)
    rw [e2] at k2
    subst k2
    have bnn : decide ((n : Int) = (n : Int)) = true := decide_eq_true rfl
    simp only [XA, gateX, ↓reduceIte, beq_self_eq_true]
    refine hK _ ?_
    refine Gx.f rfl ?_
    refine Gx.a (by kernel_rfl) fun K hK => ?_
    simp only [XM, XA, XB, gateX, ↓reduceIte, beq_self_eq_true, decide_true]
    refine hK _ ?_
    refine Gx.f rfl ?_
    refine XWP.skip ?_
    exact ⟨V2, StIs.of (by exact rfl), View.le_trans hV1 hV2⟩
  rintro s ⟨V2, hs, hV2⟩
  obtain ⟨z, rfl⟩ := hs.out
  try dsimp only
  clear hs
  refine XWP.row1 (bx := [_, _]) fun b4 e4 hb4 _ => ?_
  simp only [List.map_cons, List.map_nil, rowS_p, List.length_nil, List.length_cons, Nat.reduceAdd, Nat.reduceEqDiff, ↓reduceIte]
  have f2 : upd (fun _ => none) b4 (some ⟨e4, [.int .i64 0, .int .i64 0, .slice none 0 0], 3⟩) b4 = some ⟨e4, [.int .i64 0, .int .i64 0, .slice none 0 0], 3⟩ := upd_at _ _ _
  generalize upd (fun _ => none) b4 (some ⟨e4, [.int .i64 0, .int .i64 0, .slice none 0 0], 3⟩) = H2 at *
  refine XWP.row1 (bx := [_]) fun b3 e3 hb3 _ => ?_
  simp only [List.map_cons, List.map_nil, rowS_v, rowS_p, List.length_nil, List.length_cons, Nat.reduceAdd, Nat.reduceEqDiff, ↓reduceIte]
  refine XWP.pub b3 _ (upd_at _ _ _) fun o3 ho3 hle3 => ?_
  have eo3 := row_obj ho3
  subst eo3
  have n43 := new_ne hb3 f2
  have f3 : upd (upd H2 b3 (some ⟨e3, [.int .i64 (n : Int), .int .i64 1, .slice A2 lb.length c2], 3⟩)) b3 none b4 = some ⟨e4, [.int .i64 0, .int .i64 0, .slice none 0 0], 3⟩ := (upd_off n43).trans ((upd_off n43).trans f2)
  have h3 := addV_at V2 b3 (.cells ([.int .i64 (n : Int), .int .i64 1, .slice A2 lb.length c2] : List Value).toArray e3 (0, 0))
  generalize upd (upd H2 b3 _) b3 none = H3 at *
  generalize addV V2 b3 _ = V3 at *
  refine XWP.row1 (bx := []) fun b2 e2 hb2 _ => ?_
  simp only [List.map_cons, List.map_nil, rowS_v, rowS_p, List.length_nil, List.length_cons, Nat.reduceAdd, ↓reduceIte]
  refine XWP.pub b2 _ (upd_at _ _ _) fun o2 ho2 hle2 => ?_
  have eo2 := row_obj ho2
  subst eo2
  have n42 := new_ne hb2 f3
  have f4 : upd (upd H3 b2 (some ⟨e2, [.int .i64 (n : Int), .int .i64 (n : Int), .slice A1 la.length c1], 3⟩)) b2 none b4 = some ⟨e4, [.int .i64 0, .int .i64 0, .slice none 0 0], 3⟩ := (upd_off n42).trans ((upd_off n42).trans f3)
  have h2 := addV_at V3 b2 (.cells ([.int .i64 (n : Int), .int .i64 (n : Int), .slice A1 la.length c1] : List Value).toArray e2 (0, 0))
  generalize upd (upd H3 b2 _) b2 none = H4 at *
  generalize addV V3 b2 _ = V4 at *
  have h3 := hle2 _ _ h3
  have hle := View.le_trans hV2 (View.le_trans hle3 hle2)
  have ha := ha.up hle
  have hb := hb.up hle
  clear hb4 hb3 hb2 ho3 ho2 f2 f3
  -- the rows
  refine Gx.ma 1 hΓ rfl (by kernel_rfl) (by kernel_rfl) fun K hK => ?_
  simp only [XA, Nat.reduceAdd]
  refine ld_mem (ldV3 h2 shapeT_31 _) ?_
  simp only [XA]
  refine mcall_go rfl rfl (drows_m H4 V4 _ n n la ha lla h1 hn h1 hn) fun v5 H5 V5 k5 => ?_
  obtain ⟨e5, kp5, gA, cA, rfl, gA0, gA1, rA, fA⟩ := k5
  have e5 := e5.symm
  subst e5
  simp only [XA]
  refine hK _ ?_
  have f5 := kp5 b4 _ f4
  have nAb : gA ≠ b4 := fun e => by rw [e, f4] at gA0; cases gA0
  have rA4 : ∀ (i b m' c' : Nat), i < n → cA[i]? = some (Value.slice (some ⟨b, 0, none⟩) m' c') → b ≠ b4 := fun i b m' c' hi h e => by
    have := fA i hi b m' c' h
    rw [e, f4] at this; cases this
  clear fA
  refine XWP.cut (fun s => ∃ (H7 : Heap) (cA : List Value), StIs (fun Z => [Z 0,Z 1, .v (.pointer (some ⟨b2, 0, none⟩)), .v (.pointer (some ⟨b3, 0, none⟩)), .v (.pointer (some ⟨b4, 0, none⟩)), Z 5, .v (.slice (some ⟨gA, 0, none⟩) n n), Z 7,Z 8,Z 9,Z 10,Z 11,Z 12,Z 13,Z 14,Z 15,Z 16,Z 17,Z 18,Z 19,Z 20,Z 21,Z 22,Z 23,Z 24,Z 25,Z 26,Z 27,Z 28,Z 29,Z 30,Z 31,Z 32,Z 33,Z 34,Z 35,Z 36,Z 37,Z 38,Z 39,Z 40,Z 41,Z 42,Z 43,Z 44,Z 45,Z 46,Z 47,Z 48,Z 49,Z 50,Z 51,Z 52,Z 53,Z 54,Z 55,Z 56,Z 57,Z 58,Z 59,Z 60,Z 61,Z 62,Z 63,Z 64,Z 65,Z 66,Z 67,Z 68,Z 69,Z 70,Z 71,Z 72,Z 73,Z 74,Z 75,Z 76,Z 77,Z 78,Z 79,Z 80,Z 81,Z 82,Z 83,Z 84,Z 85,Z 86,Z 87,Z 88,Z 89]) [] H7 V4 s ∧ H7 gA = some ⟨22, cA, n⟩ ∧ RowsK H7 V4 n n (fun _ => n + 1) G0 cA ∧ H7 b4 = some ⟨e4, [.int .i64 0, .int .i64 0, .slice none 0 0], 3⟩ ∧ ∀ (i b m' c' : Nat), i < n → cA[i]? = some (Value.slice (some ⟨b, 0, none⟩) m' c') → b ≠ b4) ?_ ?_
  · refine Gx.ma 1 hΓ rfl (by kernel_rfl) (by kernel_rfl) fun K hK => ?_
    simp only [XN, XA, Nat.reduceAdd]
    refine ld_mem (ldV3 h3 shapeT_31 _) ?_
    simp only [XA]
    refine mcall_go rfl rfl (drows_m H5 V4 _ n 1 lb hb (by omega) h1 hn (by omega) (by omega)) fun v6 H6 V6 k6 => ?_
    obtain ⟨e6, kp6, gB, cB, rfl, gB0, gB1, rB, fB⟩ := k6
    have e6 := e6.symm
    subst e6
    simp only [XA]
    refine hK _ ?_
    clear hK
    have f6 := kp6 b4 _ f5
    have gA6 := kp6 gA _ gA1
    have rA6 : RowsK H6 V4 n n (fun j => if j < 0 then n + 1 else n) G0 cA := (rA.frame fun b cs tot hb => by rw [kp6 b _ hb, hb]).congr (fun j _ => by rw [if_neg (Nat.not_lt_zero _)]) fun i j hi hj => eA i j hi hj
    have dis : ∀ (i j b m c m' c' : Nat), i < n → j < n → cA[i]? = some (Value.slice (some ⟨b, 0, none⟩) m c) → cB[j]? = some (Value.slice (some ⟨b, 0, none⟩) m' c') → False := fun i j b m c m' c' hi hj ei ej => by
      have := fB j hj b m' c' ej
      obtain ⟨b', c2, cs, a1, a2, _⟩ := rA.row i hi
      rw [ei] at a1
      cases a1
      rw [a2] at this; cases this
    have nAB : gB ≠ gA := fun e => by rw [e, gA1] at gB0; cases gB0
    clear kp6 fB gB0 rA gA1 f5
    refine XWP.block ?_
    refine XWP.loop (fun q s => ∃ (i : Nat) (H7 : Heap) (cA : List Value), StIs (fun Z => [Z 0,Z 1, .v (.pointer (some ⟨b2, 0, none⟩)), .v (.pointer (some ⟨b3, 0, none⟩)), .v (.pointer (some ⟨b4, 0, none⟩)), Z 5, .v (.slice (some ⟨gA, 0, none⟩) n n), Z 7,Z 8,Z 9,Z 10,Z 11,Z 12,Z 13,Z 14,Z 15,Z 16,Z 17,Z 18,Z 19,Z 20,Z 21,Z 22,Z 23,Z 24,Z 25,Z 26,Z 27,Z 28,Z 29,Z 30,Z 31,Z 32,Z 33,Z 34,Z 35,Z 36,Z 37,Z 38,Z 39,Z 40, .v (.slice (some ⟨gB, 0, none⟩) n n), .v (.int .i64 (n : Int)), .v (.int .i64 (i : Int)), Z 44,Z 45,Z 46,Z 47,Z 48,Z 49,Z 50,Z 51,Z 52,Z 53,Z 54,Z 55,Z 56,Z 57,Z 58,Z 59,Z 60,Z 61,Z 62,Z 63,Z 64,Z 65,Z 66,Z 67,Z 68,Z 69,Z 70,Z 71,Z 72,Z 73,Z 74,Z 75,Z 76,Z 77,Z 78,Z 79,Z 80,Z 81,Z 82,Z 83,Z 84,Z 85,Z 86,Z 87,Z 88,Z 89]) [] H7 V4 s ∧ q + i = n ∧ H7 gA = some ⟨22, cA, n⟩ ∧ RowsK H7 V4 n n (fun j => if j < i then n + 1 else n) G0 cA ∧ H7 gB = some ⟨22, cB, n⟩ ∧ RowsK H7 V4 n n (fun _ => 1) (gridL lb 1) cB ∧ H7 b4 = some ⟨e4, [.int .i64 0, .int .i64 0, .slice none 0 0], 3⟩ ∧
      (∀ (i j b m c m' c' : Nat), i < n → j < n → cA[i]? = some (Value.slice (some ⟨b, 0, none⟩) m c) → cB[j]? = some (Value.slice (some ⟨b, 0, none⟩) m' c') → False) ∧ ∀ (i b m' c' : Nat), i < n → cA[i]? = some (Value.slice (some ⟨b, 0, none⟩) m' c') → b ≠ b4) n ⟨0, H6, cA, StIs.of (by exact rfl), by omega, gA6, rA6, gB1, rB, f6, dis, rA4⟩ ?_
    clear rA6 gA6 f6 dis rA4 gB1 rB
    rintro q s ⟨i, H7, cA, hs, hq, gA7, rA7, gB7, rB7, f7, dis, rA4⟩
    obtain ⟨z, rfl⟩ := hs.out
    try dsimp only
    clear hs
    by_cases hi : i < n
    rotate_left
    · obtain rfl : i = n := by omega
      have b1 : decide ((i : Int) < (i : Int)) = false := decide_eq_false (by omega)
      refine Gx.a (by kernel_rfl) fun K hK => ?_
      simp only [XA, XB, b1]
      refine hK _ ?_
      refine XWP.seq (Gx.f rfl ?_)
      refine XWP.exit ?_
      exact ⟨H7, cA, StIs.of (by exact rfl), gA7, rA7.congr (fun j hj => by rw [if_pos hj]) (fun _ _ _ _ => rfl), f7, rA4⟩
    have b1 : decide ((i : Int) < (n : Int)) = true := decide_eq_true (by omega)
    refine Gx.a (by kernel_rfl) fun K hK => ?_
    simp only [XA, XB, b1]
    refine hK _ ?_
    refine XWP.seq (Gx.t rfl ?_)
    refine XWP.skip ?_
    obtain ⟨bB, cb, csB, eB1, hbB, rwB, lcB, mxB⟩ := rB7.row i hi
    have rAi := rA7.row i hi
    simp only [Nat.lt_irrefl, ↓reduceIte] at rAi
    obtain ⟨bA, ca, csA, eA1, hbA, rwA, lcA, mxA⟩ := rAi
    refine XWP.seq ?_
    refine XWP.block ?_
    refine Gx.a (by kernel_rfl) fun K hK => ?_
    simp only [XN, XA, XB]
    refine ⟨by omega, by omega, ?_⟩
    refine ld_mem (ldH1 gB7 (by simpa using eB1) shapeT_22) ?_
    simp only [XA]
    refine hK _ ?_
    refine Gx.c (by kernel_rfl) fun K hK => ?_
    simp only [XN, XA, XB]
    refine ⟨by omega, by omega, ?_⟩
    refine ld_mem (ldH1 gA7 (by simpa using eA1) shapeT_22) ?_
    simp only [XA]
    have ownA : Own H7 49 3 (.slice (some ⟨bA, 0, none⟩) n ca) n csA := ⟨by rw [rwA.1, mk_len], .inr ⟨bA, ca, rfl, hbA, lcA, mxA⟩⟩
    refine ap_go elemT_22 (by kernel_rfl) zeroT_49 rfl (by omega) ownA (rwB.src hbB (mk_len _ _)) (by omega) (by omega) fun v' H8 hres => ?_
    obtain ⟨ho, hk8, hg8⟩ := hres
    obtain ⟨b, cap, rfl, hb8, hcap, hmax⟩ := row_nat (V := V4) (c := n) ho (by omega)
    have hbb : b = bA ∨ H7 b = none := by
      rcases hg8 b rfl with e | ⟨e, _⟩
      · left
        have : bA = b := by simpa [Value.ownBlock] using e
        exact this.symm
      · exact .inr e
    have hoff : ∀ k, k ≠ b → H8 k = H7 k := fun k hk => hk8 k fun e => hk (by simpa [Value.ownBlock] using e.symm)
    have nbA : ∀ k r, H7 k = some r → k ≠ bA → k ≠ b := fun k r hk hne e => by
      rcases hbb with e2 | e2
      · exact hne (by rw [e, e2])
      · rw [← e, hk] at e2; cases e2
    have ngA : gA ≠ b := nbA gA _ gA7 fun e => by rw [e, hbA] at gA7; cases gA7
    have ngB : gB ≠ b := nbA gB _ gB7 fun e => by rw [e, hbA] at gB7; cases gB7
    have n4 : b4 ≠ b := nbA b4 _ f7 fun e => rA4 i bA n ca hi eA1 e.symm
    have n4A : b4 ≠ gA := Ne.symm nAb
    have hgA8 := (hoff gA ngA).trans gA7
    have hrow8 : RowAt ratE V4 (csA ++ csB) (mk (n + 1) (G0 i)) := by rw [eB i]; exact rwA.append rwB
    simp only [XN, XA, XB]
    refine ⟨by omega, by omega, ?_⟩
    refine st_row shapeT_22 rfl rfl hgA8 (by have := rA7.len; dsimp only; omega) ?_
    simp only [XA]
    refine hK _ ?_
    refine Gx.c (by kernel_rfl) fun K hK => ?_
    simp only [XA, XB, i64_succ i (by omega)]
    have hput := rA7.put (H' := upd H8 gA (some ⟨22, cA.set i (.slice (some ⟨b, 0, none⟩) (n + 1) cap), n⟩)) (i := i) (f := G0 i) hi (by omega) ((upd_off (Ne.symm ngA)).trans hb8) hrow8 hcap hmax fun j b' m' c' hj hne hjc => by
      obtain ⟨b2', c2', cs2, a1, a2, _⟩ := rA7.row j hj
      rw [hjc] at a1
      cases a1
      have k1 : b' ≠ bA := fun e => hne (rA7.inj j i b' _ _ n ca hj hi hjc (by rw [e]; exact eA1))
      have k2 := nbA b' _ a2 k1
      exact ⟨k2, by rw [upd_off (fun e => by rw [e, gA7] at a2; cases a2), hoff b' k2]⟩
    rw [if_neg (show ¬ i = n by omega)] at hput
    have setne : ∀ j, j ≠ i → (cA.set i (.slice (some ⟨b, 0, none⟩) (n + 1) cap))[j]? = cA[j]? := fun j hj => List.getElem?_set_ne (Ne.symm hj)
    have setat : (cA.set i (.slice (some ⟨b, 0, none⟩) (n + 1) cap))[i]? = some (.slice (some ⟨b, 0, none⟩) (n + 1) cap) := List.getElem?_set_self (by rw [rA7.len]; exact hi)
    refine hK _ ⟨q - 1, by omega, i + 1, _, _, StIs.of (by exact rfl), by omega, upd_at _ _ _, hput.congr (fun j hj => ?_) (fun j k _ _ => ?_), (upd_off nAB).trans ((hoff gB ngB).trans gB7), ?_, (upd_off n4A).trans ((hoff b4 n4).trans f7), fun i' j b' m c m' c' hi' hj ei ej => ?_, fun i' b' m' c' hi' ei => ?_⟩
    · by_cases e : j = i
      · rw [if_pos e, if_pos (by omega)]
      · rw [if_neg e]
        by_cases e2 : j < i
        · rw [if_pos e2, if_pos (by omega)]
        · rw [if_neg e2, if_neg (by omega)]
    · by_cases e : j = i
      · rw [if_pos e, e]
      · rw [if_neg e]
    · refine ⟨rB7.len, fun j hj => ?_, rB7.inj⟩
      obtain ⟨b', c', cs, a1, a2, a3⟩ := rB7.row j hj
      have k1 : b' ≠ bA := fun e => dis i j bA n ca _ c' hi hj eA1 (by rw [← e]; exact a1)
      have k2 := nbA b' _ a2 k1
      exact ⟨b', c', cs, a1, by rw [upd_off (fun e => by rw [e, gA7] at a2; cases a2), hoff b' k2]; exact a2, a3⟩
    · by_cases e : i' = i
      · rw [e, setat] at ei
        cases ei
        obtain ⟨b2', c2', cs2, a1, a2, _⟩ := rB7.row j hj
        rw [ej] at a1
        cases a1
        rcases hbb with e2 | e2
        · exact dis i j bA n ca _ _ hi hj eA1 (by rw [← e2]; exact ej)
        · rw [a2] at e2; cases e2
      · rw [setne i' e] at ei
        exact dis i' j b' m c m' c' hi' hj ei ej
    · by_cases e : i' = i
      · rw [e, setat] at ei
        cases ei
        exact fun e2 => n4 e2.symm
      · rw [setne i' e] at ei
        exact rA4 i' b' m' c' hi' ei
  clear rA gA1 rA4 f5
  rintro s ⟨H7, cA, hs, gA7, rA7, f7, rA4⟩
  obtain ⟨z, rfl⟩ := hs.out
  try dsimp only
  clear hs
  have hgrid : GridAt H7 V4 (.slice (some ⟨gA, 0, none⟩) n n) n (n + 1) G0 [b4] := rA7.grid (by rw [Nat.mul_one]; exact gA7) (Nat.le_refl _) (by unfold maxLen; omega) fun i b m' c' hi h => by simpa using rA4 i b m' c' hi h
  refine Gx.ma 3 hΓ rfl (by kernel_rfl) (by kernel_rfl) fun K hK => ?_
  simp only [XM, XA, Nat.reduceAdd]
  refine ld_mem (ldV1 h2 (off := 1) rfl shapeT_3 _) ?_
  simp only [XA]
  refine mcall_go rfl rfl (dcleared_m H7 V4 gA n n B b4 _ G0 hgrid f7 nAb huG h1 hn hqG hfit) fun v8 H8 V8 k8 => ?_
  obtain ⟨hV8, f8, u, dm, dx, dy, d, G, rfl, ou, ox, oy, kd, dnz, dqf, hgr, hinv⟩ := k8
  simp only [XA, XB]
  refine st_rat rfl rfl rfl ox oy ?_
  simp only [XA]
  refine hK _ ?_
  have h2 := hV8 _ _ h2
  have h3 := hV8 _ _ h3
  clear hgrid gA7 rA7 f7 rA4 ha hb
  refine XWP.seq ?_
  refine Gx.a (by kernel_rfl) fun K hK => ?_
  simp only [XA, XB, Nat.reduceAdd, Nat.reduceLeDiff, ↓reduceIte]
  refine call_go (by kernel_rfl) rfl (psign_c _ _ _ (kd.toV dqf)) fun v9 V9 hV9 k9 => ?_
  subst k9
  have es := sgI_zero d
  rw [decide_eq_false dnz] at es
  simp only [XA, XB, es]
  refine hK _ ?_
  refine Gx.f rfl ?_
  refine XWP.skip ?_
  have h2 := hV9 _ _ h2
  have h3 := hV9 _ _ h3
  refine Gx.a (by kernel_rfl) fun K hK => ?_
  simp only [XM, XA]
  refine ld_mem (ldV1 h3 (off := 0) rfl shapeT_3 _) ?_
  simp only [XM, XA]
  refine ld_mem (ldV1 h3 (off := 1) rfl shapeT_3 _) ?_
  simp only [XA]
  refine bd_go (by kernel_rfl) #[(0, .int .i64 (n : Int)), (1, .int .i64 1)] (by simp [ev_tmp, SV.val]) (bd_mat2 rfl rfl) ?_
  simp only [XM, XA]
  refine st_mat shapeT_31 rfl rfl rfl rfl rfl ?_
  simp only [XA]
  refine hK _ ?_
  have hgr := (hgr.mono hV9).frame (av' := []) (fun _ _ _ _ => rfl) fun _ _ _ _ _ => ⟨rfl, by simp⟩
  refine XWP.cutD 2 (fun s => ∃ (V10 : View) (H10 : Heap) (so : Value) (co : List Value), StIs (fun Z => [Z 0,Z 1,Z 2,Z 3, .v (.pointer (some ⟨b4, 0, none⟩)), Z 5,Z 6,Z 7,Z 8,Z 9,Z 10, .p 1 0, Z 12,Z 13,Z 14,Z 15,Z 16,Z 17,Z 18,Z 19,Z 20,Z 21,Z 22,Z 23,Z 24,Z 25,Z 26,Z 27,Z 28,Z 29,Z 30,Z 31,Z 32,Z 33,Z 34,Z 35,Z 36,Z 37,Z 38,Z 39,Z 40,Z 41,Z 42,Z 43,Z 44,Z 45,Z 46,Z 47,Z 48,Z 49,Z 50,Z 51,Z 52,Z 53,Z 54,Z 55,Z 56,Z 57,Z 58,Z 59,Z 60,Z 61,Z 62,Z 63,Z 64,Z 65,Z 66,Z 67,Z 68,Z 69,Z 70,Z 71,Z 72,Z 73,Z 74,Z 75,Z 76,Z 77,Z 78,Z 79,Z 80,Z 81,Z 82,Z 83,Z 84,Z 85,Z 86,Z 87,Z 88,Z 89]) [[.bool dm, dx, dy], [.int .i64 (n : Int), .int .i64 1, so]] H10 V10 s ∧ V9.le V10 ∧ Own H10 49 3 so n co ∧ RowAt ratE V10 co (mk n fun i => G i n) ∧ H10 b4 = some ⟨e4, [.int .i64 0, .int .i64 0, .slice none 0 0], 3⟩ ∧ so.ownBlock ≠ some b4) ?_ ?_
  · refine Gx.a (by kernel_rfl) fun K hK => ?_
    simp only [XN, XA]
    refine hK _ ?_
    clear hK
    refine XWP.block ?_
    refine XWP.loopD 2 (fun q s => ∃ (i : Nat) (H10 : Heap) (so : Value) (co : List Value), StIs (fun Z => [Z 0,Z 1, .v (.pointer (some ⟨b2, 0, none⟩)), Z 3, .v (.pointer (some ⟨b4, 0, none⟩)), Z 5,Z 6,Z 7,Z 8,Z 9,Z 10, .p 1 0, Z 12,Z 13,Z 14,Z 15,Z 16,Z 17,Z 18,Z 19,Z 20,Z 21,Z 22,Z 23,Z 24,Z 25,Z 26,Z 27,Z 28,Z 29,Z 30,Z 31,Z 32,Z 33,Z 34,Z 35,Z 36,Z 37,Z 38,Z 39,Z 40,Z 41,Z 42,Z 43,Z 44,Z 45,Z 46,Z 47,Z 48,Z 49,Z 50,Z 51,Z 52,Z 53,Z 54,Z 55,Z 56,Z 57,Z 58,Z 59,Z 60,Z 61,Z 62,Z 63,Z 64,Z 65,Z 66,Z 67,Z 68,Z 69,Z 70,Z 71,Z 72,Z 73, .v (.slice (some ⟨gA, 0, none⟩) n n), .v (.int .i64 (n : Int)), .v (.int .i64 (i : Int)), Z 77,Z 78,Z 79,Z 80,Z 81,Z 82,Z 83,Z 84,Z 85,Z 86,Z 87,Z 88,Z 89]) [[.bool dm, dx, dy], [.int .i64 (n : Int), .int .i64 1, so]] H10 V9 s ∧ q + i = n ∧ Own H10 49 3 so i co ∧ RowAt ratE V9 co (mk i fun i => G i n) ∧ H10 b4 = some ⟨e4, [.int .i64 0, .int .i64 0, .slice none 0 0], 3⟩ ∧ so.ownBlock ≠ some b4 ∧ GridAt H10 V9 (.slice (some ⟨gA, 0, none⟩) n n) n (n + 1) G so.ownBlock.toList) n ⟨0, H8, _, [], StIs.of (by exact rfl), by omega, own_nil, RowAt.nil _, f8, (by intro h; cases h), hgr⟩ ?_
    clear hgr f8
    rintro q s ⟨i, H10, so, co, hs, hq, hown, hrow, f10, nso, hgr⟩
    obtain ⟨z, rfl⟩ := hs.out
    try dsimp only
    clear hs
    by_cases hi : i < n
    rotate_left
    · obtain rfl : i = n := by omega
      have b1 : decide ((i : Int) < (i : Int)) = false := decide_eq_false (by omega)
      refine Gx.a (by kernel_rfl) fun K hK => ?_
      simp only [XA, XB, b1]
      refine hK _ ?_
      refine XWP.seq (Gx.f rfl ?_)
      refine XWP.exit ?_
      exact fun f => ⟨V9, H10, so, co, StIs.of (by exact rfl), View.le_refl _, hown, hrow, f10, nso⟩
    have b1 : decide ((i : Int) < (n : Int)) = true := decide_eq_true (by omega)
    refine Gx.a (by kernel_rfl) fun K hK => ?_
    simp only [XA, XB, b1]
    refine hK _ ?_
    refine XWP.seq (Gx.t rfl ?_)
    refine XWP.skip ?_
    obtain ⟨g', cap', b, c, cs, e6, hl1, hbr, hrw, hc, hcm, hnb, _⟩ := hgr.at hi
    cases e6
    have oso := own_isOne hown
    refine XWP.seq ?_
    refine XWP.block ?_
    refine Gx.a (by kernel_rfl) fun K hK => ?_
    simp only [XN, XA, XB]
    refine ⟨by omega, by omega, ?_⟩
    refine ld_mem (by simpa using hl1) ?_
    simp only [XA]
    refine hK _ ?_
    (refine XWP.drw1 [0, 1, 2, 3, 4, 5, 6, 7, 8] (by kernel_rfl) (by kernel_rfl) (by kernel_rfl) fun K hK => ?_) <;> dsimp only [pickOps, List.getElem?_cons_zero, List.getElem?_cons_succ]
    simp only [XM, XA, XB]
    refine ld_mem (ldV1 h2 (off := 1) rfl shapeT_3 _) ?_
    simp only [XA, XB]
    refine ⟨by omega, by omega, by omega, ?_⟩
    try simp only [XM, XN, XA, XB, gateX, Nat.reduceAdd, Nat.reduceLeDiff, Nat.reduceSub, Nat.reduceMul, ↓reduceIte, Int.reduceToNat, Int.reduceLE, beq_self_eq_true]
    refine ap_go elemT_22 (by kernel_rfl) zeroT_49 rfl (by omega) hown (src_drop hrw hbr (mk_len _ _) (show n ≤ n + 1 by omega) hc) (by omega) (by omega) fun v' H' hres => ?_
    have hsub : i + (n + 1 - n) = i + 1 := by omega
    rw [hsub] at hres
    obtain ⟨k10, nso'⟩ := app_keep hres f10 nso
    have hgr' := hgr.app hown hres
    have hrow' := hrow.append (hrw.drop n)
    rw [mk_last, ← mk_succ i (fun i => G i n)] at hrow'
    simp only [XM, XA]
    refine st_one shapeT_22 rfl (own_isOne hres.1) (by simp) ?_
    simp only [XA]
    refine hK _ ?_
    refine Gx.c (by kernel_rfl) fun K hK => ?_
    simp only [XA, XB, i64_succ i (by omega)]
    exact hK _ ⟨q - 1, by omega, fun f => ⟨i + 1, H', v', _, StIs.of (by exact rfl), by omega, hres.1, hrow', k10, nso', hgr'⟩⟩
  rintro s ⟨V10, H10, so, co, hs, hV10, hown, hrow, f10, nso⟩
  obtain ⟨z, rfl⟩ := hs.out
  try dsimp only
  clear hs
  have oso := own_isOne hown
  refine Gx.a (by kernel_rfl) fun K hK => ?_
  simp only [XM, XA, Nat.reduceAdd, Nat.reduceLeDiff, ↓reduceIte]
  refine st_rowA shapeT_31 (all3 rfl rfl oso) rfl f10 (by simp) ?_
  simp only [XA]
  refine hK _ ?_
  have hown3 : Own (upd H10 b4 (some ⟨e4, splice [.int .i64 0, .int .i64 0, .slice none 0 0] 0 [.int .i64 (n : Int), .int .i64 1, so], 3⟩)) 49 3 so n co := by
    refine ⟨hown.1, ?_⟩
    rcases hown.2 with h | ⟨g2, cap2, rfl, hg2, h⟩
    · exact .inl h
    · exact .inr ⟨g2, cap2, rfl, by rw [upd_off fun e => nso (by rw [e]; rfl)]; exact hg2, h⟩
  have hown4 : Own (upd H10 b4 (some ⟨e4, splice [.int .i64 0, .int .i64 0, .slice none 0 0] 0 [.int .i64 (n : Int), .int .i64 1, so], 3⟩)) 49 3 so (mk n fun i => G i n).length co := by rw [mk_len]; exact hown3
  refine XWP.pubR ratE_ok hown4 hrow fun H13 V13 hV13 hRw hk13 => ?_
  have f13 := (hk13 b4 nso).trans (upd_at _ _ _)
  refine XWP.ret ?_
  try simp only [thenX_ret, inBlockX_ret]
  refine ret_go _ (by simp [resAll, resV, cellsV, shapeT_31, f13, splice_all]; rfl) ⟨so, fun i => G i n, rfl, hRw, ?_, fun i hi => hinv.qb i n hi (by omega)⟩
  have h1 := hinv.unit.sol (c := n)
  rw [hG0] at h1
  have h2 : LinG (augG (gridL la n) (gridL lb 1) n) n n (fun i => augG (gridL la n) (gridL lb 1) n i (n + 0)) (fun i => G i n) := h1
  have h3 := aug_lin h2
  exact h3.congr (fun _ _ _ _ => rfl) fun i hi => by unfold gridL; rw [Nat.mul_one, Nat.add_zero]
end Go.Proofs.YtkgmicakfmllmaaGreat
end
section
namespace Go.Proofs.YtkgmicakfmllmaaGreat
open Go Go.RowKit
set_option linter.unusedSimpArgs false
set_option linter.unusedVariables false
attribute [local irreducible] XWP Spec SpecO XPub XCall seqX clX apX stX ldX iaX slX
theorem last_one {m : Nat} (h : 1 ≤ m) : (mk m fun _ => 0).set (m - 1) 1 = mk m (oneB m) := by
  rw [mk_set1 (show m - 1 < m by omega)]
  refine mk_congr fun j hj => ?_
  unfold oneB
  by_cases e : j = m - 1
  · rw [if_pos e, if_pos (by omega)]
  · rw [if_neg e, if_neg (by omega)]
set_option maxHeartbeats 8000000 in
theorem dsettled_c (V : View) (s vC : Value) (n B : Nat) (l : List Rat) (C : List Nat) (h : Rats V s l) (ll : l.length = n * n) (hn : n ≤ 60) (hC : Sl1 natE V vC C) (hlt : ∀ x ∈ C, x < n) (h1 : 1 ≤ C.length) (hl : C.length ≤ 60)
    (hu : UniG (lawG (subG (gridL l n) C) C.length) C.length C.length) (hq : ∀ x ∈ l, QB B x) (hfit : (C.length + 1) * ge (B + 1) (C.length + 1) ≤ 17592186044416) :
    Spec Tryz.prog 57 [.agg #[.int .i64 (n : Int), .int .i64 (n : Int), s], vC] V fun v' V' => Rats V' v' (lawC l n C) := by
  obtain ⟨A, cp, rfl, hc, hm⟩ := h.form
  obtain ⟨A2, c2, rfl, hc2, hm2⟩ := hC.form
  obtain ⟨m, hmm⟩ : ∃ m, m = C.length := ⟨_, rfl⟩
  obtain ⟨bC, oC, rfl⟩ := hC.addr (by omega)
  obtain ⟨Q, hQ⟩ : ∃ Q, Q = lawG (subG (gridL l n) C) C.length := ⟨_, rfl⟩
  have hqQ : ∀ k i, k < m → i < m → QB (B + 1) (Q k i) := fun k i hk hi => by rw [hQ]; exact lawQ_QB hq ll hlt (by omega) (by omega)
  have hQd : ∀ k i, Q k i = if k + 1 = m then 1 else if i = k then cf l (C.getD i 0 * n + C.getD k 0) - 1 else cf l (C.getD i 0 * n + C.getD k 0) := fun k i => by rw [hQ, hmm]; rfl
  have hX : ∀ X, LinG Q m m (oneB m) X → scat C X n C.length = lawC l n C := fun X hX => by
    rw [hQ, hmm] at hX
    exact scat_congr _ (theX_eq hu hX)
  rw [← hQ] at hu
  have hnn : n * n ≤ 3600 := Nat.le_trans (Nat.mul_le_mul hn hn) (by decide)
  have hCl : ∀ i, i < m → C.getD i 0 < n ∧ ∀ V', V.le V' → ∀ H, Loads Tryz.prog H V' 3 bC (oC + i) (.int .i64 ((C.getD i 0 : Nat) : Int)) := fun i hi => by
    have hi' : i < C.length := by omega
    have e : C.getD i 0 = C[i] := by rw [List.getD_eq_getElem?_getD, List.getElem?_eq_getElem hi']; rfl
    refine ⟨by rw [e]; exact hlt _ (List.getElem_mem hi'), fun V' hV H => ?_⟩
    obtain ⟨u, _, gg⟩ := sl1_at natE_ok hC hi'
    obtain ⟨g1, g2⟩ := gg V' hV
    rw [e, ← show u = .int .i64 ((C[i] : Nat) : Int) from g1]
    exact g2 H 3 1 shapeT_3
  rw [← hmm] at hu h1 hl hfit hX ⊢
  have hgeB : ge (B + 1) (m + 1) ≤ 17592186044416 := Nat.le_trans (Nat.le_mul_of_pos_left _ (by omega)) hfit
  have hB0 : B + 1 ≤ 17592186044416 := Nat.le_trans (ge_le _ _) hgeB
  have hmm2 : m * m ≤ 3600 := Nat.le_trans (Nat.mul_le_mul hl hl) (by decide)
  have h11 : 1 ≤ m * m := Nat.mul_pos h1 h1
  have hn0 : 1 ≤ n := by have := (hCl 0 (by omega)).1; omega
  have z2 : ∀ V, SpecO Tryz.prog 99 [.int .i64 (m : Int), .int .i64 1] V fun v' V' o => ∃ sl cells, v' = .tuple #[.agg #[.int .i64 (m : Int), .int .i64 1, sl], .int .i64 0] ∧ Own (addRow (fun _ => none) o) 49 3 sl m cells ∧ RowAt ratE V' cells (mk m fun _ => 0) := fun V => by
    have := dZero_o V m 1 hl (by omega)
    rw [Nat.mul_one] at this
    exact this
  refine (Spec.enter Tryz.func57 rfl fun Γ => ?_)
  simp only [Tryz.ntmps57, List.map_cons, List.map_nil, List.length_cons, List.length_nil, Nat.reduceAdd, Nat.reduceSub, List.replicate_succ, List.replicate_zero, List.cons_append, List.nil_append]
  refine Gx.a (by kernel_rfl) fun K hK => ?_
  simp only [XA]
  refine hK _ ?_
  refine Gx.a (by kernel_rfl) fun K hK => ?_
  simp only [XN, XA]
  refine hK _ ?_
  refine Gx.a (by kernel_rfl) fun K hK => ?_
  simp only [XA]
  refine call_own (by kernel_rfl) rfl (dZero_o _ m m hl hl) fun v3 V3 o3 hV3 hs3 h3 => ?_
  obtain ⟨sl, cells3, rfl, hown3, hrow3⟩ := h3
  obtain ⟨g, cap, rfl, ho3, hg3, hle3, hcap3⟩ := own_rw (H := fun _ => none) hown3 h11
  simp only [XM, XA]
  refine st_mat shapeT_31 rfl rfl rfl rfl rfl ?_
  simp only [XA]
  refine hK _ ?_
  generalize addRow (fun _ => none) o3 = H3 at *
  refine Gx.a (by kernel_rfl) fun K hK => ?_
  simp only [XA]
  refine call_own (by kernel_rfl) rfl (z2 _) fun v4 V4 o4 hV4 hs4 h4 => ?_
  obtain ⟨sl, cells4, rfl, hown4, hrow4⟩ := h4
  obtain ⟨g8, cap8, rfl, ho4, hg4, hle4, hcap4⟩ := own_rw (H := H3) hown4 h1
  have hg34 : addRow H3 o4 g = some _ := addRow_off hg3 fun g' q e => (hs4 g' q e).1
  have hs40 : H3 g8 = none := (hs4 g8 _ ho4).1
  have n8 : g8 ≠ g := fun e => by rw [e, hg3] at hs40; cases hs40
  simp only [XM, XA, Nat.reduceAdd]
  refine st_mat shapeT_31 rfl rfl rfl rfl rfl ?_
  simp only [XA]
  refine hK _ ?_
  generalize addRow H3 o4 = H4 at *
  have hle14 := View.le_trans hV3 hV4
  have hrow3 := hrow3.mono ratE_ok hV4
  rw [fill_none (m * m) (flatF Q m)] at hrow3
  clear hs3 hs4 ho3 ho4 hown3 hown4 hg3
  refine XWP.cutD 3 (fun s => ∃ (V5 : View) (H5 : Heap) (co : List Value), StIs (fun Z => [Z 0, .v (.slice (some ⟨bC, oC, none⟩) m c2), .p 0 0, Z 3,Z 4, .v (.int .i64 (m : Int)), .p 1 0, Z 7, .p 2 0, Z 9,Z 10,Z 11,Z 12,Z 13,Z 14,Z 15,Z 16,Z 17,Z 18,Z 19,Z 20,Z 21,Z 22,Z 23,Z 24,Z 25,Z 26,Z 27,Z 28,Z 29,Z 30,Z 31,Z 32,Z 33,Z 34,Z 35,Z 36,Z 37,Z 38,Z 39,Z 40,Z 41,Z 42,Z 43,Z 44,Z 45,Z 46,Z 47,Z 48,Z 49,Z 50,Z 51,Z 52,Z 53,Z 54,Z 55,Z 56,Z 57,Z 58,Z 59,Z 60,Z 61,Z 62,Z 63,Z 64,Z 65,Z 66,Z 67,Z 68,Z 69,Z 70,Z 71,Z 72,Z 73,Z 74,Z 75,Z 76,Z 77,Z 78,Z 79,Z 80,Z 81,Z 82,Z 83,Z 84,Z 85,Z 86,Z 87,Z 88,Z 89,Z 90,Z 91,Z 92,Z 93,Z 94,Z 95,Z 96,Z 97,Z 98,Z 99,Z 100,Z 101,Z 102,Z 103,Z 104,Z 105,Z 106,Z 107,Z 108,Z 109,Z 110,Z 111,Z 112,Z 113,Z 114,Z 115,Z 116]) [[.int .i64 (n : Int), .int .i64 (n : Int), .slice A l.length cp], [.int .i64 (m : Int), .int .i64 (m : Int), .slice (some ⟨g, 0, none⟩) (m * m) cap], [.int .i64 (m : Int), .int .i64 1, .slice (some ⟨g8, 0, none⟩) m cap8]] H5 V5 s ∧ V4.le V5 ∧ H5 g8 = some ⟨49, cells4, cap8 * 3⟩ ∧ H5 g = some ⟨49, co, cap * 3⟩ ∧ RowAt ratE V5 co (mk (m * m) (flatF Q m))) ?_ ?_
  · refine Gx.a (by kernel_rfl) fun K hK => ?_
    simp only [XN, XA]
    refine hK _ ?_
    clear hK
    refine XWP.block ?_
    refine XWP.loopD 3 (fun q s => ∃ (i : Nat) (V5 : View) (H5 : Heap) (co : List Value), StIs (fun Z => [Z 0, .v (.slice (some ⟨bC, oC, none⟩) m c2), .p 0 0, Z 3,Z 4, .v (.int .i64 (m : Int)), .p 1 0, Z 7, .p 2 0, Z 9,Z 10,Z 11,Z 12,Z 13,Z 14,Z 15,Z 16,Z 17,Z 18,Z 19,Z 20,Z 21,Z 22,Z 23,Z 24,Z 25,Z 26,Z 27,Z 28,Z 29,Z 30,Z 31, .v (.int .i64 (m : Int)), .v (.int .i64 (i : Int)), Z 34,Z 35,Z 36,Z 37,Z 38,Z 39,Z 40,Z 41,Z 42,Z 43,Z 44,Z 45,Z 46,Z 47,Z 48,Z 49,Z 50,Z 51,Z 52,Z 53,Z 54,Z 55,Z 56,Z 57,Z 58,Z 59,Z 60,Z 61,Z 62,Z 63,Z 64,Z 65,Z 66,Z 67,Z 68,Z 69,Z 70,Z 71,Z 72,Z 73,Z 74,Z 75,Z 76,Z 77,Z 78,Z 79,Z 80,Z 81,Z 82,Z 83,Z 84,Z 85,Z 86,Z 87,Z 88,Z 89,Z 90,Z 91,Z 92,Z 93,Z 94,Z 95,Z 96,Z 97,Z 98,Z 99,Z 100,Z 101,Z 102,Z 103,Z 104,Z 105,Z 106,Z 107,Z 108,Z 109,Z 110,Z 111,Z 112,Z 113,Z 114,Z 115,Z 116]) [[.int .i64 (n : Int), .int .i64 (n : Int), .slice A l.length cp], [.int .i64 (m : Int), .int .i64 (m : Int), .slice (some ⟨g, 0, none⟩) (m * m) cap], [.int .i64 (m : Int), .int .i64 1, .slice (some ⟨g8, 0, none⟩) m cap8]] H5 V5 s ∧ q + i = m ∧ V4.le V5 ∧ H5 g8 = some ⟨49, cells4, cap8 * 3⟩ ∧ H5 g = some ⟨49, co, cap * 3⟩ ∧ RowAt ratE V5 co (mk (m * m) (fillF (flatF Q m) (i * m)))) m ⟨0, V4, H4, cells3, StIs.of (by exact rfl), by omega, View.le_refl _, hg4, hg34, by rw [Nat.zero_mul]; exact hrow3⟩ ?_
    clear hg4 hg34 hrow3
    rintro q s ⟨i, V5, H5, co, hs, hq2, hV5, h8, hH, hrow⟩
    obtain ⟨z, rfl⟩ := hs.out
    try dsimp only
    clear hs
    by_cases hi : i < m
    rotate_left
    · obtain rfl : i = m := by omega
      have b1 : decide ((i : Int) < (i : Int)) = false := decide_eq_false (by omega)
      refine Gx.a (by kernel_rfl) fun K hK => ?_
      simp only [XA, XB, b1]
      refine hK _ ?_
      refine XWP.seq (Gx.f rfl ?_)
      refine XWP.exit ?_
      rw [fill_all] at hrow
      exact fun f => ⟨V5, H5, co, StIs.of (by exact rfl), hV5, h8, hH, hrow⟩
    have b1 : decide ((i : Int) < (m : Int)) = true := decide_eq_true (by omega)
    refine Gx.a (by kernel_rfl) fun K hK => ?_
    simp only [XA, XB, b1]
    refine hK _ ?_
    refine XWP.seq (Gx.t rfl ?_)
    refine XWP.skip ?_
    refine XWP.cutD 3 (fun s => ∃ (V6 : View) (H6 : Heap) (co : List Value), StIs (fun Z => [Z 0, .v (.slice (some ⟨bC, oC, none⟩) m c2), .p 0 0, Z 3,Z 4, .v (.int .i64 (m : Int)), .p 1 0, Z 7, .p 2 0, Z 9,Z 10,Z 11,Z 12,Z 13,Z 14,Z 15,Z 16,Z 17,Z 18,Z 19,Z 20,Z 21,Z 22,Z 23,Z 24,Z 25,Z 26,Z 27,Z 28,Z 29,Z 30,Z 31, .v (.int .i64 (m : Int)), .v (.int .i64 (i : Int)), Z 34,Z 35,Z 36,Z 37,Z 38,Z 39,Z 40,Z 41,Z 42,Z 43,Z 44,Z 45,Z 46,Z 47,Z 48,Z 49,Z 50,Z 51,Z 52,Z 53,Z 54,Z 55,Z 56,Z 57,Z 58,Z 59,Z 60,Z 61,Z 62,Z 63,Z 64,Z 65,Z 66,Z 67,Z 68,Z 69,Z 70,Z 71,Z 72,Z 73,Z 74,Z 75,Z 76,Z 77,Z 78,Z 79,Z 80,Z 81,Z 82,Z 83,Z 84,Z 85,Z 86,Z 87,Z 88,Z 89,Z 90,Z 91,Z 92,Z 93,Z 94,Z 95,Z 96,Z 97,Z 98,Z 99,Z 100,Z 101,Z 102,Z 103,Z 104,Z 105,Z 106,Z 107,Z 108,Z 109,Z 110,Z 111,Z 112,Z 113,Z 114,Z 115,Z 116]) [[.int .i64 (n : Int), .int .i64 (n : Int), .slice A l.length cp], [.int .i64 (m : Int), .int .i64 (m : Int), .slice (some ⟨g, 0, none⟩) (m * m) cap], [.int .i64 (m : Int), .int .i64 1, .slice (some ⟨g8, 0, none⟩) m cap8]] H6 V6 s ∧ V5.le V6 ∧ H6 g8 = some ⟨49, cells4, cap8 * 3⟩ ∧ H6 g = some ⟨49, co, cap * 3⟩ ∧ RowAt ratE V6 co (mk (m * m) (fillF (flatF Q m) (i * m + m)))) ?_ ?_
    · refine XWP.block ?_
      refine Gx.a (by kernel_rfl) fun K hK => ?_
      simp only [XA]
      refine hK _ ?_
      refine Gx.a (by kernel_rfl) fun K hK => ?_
      simp only [XN, XA]
      refine hK _ ?_
      clear hK
      refine XWP.block ?_
      refine XWP.loopD 3 (fun p s => ∃ (k : Nat) (V6 : View) (H6 : Heap) (co : List Value), StIs (fun Z => [Z 0, .v (.slice (some ⟨bC, oC, none⟩) m c2), .p 0 0, Z 3,Z 4, .v (.int .i64 (m : Int)), .p 1 0, Z 7, .p 2 0, Z 9, .v (.int .i64 (i : Int)), Z 11,Z 12,Z 13,Z 14,Z 15,Z 16,Z 17,Z 18,Z 19,Z 20,Z 21,Z 22,Z 23,Z 24,Z 25,Z 26,Z 27,Z 28,Z 29,Z 30,Z 31, .v (.int .i64 (m : Int)), .v (.int .i64 (i : Int)), Z 34,Z 35,Z 36, .v (.int .i64 (m : Int)), .v (.int .i64 (k : Int)), Z 39,Z 40,Z 41,Z 42,Z 43,Z 44,Z 45,Z 46,Z 47,Z 48,Z 49,Z 50,Z 51,Z 52,Z 53,Z 54,Z 55,Z 56,Z 57,Z 58,Z 59,Z 60,Z 61,Z 62,Z 63,Z 64,Z 65,Z 66,Z 67,Z 68,Z 69,Z 70,Z 71,Z 72,Z 73,Z 74,Z 75,Z 76,Z 77,Z 78,Z 79,Z 80,Z 81,Z 82,Z 83,Z 84,Z 85,Z 86,Z 87,Z 88,Z 89,Z 90,Z 91,Z 92,Z 93,Z 94,Z 95,Z 96,Z 97,Z 98,Z 99,Z 100,Z 101,Z 102,Z 103,Z 104,Z 105,Z 106,Z 107,Z 108,Z 109,Z 110,Z 111,Z 112,Z 113,Z 114,Z 115,Z 116]) [[.int .i64 (n : Int), .int .i64 (n : Int), .slice A l.length cp], [.int .i64 (m : Int), .int .i64 (m : Int), .slice (some ⟨g, 0, none⟩) (m * m) cap], [.int .i64 (m : Int), .int .i64 1, .slice (some ⟨g8, 0, none⟩) m cap8]] H6 V6 s ∧ p + k = m ∧ V5.le V6 ∧ H6 g8 = some ⟨49, cells4, cap8 * 3⟩ ∧ H6 g = some ⟨49, co, cap * 3⟩ ∧ RowAt ratE V6 co (mk (m * m) (fillF (flatF Q m) (i * m + k)))) m ⟨0, V5, H5, co, StIs.of (by exact rfl), by omega, View.le_refl _, h8, hH, by rw [Nat.add_zero]; exact hrow⟩ ?_
      clear h8 hH hrow
      rintro p s ⟨k, V6, H6, co, hs, hp, hV6, h8, hH, hrow⟩
      obtain ⟨z, rfl⟩ := hs.out
      try dsimp only
      clear hs
      by_cases hk : k < m
      rotate_left
      · obtain rfl : k = m := by omega
        have b2 : decide ((k : Int) < (k : Int)) = false := decide_eq_false (by omega)
        refine Gx.a (by kernel_rfl) fun K hK => ?_
        simp only [XA, XB, b2]
        refine hK _ ?_
        refine XWP.seq (Gx.f rfl ?_)
        refine XWP.exit ?_
        exact fun f => ⟨V6, H6, co, StIs.of (by exact rfl), hV6, h8, hH, hrow⟩
      have b2 : decide ((k : Int) < (m : Int)) = true := decide_eq_true (by omega)
      refine Gx.a (by kernel_rfl) fun K hK => ?_
      simp only [XA, XB, b2]
      refine hK _ ?_
      refine XWP.seq (Gx.t rfl ?_)
      refine XWP.skip ?_
      have hle6 := View.le_trans hle14 (View.le_trans hV5 hV6)
      obtain ⟨c1, ld1⟩ := hCl k hk
      obtain ⟨c3, ld3⟩ := hCl i hi
      have ld1 := ld1 V6 hle6
      have ld3 := ld3 V6 hle6
      have hp1 := pos_lt c1 c3
      have hm6 := h.up hle6
      obtain ⟨b', o', rfl⟩ := SlAt.addr hm6 (by omega)
      obtain ⟨m8, n8', d8, hx8, ⟨r1, r2, r3⟩, hld8⟩ := Rats.get hm6 (C.getD k 0 * n + C.getD i 0) (by omega)
      have q8 := hq _ (cf_mem (l := l) (i := C.getD k 0 * n + C.getD i 0) (by omega))
      have w1 := wr_mul (i := C.getD k 0) (C := n) (by omega) (by omega)
      have w2 := wr_add (p := C.getD k 0 * n) (k := C.getD i 0) (by omega) (by omega)
      have w3 := wr_mul (i := i) (C := m) (by omega) (by omega)
      have gk := pos_lt hi hk
      have w4 := wr_add (p := i * m) (k := k) (by omega) (by omega)
      have w5 : IntKind.i64.wrap ((m : Int) - 1) = ((m - 1 : Nat) : Int) := by rw [wrap_id (by omega) (by omega)]; omega
      have hQik := hQd i k
      generalize C.getD k 0 = ck at *
      generalize C.getD i 0 = ci at *
      refine XWP.cutD 3 (fun s => ∃ (V7 : View) (H7 : Heap) (co : List Value), StIs (fun Z => [Z 0, .v (.slice (some ⟨bC, oC, none⟩) m c2), .p 0 0, Z 3,Z 4, .v (.int .i64 (m : Int)), .p 1 0, Z 7, .p 2 0, Z 9, .v (.int .i64 (i : Int)), Z 11,Z 12,Z 13,Z 14,Z 15,Z 16,Z 17,Z 18,Z 19,Z 20,Z 21,Z 22,Z 23,Z 24,Z 25,Z 26,Z 27,Z 28,Z 29,Z 30,Z 31, .v (.int .i64 (m : Int)), .v (.int .i64 (i : Int)), Z 34,Z 35,Z 36, .v (.int .i64 (m : Int)), .v (.int .i64 (k : Int)), Z 39,Z 40,Z 41,Z 42,Z 43,Z 44,Z 45,Z 46,Z 47,Z 48,Z 49,Z 50,Z 51,Z 52,Z 53,Z 54,Z 55,Z 56,Z 57,Z 58,Z 59,Z 60,Z 61,Z 62,Z 63,Z 64,Z 65,Z 66,Z 67,Z 68,Z 69,Z 70,Z 71,Z 72,Z 73,Z 74,Z 75,Z 76,Z 77,Z 78,Z 79,Z 80,Z 81,Z 82,Z 83,Z 84,Z 85,Z 86,Z 87,Z 88,Z 89,Z 90,Z 91,Z 92,Z 93,Z 94,Z 95,Z 96,Z 97,Z 98,Z 99,Z 100,Z 101,Z 102,Z 103,Z 104,Z 105,Z 106,Z 107,Z 108,Z 109,Z 110,Z 111,Z 112,Z 113,Z 114,Z 115,Z 116]) [[.int .i64 (n : Int), .int .i64 (n : Int), .slice (some ⟨b', o', none⟩) l.length cp], [.int .i64 (m : Int), .int .i64 (m : Int), .slice (some ⟨g, 0, none⟩) (m * m) cap], [.int .i64 (m : Int), .int .i64 1, .slice (some ⟨g8, 0, none⟩) m cap8]] H7 V7 s ∧ V6.le V7 ∧ H7 g8 = some ⟨49, cells4, cap8 * 3⟩ ∧ H7 g = some ⟨49, co, cap * 3⟩ ∧ RowAt ratE V7 co (mk (m * m) (fillF (flatF Q m) (i * m + (k + 1))))) ?_ ?_
      · refine XWP.block ?_
        refine Gx.a (by kernel_rfl) fun K hK => ?_
        simp only [XA]
        refine hK _ ?_
        (refine XWP.drw [0, 1, 2, 3, 4, 5, 6, 7, 8, 9, 10, 11, 12, 13, 14, 15, 16, 17] (by kernel_rfl) (by kernel_rfl) (by kernel_rfl) fun K hK => ?_) <;> dsimp only [pickOps, List.getElem?_cons_zero, List.getElem?_cons_succ]
        simp only [XM, XN, XA, XB]
        refine ⟨by omega, by omega, ?_⟩
        refine ld_mem (by simpa using ld1 _) ?_
        simp only [XM, XN, XA, XB, w1]
        refine ⟨by omega, by omega, ?_⟩
        refine ld_mem (by simpa using ld3 _) ?_
        simp only [XA, XB, w2]
        refine ⟨by omega, by omega, ld_mem (hld8 _) ?_⟩
        simp only [XA, XB, Nat.reduceAdd]
        refine st_rat rfl rfl r1 r2 r3 ?_
        simp only [XA]
        refine hK _ ?_
        refine XWP.cut (fun s => ∃ (V7 : View) (x y w : Value), StIs (fun Z => [Z 0, .v (.slice (some ⟨bC, oC, none⟩) m c2), .p 0 0, Z 3,Z 4, .v (.int .i64 (m : Int)), .p 1 0, Z 7, .p 2 0, Z 9, .v (.int .i64 (i : Int)), .v (.int .i64 (k : Int)), .p 3 0, Z 13,Z 14,Z 15,Z 16,Z 17,Z 18,Z 19,Z 20,Z 21,Z 22,Z 23,Z 24,Z 25,Z 26,Z 27,Z 28,Z 29,Z 30,Z 31, .v (.int .i64 (m : Int)), .v (.int .i64 (i : Int)), Z 34,Z 35,Z 36, .v (.int .i64 (m : Int)), .v (.int .i64 (k : Int)), Z 39,Z 40,Z 41,Z 42,Z 43,Z 44,Z 45,Z 46,Z 47,Z 48,Z 49,Z 50,Z 51,Z 52,Z 53,Z 54,Z 55,Z 56,Z 57,Z 58,Z 59,Z 60,Z 61,Z 62,Z 63,Z 64,Z 65,Z 66,Z 67,Z 68,Z 69,Z 70,Z 71,Z 72,Z 73,Z 74,Z 75,Z 76,Z 77,Z 78,Z 79,Z 80,Z 81,Z 82,Z 83,Z 84,Z 85,Z 86,Z 87,Z 88,Z 89,Z 90,Z 91,Z 92,Z 93,Z 94,Z 95,Z 96,Z 97,Z 98,Z 99,Z 100,Z 101,Z 102,Z 103,Z 104,Z 105,Z 106,Z 107,Z 108,Z 109,Z 110,Z 111,Z 112,Z 113,Z 114,Z 115,Z 116]) [[.int .i64 (n : Int), .int .i64 (n : Int), .slice (some ⟨b', o', none⟩) l.length cp], [.int .i64 (m : Int), .int .i64 (m : Int), .slice (some ⟨g, 0, none⟩) (m * m) cap], [.int .i64 (m : Int), .int .i64 1, .slice (some ⟨g8, 0, none⟩) m cap8], [x, y, w]] H6 V7 s ∧ V6.le V7 ∧ RatC V7 (.agg #[x, y, w]) (if k = i then cf l (ck * n + ci) - 1 else cf l (ck * n + ci)) ∧ isOne x = true ∧ isOne y = true ∧ isOne w = true) ?_ ?_
        · by_cases hik : k = i
          · have b3 : decide ((i : Int) = (k : Int)) = true := decide_eq_true (by omega)
            refine Gx.a (by kernel_rfl) fun K hK => ?_
            simp only [XA, XB, b3]
            refine hK _ ?_
            refine Gx.t rfl ?_
            (refine XWP.drw1 [0, 1, 2, 3] (by kernel_rfl) (by kernel_rfl) (by kernel_rfl) fun K hK => ?_) <;> dsimp only [pickOps, List.getElem?_cons_zero, List.getElem?_cons_succ]
            simp only [XA, XB, Nat.reduceAdd, Nat.reduceLeDiff, ↓reduceIte]
            refine call_go (by kernel_rfl) rfl (pone_c _) fun v7 V7 hV7 k7 => ?_
            simp only [XA]
            refine call_go (by kernel_rfl) rfl (psub_c _ _ _ _ _ ((hx8.mono hV7).toV (q8.qf (by omega))) (k7.toV QF_one) (q8.qf (by omega)) QF_one) fun v8 V8 hV8 k8 => ?_
            obtain ⟨x9, y9, rfl, p1, p2⟩ := k8.form
            simp only [XA]
            refine st_rat rfl rfl rfl p1 p2 ?_
            simp only [XA]
            exact hK _ ⟨V8, _, x9, y9, StIs.of (by exact rfl), View.le_trans hV7 hV8, by rw [if_pos hik]; exact k8, rfl, p1, p2⟩
          · have b3 : decide ((i : Int) = (k : Int)) = false := decide_eq_false (by omega)
            refine Gx.a (by kernel_rfl) fun K hK => ?_
            simp only [XA, XB, b3]
            refine hK _ ?_
            refine Gx.f rfl ?_
            refine XWP.skip ?_
            exact ⟨V6, m8, n8', d8, StIs.of (by exact rfl), View.le_refl _, by rw [if_neg hik]; exact hx8, r1, r2, r3⟩
        clear hx8 hld8 ld1 ld3
        rintro s ⟨V7, x, y, w, hs, hV7, kx, p1, p2, p3⟩
        obtain ⟨z, rfl⟩ := hs.out
        try dsimp only
        clear hs
        refine XWP.cut (fun s => ∃ (V8 : View) (x y w : Value), StIs (fun Z => [Z 0, .v (.slice (some ⟨bC, oC, none⟩) m c2), .p 0 0, Z 3,Z 4, .v (.int .i64 (m : Int)), .p 1 0, Z 7, .p 2 0, Z 9, .v (.int .i64 (i : Int)), .v (.int .i64 (k : Int)), .p 3 0, Z 13,Z 14,Z 15,Z 16,Z 17,Z 18,Z 19,Z 20,Z 21,Z 22,Z 23,Z 24,Z 25,Z 26,Z 27,Z 28,Z 29,Z 30,Z 31, .v (.int .i64 (m : Int)), .v (.int .i64 (i : Int)), Z 34,Z 35,Z 36, .v (.int .i64 (m : Int)), .v (.int .i64 (k : Int)), Z 39,Z 40,Z 41,Z 42,Z 43,Z 44,Z 45,Z 46,Z 47,Z 48,Z 49,Z 50,Z 51,Z 52,Z 53,Z 54,Z 55,Z 56,Z 57,Z 58,Z 59,Z 60,Z 61,Z 62,Z 63,Z 64,Z 65,Z 66,Z 67,Z 68,Z 69,Z 70,Z 71,Z 72,Z 73,Z 74,Z 75,Z 76,Z 77,Z 78,Z 79,Z 80,Z 81,Z 82,Z 83,Z 84,Z 85,Z 86,Z 87,Z 88,Z 89,Z 90,Z 91,Z 92,Z 93,Z 94,Z 95,Z 96,Z 97,Z 98,Z 99,Z 100,Z 101,Z 102,Z 103,Z 104,Z 105,Z 106,Z 107,Z 108,Z 109,Z 110,Z 111,Z 112,Z 113,Z 114,Z 115,Z 116]) [[.int .i64 (n : Int), .int .i64 (n : Int), .slice (some ⟨b', o', none⟩) l.length cp], [.int .i64 (m : Int), .int .i64 (m : Int), .slice (some ⟨g, 0, none⟩) (m * m) cap], [.int .i64 (m : Int), .int .i64 1, .slice (some ⟨g8, 0, none⟩) m cap8], [x, y, w]] H6 V8 s ∧ V6.le V8 ∧ RatC V8 (.agg #[x, y, w]) (Q i k) ∧ isOne x = true ∧ isOne y = true ∧ isOne w = true) ?_ ?_
        · by_cases him : i + 1 = m
          · have b3 : decide ((i : Int) = ((m - 1 : Nat) : Int)) = true := decide_eq_true (by omega)
            refine Gx.a (by kernel_rfl) fun K hK => ?_
            simp only [XA, XB, w5, b3]
            refine hK _ ?_
            refine Gx.t rfl ?_
            refine Gx.c (by kernel_rfl) fun K hK => ?_
            simp only [XA]
            refine call_go (by kernel_rfl) rfl (pone_c _) fun v8 V8 hV8 k8 => ?_
            obtain ⟨x9, y9, rfl, p4, p5⟩ := k8.form
            simp only [XA]
            refine st_rat rfl rfl rfl p4 p5 ?_
            simp only [XA]
            exact hK _ ⟨V8, _, x9, y9, StIs.of (by exact rfl), View.le_trans hV7 hV8, by rw [hQik, if_pos him]; exact k8, rfl, p4, p5⟩
          · have b3 : decide ((i : Int) = ((m - 1 : Nat) : Int)) = false := decide_eq_false (by omega)
            refine Gx.a (by kernel_rfl) fun K hK => ?_
            simp only [XA, XB, w5, b3]
            refine hK _ ?_
            refine Gx.f rfl ?_
            refine XWP.skip ?_
            exact ⟨V7, x, y, w, StIs.of (by exact rfl), hV7, by rw [hQik, if_neg him]; exact kx, p1, p2, p3⟩
        clear kx p1 p2 p3
        rintro s ⟨V8, x, y, w, hs, hV8, kx, p1, p2, p3⟩
        obtain ⟨z, rfl⟩ := hs.out
        try dsimp only
        clear hs
        have hrow8 := hrow.mono ratE_ok hV8
        have hl8 := hrow8.1
        rw [mk_len] at hl8
        refine Gx.c (by kernel_rfl) fun K hK => ?_
        simp only [XM, XA, XB, Nat.reduceAdd, Nat.reduceLeDiff, ↓reduceIte, w3, w4]
        refine ⟨by omega, by omega, ?_⟩
        refine st_rowA shapeT_49 (all3 p1 p2 p3) rfl hH (by dsimp only; omega) ?_
        simp only [XA]
        have hrow9 := hrow8.set (i * m + k) (by rw [mk_len]; exact gk) p1 p2 p3 kx
        rw [← flatF_at Q hk, fill_put (flatF Q m) gk] at hrow9
        exact hK _ fun f => ⟨V8, _, _, StIs.of (by exact rfl), hV8, (upd_off n8).trans h8, upd_at _ _ _, hrow9⟩
      clear h8 hH hrow hx8 hld8 ld1 ld3
      rintro s ⟨V7, H7, co, hs, hV7, h8, hH, hrow⟩
      obtain ⟨z, rfl⟩ := hs.out
      try dsimp only
      refine Gx.c (by kernel_rfl) fun K hK => ?_
      simp only [XA, XB, i64_succ k (by omega)]
      exact hK _ ⟨p - 1, by omega, fun f => ⟨k + 1, V7, H7, co, StIs.of (by exact rfl), by omega, View.le_trans hV6 hV7, h8, hH, hrow⟩⟩
    clear h8 hH hrow
    rintro s ⟨V6, H6, co, hs, hV6, h8, hH, hrow⟩
    obtain ⟨z, rfl⟩ := hs.out
    try dsimp only
    have ei : (i + 1) * m = i * m + m := by rw [Nat.add_mul, Nat.one_mul]
    refine Gx.c (by kernel_rfl) fun K hK => ?_
    simp only [XA, XB, i64_succ i (by omega)]
    exact hK _ ⟨q - 1, by omega, fun f => ⟨i + 1, V6, H6, co, StIs.of (by exact rfl), by omega, View.le_trans hV5 hV6, h8, hH, by rw [ei]; exact hrow⟩⟩
  clear hg4 hg34 hrow3
  rintro s ⟨V5, H5, co, hs, hV5, h8, hH, hrow⟩
  obtain ⟨z, rfl⟩ := hs.out
  try dsimp only
  clear hs
  have w5 : IntKind.i64.wrap ((m : Int) - 1) = ((m - 1 : Nat) : Int) := by rw [wrap_id (by omega) (by omega)]; omega
  (refine XWP.drw [0, 1, 2, 3, 4, 5, 6] (by kernel_rfl) (by kernel_rfl) (by kernel_rfl) fun K hK => ?_) <;> dsimp only [pickOps, List.getElem?_cons_zero, List.getElem?_cons_succ]
  simp only [XM, XA, XB, w5]
  refine call_go (by kernel_rfl) rfl (pone_c _) fun v6 V6 hV6 k6 => ?_
  obtain ⟨x6, y6, rfl, p1, p2⟩ := k6.form
  have hrow4 := hrow4.mono ratE_ok (View.le_trans hV5 hV6)
  have hl4 := hrow4.1
  rw [mk_len] at hl4
  simp only [XA, XB]
  refine ⟨by omega, by omega, ?_⟩
  refine st_rowA shapeT_49 (all3 rfl p1 p2) rfl h8 (by dsimp only; omega) ?_
  simp only [XA]
  refine hK _ ?_
  have hrow8 := hrow4.set (m - 1) (by rw [mk_len]; omega) (show isOne (.bool (ng 1)) = true from rfl) p1 p2 k6
  rw [last_one h1] at hrow8
  have hH := (upd_off (r := some ⟨49, splice cells4 ((m - 1) * 3) [.bool (ng 1), x6, y6], cap8 * 3⟩) (Ne.symm n8)).trans hH
  have h8' := upd_at H5 g8 (some ⟨49, splice cells4 ((m - 1) * 3) [.bool (ng 1), x6, y6], cap8 * 3⟩)
  generalize upd H5 g8 _ = H6 at *
  have hrow := hrow.mono ratE_ok hV6
  refine XWP.pub g _ hH fun og hog hleg => ?_
  have hRa := hrow.pub ratE_ok hog hleg (n := m * m) (c := cap) (mk_len _ _) hle3 (by unfold maxLen at hcap3; omega)
  have h8'' := (upd_off (H := H6) (b := g) (r := none) n8).trans h8'
  have hrow8 := hrow8.mono ratE_ok hleg
  have hle6 := View.le_trans hle14 (View.le_trans hV5 (View.le_trans hV6 hleg))
  generalize upd H6 g none = H7 at *
  generalize addV V6 g og = V7 at *
  refine XWP.pub g8 _ h8'' fun o8 ho8 hle8 => ?_
  have hRb := hrow8.pub ratE_ok ho8 hle8 (n := m) (c := cap8) (mk_len _ _) hle4 (by unfold maxLen at hcap4; omega)
  have hRa := Rats.up hRa hle8
  have hle7 := View.le_trans hle6 hle8
  generalize upd H7 g8 none = H8 at *
  generalize addV V7 g8 o8 = V8 at *
  clear hV5 hV6 hleg hle8 hrow hrow8 hrow4 hH h8 h8' h8'' hl4 k6 p1 p2 hV3 hV4 hle14 hle6
  have eF : mk (m * m) (flatF Q m) = flatG Q m m := rfl
  rw [eF] at hRa
  have huF : UniG (gridL (flatG Q m m) m) m m := hu.congr fun i j hi hj => (gridL_flat Q hi hj).symm
  have qFa : ∀ x ∈ flatG Q m m, QB (B + 1) x := fun x hx => by
    unfold flatG mk at hx
    obtain ⟨t, ht, rfl⟩ := List.mem_map.1 hx
    have ht := List.mem_range.1 ht
    exact hqQ _ _ ((Nat.div_lt_iff_lt_mul (by omega)).2 ht) (Nat.mod_lt _ (by omega))
  have qFb : ∀ x ∈ mk m (oneB m), QB (B + 1) x := fun x hx => by
    unfold mk at hx
    obtain ⟨t, ht, rfl⟩ := List.mem_map.1 hx
    unfold oneB
    split
    · exact (QB_one 1).mono (by omega)
    · exact QB_zero _
  refine Gx.a (by kernel_rfl) fun K hK => ?_
  simp only [XM, XA, Nat.reduceAdd, Nat.reduceLeDiff, ↓reduceIte]
  refine call_go (by kernel_rfl) rfl (dSolve_c _ _ _ m (B + 1) (flatG Q m m) (mk m (oneB m)) hRa hRb (flatG_len _ _ _) (mk_len _ _) h1 hl qFa qFb huF hfit) fun v9 V9 hV9 k9 => ?_
  obtain ⟨w9, X, rfl, hw9, hlin, hqX⟩ := k9
  have hlin2 : LinG Q m m (oneB m) X := hlin.congr (fun i j hi hj => gridL_flat Q hi hj) fun i hi => by rw [cf_mk, if_pos hi]
  have hX := hX X hlin2
  obtain ⟨A9, c9, rfl, _, _⟩ := hw9.form
  rw [mk_len] at hw9 ⊢
  simp only [XM, XA, Nat.reduceAdd]
  refine st_mat shapeT_31 rfl rfl rfl rfl rfl ?_
  simp only [XA]
  refine hK _ ?_
  have hle9 := View.le_trans hle7 hV9
  refine Gx.a (by kernel_rfl) fun K hK => ?_
  simp only [XA]
  refine hK _ ?_
  refine XWP.cut (fun s => ∃ (V10 : View) (H10 : Heap) (wo : Value) (co : List Value), StIs (fun Z => [Z 0, .v (.slice (some ⟨bC, oC, none⟩) m c2), Z 2,Z 3,Z 4,Z 5,Z 6,Z 7,Z 8,Z 9,Z 10,Z 11,Z 12, .p 3 0, Z 14, .v wo, Z 16,Z 17,Z 18,Z 19,Z 20,Z 21,Z 22,Z 23,Z 24,Z 25,Z 26,Z 27,Z 28,Z 29,Z 30,Z 31,Z 32,Z 33,Z 34,Z 35,Z 36,Z 37,Z 38,Z 39,Z 40,Z 41,Z 42,Z 43,Z 44,Z 45,Z 46,Z 47,Z 48,Z 49,Z 50,Z 51,Z 52,Z 53,Z 54,Z 55,Z 56,Z 57,Z 58,Z 59,Z 60,Z 61,Z 62,Z 63,Z 64,Z 65,Z 66,Z 67,Z 68,Z 69,Z 70,Z 71,Z 72,Z 73,Z 74,Z 75,Z 76,Z 77,Z 78,Z 79,Z 80,Z 81,Z 82,Z 83,Z 84,Z 85,Z 86,Z 87,Z 88,Z 89,Z 90,Z 91,Z 92,Z 93,Z 94,Z 95,Z 96,Z 97,Z 98,Z 99,Z 100,Z 101,Z 102,Z 103,Z 104,Z 105,Z 106,Z 107,Z 108,Z 109,Z 110,Z 111,Z 112,Z 113,Z 114,Z 115,Z 116]) [[.int .i64 (n : Int), .int .i64 (n : Int), .slice A l.length cp], [.int .i64 (m : Int), .int .i64 (m : Int), .slice (some ⟨g, 0, none⟩) (m * m) cap], [.int .i64 (m : Int), .int .i64 1, .slice (some ⟨g8, 0, none⟩) m cap8], [.int .i64 (m : Int), .int .i64 1, .slice A9 m c9]] H10 V10 s ∧ V9.le V10 ∧ Own H10 49 3 wo n co ∧ RowAt ratE V10 co (mk n fun _ => 0)) ?_ ?_
  · refine Gx.a (by kernel_rfl) fun K hK => ?_
    simp only [XM, XA, XB]
    refine hK _ ?_
    clear hK
    refine XWP.block ?_
    refine XWP.loop (fun q s => ∃ (i : Nat) (V10 : View) (H10 : Heap) (wo : Value) (co : List Value), StIs (fun Z => [Z 0, .v (.slice (some ⟨bC, oC, none⟩) m c2), Z 2,Z 3,Z 4,Z 5,Z 6,Z 7,Z 8,Z 9,Z 10,Z 11,Z 12, .p 3 0, Z 14, .v wo, Z 16,Z 17,Z 18,Z 19,Z 20,Z 21,Z 22,Z 23,Z 24,Z 25,Z 26,Z 27,Z 28,Z 29,Z 30,Z 31,Z 32,Z 33,Z 34,Z 35,Z 36,Z 37,Z 38,Z 39,Z 40,Z 41,Z 42,Z 43,Z 44,Z 45,Z 46,Z 47,Z 48,Z 49,Z 50,Z 51,Z 52,Z 53,Z 54,Z 55,Z 56,Z 57,Z 58,Z 59,Z 60,Z 61,Z 62,Z 63,Z 64,Z 65,Z 66,Z 67,Z 68,Z 69,Z 70,Z 71,Z 72,Z 73,Z 74,Z 75,Z 76,Z 77,Z 78,Z 79,Z 80,Z 81,Z 82,Z 83,Z 84,Z 85,Z 86,Z 87,Z 88,Z 89,Z 90,Z 91, .v (.int .i64 (n : Int)), .v (.int .i64 (i : Int)), Z 94,Z 95,Z 96,Z 97,Z 98,Z 99,Z 100,Z 101,Z 102,Z 103,Z 104,Z 105,Z 106,Z 107,Z 108,Z 109,Z 110,Z 111,Z 112,Z 113,Z 114,Z 115,Z 116]) [[.int .i64 (n : Int), .int .i64 (n : Int), .slice A l.length cp], [.int .i64 (m : Int), .int .i64 (m : Int), .slice (some ⟨g, 0, none⟩) (m * m) cap], [.int .i64 (m : Int), .int .i64 1, .slice (some ⟨g8, 0, none⟩) m cap8], [.int .i64 (m : Int), .int .i64 1, .slice A9 m c9]] H10 V10 s ∧ q + i = n ∧ V9.le V10 ∧ Own H10 49 3 wo i co ∧ RowAt ratE V10 co (mk i fun _ => 0)) n ⟨0, V9, _, _, [], StIs.of (by exact rfl), by omega, View.le_refl _, own_nil, RowAt.nil _⟩ ?_
    rintro q s ⟨i, V10, H10, wo, co, hs, hq2, hV10, hown, hrZ⟩
    obtain ⟨z, rfl⟩ := hs.out
    try dsimp only
    clear hs
    by_cases hi : i < n
    rotate_left
    · obtain rfl : i = n := by omega
      have b1 : decide ((i : Int) < (i : Int)) = false := decide_eq_false (by omega)
      refine Gx.a (by kernel_rfl) fun K hK => ?_
      simp only [XA, XB, b1]
      refine hK _ ?_
      refine XWP.seq (Gx.f rfl ?_)
      refine XWP.exit ?_
      exact ⟨V10, H10, wo, co, StIs.of (by exact rfl), hV10, hown, hrZ⟩
    have b1 : decide ((i : Int) < (n : Int)) = true := decide_eq_true (by omega)
    refine Gx.a (by kernel_rfl) fun K hK => ?_
    simp only [XA, XB, b1]
    refine hK _ ?_
    refine XWP.seq (Gx.t rfl ?_)
    refine XWP.skip ?_
    refine XWP.seq ?_
    refine XWP.block ?_
    refine Gx.c (by kernel_rfl) fun K hK => ?_
    simp only [XA]
    refine call_go (by kernel_rfl) rfl (pzero_c _) fun v11 V11 hV11 k11 => ?_
    obtain ⟨x11, y11, rfl, p1, p2⟩ := k11.form
    simp only [XA]
    refine bs_go (by kernel_rfl) #[(0, .agg #[.bool (ng 0), x11, y11])] (by simp [ev_tmp, SV.val]) (bs_rat elemT_22) fun b3 hb3 hb4 => ?_
    simp only [XA, Nat.reduceAdd]
    refine ap_go elemT_22 (by kernel_rfl) zeroT_49 rfl (by omega) (own_upd hown hb3) (src3 (upd_at _ _ _) rfl p1 p2) (by omega) (by omega) fun v' H' hres => ?_
    simp only [XA]
    refine hK _ ?_
    have hrZ' := (hrZ.mono ratE_ok hV11).snoc (show isOne (.bool (ng 0)) = true from rfl) p1 p2 k11
    rw [← mk_succ i (fun _ => 0)] at hrZ'
    refine Gx.c (by kernel_rfl) fun K hK => ?_
    simp only [XA, XB, i64_succ i (by omega)]
    exact hK _ ⟨q - 1, by omega, i + 1, V11, H', v', _, StIs.of (by exact rfl), by omega, View.le_trans hV10 hV11, hres.1, hrZ'⟩
  rintro s ⟨V10, H10, wo, co, hs, hV10, hown, hrZ⟩
  obtain ⟨z, rfl⟩ := hs.out
  try dsimp only
  clear hs
  obtain ⟨bO, capO, rfl, hO, hcO, hmO⟩ := row_nat (V := V10) (c := n) hown hn0
  have hw10 := hw9.up hV10
  obtain ⟨b9, o9, rfl⟩ := SlAt.addr hw10 (by rw [mk_len]; omega)
  have hle10 := View.le_trans hle9 hV10
  refine XWP.cut (fun s => ∃ (V11 : View) (H11 : Heap) (co : List Value), StIs (fun Z => [Z 0,Z 1,Z 2,Z 3,Z 4,Z 5,Z 6,Z 7,Z 8,Z 9,Z 10,Z 11,Z 12,Z 13,Z 14, .v (.slice (some ⟨bO, 0, none⟩) n capO), Z 16,Z 17,Z 18,Z 19,Z 20,Z 21,Z 22,Z 23,Z 24,Z 25,Z 26,Z 27,Z 28,Z 29,Z 30,Z 31,Z 32,Z 33,Z 34,Z 35,Z 36,Z 37,Z 38,Z 39,Z 40,Z 41,Z 42,Z 43,Z 44,Z 45,Z 46,Z 47,Z 48,Z 49,Z 50,Z 51,Z 52,Z 53,Z 54,Z 55,Z 56,Z 57,Z 58,Z 59,Z 60,Z 61,Z 62,Z 63,Z 64,Z 65,Z 66,Z 67,Z 68,Z 69,Z 70,Z 71,Z 72,Z 73,Z 74,Z 75,Z 76,Z 77,Z 78,Z 79,Z 80,Z 81,Z 82,Z 83,Z 84,Z 85,Z 86,Z 87,Z 88,Z 89,Z 90,Z 91,Z 92,Z 93,Z 94,Z 95,Z 96,Z 97,Z 98,Z 99,Z 100,Z 101,Z 102,Z 103,Z 104,Z 105,Z 106,Z 107,Z 108,Z 109,Z 110,Z 111,Z 112,Z 113,Z 114,Z 115,Z 116]) [[.int .i64 (n : Int), .int .i64 (n : Int), .slice A l.length cp], [.int .i64 (m : Int), .int .i64 (m : Int), .slice (some ⟨g, 0, none⟩) (m * m) cap], [.int .i64 (m : Int), .int .i64 1, .slice (some ⟨g8, 0, none⟩) m cap8], [.int .i64 (m : Int), .int .i64 1, .slice (some ⟨b9, o9, none⟩) m c9]] H11 V11 s ∧ H11 bO = some ⟨49, co, capO * 3⟩ ∧ RowAt ratE V11 co (scat C X n m)) ?_ ?_
  · refine Gx.a (by kernel_rfl) fun K hK => ?_
    simp only [XN, XA]
    refine hK _ ?_
    clear hK
    refine XWP.block ?_
    refine XWP.loop (fun q s => ∃ (i : Nat) (V11 : View) (H11 : Heap) (co : List Value), StIs (fun Z => [Z 0,Z 1,Z 2,Z 3,Z 4,Z 5,Z 6,Z 7,Z 8,Z 9,Z 10,Z 11,Z 12, .p 3 0, Z 14, .v (.slice (some ⟨bO, 0, none⟩) n capO), Z 16,Z 17,Z 18,Z 19,Z 20,Z 21,Z 22,Z 23,Z 24,Z 25,Z 26,Z 27,Z 28,Z 29,Z 30,Z 31,Z 32,Z 33,Z 34,Z 35,Z 36,Z 37,Z 38,Z 39,Z 40,Z 41,Z 42,Z 43,Z 44,Z 45,Z 46,Z 47,Z 48,Z 49,Z 50,Z 51,Z 52,Z 53,Z 54,Z 55,Z 56,Z 57,Z 58,Z 59,Z 60,Z 61,Z 62,Z 63,Z 64,Z 65,Z 66,Z 67,Z 68,Z 69,Z 70,Z 71,Z 72,Z 73,Z 74,Z 75,Z 76,Z 77,Z 78,Z 79,Z 80,Z 81,Z 82,Z 83,Z 84,Z 85,Z 86,Z 87,Z 88,Z 89,Z 90,Z 91,Z 92,Z 93,Z 94,Z 95,Z 96,Z 97,Z 98,Z 99, .v (.slice (some ⟨bC, oC, none⟩) m c2), .v (.int .i64 (m : Int)), .v (.int .i64 (i : Int)), Z 103,Z 104,Z 105,Z 106,Z 107,Z 108,Z 109,Z 110,Z 111,Z 112,Z 113,Z 114,Z 115,Z 116]) [[.int .i64 (n : Int), .int .i64 (n : Int), .slice A l.length cp], [.int .i64 (m : Int), .int .i64 (m : Int), .slice (some ⟨g, 0, none⟩) (m * m) cap], [.int .i64 (m : Int), .int .i64 1, .slice (some ⟨g8, 0, none⟩) m cap8], [.int .i64 (m : Int), .int .i64 1, .slice (some ⟨b9, o9, none⟩) m c9]] H11 V11 s ∧ q + i = m ∧ V10.le V11 ∧ H11 bO = some ⟨49, co, capO * 3⟩ ∧ RowAt ratE V11 co (scat C X n i)) m ⟨0, V10, H10, co, StIs.of (by exact rfl), by omega, View.le_refl _, hO, hrZ⟩ ?_
    clear hO hrZ hown
    rintro q s ⟨i, V11, H11, co, hs, hq2, hV11, hO, hrZ⟩
    obtain ⟨z, rfl⟩ := hs.out
    try dsimp only
    clear hs
    by_cases hi : i < m
    rotate_left
    · obtain rfl : i = m := by omega
      have b1 : decide ((i : Int) < (i : Int)) = false := decide_eq_false (by omega)
      refine Gx.a (by kernel_rfl) fun K hK => ?_
      simp only [XA, XB, b1]
      refine hK _ ?_
      refine XWP.seq (Gx.f rfl ?_)
      refine XWP.exit ?_
      exact ⟨V11, H11, co, StIs.of (by exact rfl), hO, hrZ⟩
    have b1 : decide ((i : Int) < (m : Int)) = true := decide_eq_true (by omega)
    refine Gx.a (by kernel_rfl) fun K hK => ?_
    simp only [XA, XB, b1]
    refine hK _ ?_
    refine XWP.seq (Gx.t rfl ?_)
    refine XWP.skip ?_
    obtain ⟨c1, ld1⟩ := hCl i hi
    have ld1 := ld1 V11 (View.le_trans hle10 hV11)
    obtain ⟨ci, hci⟩ : ∃ ci, ci = C.getD i 0 := ⟨_, rfl⟩
    rw [← hci] at c1 ld1
    obtain ⟨m6, n6, d6, hx6, ⟨r1, r2, r3⟩, hld6⟩ := Rats.get (hw10.up hV11) i (by rw [mk_len]; exact hi)
    rw [cf_mk, if_pos hi] at hx6
    have hl11 := hrZ.1
    rw [scat_len] at hl11
    refine XWP.seq ?_
    refine XWP.block ?_
    refine Gx.a (by kernel_rfl) fun K hK => ?_
    simp only [XN, XA, XB]
    refine ⟨by omega, by omega, ?_⟩
    refine ld_mem (by simpa using ld1 _) ?_
    simp only [XA]
    refine hK _ ?_
    refine Gx.c (by kernel_rfl) fun K hK => ?_
    simp only [XM, XA, XB]
    refine ⟨by omega, by omega, ld_mem (hld6 _) ?_⟩
    simp only [XA, XB]
    refine ⟨by omega, by omega, ?_⟩
    refine st_rowA shapeT_49 (all3 r1 r2 r3) rfl hO (by dsimp only; omega) ?_
    simp only [XA]
    refine hK _ ?_
    have hrZ9 := hrZ.set ci (by rw [scat_len]; exact c1) r1 r2 r3 hx6
    rw [show (scat C X n i).set ci (X i) = scat C X n (i + 1) from by rw [hci]; rfl] at hrZ9
    refine Gx.c (by kernel_rfl) fun K hK => ?_
    simp only [XA, XB, i64_succ i (by omega)]
    exact hK _ ⟨q - 1, by omega, i + 1, V11, _, _, StIs.of (by exact rfl), by omega, hV11, upd_at _ _ _, hrZ9⟩
  clear hO hrZ hown
  rintro s ⟨V11, H11, co, hs, hO, hrZ⟩
  obtain ⟨z, rfl⟩ := hs.out
  try dsimp only
  refine Gx.a (by kernel_rfl) fun K hK => ?_
  simp only [XA]
  refine hK _ (XWP.ret ?_)
  try simp only [thenX_ret, inBlockX_ret]
  rw [hX] at hrZ
  refine ret_pub bO _ hO fun o ho hle => ret_go _ rfl ?_
  exact hrZ.pub ratE_ok ho hle (show (lawC l n C).length = n from scat_len _ _ _ _) hcO (by unfold maxLen at hmO; omega)
end Go.Proofs.YtkgmicakfmllmaaGreat
end
