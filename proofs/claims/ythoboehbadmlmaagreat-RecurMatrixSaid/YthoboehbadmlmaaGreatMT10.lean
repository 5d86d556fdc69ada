/- The law RecurMatrix answers true at every input: the characteristic polynomial and a polynomial of a matrix agree with the reference, errors included. (part 10 of 12) -/
import Derived.OrdersHeld
import Derived.Below
import Derived.Tactics
import Derived.KernelRfl
import Derived.RangeFuncCalls
import Derived.RangeFuncFrom
import Derived.RangeFuncLeaves
import Derived.OrdersIn
import Derived.Laws.AppendOwn
import Derived.Laws.MakeOwn
import Derived.Laws.CopyRow
import Derived.Laws.Cells
import Derived.Laws.World
import Derived.Laws.Alloc2
import Derived.Laws.NewBlocks
import Derived.Maps.AppendAt
import Derived.Test.YthoboehbadmlmaaGreatProg
import Init.Data.List.Lemmas
import Init.Omega
import Derived.WalkKit
import Derived.ProofKit
import Derived.OpenShut
import Derived.ChangeOld
import Derived.SizedLaws
import Derived.ChangeSlices
import Derived.ChangeArms
import Derived.Deep.Slices
import Derived.Test.YthoboehbadmlmaaGreatMT9
section
namespace Go.Proofs.YthoboehbadmlmaaGreat
open Go Go.RowKit
set_option linter.unusedSimpArgs false
set_option linter.unusedVariables false
attribute [local irreducible] XWP Spec SpecO XPub XCall seqX clX apX stX ldX iaX slX
theorem QB_neg {B : Nat} {q : Rat} (h : QB B q) : QB B (-q) := ⟨by rw [Rat.neg_num, Int.natAbs_neg]; exact h.1, by rw [Rat.neg_den]; exact h.2⟩
/-- the memory of an elimination under way; the rows of av stay as they were in R0 -/
structure CMW (H : Heap) (V : View) (w : Value) (n gw : Nat) (av : List Nat) (R0 : Heap) (G : Grid) : Prop where
  grid : GridAt H V w n n G av
  wr : ∃ cw tot, H gw = some ⟨3, cw, tot⟩ ∧ cw.length = n
  at4 : ∀ b, b ∈ av → H b = R0 b
  ng : ∀ g c, w = .slice (some ⟨g, 0, none⟩) n c → g ∉ av
  nw : gw ∉ av
theorem CMW.mono {H : Heap} {V V' : View} {w : Value} {n gw : Nat} {av : List Nat} {R0 : Heap} {G : Grid} (h : CMW H V w n gw av R0 G) (hV : V.le V') : CMW H V' w n gw av R0 G := ⟨h.grid.mono hV, h.wr, h.at4, h.ng, h.nw⟩
theorem CMW.congr {H : Heap} {V : View} {w : Value} {n gw : Nat} {av : List Nat} {R0 : Heap} {G G' : Grid} (h : CMW H V w n gw av R0 G) (e : ∀ i j, i < n → j < n → G i j = G' i j) : CMW H V w n gw av R0 G' := ⟨h.grid.congr e, h.wr, h.at4, h.ng, h.nw⟩
theorem CMW.at {H : Heap} {V : View} {w : Value} {n gw : Nat} {av : List Nat} {R0 : Heap} {G : Grid} (h : CMW H V w n gw av R0 G) {i : Nat} (hi : i < n) :
    ∃ g cap b c cs, w = .slice (some ⟨g, 0, none⟩) n cap ∧ Loads Tryz.prog H V 22 g i (.slice (some ⟨b, 0, none⟩) n c) ∧ H b = some ⟨48, cs, c * 3⟩ ∧ cs.length = n * 3 ∧ n ≤ c ∧
      (∀ j, j < n → ∃ x y z, RatC V (.agg #[x, y, z]) (G i j) ∧ (isOne x = true ∧ isOne y = true ∧ isOne z = true) ∧ Loads Tryz.prog H V 48 b (j * 3) (.agg #[x, y, z])) ∧
      ∀ V' j q x y z, j < n → V.le V' → RatC V' (.agg #[x, y, z]) q → isOne x = true → isOne y = true → isOne z = true → CMW (upd H b (some ⟨48, splice cs (j * 3) [x, y, z], c * 3⟩)) V' w n gw av R0 (fun i' j' => if i' = i ∧ j' = j then q else G i' j') := by
  obtain ⟨g, cap, b, c, cs, e, h1, h2, h3, h4, h5, h6, h7⟩ := h.grid.at hi
  refine ⟨g, cap, b, c, cs, e, h1, h2, by rw [h3.1, mk_len], h4, fun j hj => ?_, fun V' j q x y z hj hV hx o1 o2 o3 => ?_⟩
  · obtain ⟨x, y, z, a1, a2, a3⟩ := rowQ_load h2 h3 j (by rw [mk_len]; exact hj)
    rw [cf_mk, if_pos hj] at a1
    exact ⟨x, y, z, a1, a2, a3⟩
  · have hr := (h3.mono ratE_ok hV).set j (by rw [mk_len]; exact hj) o1 o2 o3 hx
    rw [mk_set1 hj] at hr
    obtain ⟨cw, tot, w1, w2⟩ := h.wr
    have hgb : gw ≠ b := fun e => by subst e; rw [h2] at w1; cases w1
    refine ⟨(h7 V' _ _ hV hr).congr fun i' j' _ _ => ?_, ⟨cw, tot, (upd_off hgb).trans w1, w2⟩, fun b4 hb4 => (upd_off (fun e => h6 (by rw [← e]; exact hb4))).trans (h.at4 b4 hb4), h.ng, h.nw⟩
    by_cases e1 : i' = i
    · by_cases e2 : j' = j
      · simp [e1, e2]
      · simp [e1, e2]
    · simp [e1]
theorem CMW.swap {H : Heap} {V : View} {w : Value} {n gw : Nat} {av : List Nat} {R0 : Heap} {G : Grid} (h : CMW H V w n gw av R0 G) {p t : Nat} (hp : p < n) (ht : t < n) :
    ∃ g cap cells vp vt, w = .slice (some ⟨g, 0, none⟩) n cap ∧ H g = some ⟨22, cells, cap * 1⟩ ∧ cells.length = n ∧ Loads Tryz.prog H V 22 g p vp ∧ Loads Tryz.prog H V 22 g t vt ∧ isOne vp = true ∧ isOne vt = true ∧
      CMW (upd (upd H g (some ⟨22, cells.set p vt, cap * 1⟩)) g (some ⟨22, (cells.set p vt).set t vp, cap * 1⟩)) V w n gw av R0 (gsw G p t) := by
  obtain ⟨g, cap, cells, vp, vt, e, h1, h2, h3, h4, h5, h6, h7⟩ := h.grid.swap hp ht
  obtain ⟨cw, tot, w1, w2⟩ := h.wr
  have n1 : gw ≠ g := fun e => by subst e; rw [h1] at w1; cases w1
  have n2 : ∀ b, b ∈ av → b ≠ g := fun b hb e' => h.ng g cap e (by rw [← e']; exact hb)
  exact ⟨g, cap, cells, vp, vt, e, h1, h2, h3, h4, h5, h6, h7, ⟨cw, tot, (upd_off n1).trans ((upd_off n1).trans w1), w2⟩, fun b hb => (upd_off (n2 b hb)).trans ((upd_off (n2 b hb)).trans (h.at4 b hb)), h.ng, h.nw⟩
theorem CMW.where {H : Heap} {V : View} {w : Value} {n gw : Nat} {av : List Nat} {R0 : Heap} {G : Grid} (h : CMW H V w n gw av R0 G) (k : Nat) (x : Int) :
    ∃ cw tot, H gw = some ⟨3, cw, tot⟩ ∧ cw.length = n ∧ CMW (upd H gw (some ⟨3, cw.set k (.int .i64 x), tot⟩)) V w n gw av R0 G := by
  obtain ⟨cw, tot, w1, w2⟩ := h.wr
  have hne : ∀ b cs t, H b = some ⟨48, cs, t⟩ → upd H gw (some ⟨3, cw.set k (.int .i64 x), tot⟩) b = H b := fun b cs t hb => by
    unfold upd; split
    · rename_i e; subst e; rw [w1] at hb; cases hb
    · rfl
  have hne2 : ∀ b cs t, H b = some ⟨22, cs, t⟩ → upd H gw (some ⟨3, cw.set k (.int .i64 x), tot⟩) b = H b := fun b cs t hb => by
    unfold upd; split
    · rename_i e; subst e; rw [w1] at hb; cases hb
    · rfl
  exact ⟨cw, tot, w1, w2, h.grid.frame hne2 fun b cs t ha hb => ⟨hne b cs t hb, ha⟩, ⟨_, tot, upd_at _ _ _, by rw [List.length_set]; exact w2⟩, fun b hb => (upd_off (fun e => h.nw (by rw [← e]; exact hb))).trans (h.at4 b hb), h.ng, h.nw⟩
/-- what is known of an elimination under way -/
structure CIW (G0 : Grid) (n B : Nat) (G : Grid) (k top : Nat) (d : Rat) : Prop where
  det : DetI G0 n G k top d
  qb : ∀ i j, i < n → j < n → QB (ge B k) (G i j)
theorem CIW.skip {G0 G : Grid} {n B k top : Nat} {d : Rat} (h : CIW G0 n B G k top d) (hk : k < n) (hz : ∀ i, top ≤ i → i < n → G i k = 0) : CIW G0 n B G (k + 1) top 0 :=
  ⟨h.det.skip hk hz, fun i j hi hj => (h.qb i j hi hj).mono (ge_mono B (by omega))⟩
theorem CIW.piv {G0 G : Grid} {n B k top p : Nat} {d : Rat} (h : CIW G0 n B G k top d) (hk : k < n) (h1 : top ≤ p) (h2 : p < n) (hd : G p k ≠ 0) : CIW G0 n B (gcol (gsw G p top) top k) (k + 1) (top + 1) ((if p = top then d else -d) * G p k) := by
  have hle := h.det.le
  refine ⟨h.det.piv hk h1 h2 hd, fun i j hi hj => ?_⟩
  have hq : ∀ i j, i < n → j < n → QB (ge B k) (gsw G p top i j) := fun i j hi hj => h.qb _ j (swp_lt h2 (by omega) hi) hj
  have q1 := (hq top j (by omega) hj).div (hq top k (by omega) (by omega))
  unfold gcol
  split
  · exact q1.mono (by simp only [ge]; omega)
  · exact ((hq i j hi hj).sub ((hq i k hi (by omega)).mul q1)).mono (by simp only [ge]; omega)
theorem gsw_self (G : Grid) (k : Nat) : gsw G k k = G := by
  funext i j
  unfold gsw swp
  by_cases e : i = k
  · rw [if_pos e, e]
  · rw [if_neg e, if_neg e]
set_option maxRecDepth 100000 in
set_option maxHeartbeats 0 in
theorem ddet_m (H0 : Heap) (V : View) (g cap n B : Nat) (av : List Nat) (G0 : Grid) (hgrid : GridAt H0 V (.slice (some ⟨g, 0, none⟩) n cap) n n G0 av) (hgv : g ∉ av) (hav : ∀ b, b ∈ av → ∃ r, H0 b = some r) (hn : n ≤ 60) (hq : ∀ i j, i < n → j < n → QB B (G0 i j)) (hfit : (n + 1) * ge B (n + 1) ≤ 17592186044416) :
    MSpec Tryz.prog 56 [.slice (some ⟨g, 0, none⟩) n cap, .int .i64 (n : Int)] H0 V fun v' H' V' => V.le V' ∧ ∃ u dm dx dy, v' = .tuple #[u, .agg #[.bool dm, dx, dy]] ∧ isOne u = true ∧ isOne dx = true ∧ isOne dy = true ∧ RatC V' (.agg #[.bool dm, dx, dy]) (detL n G0) ∧ QB (n * ge B (n + 1) + 1) (detL n G0) ∧ ∀ b, b ∈ av → H' b = H0 b := by
  refine (MSpec.enter Tryz.func56 rfl fun Γ hΓ => ?_)
  simp only [Tryz.ntmps56, List.map_cons, List.map_nil, List.length_cons, List.length_nil, Nat.reduceAdd, Nat.reduceSub, List.replicate_succ, List.replicate_zero, List.cons_append, List.nil_append]
  have hmulB : ∀ k, k ≤ n + 1 → k * ge B (n + 1) ≤ 17592186044416 := fun k hk => Nat.le_trans (Nat.mul_le_mul_right _ hk) hfit
  have hgeB : ge B (n + 1) ≤ 17592186044416 := by have := hmulB 1 (by omega); omega
  refine Gx.a (by kernel_rfl) fun K hK => ?_
  simp only [XA, XB]
  refine hK _ ?_
  refine Gx.a (by kernel_rfl) fun K hK => ?_
  simp only [XA]
  refine call_go (by kernel_rfl) rfl (pone_c _) fun v1 V1 hV1 k1 => ?_
  obtain ⟨x1, y1, rfl, p1, p2⟩ := k1.form
  simp only [XA, XB]
  refine st_rat rfl rfl rfl p1 p2 ?_
  simp only [XA]
  refine hK _ ?_
  refine Gx.a (by kernel_rfl) fun K hK => ?_
  simp only [XA]
  refine mk_go rfl rfl eII zeroT_3 (by omega) (by omega) (by omega) (by omega) rfl (by omega) fun gw hgw1 hgw2 => ?_
  simp only [XA]
  refine hK _ ?_
  refine Gx.a (by kernel_rfl) fun K hK => ?_
  simp only [XA]
  refine hK _ ?_
  have hgw1 : H0 gw = none := hgw1
  have hmem0 : CMW (upd H0 gw (some ⟨3, (List.replicate n [Value.int .i64 0]).flatten, n⟩)) V1 (.slice (some ⟨g, 0, none⟩) n cap) n gw av H0 G0 := by
    refine ⟨(hgrid.mono hV1).alloc hgw1, ⟨_, _, upd_at _ _ _, by simp⟩, fun b hb => upd_off fun e => ?_, fun g' c' e => ?_, fun hb => ?_⟩
    · obtain ⟨r, hr⟩ := hav b hb
      rw [e, hgw1] at hr; cases hr
    · cases e; exact hgv
    · obtain ⟨r, hr⟩ := hav gw hb
      rw [hgw1] at hr; cases hr
  have hinv0 : CIW G0 n B G0 0 0 1 := ⟨DetI.start _ _, hq⟩
  generalize upd H0 gw _ = H1 at *
  clear hgw1 hgw2
  refine XWP.cutD 2 (fun s => ∃ (V8 : View) (H8 : Heap) (dm : Bool) (dx dy : Value) (d : Rat), StIs (fun Z => [.v (.slice (some ⟨g, 0, none⟩) n cap), .v (.int .i64 (n : Int)), Z 2,Z 3,Z 4, .p 0 0, .p 1 0, .v (.slice (some ⟨gw, 0, none⟩) n n), Z 8,Z 9,Z 10,Z 11,Z 12,Z 13,Z 14,Z 15,Z 16,Z 17,Z 18,Z 19,Z 20,Z 21,Z 22,Z 23,Z 24,Z 25,Z 26,Z 27,Z 28,Z 29,Z 30,Z 31,Z 32,Z 33,Z 34,Z 35,Z 36,Z 37,Z 38,Z 39,Z 40,Z 41,Z 42,Z 43,Z 44,Z 45,Z 46,Z 47,Z 48,Z 49,Z 50,Z 51,Z 52,Z 53,Z 54,Z 55,Z 56,Z 57,Z 58,Z 59,Z 60,Z 61,Z 62,Z 63,Z 64,Z 65,Z 66,Z 67,Z 68,Z 69,Z 70,Z 71,Z 72,Z 73,Z 74,Z 75,Z 76,Z 77,Z 78,Z 79,Z 80,Z 81,Z 82,Z 83,Z 84,Z 85,Z 86,Z 87,Z 88,Z 89,Z 90,Z 91,Z 92,Z 93,Z 94,Z 95,Z 96,Z 97,Z 98,Z 99,Z 100,Z 101,Z 102,Z 103,Z 104,Z 105,Z 106,Z 107,Z 108,Z 109,Z 110,Z 111,Z 112,Z 113,Z 114,Z 115,Z 116,Z 117,Z 118,Z 119,Z 120,Z 121,Z 122,Z 123,Z 124,Z 125,Z 126,Z 127,Z 128,Z 129,Z 130,Z 131,Z 132,Z 133,Z 134,Z 135,Z 136,Z 137,Z 138,Z 139,Z 140,Z 141,Z 142,Z 143,Z 144,Z 145,Z 146,Z 147,Z 148,Z 149,Z 150,Z 151,Z 152,Z 153,Z 154,Z 155,Z 156,Z 157,Z 158,Z 159,Z 160,Z 161,Z 162,Z 163,Z 164,Z 165,Z 166,Z 167,Z 168,Z 169,Z 170,Z 171,Z 172]) [[.bool false, .slice none 0 0, .slice none 0 0], [.bool dm, dx, dy]] H8 V8 s ∧ V.le V8 ∧ RatC V8 (.agg #[.bool dm, dx, dy]) d ∧ isOne dx = true ∧ isOne dy = true ∧ QB (n * ge B (n + 1) + 1) d ∧ d = detL n G0 ∧ ∀ b, b ∈ av → H8 b = H0 b) ?_ ?_
  · --{
    refine Gx.a (by kernel_rfl) fun K hK => ?_
    simp only [XA]
    refine hK _ ?_
    clear hK
    refine XWP.block ?_
    refine XWP.loopD 2 (fun q s => ∃ (k top : Nat) (V8 : View) (H8 : Heap) (dm : Bool) (dx dy : Value) (d : Rat) (G : Grid), StIs (fun Z => [.v (.slice (some ⟨g, 0, none⟩) n cap), .v (.int .i64 (n : Int)), Z 2,Z 3,Z 4, .p 0 0, .p 1 0, .v (.slice (some ⟨gw, 0, none⟩) n n), .v (.int .i64 (top : Int)), .v (.int .i64 (k : Int)), Z 10,Z 11,Z 12,Z 13,Z 14,Z 15,Z 16,Z 17,Z 18,Z 19,Z 20,Z 21,Z 22,Z 23,Z 24,Z 25,Z 26,Z 27,Z 28,Z 29,Z 30,Z 31,Z 32,Z 33,Z 34,Z 35,Z 36,Z 37,Z 38,Z 39,Z 40,Z 41,Z 42,Z 43,Z 44,Z 45,Z 46,Z 47,Z 48,Z 49,Z 50,Z 51,Z 52,Z 53,Z 54,Z 55,Z 56,Z 57,Z 58,Z 59,Z 60,Z 61,Z 62,Z 63,Z 64,Z 65,Z 66,Z 67,Z 68,Z 69,Z 70,Z 71,Z 72,Z 73,Z 74,Z 75,Z 76,Z 77,Z 78,Z 79,Z 80,Z 81,Z 82,Z 83,Z 84,Z 85,Z 86,Z 87,Z 88,Z 89,Z 90,Z 91,Z 92,Z 93,Z 94,Z 95,Z 96,Z 97,Z 98,Z 99,Z 100,Z 101,Z 102,Z 103,Z 104,Z 105,Z 106,Z 107,Z 108,Z 109,Z 110,Z 111,Z 112,Z 113,Z 114,Z 115,Z 116,Z 117,Z 118,Z 119,Z 120,Z 121,Z 122,Z 123,Z 124,Z 125,Z 126,Z 127,Z 128,Z 129,Z 130,Z 131,Z 132,Z 133,Z 134,Z 135,Z 136,Z 137,Z 138,Z 139,Z 140,Z 141,Z 142,Z 143,Z 144,Z 145,Z 146,Z 147,Z 148,Z 149,Z 150,Z 151,Z 152,Z 153,Z 154,Z 155,Z 156,Z 157,Z 158,Z 159,Z 160,Z 161,Z 162,Z 163,Z 164,Z 165,Z 166,Z 167,Z 168,Z 169,Z 170,Z 171,Z 172]) [[.bool false, .slice none 0 0, .slice none 0 0], [.bool dm, dx, dy]] H8 V8 s ∧ q + k = n ∧ V.le V8 ∧ RatC V8 (.agg #[.bool dm, dx, dy]) d ∧ isOne dx = true ∧ isOne dy = true ∧ QB (k * ge B (n + 1) + 1) d ∧ CMW H8 V8 (.slice (some ⟨g, 0, none⟩) n cap) n gw av H0 G ∧ CIW G0 n B G k top d) n ⟨0, 0, V1, H1, _, x1, y1, 1, G0, StIs.of (by exact rfl), by omega, hV1, k1, p1, p2, (QB_one 1).mono (by omega), hmem0, hinv0⟩ ?_
    clear hmem0 hinv0 k1 p1 p2 hgrid hq
    rintro q s ⟨k, top, V8, H8, dm, dx, dy, d, G, hs, hqk, hV8, kd, p1, p2, dq, hmem, hinv⟩
    obtain ⟨z, rfl⟩ := hs.out
    try dsimp only
    clear hs
    refine XWP.seq ?_
    by_cases hk : k < n
    rotate_left
    · obtain rfl : k = n := by omega
      have b2 : decide ((k : Int) < (k : Int)) = false := decide_eq_false (by omega)
      refine Gx.a (by kernel_rfl) fun K hK => ?_
      simp only [XA, XB, b2]
      refine hK _ ?_
      refine Gx.f rfl ?_
      refine XWP.exit ?_
      exact fun f => ⟨V8, H8, dm, dx, dy, d, StIs.of (by exact rfl), hV8, kd, p1, p2, dq, hinv.det.done, hmem.at4⟩
    have b2 : decide ((k : Int) < (n : Int)) = true := decide_eq_true (by omega)
    refine Gx.a (by kernel_rfl) fun K hK => ?_
    simp only [XA, XB, b2]
    refine hK _ ?_
    refine Gx.t rfl ?_
    refine XWP.skip ?_
    refine XWP.cutD 2 (fun s => ∃ (V9 : View) (H9 : Heap) (dm : Bool) (dx dy : Value) (d : Rat) (G : Grid) (top' : Nat), StIs (fun Z => [.v (.slice (some ⟨g, 0, none⟩) n cap), .v (.int .i64 (n : Int)), Z 2,Z 3,Z 4, .p 0 0, .p 1 0, .v (.slice (some ⟨gw, 0, none⟩) n n), .v (.int .i64 (top' : Int)), .v (.int .i64 (k : Int)), Z 10,Z 11,Z 12,Z 13,Z 14,Z 15,Z 16,Z 17,Z 18,Z 19,Z 20,Z 21,Z 22,Z 23,Z 24,Z 25,Z 26,Z 27,Z 28,Z 29,Z 30,Z 31,Z 32,Z 33,Z 34,Z 35,Z 36,Z 37,Z 38,Z 39,Z 40,Z 41,Z 42,Z 43,Z 44,Z 45,Z 46,Z 47,Z 48,Z 49,Z 50,Z 51,Z 52,Z 53,Z 54,Z 55,Z 56,Z 57,Z 58,Z 59,Z 60,Z 61,Z 62,Z 63,Z 64,Z 65,Z 66,Z 67,Z 68,Z 69,Z 70,Z 71,Z 72,Z 73,Z 74,Z 75,Z 76,Z 77,Z 78,Z 79,Z 80,Z 81,Z 82,Z 83,Z 84,Z 85,Z 86,Z 87,Z 88,Z 89,Z 90,Z 91,Z 92,Z 93,Z 94,Z 95,Z 96,Z 97,Z 98,Z 99,Z 100,Z 101,Z 102,Z 103,Z 104,Z 105,Z 106,Z 107,Z 108,Z 109,Z 110,Z 111,Z 112,Z 113,Z 114,Z 115,Z 116,Z 117,Z 118,Z 119,Z 120,Z 121,Z 122,Z 123,Z 124,Z 125,Z 126,Z 127,Z 128,Z 129,Z 130,Z 131,Z 132,Z 133,Z 134,Z 135,Z 136,Z 137,Z 138,Z 139,Z 140,Z 141,Z 142,Z 143,Z 144,Z 145,Z 146,Z 147,Z 148,Z 149,Z 150,Z 151,Z 152,Z 153,Z 154,Z 155,Z 156,Z 157,Z 158,Z 159,Z 160,Z 161,Z 162,Z 163,Z 164,Z 165,Z 166,Z 167,Z 168,Z 169,Z 170,Z 171,Z 172]) [[.bool false, .slice none 0 0, .slice none 0 0], [.bool dm, dx, dy]] H9 V9 s ∧ V8.le V9 ∧ RatC V9 (.agg #[.bool dm, dx, dy]) d ∧ isOne dx = true ∧ isOne dy = true ∧ QB ((k + 1) * ge B (n + 1) + 1) d ∧ CMW H9 V9 (.slice (some ⟨g, 0, none⟩) n cap) n gw av H0 G ∧ CIW G0 n B G (k + 1) top' d) ?_ ?_
    rotate_left
    · clear kd p1 p2
      rintro s ⟨V9, H9, dm, dx, dy, d', G', top', hs, hV9, kd, p1, p2, dq', hmem', hinv'⟩
      obtain ⟨z, rfl⟩ := hs.out
      try dsimp only
      clear hs
      refine Gx.c (by kernel_rfl) fun K hK => ?_
      simp only [XA, XB, i64_succ k (by omega)]
      exact hK _ ⟨q - 1, by omega, fun f => ⟨k + 1, top', V9, H9, dm, dx, dy, d', G', StIs.of (by exact rfl), by omega, View.le_trans hV8 hV9, kd, p1, p2, dq', hmem', hinv'⟩⟩
    clear hK
    refine XWP.block ?_
    obtain ⟨cw, tot, hw1, hw2, hmem1⟩ := hmem.where k (-1)
    clear hmem
    refine Gx.a (by kernel_rfl) fun K hK => ?_
    simp only [XN, XA, XB]
    refine ⟨by omega, by omega, ?_⟩
    refine st_row shapeT_3 rfl rfl hw1 (by dsimp only; omega) ?_
    simp only [XA]
    refine hK _ ?_
    obtain ⟨H9, hH9⟩ : ∃ H9, H9 = upd H8 gw (some ⟨3, cw.set k (.int .i64 (-1)), tot⟩) := ⟨_, rfl⟩
    rw [← hH9] at hmem1
    rw [← hH9]
    clear hH9 hw1
    refine Gx.a (by kernel_rfl) fun K hK => ?_
    simp only [XA]
    refine hK _ ?_
    have hfk : ge B (k + 1) ≤ ge B (n + 1) := ge_mono B (by omega)
    have hfk2 : 4 * ge B k + 2 ≤ ge B (n + 1) := hfk
    have hqf : ∀ i j, i < n → j < n → QF (G i j) := fun i j hi hj => (hinv.qb i j hi hj).qf (by omega)
    have hle := hinv.det.le
    refine XWP.cutD 2 (fun s => ∃ (p : Nat) (V9 : View), StIs (fun Z => [.v (.slice (some ⟨g, 0, none⟩) n cap), .v (.int .i64 (n : Int)), Z 2,Z 3,Z 4, .p 0 0, .p 1 0, .v (.slice (some ⟨gw, 0, none⟩) n n), .v (.int .i64 (top : Int)), .v (.int .i64 (k : Int)), .v (.int .i64 (p : Int)), Z 11,Z 12,Z 13,Z 14,Z 15,Z 16,Z 17,Z 18,Z 19,Z 20,Z 21,Z 22,Z 23,Z 24,Z 25,Z 26,Z 27,Z 28,Z 29,Z 30,Z 31,Z 32,Z 33,Z 34,Z 35,Z 36,Z 37,Z 38,Z 39,Z 40,Z 41,Z 42,Z 43,Z 44,Z 45,Z 46,Z 47,Z 48,Z 49,Z 50,Z 51,Z 52,Z 53,Z 54,Z 55,Z 56,Z 57,Z 58,Z 59,Z 60,Z 61,Z 62,Z 63,Z 64,Z 65,Z 66,Z 67,Z 68,Z 69,Z 70,Z 71,Z 72,Z 73,Z 74,Z 75,Z 76,Z 77,Z 78,Z 79,Z 80,Z 81,Z 82,Z 83,Z 84,Z 85,Z 86,Z 87,Z 88,Z 89,Z 90,Z 91,Z 92,Z 93,Z 94,Z 95,Z 96,Z 97,Z 98,Z 99,Z 100,Z 101,Z 102,Z 103,Z 104,Z 105,Z 106,Z 107,Z 108,Z 109,Z 110,Z 111,Z 112,Z 113,Z 114,Z 115,Z 116,Z 117,Z 118,Z 119,Z 120,Z 121,Z 122,Z 123,Z 124,Z 125,Z 126,Z 127,Z 128,Z 129,Z 130,Z 131,Z 132,Z 133,Z 134,Z 135,Z 136,Z 137,Z 138,Z 139,Z 140,Z 141,Z 142,Z 143,Z 144,Z 145,Z 146,Z 147,Z 148,Z 149,Z 150,Z 151,Z 152,Z 153,Z 154,Z 155,Z 156,Z 157,Z 158,Z 159,Z 160,Z 161,Z 162,Z 163,Z 164,Z 165,Z 166,Z 167,Z 168,Z 169,Z 170,Z 171,Z 172]) [[.bool false, .slice none 0 0, .slice none 0 0], [.bool dm, dx, dy]] H9 V9 s ∧ V8.le V9 ∧ top ≤ p ∧ p ≤ n ∧ (∀ i, top ≤ i → i < p → G i k = 0) ∧ (p < n → G p k ≠ 0)) ?_ ?_
    · --{
      refine XWP.block ?_
      refine XWP.loopD 2 (fun d s => ∃ (p : Nat) (V9 : View), StIs (fun Z => [.v (.slice (some ⟨g, 0, none⟩) n cap), .v (.int .i64 (n : Int)), Z 2,Z 3,Z 4, .p 0 0, .p 1 0, .v (.slice (some ⟨gw, 0, none⟩) n n), .v (.int .i64 (top : Int)), .v (.int .i64 (k : Int)), .v (.int .i64 (p : Int)), Z 11,Z 12,Z 13,Z 14,Z 15,Z 16,Z 17,Z 18,Z 19,Z 20,Z 21,Z 22,Z 23,Z 24,Z 25,Z 26,Z 27,Z 28,Z 29,Z 30,Z 31,Z 32,Z 33,Z 34,Z 35,Z 36,Z 37,Z 38,Z 39,Z 40,Z 41,Z 42,Z 43,Z 44,Z 45,Z 46,Z 47,Z 48,Z 49,Z 50,Z 51,Z 52,Z 53,Z 54,Z 55,Z 56,Z 57,Z 58,Z 59,Z 60,Z 61,Z 62,Z 63,Z 64,Z 65,Z 66,Z 67,Z 68,Z 69,Z 70,Z 71,Z 72,Z 73,Z 74,Z 75,Z 76,Z 77,Z 78,Z 79,Z 80,Z 81,Z 82,Z 83,Z 84,Z 85,Z 86,Z 87,Z 88,Z 89,Z 90,Z 91,Z 92,Z 93,Z 94,Z 95,Z 96,Z 97,Z 98,Z 99,Z 100,Z 101,Z 102,Z 103,Z 104,Z 105,Z 106,Z 107,Z 108,Z 109,Z 110,Z 111,Z 112,Z 113,Z 114,Z 115,Z 116,Z 117,Z 118,Z 119,Z 120,Z 121,Z 122,Z 123,Z 124,Z 125,Z 126,Z 127,Z 128,Z 129,Z 130,Z 131,Z 132,Z 133,Z 134,Z 135,Z 136,Z 137,Z 138,Z 139,Z 140,Z 141,Z 142,Z 143,Z 144,Z 145,Z 146,Z 147,Z 148,Z 149,Z 150,Z 151,Z 152,Z 153,Z 154,Z 155,Z 156,Z 157,Z 158,Z 159,Z 160,Z 161,Z 162,Z 163,Z 164,Z 165,Z 166,Z 167,Z 168,Z 169,Z 170,Z 171,Z 172]) [[.bool false, .slice none 0 0, .slice none 0 0], [.bool dm, dx, dy]] H9 V9 s ∧ V8.le V9 ∧ d + p = n ∧ top ≤ p ∧ (∀ i, top ≤ i → i < p → G i k = 0)) (n - top) ⟨top, V8, StIs.of (by exact rfl), View.le_refl _, by omega, Nat.le_refl _, fun i h1 h2 => by omega⟩ ?_
      rintro d2 s ⟨p, V9, hs, hV9, hd2, hp, hz⟩
      obtain ⟨z, rfl⟩ := hs.out
      try dsimp only
      clear hs
      refine XWP.seq ?_
      by_cases hpR : p < n
      rotate_left
      · have b3 : decide ((p : Int) < (n : Int)) = false := decide_eq_false (by omega)
        refine Gx.a (by kernel_rfl) fun K hK => ?_
        simp only [XN, XA, XB, gateX, ↓reduceIte, b3]
        refine hK _ ?_
        refine Gx.f rfl ?_
        refine XWP.exit ?_
        exact fun f => ⟨p, V9, StIs.of (by exact rfl), hV9, hp, by omega, hz, fun h => absurd h hpR⟩
      have b3 : decide ((p : Int) < (n : Int)) = true := decide_eq_true (by omega)
      obtain ⟨g', cap', b, c, cs, e6, hl1, hb, hcl, hc, hget, _⟩ := (hmem1.mono hV9).at hpR
      cases e6
      obtain ⟨x, y, w, hx, ⟨o1, o2, o3⟩, hl2⟩ := hget k (by omega)
      refine Gx.a (by kernel_rfl) fun K hK => ?_
      simp only [XN, XA, XB, gateX, ↓reduceIte, beq_self_eq_true, b3]
      refine ⟨by omega, by omega, ld_mem hl1 ?_⟩
      simp only [XA, XB, gateX, ↓reduceIte, beq_self_eq_true]
      refine ⟨by omega, by omega, ld_mem hl2 ?_⟩
      simp only [XA, gateX, ↓reduceIte, beq_self_eq_true]
      refine call_go (by kernel_rfl) rfl (psign_c _ _ _ (hx.toV (hqf p k hpR (by omega)))) fun v10 V10 hV10 h10 => ?_
      subst h10
      by_cases hz0 : G p k = 0
      · have b4' : decide (G p k = 0) = true := decide_eq_true hz0
        simp only [XA, XB, gateX, ↓reduceIte, beq_self_eq_true, sgI_zero, b4']
        refine hK _ ?_
        refine Gx.t rfl ?_
        refine XWP.skip ?_
        refine XWP.block ?_
        refine Gx.c (by kernel_rfl) fun K hK => ?_
        simp only [XA, XB, i64_succ p (by omega)]
        refine hK _ ⟨d2 - 1, by omega, fun f => ⟨p + 1, V10, StIs.of (by exact rfl), View.le_trans hV9 hV10, by omega, by omega, fun i h1 h2 => ?_⟩⟩
        by_cases e : i = p
        · rw [e]; exact hz0
        · exact hz i h1 (by omega)
      · have b4' : decide (G p k = 0) = false := decide_eq_false hz0
        simp only [XA, XB, gateX, ↓reduceIte, beq_self_eq_true, sgI_zero, b4']
        refine hK _ ?_
        refine Gx.f rfl ?_
        refine XWP.exit ?_
        exact fun f => ⟨p, V10, StIs.of (by exact rfl), View.le_trans hV9 hV10, hp, by omega, hz, fun _ => hz0⟩
      --}
    rintro s ⟨p, V9, hs, hV9, hp1, hp2, hz, hnz⟩
    obtain ⟨z, rfl⟩ := hs.out
    try dsimp only
    clear hs
    by_cases hpR : p < n
    rotate_left
    · obtain rfl : p = n := by omega
      refine XWP.seq ?_
      refine Gx.a (by kernel_rfl) fun K hK => ?_
      simp only [XN, XA, XB, decide_true]
      refine hK _ ?_
      refine Gx.t rfl ?_
      refine Gx.a (by kernel_rfl) fun K hK => ?_
      simp only [XA]
      refine call_go (by kernel_rfl) rfl (pzero_c _) fun v10 V10 hV10 k10 => ?_
      obtain ⟨x10, y10, rfl, o1, o2⟩ := k10.form
      simp only [XA]
      refine st_rat rfl rfl rfl o1 o2 ?_
      simp only [XA]
      refine hK _ ?_
      refine XWP.exit ?_
      exact fun f => ⟨V10, H9, _, x10, y10, 0, G, top, StIs.of (by exact rfl), View.le_trans hV9 hV10, k10, o1, o2, QB_zero _, hmem1.mono (View.le_trans hV9 hV10), hinv.skip hk fun i h1 h2 => hz i h1 h2⟩
    refine XWP.seq ?_
    have b3 : decide ((p : Int) = (n : Int)) = false := decide_eq_false (by omega)
    refine Gx.a (by kernel_rfl) fun K hK => ?_
    simp only [XN, XA, XB, b3]
    refine hK _ ?_
    refine Gx.f rfl ?_
    refine XWP.skip ?_
    have hnz := hnz hpR
    have ht : top < n := by omega
    have hpiv := hinv.piv hk hp1 hpR hnz
    have hq2 : ∀ i j, i < n → j < n → QB (ge B k) (gsw G p top i j) := fun i j hi hj => hinv.qb _ j (swp_lt hpR (by omega) hi) hj
    have egk : gsw G p top top k = G p k := by
      have et : swp p top top = p := by unfold swp; split <;> (try split) <;> omega
      unfold gsw; rw [et]
    have e0 : gsw G p top top k ≠ 0 := by rw [egk]; exact hnz
    rw [← egk] at hpiv
    obtain ⟨d', hd'⟩ : ∃ d', d' = if p = top then d else -d := ⟨_, rfl⟩
    rw [← hd'] at hpiv
    have hqk1 : (k + 1) * ge B (n + 1) = k * ge B (n + 1) + ge B (n + 1) := by rw [Nat.add_mul, Nat.one_mul]
    have hqk2 := hmulB (k + 1) (by omega)
    have dqf : QF d := dq.qf (by have : 1 ≤ ge B (n + 1) := by (simp only [ge]; omega)
                                 omega)
    refine XWP.cut (fun s => ∃ (V10 : View) (H10 : Heap) (dm : Bool) (dx dy : Value), StIs (fun Z => [.v (.slice (some ⟨g, 0, none⟩) n cap), .v (.int .i64 (n : Int)), Z 2,Z 3,Z 4, .p 0 0, .p 1 0, .v (.slice (some ⟨gw, 0, none⟩) n n), .v (.int .i64 (top : Int)), .v (.int .i64 (k : Int)), Z 10,Z 11,Z 12,Z 13,Z 14,Z 15,Z 16,Z 17,Z 18,Z 19,Z 20,Z 21,Z 22,Z 23,Z 24,Z 25,Z 26,Z 27,Z 28,Z 29,Z 30,Z 31,Z 32,Z 33,Z 34,Z 35,Z 36,Z 37,Z 38,Z 39,Z 40,Z 41,Z 42,Z 43,Z 44,Z 45,Z 46,Z 47,Z 48,Z 49,Z 50,Z 51,Z 52,Z 53,Z 54,Z 55,Z 56,Z 57,Z 58,Z 59,Z 60,Z 61,Z 62,Z 63,Z 64,Z 65,Z 66,Z 67,Z 68,Z 69,Z 70,Z 71,Z 72,Z 73,Z 74,Z 75,Z 76,Z 77,Z 78,Z 79,Z 80,Z 81,Z 82,Z 83,Z 84,Z 85,Z 86,Z 87,Z 88,Z 89,Z 90,Z 91,Z 92,Z 93,Z 94,Z 95,Z 96,Z 97,Z 98,Z 99,Z 100,Z 101,Z 102,Z 103,Z 104,Z 105,Z 106,Z 107,Z 108,Z 109,Z 110,Z 111,Z 112,Z 113,Z 114,Z 115,Z 116,Z 117,Z 118,Z 119,Z 120,Z 121,Z 122,Z 123,Z 124,Z 125,Z 126,Z 127,Z 128,Z 129,Z 130,Z 131,Z 132,Z 133,Z 134,Z 135,Z 136,Z 137,Z 138,Z 139,Z 140,Z 141,Z 142,Z 143,Z 144,Z 145,Z 146,Z 147,Z 148,Z 149,Z 150,Z 151,Z 152,Z 153,Z 154,Z 155,Z 156,Z 157,Z 158,Z 159,Z 160,Z 161,Z 162,Z 163,Z 164,Z 165,Z 166,Z 167,Z 168,Z 169,Z 170,Z 171,Z 172]) [[.bool false, .slice none 0 0, .slice none 0 0], [.bool dm, dx, dy]] H10 V10 s ∧ V8.le V10 ∧ RatC V10 (.agg #[.bool dm, dx, dy]) d' ∧ isOne dx = true ∧ isOne dy = true ∧ QB (k * ge B (n + 1) + 1) d' ∧ CMW H10 V10 (.slice (some ⟨g, 0, none⟩) n cap) n gw av H0 (gsw G p top)) ?_ ?_
    · by_cases hpk : p = top
      · subst hpk
        refine Gx.a (by kernel_rfl) fun K hK => ?_
        simp only [XA, XB, decide_true]
        refine hK _ ?_
        refine Gx.f rfl ?_
        refine XWP.skip ?_
        rw [if_pos rfl] at hd'
        subst hd'
        exact ⟨V9, H9, dm, dx, dy, StIs.of (by exact rfl), hV9, kd.mono hV9, p1, p2, dq, by rw [gsw_self]; exact hmem1.mono hV9⟩
      rw [if_neg hpk] at hd'
      subst hd'
      have b5 : decide ((p : Int) = (top : Int)) = false := decide_eq_false (by omega)
      refine Gx.a (by kernel_rfl) fun K hK => ?_
      simp only [XA, XB, b5]
      refine hK _ ?_
      refine Gx.t rfl ?_
      have hmem2 := (hmem1.mono hV9).swap hpR ht
      clear hmem1
      obtain ⟨g', cap', cells, vp, vt, e6, hg, hcl, hlp, hlt, op, ot, hmem2⟩ := hmem2
      cases e6
      (refine XWP.drw [0, 1, 2, 3, 4, 5, 6, 7, 8, 9, 10, 11, 12, 13, 14, 15] (by kernel_rfl) (by kernel_rfl) (by kernel_rfl) fun K hK => ?_) <;> dsimp only [pickOps, List.getElem?_cons_zero, List.getElem?_cons_succ]
      simp only [XN, XA, XB]
      refine ⟨by omega, by omega, ld_mem hlt ?_⟩
      simp only [XN, XA, XB]
      refine ⟨by omega, by omega, ld_mem hlp ?_⟩
      simp only [XN, XA, XB]
      refine ⟨by omega, by omega, ?_⟩
      refine st_row shapeT_22 ot rfl hg (by dsimp only; omega) ?_
      simp only [XN, XA, XB]
      refine ⟨by omega, by omega, ?_⟩
      refine st_row shapeT_22 op rfl (upd_at _ _ _) (by simp only [List.length_set]; omega) ?_
      simp only [XA]
      refine hK _ ?_
      obtain ⟨H2, hH2⟩ : ∃ H2, H2 = upd (upd H9 g (some ⟨22, cells.set p vt, cap * 1⟩)) g (some ⟨22, (cells.set p vt).set top vp, cap * 1⟩) := ⟨_, rfl⟩
      rw [← hH2] at hmem2
      simp only [Nat.mul_one] at hH2
      rw [← hH2]
      clear hH2 hlp hlt op ot hg hcl hz
      refine Gx.c (by kernel_rfl) fun K hK => ?_
      simp only [XA, XB, Nat.reduceAdd, Nat.reduceLeDiff, ↓reduceIte]
      refine call_go (by kernel_rfl) rfl (pneg_c _ _ _ ((kd.mono hV9).toV dqf)) fun v10 V10 hV10 k10 => ?_
      obtain ⟨x10, y10, rfl, o1, o2⟩ := k10.form
      simp only [XA]
      refine st_rat rfl rfl rfl o1 o2 ?_
      simp only [XA]
      exact hK _ ⟨V10, H2, _, x10, y10, StIs.of (by exact rfl), View.le_trans hV9 hV10, k10, o1, o2, QB_neg dq, hmem2.mono hV10⟩
    clear hmem1 kd p1 p2 dq dqf hd' egk
    rintro s ⟨V10, H10, dm, dx, dy, hs, hV10, kd, p1, p2, dq, hmem2⟩
    obtain ⟨z, rfl⟩ := hs.out
    try dsimp only
    clear hs
    generalize gsw G p top = G2 at *
    have dqf : QF d' := dq.qf (by have : 1 ≤ ge B (n + 1) := by (simp only [ge]; omega)
                                  omega)
    have hqf2 : ∀ i j, i < n → j < n → QF (G2 i j) := fun i j hi hj => (hq2 i j hi hj).qf (by omega)
    obtain ⟨g', cap', b, c, cs, e6, hl1, hb, hcl, hc, hget, _⟩ := hmem2.at ht
    cases e6
    obtain ⟨x, y, w, hx, ⟨o1, o2, o3⟩, hl2⟩ := hget k (by omega)
    refine Gx.a (by kernel_rfl) fun K hK => ?_
    simp only [XN, XA, XB]
    refine ⟨by omega, by omega, ld_mem hl1 ?_⟩
    simp only [XA, XB]
    refine ⟨by omega, by omega, ld_mem hl2 ?_⟩
    simp only [XA, XB, Nat.reduceAdd]
    refine st_rat rfl rfl o1 o2 o3 ?_
    simp only [XA]
    refine hK _ ?_
    refine Gx.a (by kernel_rfl) fun K hK => ?_
    simp only [XA, XB, Nat.reduceAdd, Nat.reduceLeDiff, ↓reduceIte]
    refine call_go (by kernel_rfl) rfl (pmul_c _ _ _ _ _ (kd.toV dqf) (hx.toV (hqf2 top k ht (by omega))) dqf (hqf2 top k ht (by omega))) fun v11 V11 hV11 k11 => ?_
    obtain ⟨x11, y11, rfl, s1, s2⟩ := k11.form
    simp only [XA]
    refine st_rat rfl rfl rfl s1 s2 ?_
    simp only [XA]
    refine hK _ ?_
    have dq3 : QB ((k + 1) * ge B (n + 1) + 1) (d' * G2 top k) := (dq.mul (hq2 top k ht hk)).mono (by omega)
    have hmem2 := hmem2.mono hV11
    have hx := hx.mono hV11
    have hV11 := View.le_trans hV10 hV11
    generalize d' * G2 top k = d3 at *
    clear hl1 hb hcl hc hget hl2 kd p1 p2 dq dqf hV10
    refine XWP.cutD 3 (fun s => ∃ (V12 : View) (H12 : Heap), StIs (fun Z => [.v (.slice (some ⟨g, 0, none⟩) n cap), .v (.int .i64 (n : Int)), Z 2,Z 3,Z 4, .p 0 0, .p 1 0, .v (.slice (some ⟨gw, 0, none⟩) n n), .v (.int .i64 (top : Int)), .v (.int .i64 (k : Int)), Z 10,Z 11,Z 12,Z 13,Z 14,Z 15,Z 16,Z 17,Z 18,Z 19,Z 20,Z 21,Z 22,Z 23,Z 24,Z 25,Z 26,Z 27,Z 28,Z 29,Z 30,Z 31,Z 32,Z 33,Z 34,Z 35,Z 36,Z 37,Z 38,Z 39,Z 40,Z 41,Z 42,Z 43,Z 44,Z 45,Z 46,Z 47,Z 48,Z 49,Z 50,Z 51,Z 52,Z 53,Z 54,Z 55,Z 56,Z 57,Z 58,Z 59,Z 60,Z 61,Z 62,Z 63,Z 64,Z 65,Z 66,Z 67,Z 68,Z 69,Z 70,Z 71,Z 72,Z 73,Z 74,Z 75,Z 76,Z 77,Z 78,Z 79,Z 80,Z 81,Z 82,Z 83,Z 84,Z 85,Z 86,Z 87,Z 88,Z 89,Z 90,Z 91,Z 92,Z 93,Z 94,Z 95,Z 96,Z 97,Z 98,Z 99,Z 100,Z 101,Z 102,Z 103,Z 104,Z 105,Z 106,Z 107,Z 108,Z 109,Z 110,Z 111,Z 112,Z 113,Z 114,Z 115,Z 116,Z 117,Z 118,Z 119,Z 120,Z 121,Z 122,Z 123,Z 124,Z 125,Z 126,Z 127,Z 128,Z 129,Z 130,Z 131,Z 132,Z 133,Z 134,Z 135,Z 136,Z 137,Z 138,Z 139,Z 140,Z 141,Z 142,Z 143,Z 144,Z 145,Z 146,Z 147,Z 148,Z 149,Z 150,Z 151,Z 152,Z 153,Z 154,Z 155,Z 156,Z 157,Z 158,Z 159,Z 160,Z 161,Z 162,Z 163,Z 164,Z 165,Z 166,Z 167,Z 168,Z 169,Z 170,Z 171,Z 172]) [[.bool false, .slice none 0 0, .slice none 0 0], [.bool (ng d3), x11, y11], [x, y, w]] H12 V12 s ∧ V11.le V12 ∧ CMW H12 V12 (.slice (some ⟨g, 0, none⟩) n cap) n gw av H0 (fun i c => if i = top then G2 top c / G2 top k else G2 i c)) ?_ ?_
    · --{
      obtain ⟨g', cap', b, c, cs, e6, hl1, hb, hcl, hc, hget, _⟩ := hmem2.at ht
      cases e6
      refine Gx.a (by kernel_rfl) fun K hK => ?_
      simp only [XN, XA, XB]
      refine ⟨by omega, by omega, ld_mem hl1 ?_⟩
      simp only [XA, XB]
      refine hK _ ?_
      clear hl1 hb hcl hc hget
      refine XWP.block ?_
      refine XWP.loopD 3 (fun d s => ∃ (j : Nat) (V12 : View) (H12 : Heap), StIs (fun Z => [.v (.slice (some ⟨g, 0, none⟩) n cap), .v (.int .i64 (n : Int)), Z 2,Z 3,Z 4, .p 0 0, .p 1 0, .v (.slice (some ⟨gw, 0, none⟩) n n), .v (.int .i64 (top : Int)), .v (.int .i64 (k : Int)), Z 10, .p 2 0, Z 12,Z 13,Z 14,Z 15,Z 16,Z 17,Z 18,Z 19,Z 20,Z 21,Z 22,Z 23,Z 24,Z 25,Z 26,Z 27,Z 28,Z 29,Z 30,Z 31,Z 32,Z 33,Z 34,Z 35,Z 36,Z 37,Z 38,Z 39,Z 40,Z 41,Z 42,Z 43,Z 44,Z 45,Z 46,Z 47,Z 48,Z 49,Z 50,Z 51,Z 52,Z 53,Z 54,Z 55,Z 56,Z 57,Z 58,Z 59,Z 60,Z 61,Z 62,Z 63,Z 64,Z 65,Z 66,Z 67,Z 68,Z 69,Z 70,Z 71,Z 72,Z 73,Z 74,Z 75,Z 76,Z 77,Z 78,Z 79,Z 80,Z 81,Z 82, .v (.int .i64 (n : Int)), .v (.int .i64 (j : Int)), Z 85,Z 86,Z 87,Z 88,Z 89,Z 90,Z 91,Z 92,Z 93,Z 94,Z 95,Z 96,Z 97,Z 98,Z 99,Z 100,Z 101,Z 102,Z 103,Z 104,Z 105,Z 106,Z 107,Z 108,Z 109,Z 110,Z 111,Z 112,Z 113,Z 114,Z 115,Z 116,Z 117,Z 118,Z 119,Z 120,Z 121,Z 122,Z 123,Z 124,Z 125,Z 126,Z 127,Z 128,Z 129,Z 130,Z 131,Z 132,Z 133,Z 134,Z 135,Z 136,Z 137,Z 138,Z 139,Z 140,Z 141,Z 142,Z 143,Z 144,Z 145,Z 146,Z 147,Z 148,Z 149,Z 150,Z 151,Z 152,Z 153,Z 154,Z 155,Z 156,Z 157,Z 158,Z 159,Z 160,Z 161,Z 162,Z 163,Z 164,Z 165,Z 166,Z 167,Z 168,Z 169,Z 170,Z 171,Z 172]) [[.bool false, .slice none 0 0, .slice none 0 0], [.bool (ng d3), x11, y11], [x, y, w]] H12 V12 s ∧ V11.le V12 ∧ d + j = n ∧ CMW H12 V12 (.slice (some ⟨g, 0, none⟩) n cap) n gw av H0 (fun i c => if i = top ∧ c < j then G2 top c / G2 top k else G2 i c)) n ⟨0, V11, H10, StIs.of (by exact rfl), View.le_refl _, by omega, hmem2.congr fun i c _ _ => by rw [if_neg (by omega)]⟩ ?_
      rintro d2 s ⟨j, V12, H12, hs, hV12, hd2, hmem3⟩
      obtain ⟨z, rfl⟩ := hs.out
      try dsimp only
      clear hs
      by_cases hj : j < n
      rotate_left
      · have hjn : j = n := by omega
        have b6 : decide ((j : Int) < (n : Int)) = false := decide_eq_false (by omega)
        refine Gx.a (by kernel_rfl) fun K hK => ?_
        simp only [XA, XB, b6]
        refine hK _ ?_
        refine XWP.seq (Gx.f rfl ?_)
        refine XWP.exit ?_
        exact fun f => ⟨V12, H12, StIs.of (by exact rfl), hV12, hmem3.congr fun i c hi hc => by
          by_cases e : i = top
          · rw [if_pos ⟨e, by omega⟩, if_pos e]
          · rw [if_neg (fun h => e h.1), if_neg e]⟩
      have b6 : decide ((j : Int) < (n : Int)) = true := decide_eq_true (by omega)
      refine Gx.a (by kernel_rfl) fun K hK => ?_
      simp only [XA, XB, b6]
      refine hK _ ?_
      refine XWP.seq (Gx.t rfl ?_)
      refine XWP.skip ?_
      refine XWP.seq ?_
      refine XWP.block ?_
      refine Gx.a (by kernel_rfl) fun K hK => ?_
      simp only [XA]
      refine hK _ ?_
      obtain ⟨g', cap', b, c, cs, e6, hl1, hb, hcl, hc, hget, hset⟩ := hmem3.at ht
      cases e6
      obtain ⟨x1, y1, w1, hx1, _, hl2⟩ := hget j hj
      rw [if_neg (by omega)] at hx1
      (refine XWP.drw1 [0, 1, 2, 3, 4, 5, 6, 7, 8, 9, 10, 11, 12, 13, 14, 15, 16, 17, 18] (by kernel_rfl) (by kernel_rfl) (by kernel_rfl) fun K hK => ?_) <;> dsimp only [pickOps, List.getElem?_cons_zero, List.getElem?_cons_succ]
      simp only [XN, XA, XB]
      refine ⟨by omega, by omega, ld_mem hl1 ?_⟩
      simp only [XN, XA, XB]
      refine ⟨by omega, by omega, ld_mem hl1 ?_⟩
      simp only [XA, XB]
      refine ⟨by omega, by omega, ld_mem hl2 ?_⟩
      simp only [XA, XB, Nat.reduceAdd, Nat.reduceLeDiff, ↓reduceIte]
      refine call_go (by kernel_rfl) rfl (pdiv_c _ _ _ _ _ (hx1.toV (hqf2 top j ht hj)) ((hx.mono hV12).toV (hqf2 top k ht (by omega))) (hqf2 top j ht hj) (hqf2 top k ht (by omega))) fun v13 V13 hV13 h13 => ?_
      obtain ⟨r, rfl, hr⟩ := h13.2 e0
      obtain ⟨x2, y2, rfl, o4, o5⟩ := hr.form
      simp only [XA, XB]
      refine ⟨by omega, by omega, ?_⟩
      refine st_rowA shapeT_48 (all3 rfl o4 o5) rfl hb (by dsimp only; omega) ?_
      simp only [XA]
      refine hK _ ?_
      refine Gx.c (by kernel_rfl) fun K hK => ?_
      simp only [XA, XB, i64_succ j (by omega)]
      have hmem4 := hset V13 j _ _ _ _ hj hV13 hr rfl o4 o5
      refine hK _ ⟨d2 - 1, by omega, fun f => ⟨j + 1, V13, _, StIs.of (by exact rfl), View.le_trans hV12 hV13, by omega, hmem4.congr fun i c _ _ => ?_⟩⟩
      by_cases e : i = top
      · subst e
        by_cases e2 : c = j
        · subst e2; rw [if_pos ⟨rfl, rfl⟩, if_pos ⟨rfl, by omega⟩]
        · rw [if_neg (fun h => e2 h.2)]
          by_cases e3 : c < j
          · rw [if_pos ⟨rfl, e3⟩, if_pos ⟨rfl, by omega⟩]
          · rw [if_neg (fun h => e3 h.2), if_neg (fun h => by omega)]
      · rw [if_neg (fun h => e h.1), if_neg (fun h => e h.1), if_neg (fun h => e h.1)]
      --}
    clear hmem2 hx
    rintro s ⟨V12, H12, hs, hV12, hmem3⟩
    obtain ⟨z, rfl⟩ := hs.out
    try dsimp only
    clear hs
    obtain ⟨G3, hG3⟩ : ∃ G3 : Grid, G3 = fun i c => if i = top then G2 top c / G2 top k else G2 i c := ⟨_, rfl⟩
    rw [← hG3] at hmem3
    have g3t : ∀ c, G3 top c = G2 top c / G2 top k := fun c => by rw [hG3]; simp
    have g3i : ∀ i c, i ≠ top → G3 i c = G2 i c := fun i c h => by rw [hG3]; simp [h]
    have gct : ∀ c, gcol G2 top k top c = G3 top c := fun c => by unfold gcol; rw [if_pos rfl, g3t]
    have gci : ∀ i c, i ≠ top → gcol G2 top k i c = G2 i c - G2 i k * (G2 top c / G2 top k) := fun i c h => by unfold gcol; rw [if_neg h]
    clear hG3
    refine XWP.cutD 3 (fun s => ∃ (V13 : View) (H13 : Heap), StIs (fun Z => [.v (.slice (some ⟨g, 0, none⟩) n cap), .v (.int .i64 (n : Int)), Z 2,Z 3,Z 4, .p 0 0, .p 1 0, .v (.slice (some ⟨gw, 0, none⟩) n n), .v (.int .i64 (top : Int)), .v (.int .i64 (k : Int)), Z 10,Z 11,Z 12,Z 13,Z 14,Z 15,Z 16,Z 17,Z 18,Z 19,Z 20,Z 21,Z 22,Z 23,Z 24,Z 25,Z 26,Z 27,Z 28,Z 29,Z 30,Z 31,Z 32,Z 33,Z 34,Z 35,Z 36,Z 37,Z 38,Z 39,Z 40,Z 41,Z 42,Z 43,Z 44,Z 45,Z 46,Z 47,Z 48,Z 49,Z 50,Z 51,Z 52,Z 53,Z 54,Z 55,Z 56,Z 57,Z 58,Z 59,Z 60,Z 61,Z 62,Z 63,Z 64,Z 65,Z 66,Z 67,Z 68,Z 69,Z 70,Z 71,Z 72,Z 73,Z 74,Z 75,Z 76,Z 77,Z 78,Z 79,Z 80,Z 81,Z 82,Z 83,Z 84,Z 85,Z 86,Z 87,Z 88,Z 89,Z 90,Z 91,Z 92,Z 93,Z 94,Z 95,Z 96,Z 97,Z 98,Z 99,Z 100,Z 101,Z 102,Z 103,Z 104,Z 105,Z 106,Z 107,Z 108,Z 109,Z 110,Z 111,Z 112,Z 113,Z 114,Z 115,Z 116,Z 117,Z 118,Z 119,Z 120,Z 121,Z 122,Z 123,Z 124,Z 125,Z 126,Z 127,Z 128,Z 129,Z 130,Z 131,Z 132,Z 133,Z 134,Z 135,Z 136,Z 137,Z 138,Z 139,Z 140,Z 141,Z 142,Z 143,Z 144,Z 145,Z 146,Z 147,Z 148,Z 149,Z 150,Z 151,Z 152,Z 153,Z 154,Z 155,Z 156,Z 157,Z 158,Z 159,Z 160,Z 161,Z 162,Z 163,Z 164,Z 165,Z 166,Z 167,Z 168,Z 169,Z 170,Z 171,Z 172]) [[.bool false, .slice none 0 0, .slice none 0 0], [.bool (ng d3), x11, y11], [x, y, w]] H13 V13 s ∧ V12.le V13 ∧ CMW H13 V13 (.slice (some ⟨g, 0, none⟩) n cap) n gw av H0 (gcol G2 top k)) ?_ ?_
    · --{
      refine Gx.a (by kernel_rfl) fun K hK => ?_
      simp only [XN, XA]
      refine hK _ ?_
      clear hK
      refine XWP.block ?_
      refine XWP.loopD 3 (fun d s => ∃ (i : Nat) (V13 : View) (H13 : Heap), StIs (fun Z => [.v (.slice (some ⟨g, 0, none⟩) n cap), .v (.int .i64 (n : Int)), Z 2,Z 3,Z 4, .p 0 0, .p 1 0, .v (.slice (some ⟨gw, 0, none⟩) n n), .v (.int .i64 (top : Int)), .v (.int .i64 (k : Int)), Z 10,Z 11,Z 12,Z 13,Z 14,Z 15,Z 16,Z 17,Z 18,Z 19,Z 20,Z 21,Z 22,Z 23,Z 24,Z 25,Z 26,Z 27,Z 28,Z 29,Z 30,Z 31,Z 32,Z 33,Z 34,Z 35,Z 36,Z 37,Z 38,Z 39,Z 40,Z 41,Z 42,Z 43,Z 44,Z 45,Z 46,Z 47,Z 48,Z 49,Z 50,Z 51,Z 52,Z 53,Z 54,Z 55,Z 56,Z 57,Z 58,Z 59,Z 60,Z 61,Z 62,Z 63,Z 64,Z 65,Z 66,Z 67,Z 68,Z 69,Z 70,Z 71,Z 72,Z 73,Z 74,Z 75,Z 76,Z 77,Z 78,Z 79,Z 80,Z 81,Z 82,Z 83,Z 84,Z 85,Z 86,Z 87,Z 88,Z 89,Z 90,Z 91,Z 92,Z 93,Z 94,Z 95,Z 96,Z 97,Z 98,Z 99,Z 100,Z 101,Z 102,Z 103,Z 104,Z 105,Z 106, .v (.int .i64 (n : Int)), .v (.int .i64 (i : Int)), Z 109,Z 110,Z 111,Z 112,Z 113,Z 114,Z 115,Z 116,Z 117,Z 118,Z 119,Z 120,Z 121,Z 122,Z 123,Z 124,Z 125,Z 126,Z 127,Z 128,Z 129,Z 130,Z 131,Z 132,Z 133,Z 134,Z 135,Z 136,Z 137,Z 138,Z 139,Z 140,Z 141,Z 142,Z 143,Z 144,Z 145,Z 146,Z 147,Z 148,Z 149,Z 150,Z 151,Z 152,Z 153,Z 154,Z 155,Z 156,Z 157,Z 158,Z 159,Z 160,Z 161,Z 162,Z 163,Z 164,Z 165,Z 166,Z 167,Z 168,Z 169,Z 170,Z 171,Z 172]) [[.bool false, .slice none 0 0, .slice none 0 0], [.bool (ng d3), x11, y11], [x, y, w]] H13 V13 s ∧ V12.le V13 ∧ d + i = n ∧ CMW H13 V13 (.slice (some ⟨g, 0, none⟩) n cap) n gw av H0 (fun i' c => if i' < i then gcol G2 top k i' c else G3 i' c)) n ⟨0, V12, H12, StIs.of (by exact rfl), View.le_refl _, by omega, hmem3.congr fun i c _ _ => by rw [if_neg (by omega)]⟩ ?_
      rintro d2 s ⟨i, V13, H13, hs, hV13, hd2, hmem4⟩
      obtain ⟨z, rfl⟩ := hs.out
      try dsimp only
      clear hs
      by_cases hi : i < n
      rotate_left
      · obtain rfl : i = n := by omega
        have b6 : decide ((i : Int) < (i : Int)) = false := decide_eq_false (by omega)
        refine Gx.a (by kernel_rfl) fun K hK => ?_
        simp only [XA, XB, b6]
        refine hK _ ?_
        refine XWP.seq (Gx.f rfl ?_)
        refine XWP.exit ?_
        exact fun f => ⟨V13, H13, StIs.of (by exact rfl), hV13, hmem4.congr fun i' c h1 h2 => by rw [if_pos h1]⟩
      have b6 : decide ((i : Int) < (n : Int)) = true := decide_eq_true (by omega)
      refine Gx.a (by kernel_rfl) fun K hK => ?_
      simp only [XA, XB, b6]
      refine hK _ ?_
      refine XWP.seq (Gx.t rfl ?_)
      refine XWP.skip ?_
      refine XWP.cutD 3 (fun s => ∃ (V14 : View) (H14 : Heap), StIs (fun Z => [.v (.slice (some ⟨g, 0, none⟩) n cap), .v (.int .i64 (n : Int)), Z 2,Z 3,Z 4, .p 0 0, .p 1 0, .v (.slice (some ⟨gw, 0, none⟩) n n), .v (.int .i64 (top : Int)), .v (.int .i64 (k : Int)), Z 10,Z 11,Z 12,Z 13,Z 14,Z 15,Z 16,Z 17,Z 18,Z 19,Z 20,Z 21,Z 22,Z 23,Z 24,Z 25,Z 26,Z 27,Z 28,Z 29,Z 30,Z 31,Z 32,Z 33,Z 34,Z 35,Z 36,Z 37,Z 38,Z 39,Z 40,Z 41,Z 42,Z 43,Z 44,Z 45,Z 46,Z 47,Z 48,Z 49,Z 50,Z 51,Z 52,Z 53,Z 54,Z 55,Z 56,Z 57,Z 58,Z 59,Z 60,Z 61,Z 62,Z 63,Z 64,Z 65,Z 66,Z 67,Z 68,Z 69,Z 70,Z 71,Z 72,Z 73,Z 74,Z 75,Z 76,Z 77,Z 78,Z 79,Z 80,Z 81,Z 82,Z 83,Z 84,Z 85,Z 86,Z 87,Z 88,Z 89,Z 90,Z 91,Z 92,Z 93,Z 94,Z 95,Z 96,Z 97,Z 98,Z 99,Z 100,Z 101,Z 102,Z 103,Z 104,Z 105,Z 106, .v (.int .i64 (n : Int)), .v (.int .i64 (i : Int)), Z 109,Z 110,Z 111,Z 112,Z 113,Z 114,Z 115,Z 116,Z 117,Z 118,Z 119,Z 120,Z 121,Z 122,Z 123,Z 124,Z 125,Z 126,Z 127,Z 128,Z 129,Z 130,Z 131,Z 132,Z 133,Z 134,Z 135,Z 136,Z 137,Z 138,Z 139,Z 140,Z 141,Z 142,Z 143,Z 144,Z 145,Z 146,Z 147,Z 148,Z 149,Z 150,Z 151,Z 152,Z 153,Z 154,Z 155,Z 156,Z 157,Z 158,Z 159,Z 160,Z 161,Z 162,Z 163,Z 164,Z 165,Z 166,Z 167,Z 168,Z 169,Z 170,Z 171,Z 172]) [[.bool false, .slice none 0 0, .slice none 0 0], [.bool (ng d3), x11, y11], [x, y, w]] H14 V14 s ∧ V13.le V14 ∧ CMW H14 V14 (.slice (some ⟨g, 0, none⟩) n cap) n gw av H0 (fun i' c => if i' < i + 1 then gcol G2 top k i' c else G3 i' c)) ?_ ?_
      rotate_left
      · rintro s ⟨V14, H14, hs, hV14, hmem5⟩
        obtain ⟨z, rfl⟩ := hs.out
        try dsimp only
        clear hs
        refine Gx.c (by kernel_rfl) fun K hK => ?_
        simp only [XA, XB, i64_succ i (by omega)]
        exact hK _ ⟨d2 - 1, by omega, fun f => ⟨i + 1, V14, H14, StIs.of (by exact rfl), View.le_trans hV13 hV14, by omega, hmem5⟩⟩
      clear hK
      refine XWP.block ?_
      refine Gx.a (by kernel_rfl) fun K hK => ?_
      simp only [XA]
      refine hK _ ?_
      have hskip : (∀ c, gcol G2 top k i c = G3 i c) → ∀ V14, V13.le V14 → CMW H13 V14 (.slice (some ⟨g, 0, none⟩) n cap) n gw av H0 (fun i' c => if i' < i + 1 then gcol G2 top k i' c else G3 i' c) := fun h V14 hV => (hmem4.mono hV).congr fun i' c _ _ => by
        by_cases e : i' = i
        · rw [e, if_neg (by omega), if_pos (by omega), h]
        · by_cases e2 : i' < i
          · rw [if_pos e2, if_pos (by omega)]
          · rw [if_neg e2, if_neg (by omega)]
      refine XWP.seq ?_
      by_cases hit : i = top
      · subst hit
        refine Gx.a (by kernel_rfl) fun K hK => ?_
        simp only [XA, XB, gateX, ↓reduceIte, decide_true]
        refine hK _ ?_
        refine Gx.t rfl ?_
        refine XWP.exit ?_
        exact fun f => ⟨V13, H13, StIs.of (by exact rfl), View.le_refl _, hskip gct V13 (View.le_refl _)⟩
      have b5 : decide ((i : Int) = (top : Int)) = false := decide_eq_false (by omega)
      obtain ⟨g', cap', b, c, cs, e6, hl1, hb, hcl, hc, hget, _⟩ := hmem4.at hi
      cases e6
      obtain ⟨x3, y3, w3, hx3, ⟨o1, o2, o3⟩, hl2⟩ := hget k (by omega)
      rw [if_neg (by omega), g3i i k hit] at hx3
      refine Gx.a (by kernel_rfl) fun K hK => ?_
      simp only [XN, XA, XB, gateX, ↓reduceIte, beq_self_eq_true, b5]
      refine ⟨by omega, by omega, ld_mem hl1 ?_⟩
      simp only [XA, XB, gateX, ↓reduceIte, beq_self_eq_true]
      refine ⟨by omega, by omega, ld_mem hl2 ?_⟩
      simp only [XA, gateX, ↓reduceIte, beq_self_eq_true]
      refine call_go (by kernel_rfl) rfl (psign_c _ _ _ (hx3.toV (hqf2 i k hi (by omega)))) fun v14 V14 hV14 h14 => ?_
      subst h14
      by_cases hz0 : G2 i k = 0
      · have b7 : decide (G2 i k = 0) = true := decide_eq_true hz0
        simp only [XA, XB, gateX, ↓reduceIte, beq_self_eq_true, sgI_zero, b7]
        refine hK _ ?_
        refine Gx.t rfl ?_
        refine XWP.exit ?_
        exact fun f => ⟨V14, H13, StIs.of (by exact rfl), hV14, hskip (fun c => by rw [gci i c hit, g3i i c hit, hz0]; grind) V14 hV14⟩
      have b7 : decide (G2 i k = 0) = false := decide_eq_false hz0
      simp only [XA, XB, gateX, ↓reduceIte, beq_self_eq_true, sgI_zero, b7]
      refine hK _ ?_
      refine Gx.f rfl ?_
      refine XWP.skip ?_
      clear hl1 hl2 hskip
      obtain ⟨g', cap', b, c, cs, e6, hl1, hb, hcl, hc, hget, _⟩ := (hmem4.mono hV14).at hi
      cases e6
      obtain ⟨x3, y3, w3, hx3, ⟨o1, o2, o3⟩, hl2⟩ := hget k (by omega)
      rw [if_neg (by omega), g3i i k hit] at hx3
      refine Gx.a (by kernel_rfl) fun K hK => ?_
      simp only [XN, XA, XB]
      refine ⟨by omega, by omega, ld_mem hl1 ?_⟩
      simp only [XA, XB]
      refine ⟨by omega, by omega, ld_mem hl2 ?_⟩
      simp only [XA, XB, Nat.reduceAdd]
      refine st_rat rfl rfl o1 o2 o3 ?_
      simp only [XA]
      refine hK _ ?_
      refine Gx.a (by kernel_rfl) fun K hK => ?_
      simp only [XN, XA, XB]
      refine ⟨by omega, by omega, ld_mem hl1 ?_⟩
      simp only [XA, XB]
      refine hK _ ?_
      clear hl1 hb hcl hc hget hl2
      refine XWP.block ?_
      refine XWP.loopD 4 (fun d s => ∃ (j : Nat) (V15 : View) (H15 : Heap), StIs (fun Z => [.v (.slice (some ⟨g, 0, none⟩) n cap), .v (.int .i64 (n : Int)), Z 2,Z 3,Z 4, .p 0 0, .p 1 0, .v (.slice (some ⟨gw, 0, none⟩) n n), .v (.int .i64 (top : Int)), .v (.int .i64 (k : Int)), Z 10,Z 11,Z 12, .v (.int .i64 (i : Int)), .p 3 0, Z 15,Z 16,Z 17,Z 18,Z 19,Z 20,Z 21,Z 22,Z 23,Z 24,Z 25,Z 26,Z 27,Z 28,Z 29,Z 30,Z 31,Z 32,Z 33,Z 34,Z 35,Z 36,Z 37,Z 38,Z 39,Z 40,Z 41,Z 42,Z 43,Z 44,Z 45,Z 46,Z 47,Z 48,Z 49,Z 50,Z 51,Z 52,Z 53,Z 54,Z 55,Z 56,Z 57,Z 58,Z 59,Z 60,Z 61,Z 62,Z 63,Z 64,Z 65,Z 66,Z 67,Z 68,Z 69,Z 70,Z 71,Z 72,Z 73,Z 74,Z 75,Z 76,Z 77,Z 78,Z 79,Z 80,Z 81,Z 82,Z 83,Z 84,Z 85,Z 86,Z 87,Z 88,Z 89,Z 90,Z 91,Z 92,Z 93,Z 94,Z 95,Z 96,Z 97,Z 98,Z 99,Z 100,Z 101,Z 102,Z 103,Z 104,Z 105,Z 106, .v (.int .i64 (n : Int)), .v (.int .i64 (i : Int)), Z 109,Z 110,Z 111,Z 112,Z 113,Z 114,Z 115,Z 116,Z 117,Z 118,Z 119,Z 120,Z 121,Z 122,Z 123,Z 124,Z 125,Z 126,Z 127,Z 128,Z 129,Z 130,Z 131,Z 132,Z 133,Z 134,Z 135, .v (.int .i64 (n : Int)), .v (.int .i64 (j : Int)), Z 138,Z 139,Z 140,Z 141,Z 142,Z 143,Z 144,Z 145,Z 146,Z 147,Z 148,Z 149,Z 150,Z 151,Z 152,Z 153,Z 154,Z 155,Z 156,Z 157,Z 158,Z 159,Z 160,Z 161,Z 162,Z 163,Z 164,Z 165,Z 166,Z 167,Z 168,Z 169,Z 170,Z 171,Z 172]) [[.bool false, .slice none 0 0, .slice none 0 0], [.bool (ng d3), x11, y11], [x, y, w], [x3, y3, w3]] H15 V15 s ∧ V14.le V15 ∧ d + j = n ∧ CMW H15 V15 (.slice (some ⟨g, 0, none⟩) n cap) n gw av H0 (fun i' c => if i' < i ∨ (i' = i ∧ c < j) then gcol G2 top k i' c else G3 i' c)) n ⟨0, V14, H13, StIs.of (by exact rfl), View.le_refl _, by omega, (hmem4.mono hV14).congr fun i' c _ _ => by
        by_cases e2 : i' < i
        · rw [if_pos e2, if_pos (.inl e2)]
        · rw [if_neg e2, if_neg (fun h => by omega)]⟩ ?_
      clear hmem4
      rintro d3' s ⟨j, V15, H15, hs, hV15, hd3, hmem5⟩
      obtain ⟨z, rfl⟩ := hs.out
      try dsimp only
      clear hs
      by_cases hj : j < n
      rotate_left
      · have hjn : j = n := by omega
        have b8 : decide ((j : Int) < (n : Int)) = false := decide_eq_false (by omega)
        refine Gx.a (by kernel_rfl) fun K hK => ?_
        simp only [XA, XB, b8]
        refine hK _ ?_
        refine XWP.seq (Gx.f rfl ?_)
        refine XWP.exit ?_
        exact fun f => ⟨V15, H15, StIs.of (by exact rfl), View.le_trans hV14 hV15, hmem5.congr fun i' c h1 h2 => by
          by_cases e2 : i' < i + 1
          · rw [if_pos e2, if_pos (by omega)]
          · rw [if_neg e2, if_neg (fun h => by omega)]⟩
      have b8 : decide ((j : Int) < (n : Int)) = true := decide_eq_true (by omega)
      refine Gx.a (by kernel_rfl) fun K hK => ?_
      simp only [XA, XB, b8]
      refine hK _ ?_
      refine XWP.seq (Gx.t rfl ?_)
      refine XWP.skip ?_
      refine XWP.seq ?_
      refine XWP.block ?_
      refine Gx.a (by kernel_rfl) fun K hK => ?_
      simp only [XA]
      refine hK _ ?_
      obtain ⟨g', cap', b, c, cs, e6, hl1, hb, hcl, hc, hget, hset⟩ := hmem5.at hi
      cases e6
      obtain ⟨x4, y4, w4, hx4, _, hl2⟩ := hget j hj
      rw [if_neg (by omega), g3i i j hit] at hx4
      obtain ⟨g', cap', b', c', cs', e6, hl1', hb', hcl', hc', hget', _⟩ := hmem5.at ht
      cases e6
      obtain ⟨x2, y2, w2, hx2, _, hl2'⟩ := hget' j hj
      have et : (if top < i ∨ (top = i ∧ j < j) then gcol G2 top k top j else G3 top j) = G2 top j / G2 top k := by
        split
        · rw [gct, g3t]
        · exact g3t j
      rw [et] at hx2
      have qq : QB (2 * ge B k) (G2 top j / G2 top k) := ((hq2 top j ht hj).div (hq2 top k ht (by omega))).mono (by omega)
      have qm : QB (3 * ge B k) (G2 i k * (G2 top j / G2 top k)) := ((hq2 i k hi (by omega)).mul qq).mono (by omega)
      (refine XWP.drw1 [0, 1, 2, 3, 4, 5, 6, 7, 8, 9, 10, 11, 12, 13, 14, 15, 16, 17, 18, 19, 20, 21, 22, 23] (by kernel_rfl) (by kernel_rfl) (by kernel_rfl) fun K hK => ?_) <;> dsimp only [pickOps, List.getElem?_cons_zero, List.getElem?_cons_succ]
      simp only [XN, XA, XB]
      refine ⟨by omega, by omega, ld_mem hl1 ?_⟩
      simp only [XN, XA, XB]
      refine ⟨by omega, by omega, ld_mem hl1 ?_⟩
      simp only [XA, XB]
      refine ⟨by omega, by omega, ld_mem hl2 ?_⟩
      simp only [XN, XA, XB, Nat.reduceAdd, Nat.reduceLeDiff, ↓reduceIte]
      refine ⟨by omega, by omega, ld_mem hl1' ?_⟩
      simp only [XA, XB]
      refine ⟨by omega, by omega, ld_mem hl2' ?_⟩
      simp only [XA]
      refine call_go (by kernel_rfl) rfl (pmul_c _ _ _ _ _ ((hx3.mono hV15).toV (hqf2 i k hi (by omega))) (hx2.toV (qq.qf (by omega))) (hqf2 i k hi (by omega)) (qq.qf (by omega))) fun v16 V16 hV16 h16 => ?_
      simp only [XA]
      refine call_go (by kernel_rfl) rfl (psub_c _ _ _ _ _ ((hx4.mono hV16).toV (hqf2 i j hi hj)) (h16.toV (qm.qf (by omega))) (hqf2 i j hi hj) (qm.qf (by omega))) fun v17 V17 hV17 h17 => ?_
      obtain ⟨x5, y5, rfl, o4, o5⟩ := h17.form
      simp only [XA, XB]
      refine ⟨by omega, by omega, ?_⟩
      refine st_rowA shapeT_48 (all3 rfl o4 o5) rfl hb (by dsimp only; omega) ?_
      simp only [XA]
      refine hK _ ?_
      refine Gx.c (by kernel_rfl) fun K hK => ?_
      simp only [XA, XB, i64_succ j (by omega)]
      have hmem6 := hset V17 j _ _ _ _ hj (View.le_trans hV16 hV17) h17 rfl o4 o5
      refine hK _ ⟨d3' - 1, by omega, fun f => ⟨j + 1, V17, _, StIs.of (by exact rfl), View.le_trans hV15 (View.le_trans hV16 hV17), by omega, hmem6.congr fun i' c _ _ => ?_⟩⟩
      by_cases e : i' = i
      · subst e
        by_cases e2 : c = j
        · subst e2; rw [if_pos ⟨rfl, rfl⟩, if_pos (.inr ⟨rfl, by omega⟩), gci _ _ hit]
        · rw [if_neg (fun h => e2 h.2)]
          by_cases e3 : c < j
          · rw [if_pos (.inr ⟨rfl, e3⟩), if_pos (.inr ⟨rfl, by omega⟩)]
          · rw [if_neg (fun h => by omega), if_neg (fun h => by omega)]
      · rw [if_neg (fun h => e h.1)]
        by_cases e2 : i' < i
        · rw [if_pos (.inl e2), if_pos (.inl e2)]
        · rw [if_neg (fun h => by omega), if_neg (fun h => by omega)]
      --}
    clear hmem3
    rintro s ⟨V13, H13, hs, hV13, hmem4⟩
    obtain ⟨z, rfl⟩ := hs.out
    try dsimp only
    clear hs
    obtain ⟨cw2, tot2, hw3, hw4, hmem5⟩ := hmem4.where k (top : Int)
    have hle13 := View.le_trans hV12 hV13
    refine Gx.a (by kernel_rfl) fun K hK => ?_
    simp only [XN, XA, XB]
    refine ⟨by omega, by omega, ?_⟩
    refine st_row shapeT_3 rfl rfl hw3 (by dsimp only; omega) ?_
    simp only [XA]
    refine hK _ ?_
    refine Gx.c (by kernel_rfl) fun K hK => ?_
    simp only [XA, XB, i64_succ top (by omega)]
    exact hK _ fun f => ⟨V13, _, _, x11, y11, d3, _, top + 1, StIs.of (by exact rfl), View.le_trans hV11 hle13, k11.mono hle13, s1, s2, dq3, hmem5, hpiv⟩
    --}
  clear hmem0 hinv0 k1 p1 p2
  rintro s ⟨V8, H8, dm, dx, dy, d, hs, hV8, kd, p1, p2, dq, hd, hk8⟩
  subst hd
  obtain ⟨z, rfl⟩ := hs.out
  try dsimp only
  clear hs
  (refine XWP.drw [0, 1, 2, 3] (by kernel_rfl) (by kernel_rfl) (by kernel_rfl) fun K hK => ?_) <;> dsimp only [pickOps, List.getElem?_cons_zero, List.getElem?_cons_succ]
  simp only [XA, XB, Nat.reduceAdd, Nat.reduceLeDiff, ↓reduceIte]
  refine st_rat rfl rfl rfl p1 p2 ?_
  simp only [XA]
  refine hK _ (XWP.ret ?_)
  try simp only [thenX_ret, inBlockX_ret]
  exact retM_go _ (by simp [resAll, resV, cellsV, shapeT_48]; rfl) ⟨hV8, _, dm, dx, dy, rfl, rfl, p1, p2, kd, dq, hk8⟩
end Go.Proofs.YthoboehbadmlmaaGreat
end
section
namespace Go.Proofs.YthoboehbadmlmaaGreat
open Go Go.RowKit
set_option linter.unusedSimpArgs false
set_option linter.unusedVariables false
attribute [local irreducible] XWP Spec SpecO XPub XCall seqX clX apX stX ldX iaX slX
theorem nat_mul (a b : Nat) (h : a * b ≤ 1000000) : IntKind.i64.wrap ((a : Int) * (b : Int)) = ((a * b : Nat) : Int) := by rw [← Int.natCast_mul, wrap_id (by omega) (by omega)]
theorem idx_lt {i r k c : Nat} (hi : i < r) (hk : k < c) : i * c + k < r * c := by
  have := Nat.mul_le_mul_right c (show i + 1 ≤ r by omega)
  rw [Nat.add_mul, Nat.one_mul] at this
  omega
theorem dtimes_c (V : View) (s1 s2 : Value) (r n c : Nat) (a b : List Rat) (ha : Rats V s1 a) (hb : Rats V s2 b) (la : a.length = r * n) (lb : b.length = n * c) (hr : r ≤ 60) (hn : n ≤ 60) (hc : c ≤ 60) (A B : Nat) (hA : CB A a) (hB : CB B b) (hfit : A + B + 100 ≤ 17592186044416) :
    Spec Tryz.prog 111 [.agg #[.int .i64 (r : Int), .int .i64 (n : Int), s1], .agg #[.int .i64 (n : Int), .int .i64 (c : Int), s2]] V fun v' V' => ∃ w, v' = .agg #[.int .i64 (r : Int), .int .i64 (c : Int), w] ∧ Rats V' w (mmul a b r n c) := by
  obtain ⟨A1, q1, rfl, _, _⟩ := ha.form
  obtain ⟨A2, q2, rfl, _, _⟩ := hb.form
  have hrn : r * n ≤ 3600 := Nat.le_trans (Nat.mul_le_mul hr hn) (by decide)
  have hnc : n * c ≤ 3600 := Nat.le_trans (Nat.mul_le_mul hn hc) (by decide)
  have hrc : r * c ≤ 3600 := Nat.le_trans (Nat.mul_le_mul hr hc) (by decide)
  have hml := mmul_len a b r n c
  unfold mmul at hml ⊢
  obtain ⟨R, hR⟩ : ∃ R, R = r * c := ⟨_, rfl⟩
  refine (Spec.enter Tryz.func111 rfl fun Γ => ?_)
  simp only [Tryz.ntmps111, List.map_cons, List.map_nil, List.length_cons, List.length_nil, Nat.reduceAdd, Nat.reduceSub, List.replicate_succ, List.replicate_zero, List.cons_append, List.nil_append]
  refine Gx.a (by kernel_rfl) fun K hK => ?_
  simp only [XM, XA, Nat.reduceAdd]
  refine hK _ ?_
  refine Gx.a (by kernel_rfl) fun K hK => ?_
  simp only [XM, XA, XB]
  refine call_own (by kernel_rfl) rfl (dzeros_o _ r c hr hc) fun v1 V1 o1 hV1 hs1 h1 => ?_
  obtain ⟨sl, cells1, rfl, hown1, hrow1⟩ := h1
  generalize addRow (fun _ => none) o1 = H1 at *
  have osl := own_isOne hown1
  simp only [XM, XA, Nat.reduceAdd]
  refine st_mat shapeT_34 rfl rfl rfl rfl osl ?_
  simp only [XA]
  refine hK _ ?_
  clear hK
  rw [← hR] at hown1 hrow1 hml hrc ⊢
  refine XWP.cut (fun s => ∃ (V2 : View) (H5 : Heap) (cells : List Value), StIs (fun Z => [Z 0,Z 1, .p 0 0, .p 1 0, .p 2 0, .p 3 0, Z 6,Z 7,Z 8,Z 9,Z 10,Z 11,Z 12,Z 13,Z 14,Z 15,Z 16,Z 17,Z 18,Z 19,Z 20,Z 21,Z 22,Z 23,Z 24,Z 25,Z 26,Z 27,Z 28,Z 29,Z 30,Z 31,Z 32,Z 33,Z 34,Z 35,Z 36,Z 37,Z 38,Z 39,Z 40,Z 41,Z 42,Z 43,Z 44,Z 45,Z 46,Z 47,Z 48,Z 49,Z 50,Z 51,Z 52,Z 53,Z 54,Z 55,Z 56,Z 57,Z 58,Z 59,Z 60,Z 61,Z 62,Z 63,Z 64,Z 65,Z 66,Z 67,Z 68,Z 69,Z 70,Z 71,Z 72,Z 73]) [[.int .i64 (r : Int), .int .i64 (n : Int), .slice A1 a.length q1], [.int .i64 (n : Int), .int .i64 (c : Int), .slice A2 b.length q2], [.int .i64 0, .int .i64 0, .slice none 0 0], [.int .i64 (r : Int), .int .i64 (c : Int), sl]] H5 V2 s ∧ Own H5 48 3 sl R cells ∧ RowAt ratE V2 cells (mk R (mfull a b n c))) ?_ ?_
  · refine Gx.a (by kernel_rfl) fun K hK => ?_
    simp only [XA]
    refine hK _ ?_
    clear hK
    refine XWP.block ?_
    refine XWP.loop (fun x s => ∃ (i : Nat) (V2 : View) (H5 : Heap) (cells : List Value), StIs (fun Z => [Z 0,Z 1, .p 0 0, .p 1 0, .p 2 0, .p 3 0, .v (.int .i64 (i : Int)), Z 7,Z 8,Z 9,Z 10,Z 11,Z 12,Z 13,Z 14,Z 15,Z 16,Z 17,Z 18,Z 19,Z 20,Z 21,Z 22,Z 23,Z 24,Z 25,Z 26,Z 27,Z 28,Z 29,Z 30,Z 31,Z 32,Z 33,Z 34,Z 35,Z 36,Z 37,Z 38,Z 39,Z 40,Z 41,Z 42,Z 43,Z 44,Z 45,Z 46,Z 47,Z 48,Z 49,Z 50,Z 51,Z 52,Z 53,Z 54,Z 55,Z 56,Z 57,Z 58,Z 59,Z 60,Z 61,Z 62,Z 63,Z 64,Z 65,Z 66,Z 67,Z 68,Z 69,Z 70,Z 71,Z 72,Z 73]) [[.int .i64 (r : Int), .int .i64 (n : Int), .slice A1 a.length q1], [.int .i64 (n : Int), .int .i64 (c : Int), .slice A2 b.length q2], [.int .i64 0, .int .i64 0, .slice none 0 0], [.int .i64 (r : Int), .int .i64 (c : Int), sl]] H5 V2 s ∧ V.le V2 ∧ x + i = r ∧ Own H5 48 3 sl R cells ∧ RowAt ratE V2 cells (mk R (mf a b n c (i * c) 0))) r ⟨0, V1, H1, cells1, StIs.of (by exact rfl), hV1, by omega, hown1, by rw [Nat.zero_mul, mf_zero]; exact hrow1⟩ ?_
    clear hown1 hrow1
    rintro x s ⟨i, V2, H5, cells, hs, hV2, hx, hown, hrow⟩
    obtain ⟨z, rfl⟩ := hs.out
    try dsimp only
    clear hs
    refine XWP.seq ?_
    by_cases hi : i < r
    rotate_left
    · obtain rfl : i = r := by omega
      have b1 : decide ((i : Int) < (i : Int)) = false := decide_eq_false (by omega)
      refine Gx.a (by kernel_rfl) fun K hK => ?_
      simp only [XM, XA, XB, b1]
      refine hK _ ?_
      refine Gx.f rfl ?_
      refine XWP.exit ?_
      rw [← hR, mf_all] at hrow
      exact ⟨V2, H5, cells, StIs.of (by exact rfl), hown, hrow⟩
    have b1 : decide ((i : Int) < (r : Int)) = true := decide_eq_true (by omega)
    refine Gx.a (by kernel_rfl) fun K hK => ?_
    simp only [XM, XA, XB, b1]
    refine hK _ ?_
    refine Gx.t rfl ?_
    refine XWP.skip ?_
    refine XWP.seq ?_
    refine XWP.block ?_
    refine Gx.a (by kernel_rfl) fun K hK => ?_
    simp only [XA]
    refine hK _ ?_
    clear hK
    refine XWP.post (fun s => ∃ (V3 : View) (H6 : Heap) (cells6 : List Value), StIs (fun Z => [Z 0,Z 1, .p 0 0, .p 1 0, .p 2 0, .p 3 0, .v (.int .i64 (i : Int)), Z 7,Z 8,Z 9,Z 10,Z 11,Z 12,Z 13,Z 14,Z 15,Z 16,Z 17,Z 18,Z 19,Z 20,Z 21,Z 22,Z 23,Z 24,Z 25,Z 26,Z 27,Z 28,Z 29,Z 30,Z 31,Z 32,Z 33,Z 34,Z 35,Z 36,Z 37,Z 38,Z 39,Z 40,Z 41,Z 42,Z 43,Z 44,Z 45,Z 46,Z 47,Z 48,Z 49,Z 50,Z 51,Z 52,Z 53,Z 54,Z 55,Z 56,Z 57,Z 58,Z 59,Z 60,Z 61,Z 62,Z 63,Z 64,Z 65,Z 66,Z 67,Z 68,Z 69,Z 70,Z 71,Z 72,Z 73]) [[.int .i64 (r : Int), .int .i64 (n : Int), .slice A1 a.length q1], [.int .i64 (n : Int), .int .i64 (c : Int), .slice A2 b.length q2], [.int .i64 0, .int .i64 0, .slice none 0 0], [.int .i64 (r : Int), .int .i64 (c : Int), sl]] H6 V3 s ∧ V2.le V3 ∧ Own H6 48 3 sl R cells6 ∧ RowAt ratE V3 cells6 (mk R (mf a b n c (i * c + c) 0))) ?_ ?_
    · refine XWP.block ?_
      refine XWP.loop (fun y s => ∃ (k : Nat) (V3 : View) (H6 : Heap) (cells6 : List Value), StIs (fun Z => [Z 0,Z 1, .p 0 0, .p 1 0, .p 2 0, .p 3 0, .v (.int .i64 (i : Int)), .v (.int .i64 (k : Int)), Z 8,Z 9,Z 10,Z 11,Z 12,Z 13,Z 14,Z 15,Z 16,Z 17,Z 18,Z 19,Z 20,Z 21,Z 22,Z 23,Z 24,Z 25,Z 26,Z 27,Z 28,Z 29,Z 30,Z 31,Z 32,Z 33,Z 34,Z 35,Z 36,Z 37,Z 38,Z 39,Z 40,Z 41,Z 42,Z 43,Z 44,Z 45,Z 46,Z 47,Z 48,Z 49,Z 50,Z 51,Z 52,Z 53,Z 54,Z 55,Z 56,Z 57,Z 58,Z 59,Z 60,Z 61,Z 62,Z 63,Z 64,Z 65,Z 66,Z 67,Z 68,Z 69,Z 70,Z 71,Z 72,Z 73]) [[.int .i64 (r : Int), .int .i64 (n : Int), .slice A1 a.length q1], [.int .i64 (n : Int), .int .i64 (c : Int), .slice A2 b.length q2], [.int .i64 0, .int .i64 0, .slice none 0 0], [.int .i64 (r : Int), .int .i64 (c : Int), sl]] H6 V3 s ∧ V2.le V3 ∧ y + k = c ∧ Own H6 48 3 sl R cells6 ∧ RowAt ratE V3 cells6 (mk R (mf a b n c (i * c + k) 0))) c ⟨0, V2, H5, cells, StIs.of (by exact rfl), View.le_refl _, by omega, hown, hrow⟩ ?_
      clear hown hrow
      rintro y s ⟨k, V3, H6, cells6, hs, hV3, hy, hown, hrow⟩
      obtain ⟨z, rfl⟩ := hs.out
      try dsimp only
      clear hs
      refine XWP.seq ?_
      by_cases hk : k < c
      rotate_left
      · obtain rfl : k = c := by omega
        have b2 : decide ((k : Int) < (k : Int)) = false := decide_eq_false (by omega)
        refine Gx.a (by kernel_rfl) fun K hK => ?_
        simp only [XM, XA, XB, b2]
        refine hK _ ?_
        refine Gx.f rfl ?_
        refine XWP.exit ?_
        exact ⟨V3, H6, cells6, StIs.of (by exact rfl), hV3, hown, hrow⟩
      have b2 : decide ((k : Int) < (c : Int)) = true := decide_eq_true (by omega)
      refine Gx.a (by kernel_rfl) fun K hK => ?_
      simp only [XM, XA, XB, b2]
      refine hK _ ?_
      refine Gx.t rfl ?_
      refine XWP.skip ?_
      refine XWP.seq ?_
      refine XWP.block ?_
      refine Gx.a (by kernel_rfl) fun K hK => ?_
      simp only [XA]
      refine hK _ ?_
      clear hK
      have hik := idx_lt hi hk
      rw [← hR] at hik
      obtain ⟨ed, em⟩ := div_at (i := i) hk
      refine XWP.post (fun s => ∃ (V4 : View) (H7 : Heap) (cells7 : List Value), StIs (fun Z => [Z 0,Z 1, .p 0 0, .p 1 0, .p 2 0, .p 3 0, .v (.int .i64 (i : Int)), .v (.int .i64 (k : Int)), Z 8,Z 9,Z 10,Z 11,Z 12,Z 13,Z 14,Z 15,Z 16,Z 17,Z 18,Z 19,Z 20,Z 21,Z 22,Z 23,Z 24,Z 25,Z 26,Z 27,Z 28,Z 29,Z 30,Z 31,Z 32,Z 33,Z 34,Z 35,Z 36,Z 37,Z 38,Z 39,Z 40,Z 41,Z 42,Z 43,Z 44,Z 45,Z 46,Z 47,Z 48,Z 49,Z 50,Z 51,Z 52,Z 53,Z 54,Z 55,Z 56,Z 57,Z 58,Z 59,Z 60,Z 61,Z 62,Z 63,Z 64,Z 65,Z 66,Z 67,Z 68,Z 69,Z 70,Z 71,Z 72,Z 73]) [[.int .i64 (r : Int), .int .i64 (n : Int), .slice A1 a.length q1], [.int .i64 (n : Int), .int .i64 (c : Int), .slice A2 b.length q2], [.int .i64 0, .int .i64 0, .slice none 0 0], [.int .i64 (r : Int), .int .i64 (c : Int), sl]] H7 V4 s ∧ V3.le V4 ∧ Own H7 48 3 sl R cells7 ∧ RowAt ratE V4 cells7 (mk R (mf a b n c (i * c + k) n))) ?_ ?_
      · refine XWP.block ?_
        refine XWP.loop (fun t s => ∃ (j : Nat) (V4 : View) (H7 : Heap) (cells7 : List Value), StIs (fun Z => [Z 0,Z 1, .p 0 0, .p 1 0, .p 2 0, .p 3 0, .v (.int .i64 (i : Int)), .v (.int .i64 (k : Int)), .v (.int .i64 (j : Int)), Z 9,Z 10,Z 11,Z 12,Z 13,Z 14,Z 15,Z 16,Z 17,Z 18,Z 19,Z 20,Z 21,Z 22,Z 23,Z 24,Z 25,Z 26,Z 27,Z 28,Z 29,Z 30,Z 31,Z 32,Z 33,Z 34,Z 35,Z 36,Z 37,Z 38,Z 39,Z 40,Z 41,Z 42,Z 43,Z 44,Z 45,Z 46,Z 47,Z 48,Z 49,Z 50,Z 51,Z 52,Z 53,Z 54,Z 55,Z 56,Z 57,Z 58,Z 59,Z 60,Z 61,Z 62,Z 63,Z 64,Z 65,Z 66,Z 67,Z 68,Z 69,Z 70,Z 71,Z 72,Z 73]) [[.int .i64 (r : Int), .int .i64 (n : Int), .slice A1 a.length q1], [.int .i64 (n : Int), .int .i64 (c : Int), .slice A2 b.length q2], [.int .i64 0, .int .i64 0, .slice none 0 0], [.int .i64 (r : Int), .int .i64 (c : Int), sl]] H7 V4 s ∧ V3.le V4 ∧ t + j = n ∧ Own H7 48 3 sl R cells7 ∧ RowAt ratE V4 cells7 (mk R (mf a b n c (i * c + k) j))) n ⟨0, V3, H6, cells6, StIs.of (by exact rfl), View.le_refl _, by omega, hown, hrow⟩ ?_
        clear hown hrow
        rintro t s ⟨j, V4, H7, cells7, hs, hV4, ht, hown, hrow⟩
        obtain ⟨z, rfl⟩ := hs.out
        try dsimp only
        clear hs
        refine XWP.seq ?_
        by_cases hj : j < n
        rotate_left
        · obtain rfl : j = n := by omega
          have b3 : decide ((j : Int) < (j : Int)) = false := decide_eq_false (by omega)
          refine Gx.a (by kernel_rfl) fun K hK => ?_
          simp only [XM, XA, XB, b3]
          refine hK _ ?_
          refine Gx.f rfl ?_
          refine XWP.exit ?_
          exact ⟨V4, H7, cells7, StIs.of (by exact rfl), hV4, hown, hrow⟩
        have b3 : decide ((j : Int) < (n : Int)) = true := decide_eq_true (by omega)
        refine Gx.a (by kernel_rfl) fun K hK => ?_
        simp only [XM, XA, XB, b3]
        refine hK _ ?_
        refine Gx.t rfl ?_
        refine XWP.skip ?_
        refine XWP.seq ?_
        refine XWP.block ?_
        have hij := idx_lt hi hj
        have hjk := idx_lt hj hk
        rcases own_parts hown with ⟨_, h0, _⟩ | ⟨g, cap, rfl, hg, hle, hcap, hcl⟩
        · omega
        have hVV := View.le_trans hV2 (View.le_trans hV3 hV4)
        have ha4 := ha.up hVV
        have hb4 := hb.up hVV
        obtain ⟨ba, oa, rfl⟩ := SlAt.addr ha4 (by omega)
        obtain ⟨bb', ob, rfl⟩ := SlAt.addr hb4 (by omega)
        obtain ⟨m3, n3, d3, hx3, _, hld3⟩ := Rats.get ha4 (i * n + j) (by omega)
        obtain ⟨m4, n4, d4, hx4, _, hld4⟩ := Rats.get hb4 (j * c + k) (by omega)
        obtain ⟨m5, n5, d5, hx5, _, hld5⟩ := rowQ_load hg hrow (i * c + k) (by rw [mk_len]; exact hik)
        rw [cf_mk_lt hik, show mf a b n c (i * c + k) j (i * c + k) = mS a b n c i k j by unfold mf; rw [if_neg (by omega), if_pos rfl, ed, em]] at hx5
        have w1 := nat_mul i c (by omega)
        have w2 := i64_add (i * c) k (by omega)
        have w3 := nat_mul i n (by omega)
        have w4 := i64_add (i * n) j (by omega)
        have w5 := nat_mul j c (by omega)
        have w6 := i64_add (j * c) k (by omega)
        (refine XWP.drw1 [0, 1, 2, 3, 4, 5, 6, 7, 8, 9, 10, 11, 12, 13, 14, 15, 16, 17, 18, 19, 20, 21, 22, 23, 24, 25, 26, 27, 28, 29, 30, 31, 32, 33, 34, 35, 36, 37, 38, 39, 40, 41] (by kernel_rfl) (by kernel_rfl) (by kernel_rfl) fun K hK => ?_) <;> dsimp only [pickOps, List.getElem?_cons_zero, List.getElem?_cons_succ]
        simp only [XM, XA, XB, w1, w2]
        refine ⟨by omega, by omega, ld_mem hld5 ?_⟩
        simp only [XM, XA, XB, w3, w4]
        refine ⟨by omega, by omega, ld_mem (hld3 _) ?_⟩
        simp only [XM, XA, XB, w5, w6]
        refine ⟨by omega, by omega, ld_mem (hld4 _) ?_⟩
        simp only [XA]
        have qa : QF (cf a (i * n + j)) := (hA.at _).qf (by omega)
        have qb : QF (cf b (j * c + k)) := (hB.at _).qf (by omega)
        have qp : QF (cf a (i * n + j) * cf b (j * c + k)) := ((hA.at _).mul (hB.at _)).qf (by omega)
        have qt : QF (mS a b n c i k j) := (mS_QB hA hB n c i k j).qf (by omega)
        refine call_go (by kernel_rfl) rfl (pmul_c _ _ _ _ _ (hx3.toV qa) (hx4.toV qb) qa qb) fun v9 V9 hV9 h9 => ?_
        simp only [XA]
        refine call_go (by kernel_rfl) rfl (padd_c _ _ _ _ _ ((hx5.mono hV9).toV qt) (h9.toV qp) qt qp) fun v10 V10 hV10 h10 => ?_
        obtain ⟨x10, y10, rfl, o5, o6⟩ := h10.form
        have hrow9 := (hrow.mono ratE_ok hV9).mono ratE_ok hV10
        have hl9 := hrow9.1
        rw [mk_len] at hl9
        simp only [XA, XB]
        refine ⟨by omega, by omega, ?_⟩
        refine st_rowA shapeT_48 (all3 rfl o5 o6) rfl hg (by dsimp only; omega) ?_
        simp only [XA]
        refine hK _ ?_
        have hrow10 := hrow9.set (i * c + k) (by rw [mk_len]; exact hik) (show isOne (.bool (ng (mS a b n c i k j + cf a (i * n + j) * cf b (j * c + k)))) = true from rfl) o5 o6 h10
        have e10 : mS a b n c i k j + cf a (i * n + j) * cf b (j * c + k) = mS a b n c ((i * c + k) / c) ((i * c + k) % c) (j + 1) := by rw [ed, em]; rfl
        rw [e10, mf_set hik, ← e10] at hrow10
        have hl10 := hrow10.1
        rw [mk_len] at hl10
        refine Gx.c (by kernel_rfl) fun K hK => ?_
        simp only [XA, XB, i64_succ j (by omega)]
        exact hK _ ⟨t - 1, by omega, j + 1, V10, _, _, StIs.of (by exact rfl), View.le_trans hV4 (View.le_trans hV9 hV10), by omega, own3 (upd_at _ _ _) hl10 hle (by unfold maxLen at hcap; omega), hrow10⟩
      rintro s ⟨V4, H7, cells7, hs, hV4, hown, hrow⟩
      obtain ⟨z, rfl⟩ := hs.out
      try dsimp only
      clear hs
      rw [mf_end] at hrow
      refine Gx.c (by kernel_rfl) fun K hK => ?_
      simp only [XA, XB, i64_succ k (by omega)]
      exact hK _ ⟨y - 1, by omega, k + 1, V4, H7, cells7, StIs.of (by exact rfl), View.le_trans hV3 hV4, by omega, hown, hrow⟩
    rintro s ⟨V3, H6, cells6, hs, hV3, hown, hrow⟩
    obtain ⟨z, rfl⟩ := hs.out
    try dsimp only
    clear hs
    refine Gx.c (by kernel_rfl) fun K hK => ?_
    simp only [XA, XB, i64_succ i (by omega)]
    exact hK _ ⟨x - 1, by omega, i + 1, V3, H6, cells6, StIs.of (by exact rfl), View.le_trans hV2 hV3, by omega, hown, by rw [Nat.add_mul, Nat.one_mul]; exact hrow⟩
  rintro s ⟨V2, H5, cells, hs, hown, hrow⟩
  obtain ⟨z, rfl⟩ := hs.out
  try dsimp only
  refine Gx.a (by kernel_rfl) fun K hK => ?_
  simp only [XM, XA, Nat.reduceAdd, Nat.reduceLeDiff, ↓reduceIte]
  refine st_mat shapeT_34 rfl rfl rfl rfl osl ?_
  simp only [XA]
  refine hK _ (XWP.ret ?_)
  try simp only [thenX_ret, inBlockX_ret]
  rcases own_parts hown with ⟨rfl, h0, rfl⟩ | ⟨g, cap, rfl, hg, hle, hcap, hcl⟩
  · refine ret_go _ (by simp [resAll, resV, cellsV, shapeT_34]; rfl) ⟨_, rfl, ?_⟩
    rw [List.length_eq_zero_iff.1 (hml.trans h0)]; exact SlAt.nil _
  · refine ret_pub g _ hg fun o ho hle' => ret_go _ (by simp [resAll, resV, cellsV, shapeT_34]; rfl) ⟨_, rfl, ?_⟩
    exact hrow.pub ratE_ok ho hle' hml hle (by unfold maxLen at hcap; omega)
end Go.Proofs.YthoboehbadmlmaaGreat
end
section
namespace Go.Proofs.YthoboehbadmlmaaGreat
open Go Go.RowKit
set_option linter.unusedSimpArgs false
set_option linter.unusedVariables false
attribute [local irreducible] XWP Spec SpecO XPub XCall seqX clX apX stX ldX iaX slX
theorem dmul_c (V : View) (s1 s2 : Value) (r n c : Nat) (LA LB : List Raw) (ha : Raws V s1 LA) (hb : Raws V s2 LB) (fA : fitR LA) (fB : fitR LB) (hma : matR r n LA = true) (hmb : matR n c LB = true) (A B : Nat) (hA : CB A (qs LA)) (hB : CB B (qs LB)) (hfit : A + B + 100 ≤ 17592186044416) :
    Spec Tryz.prog 52 [.agg #[.int .i64 (r : Int), .int .i64 (n : Int), s1], .agg #[.int .i64 (n : Int), .int .i64 (c : Int), s2]] V fun v' V' => ∃ w, v' = .tuple #[.agg #[.int .i64 (r : Int), .int .i64 (c : Int), w], .int .i64 0] ∧ Rats V' w (mmul (qs LA) (qs LB) r n c) := by
  have g1 := hma
  have g2 := hmb
  unfold matR at g1 g2
  rw [Bool.and_eq_true, decide_eq_true_eq] at g1 g2
  obtain ⟨⟨_, a2, _, a4, a5⟩, o1⟩ := g1
  obtain ⟨⟨_, b2, _, b4, b5⟩, o2⟩ := g2
  have k1 : LA.length = r * n := by rw [← Int.natCast_mul] at a5; omega
  have k2 : LB.length = n * c := by rw [← Int.natCast_mul] at b5; omega
  have hr : r ≤ 60 := by omega
  have hn : n ≤ 60 := by omega
  have hc : c ≤ 60 := by omega
  have hrn : r * n ≤ 3600 := Nat.le_trans (Nat.mul_le_mul hr hn) (by decide)
  have hnc : n * c ≤ 3600 := Nat.le_trans (Nat.mul_le_mul hn hc) (by decide)
  obtain ⟨A1, q1, rfl, _, _⟩ := ha.form
  obtain ⟨A2, q2, rfl, _, _⟩ := hb.form
  refine (Spec.enter Tryz.func52 rfl fun Γ => ?_)
  simp only [Tryz.ntmps52, List.map_cons, List.map_nil, List.length_cons, List.length_nil, Nat.reduceAdd, Nat.reduceSub, List.replicate_succ, List.replicate_zero, List.cons_append, List.nil_append]
  refine Gx.a (by kernel_rfl) fun K hK => ?_
  simp only [XM, XA, Nat.reduceAdd]
  refine hK _ ?_
  refine XWP.cut (fun s => ∃ (V2 : View), StIs (fun Z => [Z 0,Z 1, .p 0 0, .p 1 0, .p 2 0, Z 5,Z 6,Z 7,Z 8,Z 9,Z 10,Z 11,Z 12,Z 13,Z 14,Z 15,Z 16,Z 17,Z 18,Z 19,Z 20,Z 21,Z 22,Z 23,Z 24,Z 25]) [[.int .i64 (r : Int), .int .i64 (n : Int), .slice A1 LA.length q1], [.int .i64 (n : Int), .int .i64 (c : Int), .slice A2 LB.length q2], [.int .i64 0, .int .i64 0, .slice none 0 0]] (fun _ => none) V2 s ∧ V.le V2) ?_ ?_
  · refine XWP.block ?_
    refine XWP.seq ?_
    refine Gx.c (by kernel_rfl) fun K hK => ?_
    simp only [XM, XA, Nat.reduceAdd, Nat.reduceLeDiff, ↓reduceIte]
    refine call_go (by kernel_rfl) rfl (dmright_c _ _ _ _ LA ha fA (by omega)) fun v1 V1 hV1 h1 => ?_
    rw [hma] at h1
    subst h1
    simp only [XM, XA, gateX, Nat.reduceAdd, Nat.reduceLeDiff, ↓reduceIte, beq_self_eq_true]
    refine call_go (by kernel_rfl) rfl (dmright_c _ _ _ _ LB (hb.up hV1) fB (by omega)) fun v2 V2 hV2 h2 => ?_
    rw [hmb] at h2
    subst h2
    simp only [XA, gateX, ↓reduceIte, beq_self_eq_true]
    refine hK _ ?_
    refine Gx.f rfl ?_
    refine Gx.a (by kernel_rfl) fun K hK => ?_
    simp only [XM, XA, XB, decide_true]
    refine hK _ ?_
    refine Gx.f rfl ?_
    refine XWP.skip ?_
    exact ⟨V2, StIs.of (by exact rfl), View.le_trans hV1 hV2⟩
  rintro s ⟨V2, hs, hV2⟩
  obtain ⟨z, rfl⟩ := hs.out
  try dsimp only
  clear hs
  have hra := (Raws.rats ha o1).up hV2
  have hrb := (Raws.rats hb o2).up hV2
  refine Gx.a (by kernel_rfl) fun K hK => ?_
  simp only [XM, XA, Nat.reduceAdd, Nat.reduceLeDiff, ↓reduceIte]
  refine call_go (by kernel_rfl) rfl (dtimes_c _ _ _ r n c (qs LA) (qs LB) hra hrb (by rw [qs_len]; exact k1) (by rw [qs_len]; exact k2) hr hn hc A B hA hB hfit) fun v3 V3 hV3 h3 => ?_
  obtain ⟨w, rfl, hw⟩ := h3
  obtain ⟨A3, q3, rfl, _, _⟩ := hw.form
  simp only [XA]
  refine st_mat shapeT_34 rfl rfl rfl rfl rfl ?_
  simp only [XA]
  refine hK _ (XWP.ret ?_)
  try simp only [thenX_ret, inBlockX_ret]
  exact ret_go _ (by simp [resAll, resV, cellsV, shapeT_34]; rfl) ⟨_, rfl, hw⟩
end Go.Proofs.YthoboehbadmlmaaGreat
end
section
namespace Go.Proofs.YthoboehbadmlmaaGreat
open Go Go.RowKit
set_option linter.unusedSimpArgs false
set_option linter.unusedVariables false
attribute [local irreducible] XWP Spec SpecO XPub XCall seqX clX apX stX ldX iaX slX
theorem dZero_o (V : View) (r c : Nat) (hr : r ≤ 60) (hc : c ≤ 60) : SpecO Tryz.prog 16 [.int .i64 (r : Int), .int .i64 (c : Int)] V fun v' V' o => ∃ sl cells, v' = .tuple #[.agg #[.int .i64 (r : Int), .int .i64 (c : Int), sl], .int .i64 0] ∧ Own (addRow (fun _ => none) o) 48 3 sl (r * c) cells ∧ RowAt ratE V' cells (mk (r * c) fun _ => 0) := by
  have b1 : decide ((r : Int) < 0) = false := decide_eq_false (by omega)
  have b2 : decide ((c : Int) < 0) = false := decide_eq_false (by omega)
  have b3 : decide ((60 : Int) < (r : Int)) = false := decide_eq_false (by omega)
  have b4 : decide ((60 : Int) < (c : Int)) = false := decide_eq_false (by omega)
  refine (SpecO.enter Tryz.func16 rfl fun Γ => ?_)
  simp only [Tryz.ntmps16, List.map_cons, List.map_nil, List.length_cons, List.length_nil, Nat.reduceAdd, Nat.reduceSub, List.replicate_succ, List.replicate_zero, List.cons_append, List.nil_append]
  refine Gx.a (by kernel_rfl) fun K hK => ?_
  simp only [XM, XA]
  refine hK _ ?_
  refine XWP.cut (fun s => StIs (fun Z => [.v (.int .i64 (r : Int)), .v (.int .i64 (c : Int)), Z 2,Z 3, .p 0 0, .v (.int .i64 0), Z 6,Z 7,Z 8,Z 9,Z 10,Z 11,Z 12,Z 13,Z 14,Z 15,Z 16,Z 17,Z 18,Z 19,Z 20,Z 21,Z 22,Z 23,Z 24]) [[.int .i64 0, .int .i64 0, .slice none 0 0]] (fun _ => none) V s ∧ True) ?_ ?_
  · refine XWP.block ?_
    refine XWP.seq ?_
    refine Gx.c (by kernel_rfl) fun K hK => ?_
    simp only [XA, XB, gateX, ↓reduceIte, beq_self_eq_true, b1, b2]
    refine hK _ ?_
    refine Gx.f rfl ?_
    refine Gx.a (by kernel_rfl) fun K hK => ?_
    simp only [XA, XB, gateX, ↓reduceIte, beq_self_eq_true, b3, b4]
    refine hK _ ?_
    refine Gx.f rfl ?_
    refine XWP.skip ?_
    exact ⟨StIs.of (by exact rfl), trivial⟩
  rintro s ⟨hs, _⟩
  obtain ⟨z, rfl⟩ := hs.out
  try dsimp only
  refine Gx.a (by kernel_rfl) fun K hK => ?_
  simp only [XA]
  refine call_own (by kernel_rfl) rfl (dzeros_o _ r c hr hc) fun v1 V1 o1 hV1 hs1 h1 => ?_
  obtain ⟨sl, cells, rfl, hown, hrow⟩ := h1
  have osl := own_isOne hown
  simp only [XA]
  refine st_mat shapeT_34 rfl rfl rfl rfl osl ?_
  simp only [XA]
  refine hK _ (XWP.ret ?_)
  try simp only [thenX_ret, inBlockX_ret]
  rcases own_parts hown with ⟨rfl, h0, rfl⟩ | ⟨g, cap, rfl, hg, hle, hcap, hcl⟩
  · refine ret_own _ none (by simp [resAll, resV, cellsV, shapeT_34]; rfl) (fun g' q e => by cases e) ⟨_, [], rfl, ⟨by rw [h0]; rfl, .inl ⟨rfl, h0⟩⟩, hrow⟩
  · refine ret_own _ (some (g, _)) (by simp [resAll, resV, cellsV, shapeT_34]; rfl) (fun g' q e => by cases e; exact hg) ⟨_, cells, rfl, own3 (show upd (fun _ => none) g (some _) g = some _ from upd_at _ _ _) hcl hle (by unfold maxLen at hcap; omega), hrow⟩
theorem dMsame_c (V : View) (s1 s2 : Value) (r1 c1 r2 c2 : Int) (l m : List Rat) (hv : Rats V s1 l) (hu : Rats V s2 m) (hl : ∀ x ∈ l, QF x) (hm : ∀ x ∈ m, QF x) : Spec Tryz.prog 13 [.agg #[.int .i64 r1, .int .i64 c1, s1], .agg #[.int .i64 r2, .int .i64 c2, s2]] V fun v' V' => v' = .bool (decide (r1 = r2) && decide (c1 = c2) && decide (l = m)) := by
  obtain ⟨A1, q1, rfl, hc1, hm1⟩ := hv.form
  obtain ⟨A2, q2, rfl, hc2, hm2⟩ := hu.form
  refine (Spec.enter Tryz.func13 rfl fun Γ => ?_)
  simp only [Tryz.ntmps13, List.map_cons, List.map_nil, List.length_cons, List.length_nil, Nat.reduceAdd, Nat.reduceSub, List.replicate_succ, List.replicate_zero, List.cons_append, List.nil_append]
  refine Gx.a (by kernel_rfl) fun K hK => ?_
  simp only [XA]
  refine hK _ ?_
  refine XWP.seq ?_
  cases b1 : decide (r1 = r2)
  · refine Gx.a (by kernel_rfl) fun K hK => ?_
    simp only [XM, XA, XB, gateX, ↓reduceIte, b1]
    refine hK _ ?_
    refine Gx.t rfl ?_
    refine Gx.a (by kernel_rfl) fun K hK => ?_
    simp only [XA]
    refine hK _ (XWP.ret ?_)
    try simp only [thenX_ret, inBlockX_ret]
    refine ret_go _ rfl ?_
    rfl
  cases b2 : decide (c1 = c2)
  · refine Gx.a (by kernel_rfl) fun K hK => ?_
    simp only [XM, XA, XB, gateX, ↓reduceIte, beq_self_eq_true, b1, b2]
    refine hK _ ?_
    refine Gx.t rfl ?_
    refine Gx.a (by kernel_rfl) fun K hK => ?_
    simp only [XA]
    refine hK _ (XWP.ret ?_)
    try simp only [thenX_ret, inBlockX_ret]
    refine ret_go _ rfl ?_
    rfl
  by_cases hlen : l.length = m.length
  rotate_left
  · have b3 : decide ((l.length : Int) = (m.length : Int)) = false := decide_eq_false (by omega)
    refine Gx.a (by kernel_rfl) fun K hK => ?_
    simp only [XM, XA, XB, gateX, ↓reduceIte, beq_self_eq_true, b1, b2, b3]
    refine hK _ ?_
    refine Gx.t rfl ?_
    refine Gx.a (by kernel_rfl) fun K hK => ?_
    simp only [XA]
    refine hK _ (XWP.ret ?_)
    try simp only [thenX_ret, inBlockX_ret]
    refine ret_go _ rfl ?_
    rw [decide_eq_false (fun e => hlen (by rw [e]))]; rfl
  have b3 : decide ((l.length : Int) = (m.length : Int)) = true := decide_eq_true (by omega)
  refine Gx.a (by kernel_rfl) fun K hK => ?_
  simp only [XM, XA, XB, gateX, ↓reduceIte, beq_self_eq_true, b1, b2, b3]
  refine hK _ ?_
  refine Gx.f rfl ?_
  refine XWP.skip ?_
  refine XWP.cutD 2 (fun s => ∃ V2, StIs (fun Z => [Z 0,Z 1,Z 2,Z 3,Z 4,Z 5,Z 6,Z 7,Z 8,Z 9,Z 10,Z 11,Z 12,Z 13,Z 14,Z 15,Z 16,Z 17,Z 18,Z 19,Z 20,Z 21,Z 22,Z 23,Z 24,Z 25,Z 26,Z 27,Z 28,Z 29,Z 30,Z 31,Z 32,Z 33,Z 34,Z 35,Z 36,Z 37,Z 38,Z 39,Z 40,Z 41,Z 42,Z 43,Z 44,Z 45]) [[.int .i64 r1, .int .i64 c1, .slice A1 l.length q1], [.int .i64 r2, .int .i64 c2, .slice A2 m.length q2]] (fun _ => none) V2 s ∧ l = m) ?_ ?_
  · refine Gx.a (by kernel_rfl) fun K hK => ?_
    simp only [XM, XA, XB]
    refine hK _ ?_
    clear hK
    refine XWP.block ?_
    refine XWP.loopD 2 (fun n s => ∃ (k : Nat) (V2 : View), StIs (fun Z => [Z 0,Z 1, .p 0 0, .p 1 0, Z 4,Z 5,Z 6,Z 7,Z 8,Z 9,Z 10,Z 11,Z 12,Z 13,Z 14,Z 15,Z 16,Z 17,Z 18,Z 19,Z 20,Z 21,Z 22,Z 23,Z 24,Z 25,Z 26,Z 27,Z 28, .v (.int .i64 (l.length : Int)), .v (.int .i64 (k : Int)), Z 31,Z 32,Z 33,Z 34,Z 35,Z 36,Z 37,Z 38,Z 39,Z 40,Z 41,Z 42,Z 43,Z 44,Z 45]) [[.int .i64 r1, .int .i64 c1, .slice A1 l.length q1], [.int .i64 r2, .int .i64 c2, .slice A2 m.length q2]] (fun _ => none) V2 s ∧ V.le V2 ∧ n + k = l.length ∧ ∀ i, i < k → cf l i = cf m i) l.length ⟨0, V, StIs.of (by exact rfl), View.le_refl _, by omega, fun i hi => by omega⟩ ?_
    rintro n s ⟨k, V2, hs, hV2, hn, hk⟩
    obtain ⟨z, rfl⟩ := hs.out
    try dsimp only
    clear hs
    by_cases hlt : k < l.length
    rotate_left
    · have b4 : decide ((k : Int) < (l.length : Int)) = false := decide_eq_false (by omega)
      refine Gx.a (by kernel_rfl) fun K hK => ?_
      simp only [XA, XB, b4]
      refine hK _ ?_
      refine XWP.seq (Gx.f rfl ?_)
      refine XWP.exit ?_
      refine fun f => ⟨V2, StIs.of (by exact rfl), List.ext_getElem hlen fun i h1 h2 => ?_⟩
      rw [cf_get h1, cf_get h2]; exact hk i (by omega)
    have b4 : decide ((k : Int) < (l.length : Int)) = true := decide_eq_true (by omega)
    refine Gx.a (by kernel_rfl) fun K hK => ?_
    simp only [XA, XB, b4]
    refine hK _ ?_
    refine XWP.seq (Gx.t rfl ?_)
    refine XWP.skip ?_
    have hv2 := Rats.up hv hV2
    have hu2 := Rats.up hu hV2
    obtain ⟨b, o, rfl⟩ := SlAt.addr hv2 (by omega)
    obtain ⟨b', o', rfl⟩ := SlAt.addr hu2 (by omega)
    obtain ⟨m3, n3, d3, hx3, ⟨p1, p2, p3⟩, hld3⟩ := Rats.get hv2 k (by omega)
    obtain ⟨m4, n4, d4, hx4, ⟨r1, r2, r3⟩, hld4⟩ := Rats.get hu2 k (by omega)
    refine XWP.seq ?_
    refine XWP.block ?_
    refine Gx.a (by kernel_rfl) fun K hK => ?_
    simp only [XA]
    refine hK _ ?_
    (refine XWP.drw [0, 1, 2, 3, 4, 5, 6, 7, 8, 9, 10, 11] (by kernel_rfl) (by kernel_rfl) (by kernel_rfl) fun K hK => ?_) <;> dsimp only [pickOps, List.getElem?_cons_zero, List.getElem?_cons_succ]
    simp only [XM, XA, XB]
    refine ⟨by omega, by omega, ld_mem (hld3 _) ?_⟩
    simp only [XM, XA, XB]
    refine ⟨by omega, by omega, ld_mem (hld4 _) ?_⟩
    simp only [XA]
    have f3 := hl _ (cf_mem hlt)
    have f4 := hm _ (cf_mem (show k < m.length by omega))
    refine call_go (by kernel_rfl) rfl (psame_c _ _ _ _ _ (hx3.toV f3) (hx4.toV f4) f3 f4) fun v5 V5 hV5 h5 => ?_
    subst h5
    by_cases he : cf l k = cf m k
    · have b5 : decide (cf l k = cf m k) = true := decide_eq_true he
      simp only [XA, b5]
      refine hK _ ?_
      refine Gx.f rfl ?_
      refine XWP.skip ?_
      refine Gx.c (by kernel_rfl) fun K hK => ?_
      simp only [XA, XB, i64_succ k (by omega)]
      refine hK _ ⟨n - 1, by omega, fun f => ⟨k + 1, V5, StIs.of (by exact rfl), View.le_trans hV2 hV5, by omega, fun i hi => ?_⟩⟩
      by_cases e : i = k
      · rw [e]; exact he
      · exact hk i (by omega)
    · have b5 : decide (cf l k = cf m k) = false := decide_eq_false he
      simp only [XA, b5]
      refine hK _ ?_
      refine Gx.t rfl ?_
      refine Gx.a (by kernel_rfl) fun K hK => ?_
      simp only [XA]
      refine hK _ (XWP.ret ?_)
      try simp only [thenX_ret, inBlockX_ret]
      refine ret_go _ rfl ?_
      rw [decide_eq_false (fun e => he (by rw [e]))]; rfl
  rintro s ⟨V2, hs, he⟩
  obtain ⟨z, rfl⟩ := hs.out
  try dsimp only
  refine Gx.a (by kernel_rfl) fun K hK => ?_
  simp only [XA]
  refine hK _ (XWP.ret ?_)
  try simp only [thenX_ret, inBlockX_ret]
  refine ret_go _ rfl ?_
  rw [decide_eq_true he]; rfl
end Go.Proofs.YthoboehbadmlmaaGreat
end
section
namespace Go.Proofs.YthoboehbadmlmaaGreat
open Go Go.RowKit
set_option linter.unusedSimpArgs false
set_option linter.unusedVariables false
attribute [local irreducible] XWP Spec SpecO XPub XCall seqX clX apX stX ldX iaX slX
end Go.Proofs.YthoboehbadmlmaaGreat
end
section
namespace Go.Proofs.YthoboehbadmlmaaGreat
open Go Go.RowKit
set_option linter.unusedSimpArgs false
set_option linter.unusedVariables false
attribute [local irreducible] XWP Spec SpecO XPub XCall seqX clX apX stX ldX iaX slX
theorem ge_le (B k : Nat) : B ≤ ge B k := ge_mono B (Nat.zero_le k)
theorem own_rw {H : Heap} {o : Option (Nat × Row)} {e n : Nat} {v : Value} {cells : List Value} (h : Own (addRow (fun _ => none) o) e 3 v n cells) (hn : 1 ≤ n) : ∃ g cap, v = .slice (some ⟨g, 0, none⟩) n cap ∧ o = some (g, ⟨e, cells, cap * 3⟩) ∧ addRow H o g = some ⟨e, cells, cap * 3⟩ ∧ n ≤ cap ∧ cap ≤ maxLen := by
  rcases own_parts h with ⟨_, h0, _⟩ | ⟨g, cap, rfl, hg, hle, hcap, _⟩
  · omega
  · cases o with
    | none => cases hg
    | some q =>
      obtain ⟨g', r⟩ := q
      simp only [addRow, upd] at hg
      split at hg
      · rename_i e'
        subst e'
        cases hg
        exact ⟨g, cap, rfl, rfl, upd_at _ _ _, hle, hcap⟩
      · cases hg
theorem own_any {H : Heap} {o : Option (Nat × Row)} {e n : Nat} {v : Value} {cells : List Value} (h : Own (addRow (fun _ => none) o) e 3 v n cells) : Own (addRow H o) e 3 v n cells := by
  rcases Nat.eq_zero_or_pos n with h0 | h0
  · rcases own_parts h with ⟨rfl, _, rfl⟩ | ⟨g, cap, rfl, hg, hle, hcap, hl⟩
    · rw [h0]; exact own_nil
    · cases o with
      | none => cases hg
      | some q =>
        obtain ⟨g', r⟩ := q
        simp only [addRow, upd] at hg
        split at hg
        · rename_i e'
          subst e'
          cases hg
          exact ⟨hl, .inr ⟨g, cap, rfl, upd_at _ _ _, hle, hcap⟩⟩
        · cases hg
  · obtain ⟨g, cap, rfl, _, h2, h3, h4⟩ := own_rw (H := H) h h0
    exact ⟨h.1, .inr ⟨g, cap, rfl, h2, h3, h4⟩⟩
theorem addRow_only {o : Option (Nat × Row)} {g : Nat} {r : Row} (h : addRow (fun _ => none) o g = some r) : o = some (g, r) := by
  cases o with
  | none => cases h
  | some q =>
    obtain ⟨g', r'⟩ := q
    simp only [addRow, upd] at h
    split at h
    · rename_i e'
      subst e'; cases h; rfl
    · cases h
theorem addRow_off {H : Heap} {o : Option (Nat × Row)} {b : Nat} {r : Row} (hb : H b = some r) (hs : ∀ g q, o = some (g, q) → H g = none) : addRow H o b = some r := by
  cases o with
  | none => exact hb
  | some q =>
    obtain ⟨g, q⟩ := q
    have := hs g q rfl
    simp only [addRow, upd]
    rw [if_neg fun e => by rw [e, this] at hb; cases hb]; exact hb
theorem splice_all {a b c x y z : Value} : splice [a, b, c] 0 [x, y, z] = [x, y, z] := by unfold splice; simp
end Go.Proofs.YthoboehbadmlmaaGreat
end
section
namespace Go.Proofs.YthoboehbadmlmaaGreat
open Go Go.RowKit
set_option linter.unusedSimpArgs false
set_option linter.unusedVariables false
attribute [local irreducible] XWP Spec SpecO XPub XCall seqX clX apX stX ldX iaX slX
theorem csized_c (V : View) (r c : Nat) (hr : r ≤ 60) (hc : c ≤ 60) : Spec Tryz.prog 86 [.int .i64 (r : Int), .int .i64 (c : Int)] V fun v' V' => v' = .int .i64 0 := by
  have b1 : decide ((r : Int) < 0) = false := decide_eq_false (by omega)
  have b2 : decide ((c : Int) < 0) = false := decide_eq_false (by omega)
  have b3 : decide ((60 : Int) < (r : Int)) = false := decide_eq_false (by omega)
  have b4 : decide ((60 : Int) < (c : Int)) = false := decide_eq_false (by omega)
  refine (Spec.enter Tryz.func86 rfl fun Γ => ?_)
  simp only [Tryz.ntmps86, List.map_cons, List.map_nil, List.length_cons, List.length_nil, Nat.reduceAdd, Nat.reduceSub, List.replicate_succ, List.replicate_zero, List.cons_append, List.nil_append]
  refine Gx.a (by kernel_rfl) fun K hK => ?_
  simp only [XA]
  refine hK _ ?_
  refine XWP.cut (fun s => StIs (fun Z => [Z 0,Z 1,Z 2,Z 3,Z 4,Z 5,Z 6,Z 7,Z 8,Z 9,Z 10,Z 11,Z 12,Z 13,Z 14,Z 15,Z 16,Z 17,Z 18]) [] (fun _ => none) V s ∧ True) ?_ ?_
  · refine XWP.block ?_
    refine Gx.a (by kernel_rfl) fun K hK => ?_
    simp only [XA, XB, gateX, ↓reduceIte, beq_self_eq_true, b1, b2]
    refine hK _ ?_
    refine Gx.f rfl ?_
    refine Gx.a (by kernel_rfl) fun K hK => ?_
    simp only [XA, XB, gateX, ↓reduceIte, beq_self_eq_true, b3, b4]
    refine hK _ ?_
    refine Gx.f rfl ?_
    refine XWP.skip ?_
    exact ⟨StIs.of (by exact rfl), trivial⟩
  rintro s ⟨hs, _⟩
  obtain ⟨z, rfl⟩ := hs.out
  try dsimp only
  refine Gx.a (by kernel_rfl) fun K hK => ?_
  simp only [XA]
  refine hK _ (XWP.ret ?_)
  try simp only [thenX_ret, inBlockX_ret]
  refine ret_go _ rfl ?_
  rfl
theorem czero1_c (V : View) (i k : Nat) : Spec Tryz.prog 88 [.int .i64 (i : Int), .int .i64 (k : Int)] V fun v' V' => RatC V' v' 0 := by
  refine (Spec.enter Tryz.func88 rfl fun Γ => ?_)
  simp only [Tryz.ntmps88, List.map_cons, List.map_nil, List.length_cons, List.length_nil, Nat.reduceAdd, Nat.reduceSub, List.replicate_succ, List.replicate_zero, List.cons_append, List.nil_append]
  refine Gx.a (by kernel_rfl) fun K hK => ?_
  simp only [XA, XB]
  refine hK _ ?_
  refine Gx.a (by kernel_rfl) fun K hK => ?_
  simp only [XA]
  refine call_go (by kernel_rfl) rfl (qzero_c _) fun v1 V1 hV1 h1 => ?_
  obtain ⟨x1, y1, rfl, p1, p2⟩ := h1.form
  simp only [XA]
  refine st_rat rfl rfl rfl p1 p2 ?_
  simp only [XA]
  refine hK _ (XWP.ret ?_)
  try simp only [thenX_ret, inBlockX_ret]
  exact ret_rat1 rfl rfl rfl h1
theorem cmzero_c (V : View) (r c : Nat) (hr : r ≤ 60) (hc : c ≤ 60) : Spec Tryz.prog 39 [.int .i64 (r : Int), .int .i64 (c : Int)] V fun v' V' => ∃ w, v' = .tuple #[.agg #[.int .i64 (r : Int), .int .i64 (c : Int), w], .int .i64 0] ∧ Rats V' w (flatG (fun _ _ => 0) r c) := by
  refine (Spec.enter Tryz.func39 rfl fun Γ => ?_)
  simp only [Tryz.ntmps39, List.map_cons, List.map_nil, List.length_cons, List.length_nil, Nat.reduceAdd, Nat.reduceSub, List.replicate_succ, List.replicate_zero, List.cons_append, List.nil_append]
  refine Gx.a (by kernel_rfl) fun K hK => ?_
  simp only [XM, XA]
  refine hK _ ?_
  refine XWP.seq ?_
  refine Gx.a (by kernel_rfl) fun K hK => ?_
  simp only [XA]
  refine call_go (by kernel_rfl) rfl (csized_c _ r c hr hc) fun v1 V1 hV1 h1 => ?_
  subst h1
  simp only [XA]
  refine hK _ ?_
  refine Gx.a (by kernel_rfl) fun K hK => ?_
  simp only [XA, XB, decide_true]
  refine hK _ ?_
  refine Gx.f rfl ?_
  refine XWP.skip ?_
  refine Gx.a (by kernel_rfl) fun K hK => ?_
  simp only [XA]
  refine call_own (by kernel_rfl) rfl (filled_o _ (lb := []) r c (fun _ _ => 0) (by kernel_rfl) (by omega) (by omega) fun V' i k hV hi hk => czero1_c V' i k) fun v2 V2 o2 hV2 hs2 h2 => ?_
  obtain ⟨sl, cells, rfl, hown, hrow⟩ := h2
  have osl := own_isOne hown
  simp only [XA]
  refine st_mat shapeT_24 rfl rfl rfl rfl osl ?_
  simp only [XA]
  refine hK _ ?_
  refine XWP.pubR ratE_ok hown hrow fun H7 V7 hV7 hR7 _ => ?_
  refine XWP.ret ?_
  try simp only [thenX_ret, inBlockX_ret]
  exact ret_go _ (by simp [resAll, resV, cellsV, shapeT_24]; rfl) ⟨sl, rfl, hR7⟩
theorem cunit_c (V : View) (i k : Nat) : Spec Tryz.prog 137 [.int .i64 (i : Int), .int .i64 (k : Int)] V fun v' V' => RatC V' v' (gid i k) := by
  refine (Spec.enter Tryz.func137 rfl fun Γ => ?_)
  simp only [Tryz.ntmps137, List.map_cons, List.map_nil, List.length_cons, List.length_nil, Nat.reduceAdd, Nat.reduceSub, List.replicate_succ, List.replicate_zero, List.cons_append, List.nil_append]
  refine Gx.a (by kernel_rfl) fun K hK => ?_
  simp only [XA, XB]
  refine hK _ ?_
  by_cases e : i = k
  · have hg : gid i k = 1 := by unfold gid; rw [if_pos e]
    refine XWP.seq ?_
    have b1 : decide ((i : Int) = (k : Int)) = true := decide_eq_true (by omega)
    refine Gx.a (by kernel_rfl) fun K hK => ?_
    simp only [XA, XB, b1]
    refine hK _ ?_
    refine Gx.t rfl ?_
    refine Gx.a (by kernel_rfl) fun K hK => ?_
    simp only [XA]
    refine call_go (by kernel_rfl) rfl (qone_c _) fun v1 V1 hV1 h1 => ?_
    obtain ⟨x1, y1, rfl, p1, p2⟩ := h1.form
    simp only [XA]
    refine st_rat rfl rfl rfl p1 p2 ?_
    simp only [XA]
    refine hK _ (XWP.ret ?_)
    try simp only [thenX_ret, inBlockX_ret]
    rw [hg]
    exact ret_rat1 rfl rfl rfl h1
  · have hg : gid i k = 0 := by unfold gid; rw [if_neg e]
    refine XWP.seq ?_
    have b1 : decide ((i : Int) = (k : Int)) = false := decide_eq_false (by omega)
    refine Gx.a (by kernel_rfl) fun K hK => ?_
    simp only [XA, XB, b1]
    refine hK _ ?_
    refine Gx.f rfl ?_
    refine XWP.skip ?_
    refine Gx.a (by kernel_rfl) fun K hK => ?_
    simp only [XA]
    refine call_go (by kernel_rfl) rfl (qzero_c _) fun v1 V1 hV1 h1 => ?_
    obtain ⟨x1, y1, rfl, p1, p2⟩ := h1.form
    simp only [XA]
    refine st_rat rfl rfl rfl p1 p2 ?_
    simp only [XA]
    refine hK _ (XWP.ret ?_)
    try simp only [thenX_ret, inBlockX_ret]
    rw [hg]
    exact ret_rat1 rfl rfl rfl h1
theorem cident_c (V : View) (n : Nat) (hn : n ≤ 60) : Spec Tryz.prog 90 [.int .i64 (n : Int)] V fun v' V' => ∃ w, v' = .tuple #[.agg #[.int .i64 (n : Int), .int .i64 (n : Int), w], .int .i64 0] ∧ Rats V' w (flatG gid n n) := by
  refine (Spec.enter Tryz.func90 rfl fun Γ => ?_)
  simp only [Tryz.ntmps90, List.map_cons, List.map_nil, List.length_cons, List.length_nil, Nat.reduceAdd, Nat.reduceSub, List.replicate_succ, List.replicate_zero, List.cons_append, List.nil_append]
  refine Gx.a (by kernel_rfl) fun K hK => ?_
  simp only [XM, XA]
  refine hK _ ?_
  refine XWP.seq ?_
  refine Gx.a (by kernel_rfl) fun K hK => ?_
  simp only [XA]
  refine call_go (by kernel_rfl) rfl (csized_c _ n n hn hn) fun v1 V1 hV1 h1 => ?_
  subst h1
  simp only [XA]
  refine hK _ ?_
  refine Gx.a (by kernel_rfl) fun K hK => ?_
  simp only [XA, XB, decide_true]
  refine hK _ ?_
  refine Gx.f rfl ?_
  refine XWP.skip ?_
  refine Gx.a (by kernel_rfl) fun K hK => ?_
  simp only [XA]
  refine call_own (by kernel_rfl) rfl (filled_o _ (lb := []) n n gid (by kernel_rfl) (by omega) (by omega) fun V' i k hV hi hk => cunit_c V' i k) fun v2 V2 o2 hV2 hs2 h2 => ?_
  obtain ⟨sl, cells, rfl, hown, hrow⟩ := h2
  have osl := own_isOne hown
  simp only [XA]
  refine st_mat shapeT_24 rfl rfl rfl rfl osl ?_
  simp only [XA]
  refine hK _ ?_
  refine XWP.pubR ratE_ok hown hrow fun H7 V7 hV7 hR7 _ => ?_
  refine XWP.ret ?_
  try simp only [thenX_ret, inBlockX_ret]
  exact ret_go _ (by simp [resAll, resV, cellsV, shapeT_24]; rfl) ⟨sl, rfl, hR7⟩
/-- a square matrix of fractions, by its grid -/
structure SqM (V : View) (s : Value) (n B : Nat) (G : Grid) : Prop where
  hv : Rats V s (flatG G n n)
  hn : n ≤ 60
  hq : ∀ i k, i < n → k < n → QB B (G i k)
theorem SqM.up {V V' : View} {s : Value} {n B : Nat} {G : Grid} (h : SqM V s n B G) (hV : V.le V') : SqM V' s n B G := ⟨h.hv.up hV, h.hn, h.hq⟩
theorem flatG_mem {G : Grid} {R C : Nat} {x : Rat} (h : x ∈ flatG G R C) : ∃ i k, i < R ∧ k < C ∧ x = G i k := by
  unfold flatG mk at h
  obtain ⟨p, hp, rfl⟩ := List.mem_map.1 h
  have hp := List.mem_range.1 hp
  have hC : 0 < C := by
    rcases Nat.eq_zero_or_pos C with e | e
    · rw [e, Nat.mul_zero] at hp; omega
    · exact e
  exact ⟨p / C, p % C, by rw [Nat.div_lt_iff_lt_mul hC]; exact hp, Nat.mod_lt _ hC, rfl⟩
theorem SqM.mem {V : View} {s : Value} {n B : Nat} {G : Grid} (h : SqM V s n B G) : ∀ x ∈ flatG G n n, QB B x := fun x hx => by
  obtain ⟨i, k, hi, hk, rfl⟩ := flatG_mem hx
  exact h.hq i k hi hk
theorem sq_le {n : Nat} (h : n ≤ 60) : n * n ≤ 3600 := Nat.le_trans (Nat.mul_le_mul h h) (by decide)
theorem SqM.right {V : View} {s : Value} {n B : Nat} {G : Grid} (h : SqM V s n B G) : matR (n : Int) (n : Int) ((flatG G n n).map toRaw) = true := by
  unfold matR
  have := h.hn
  rw [okR_toRaw, Bool.and_true, decide_eq_true_eq, List.length_map, flatG_len]
  exact ⟨by omega, by omega, by omega, by omega, Int.natCast_mul n n⟩
theorem cmr_c {V : View} {s : Value} {n B : Nat} {G : Grid} (h : SqM V s n B G) (hB : B ≤ 17592186044416) : Spec Tryz.prog 37 [.agg #[.int .i64 (n : Int), .int .i64 (n : Int), s]] V fun v' V' => v' = .bool true := by
  have := cmright_c V s (n : Int) (n : Int) ((flatG G n n).map toRaw) (Rats.raws h.hv) (fitR_toRaw fun x hx => (h.mem x hx).qf hB) (by rw [List.length_map, flatG_len]; have := sq_le h.hn; omega)
  rwa [h.right] at this
theorem cmadd1_c (V : View) (b2 b3 e2 e3 n i k B C : Nat) (G H : Grid) (s1 s2 : Value) (h2 : V b2 = some (.cells ([.int .i64 (n : Int), .int .i64 (n : Int), s1] : List Value).toArray e2 (0, 0))) (h3 : V b3 = some (.cells ([.int .i64 (n : Int), .int .i64 (n : Int), s2] : List Value).toArray e3 (0, 0))) (ha : SqM V s1 n B G) (hb : SqM V s2 n C H) (hi : i < n) (hk : k < n) (hB : B ≤ 17592186044416) (hC : C ≤ 17592186044416) :
    Spec Tryz.prog 139 [.int .i64 (i : Int), .int .i64 (k : Int), .pointer (some ⟨b2, 0, none⟩), .pointer (some ⟨b3, 0, none⟩)] V fun v' V' => RatC V' v' (G i k + H i k) := by
  have hn := ha.hn
  have hnn := sq_le hn
  have hp := pos_lt hi hk
  have w1 := wr_mul (i := i) (C := n) (by omega) (by omega)
  have w2 := wr_add (p := i * n) (k := k) (by omega) (by omega)
  have g1 := flatG_at G hi hk
  have g2 := flatG_at H hi hk
  have la := flatG_len G n n
  have lb := flatG_len H n n
  have hva := ha.hv
  have hvb := hb.hv
  obtain ⟨A1, c1, rfl, hc1, hm1⟩ := hva.form
  obtain ⟨A2, c2, rfl, hc2, hm2⟩ := hvb.form
  obtain ⟨b, o, rfl⟩ := SlAt.addr hva (by omega)
  obtain ⟨b', o', rfl⟩ := SlAt.addr hvb (by omega)
  obtain ⟨x, y, z, hx, ⟨o1, o2, o3⟩, hld⟩ := Rats.get hva (i * n + k) (by omega)
  obtain ⟨x', y', z', hx', ⟨o1', o2', o3'⟩, hld'⟩ := Rats.get hvb (i * n + k) (by omega)
  rw [g1] at hx
  rw [g2] at hx'
  refine (Spec.enter Tryz.func139 rfl fun Γ => ?_)
  simp only [Tryz.ntmps139, List.map_cons, List.map_nil, List.length_cons, List.length_nil, Nat.reduceAdd, Nat.reduceSub, List.replicate_succ, List.replicate_zero, List.cons_append, List.nil_append]
  refine Gx.a (by kernel_rfl) fun K hK => ?_
  simp only [XA, XB]
  refine hK _ ?_
  (refine XWP.drw [0, 1, 2, 3, 4, 5, 6, 7, 8, 9, 10, 11, 12, 13, 14, 15, 16, 17, 18, 19, 20, 21] (by kernel_rfl) (by kernel_rfl) (by kernel_rfl) fun K hK => ?_) <;> dsimp only [pickOps, List.getElem?_cons_zero, List.getElem?_cons_succ]
  simp only [XM, XA]
  refine ld_mem (ldV1 h2 (off := 2) rfl shapeT_22 _) ?_
  simp only [XM, XA]
  refine ld_mem (ldV1 h2 (off := 1) rfl shapeT_3 _) ?_
  simp only [XA, XB, w1, w2]
  refine ⟨by omega, by omega, ?_⟩
  refine ld_mem (hld _) ?_
  simp only [XM, XA]
  refine ld_mem (ldV1 h3 (off := 2) rfl shapeT_22 _) ?_
  simp only [XM, XA]
  refine ld_mem (ldV1 h2 (off := 1) rfl shapeT_3 _) ?_
  simp only [XA, XB, w1, w2]
  refine ⟨by omega, by omega, ?_⟩
  refine ld_mem (hld' _) ?_
  simp only [XA]
  refine call_go (by kernel_rfl) rfl (qadd_c _ _ _ _ _ hx hx' ((ha.hq i k hi hk).qf hB) ((hb.hq i k hi hk).qf hC)) fun v1 V1 hV1 h1 => ?_
  obtain ⟨x1, y1, rfl, p1, p2⟩ := h1.form
  simp only [XA]
  refine st_rat rfl rfl rfl p1 p2 ?_
  simp only [XA]
  refine hK _ (XWP.ret ?_)
  try simp only [thenX_ret, inBlockX_ret]
  exact ret_rat1 rfl rfl rfl h1
theorem cmadd_c (V : View) (s1 s2 : Value) (n B C : Nat) (G H : Grid) (ha : SqM V s1 n B G) (hb : SqM V s2 n C H) (hB : B ≤ 17592186044416) (hC : C ≤ 17592186044416) :
    Spec Tryz.prog 92 [.agg #[.int .i64 (n : Int), .int .i64 (n : Int), s1], .agg #[.int .i64 (n : Int), .int .i64 (n : Int), s2]] V fun v' V' => ∃ w, v' = .tuple #[.agg #[.int .i64 (n : Int), .int .i64 (n : Int), w], .int .i64 0] ∧ Rats V' w (flatG (fun i k => G i k + H i k) n n) := by
  obtain ⟨A1, c1, rfl, hc1, hm1⟩ := ha.hv.form
  obtain ⟨A2, c2, rfl, hc2, hm2⟩ := hb.hv.form
  have hn := ha.hn
  refine (Spec.enter Tryz.func92 rfl fun Γ => ?_)
  simp only [Tryz.ntmps92, List.map_cons, List.map_nil, List.length_cons, List.length_nil, Nat.reduceAdd, Nat.reduceSub, List.replicate_succ, List.replicate_zero, List.cons_append, List.nil_append]
  refine Gx.a (by kernel_rfl) fun K hK => ?_
  simp only [XM, XA, Nat.reduceAdd]
  refine hK _ ?_
  refine XWP.row1 (bx := [_, _]) fun b4 e4 hb4 _ => ?_
  simp only [List.map_cons, List.map_nil, rowS_v, rowS_p, List.length_nil, List.length_cons, Nat.reduceAdd, Nat.reduceEqDiff, ↓reduceIte]
  have f4 : upd (fun _ => none) b4 (some ⟨e4, [.int .i64 0, .int .i64 0, .slice none 0 0], 3⟩) b4 = some ⟨e4, [.int .i64 0, .int .i64 0, .slice none 0 0], 3⟩ := upd_at _ _ _
  generalize upd (fun _ => none) b4 (some ⟨e4, [.int .i64 0, .int .i64 0, .slice none 0 0], 3⟩) = H2 at *
  refine XWP.row1 (bx := [_]) fun b3 e3 hb3 _ => ?_
  simp only [List.map_cons, List.map_nil, rowS_v, rowS_p, List.length_nil, List.length_cons, Nat.reduceAdd, Nat.reduceEqDiff, ↓reduceIte]
  refine XWP.pub b3 _ (upd_at _ _ _) fun o3 ho3 hle3 => ?_
  have eo3 := row_obj ho3
  subst eo3
  have n43 := new_ne hb3 f4
  have f4 : upd (upd H2 b3 (some ⟨e3, [.int .i64 (n : Int), .int .i64 (n : Int), .slice A2 (flatG H n n).length c2], 3⟩)) b3 none b4 = some ⟨e4, [.int .i64 0, .int .i64 0, .slice none 0 0], 3⟩ := (upd_off n43).trans ((upd_off n43).trans f4)
  have h3 := addV_at V b3 (.cells ([.int .i64 (n : Int), .int .i64 (n : Int), .slice A2 (flatG H n n).length c2] : List Value).toArray e3 (0, 0))
  generalize upd (upd H2 b3 _) b3 none = H3 at *
  generalize addV V b3 _ = V3 at *
  refine XWP.row1 (bx := []) fun b2 e2 hb2 _ => ?_
  simp only [List.map_cons, List.map_nil, rowS_v, rowS_p, List.length_nil, List.length_cons, Nat.reduceAdd, ↓reduceIte]
  refine XWP.pub b2 _ (upd_at _ _ _) fun o2 ho2 hle2 => ?_
  have eo2 := row_obj ho2
  subst eo2
  have n42 := new_ne hb2 f4
  have f4 : upd (upd H3 b2 (some ⟨e2, [.int .i64 (n : Int), .int .i64 (n : Int), .slice A1 (flatG G n n).length c1], 3⟩)) b2 none b4 = some ⟨e4, [.int .i64 0, .int .i64 0, .slice none 0 0], 3⟩ := (upd_off n42).trans ((upd_off n42).trans f4)
  have h2 := addV_at V3 b2 (.cells ([.int .i64 (n : Int), .int .i64 (n : Int), .slice A1 (flatG G n n).length c1] : List Value).toArray e2 (0, 0))
  generalize upd (upd H3 b2 _) b2 none = H4 at *
  generalize addV V3 b2 _ = V4 at *
  have h3 := hle2 _ _ h3
  have hle := View.le_trans hle3 hle2
  have ha := ha.up hle
  have hb := hb.up hle
  refine XWP.seq ?_
  refine Gx.a (by kernel_rfl) fun K hK => ?_
  simp only [XA]
  refine ld_mem (ldV3 h2 shapeT_24 _) ?_
  simp only [XA]
  refine call_go (by kernel_rfl) rfl (cmr_c ha hB) fun v5 V5 hV5 h5 => ?_
  subst h5
  simp only [XA, gateX, ↓reduceIte, beq_self_eq_true]
  refine ld_mem (ldV3 (hV5 _ _ h3) shapeT_24 _) ?_
  simp only [XA, gateX, ↓reduceIte, beq_self_eq_true]
  refine call_go (by kernel_rfl) rfl (cmr_c (hb.up hV5) hC) fun v6 V6 hV6 h6 => ?_
  subst h6
  simp only [XA, gateX, ↓reduceIte, beq_self_eq_true]
  refine hK _ ?_
  refine Gx.f rfl ?_
  refine XWP.skip ?_
  have hle := View.le_trans hV5 hV6
  have h2 := hle _ _ h2
  have h3 := hle _ _ h3
  have ha := ha.up hle
  have hb := hb.up hle
  refine XWP.seq ?_
  refine Gx.a (by kernel_rfl) fun K hK => ?_
  simp only [XM, XA]
  refine ld_mem (ldV1 h2 (off := 0) rfl shapeT_3 _) ?_
  simp only [XM, XA]
  refine ld_mem (ldV1 h3 (off := 0) rfl shapeT_3 _) ?_
  simp only [XM, XA, XB, gateX, ↓reduceIte, beq_self_eq_true, decide_true]
  refine ld_mem (ldV1 h2 (off := 1) rfl shapeT_3 _) ?_
  simp only [XM, XA, gateX, ↓reduceIte, beq_self_eq_true]
  refine ld_mem (ldV1 h3 (off := 1) rfl shapeT_3 _) ?_
  simp only [XA, XB, gateX, ↓reduceIte, beq_self_eq_true, decide_true]
  refine hK _ ?_
  refine Gx.f rfl ?_
  refine XWP.skip ?_
  refine Gx.a (by kernel_rfl) fun K hK => ?_
  simp only [XM, XA]
  refine ld_mem (ldV1 h2 (off := 0) rfl shapeT_3 _) ?_
  simp only [XM, XA]
  refine ld_mem (ldV1 h2 (off := 1) rfl shapeT_3 _) ?_
  simp only [XA]
  refine mkf_go [.pointer (some ⟨b2, 0, none⟩), .pointer (some ⟨b3, 0, none⟩)] rfl ?_
  simp only [XA]
  refine call_own (by kernel_rfl) rfl (filled_o V6 (lb := [.pointer (some ⟨b2, 0, none⟩), .pointer (some ⟨b3, 0, none⟩)]) n n (fun i k => G i k + H i k) (by kernel_rfl) (by omega) (by omega) fun V' i k hV hi hk => cmadd1_c V' b2 b3 e2 e3 n i k B C G H _ _ (hV _ _ h2) (hV _ _ h3) (ha.up hV) (hb.up hV) hi hk hB hC) fun v12 V12 o12 hV12 hs12 hR12 => ?_
  obtain ⟨sl, cells, rfl, hown, hrow⟩ := hR12
  have f12 := addRow_off f4 fun g' q e => (hs12 g' q e).1
  have hown2 := own_any (H := H4) hown
  have osl := own_isOne hown2
  have hne : sl.ownBlock ≠ some b4 := fun e => by
    rcases own_parts hown with ⟨rfl, _, _⟩ | ⟨g2, cap2, rfl, hg2, _⟩
    · cases e
    · have : g2 = b4 := by simpa [Value.ownBlock] using e
      exact new_ne (hs12 g2 _ (addRow_only hg2)).1 f4 this.symm
  generalize addRow H4 o12 = H12 at *
  simp only [XA]
  refine st_rowA shapeT_24 (all3 rfl rfl osl) rfl f12 (by simp) ?_
  simp only [XA]
  refine hK _ ?_
  have hown3 : Own (upd H12 b4 (some ⟨e4, splice [.int .i64 0, .int .i64 0, .slice none 0 0] 0 [.int .i64 (n : Int), .int .i64 (n : Int), sl], 3⟩)) 48 3 sl (n * n) cells := by
    refine ⟨hown2.1, ?_⟩
    rcases hown2.2 with h | ⟨g2, cap2, rfl, hg2, h⟩
    · exact .inl h
    · exact .inr ⟨g2, cap2, rfl, by rw [upd_off fun e => hne (by rw [e]; rfl)]; exact hg2, h⟩
  refine XWP.pubR ratE_ok hown3 hrow fun H13 V13 hV13 hRw hk13 => ?_
  have f13 := (hk13 b4 hne).trans (upd_at _ _ _)
  refine XWP.ret ?_
  try simp only [thenX_ret, inBlockX_ret]
  exact ret_go _ (by simp [resAll, resV, cellsV, shapeT_24, f13, splice_all]; rfl) ⟨sl, rfl, hRw⟩
end Go.Proofs.YthoboehbadmlmaaGreat
end
section
namespace Go.Proofs.YthoboehbadmlmaaGreat
open Go Go.RowKit
abbrev conc0 (t : List SV) : Array Value := (t.map (SV.conc fun _ => 0)).toArray
def YQ (Q : Exit → List SV → World → Prop) : Exit → Act → World → Prop := fun e a W => ∃ t, a.tmps = conc0 t ∧ a.defers = [] ∧ Q e t W
def YW (P : Program) (c : Code) (Q : Exit → List SV → World → Prop) (t : List SV) (W : World) : Prop :=
  ∀ a : Act, a.tmps = conc0 t → a.defers = [] → c.wpIn Fence.wide 0 P (YQ Q) a W
def thenY (K : List SV → World → Prop) (Q : Exit → List SV → World → Prop) : Exit → List SV → World → Prop
  | .normal, t, W => K t W
  | e, t, W => Q e t W
def inBlockY (id : Nat) (Q : Exit → List SV → World → Prop) : Exit → List SV → World → Prop
  | .exit id', t, W => if id' = id then Q .normal t W else Q (.exit id') t W
  | e, t, W => Q e t W
section
variable {P : Program} {Q : Exit → List SV → World → Prop} {t : List SV} {W : World}
theorem YW.apply {c : Code} {t : List SV} {a : Act} (h : YW P c Q t W) (h1 : a.tmps = conc0 t) (h2 : a.defers = []) : c.wpIn Fence.wide 0 P (YQ Q) a W := h a h1 h2
theorem YW.seq {x y : Code} (h : YW P x (thenY (YW P y Q) Q) t W) : YW P (.seq x y) Q t W := fun a h1 h2 =>
  wpIn_seq (wpIn_mono (h a h1 h2) fun e a w hq => by
    obtain ⟨t', h1', h2', q⟩ := hq
    cases e <;> first
      | exact q a h1' h2'
      | exact ⟨t', h1', h2', q⟩)
theorem YW.skip (h : Q .normal t W) : YW P .skip Q t W := fun _ h1 h2 => wpIn_skip ⟨t, h1, h2, h⟩
theorem YW.ret (h : Q .ret t W) : YW P .ret Q t W := fun _ h1 h2 => wpIn_ret ⟨t, h1, h2, h⟩
theorem YW.exit {i : Nat} (h : Q (.exit i) t W) : YW P (.exit i) Q t W := fun _ h1 h2 => wpIn_exit ⟨t, h1, h2, h⟩
theorem YW.block {i : Nat} {c : Code} (h : YW P c (inBlockY i Q) t W) : YW P (.block i c) Q t W := fun a h1 h2 =>
  wpIn_block (wpIn_mono (h a h1 h2) fun e a w hq => by
    obtain ⟨t', h1', h2', q⟩ := hq
    cases e with
    | exit j =>
      simp only [inBlockY] at q
      simp only [Exit.inBlock]
      split <;> rename_i hj
      · exact ⟨t', h1', h2', by simpa [hj] using q⟩
      · exact ⟨t', h1', h2', by simpa [hj] using q⟩
    | _ => exact ⟨t', h1', h2', q⟩)
theorem ev0 {a : Act} (h : a.tmps = conc0 t) (x : Operand) (H : Heap) (V : View) : a.eval x = ((⟨t, [], H, V⟩ : XS).ev x).conc fun _ => 0 := ev_conc (s := ⟨t, [], H, V⟩) h x
theorem YW.cond {c : Operand} {x y : Code} {b : Bool} {V : View} (hc : (⟨t, [], fun _ => none, V⟩ : XS).ev c = .v (.bool b)) (h1 : b = true → YW P x Q t W) (h2 : b = false → YW P y Q t W) : YW P (.cond c x y) Q t W := fun a e1 e2 =>
  wpIn_cond_split (t := b) (by rw [ev0 e1 c (fun _ => none) V, hc]; rfl) (fun e => h1 e a e1 e2) (fun e => h2 e a e1 e2)
theorem YW.loop {c : Code} (I : Nat → List SV → World → Prop) (n : Nat) (h0 : I n t W) (hr : ∀ n t W, I n t W → YW P c (thenY (fun t' W' => ∃ m, m < n ∧ I m t' W') Q) t W) : YW P (.loop c) Q t W := by
  intro a e1 e2
  have key : ∀ n t W a, I n t W → a.tmps = conc0 t → a.defers = [] → ∀ (b : Frame) (k : List Item) (cs : List Frame), b.roundOf = none →
      ∃ e a' w', YQ Q e a' w' ∧ ArrivesIn (Machine.fenced P Fence.wide) P (lone (b.atR a (.code c :: .inLoop c :: k)) cs W) b k cs e a' w' := by
    intro n
    induction n using Nat.strongRecOn with
    | _ n ih =>
      intro t W a hI e1 e2 b k cs hro
      obtain ⟨e, a₁, w₁, ⟨t1, h1, h2, hq⟩, harr⟩ := hr n t W hI a e1 e2 b (.inLoop c :: k) cs hro trivial (room_wide _)
      cases e with
      | normal =>
        obtain ⟨m, hm, hI1⟩ := hq
        obtain ⟨e₂, a₂, w₂, hq₂, harr₂⟩ := ih m hm t1 w₁ a₁ hI1 h1 h2 b k cs hro
        exact ⟨e₂, a₂, w₂, hq₂, .of_steps (StepsIn.trans harr (.one (fenced_calm (F := Fence.wide) (n := 0) (fr := b.atR a₁ (.inLoop c :: k)) trivial (room_wide _) rfl) stepR_inLoop)) harr₂⟩
      | exit id => exact ⟨_, a₁, w₁, ⟨t1, h1, h2, hq⟩, .pass (x := .inLoop c) rfl (fun _ _ => .inl (by simp)) harr⟩
      | goto l => exact ⟨_, a₁, w₁, ⟨t1, h1, h2, hq⟩, .pass (x := .inLoop c) rfl (fun _ _ => .inl (by simp)) harr⟩
      | ret => exact ⟨_, a₁, w₁, ⟨t1, h1, h2, hq⟩, .pass (x := .inLoop c) rfl (fun _ _ => .inl (by simp)) harr⟩
      | panic ch => exact ⟨_, a₁, w₁, ⟨t1, h1, h2, hq⟩, .pass (x := .inLoop c) rfl (fun _ _ => .inl (by simp)) harr⟩
      | outgrown => exact ⟨_, a₁, w₁, ⟨t1, h1, h2, hq⟩, .pass (x := .inLoop c) rfl (fun _ _ => .inl (by simp)) harr⟩
  intro b k cs hro _ _
  obtain ⟨e, a', w', hq, harr⟩ := key n t W a h0 e1 e2 b k cs hro
  exact ⟨e, a', w', hq, .of_steps (.one (fenced_calm (F := Fence.wide) (n := 0) (fr := b.atR a (.code (.loop c) :: k)) trivial (room_wide _) rfl) stepR_loop) harr⟩
/-- operations that read alone -/
theorem reads_in {ops : Array Oper} {V : View} {Q' : Exit → Act → World → Prop} (hV : V.sub W) (rest : List Nat) : ∀ (l : List Oper) (k : Nat) (K : XS → Prop) (t : List SV) (a : Act), (∀ i o, l[i]? = some o → ops[k + i]? = some o) → (l.all fun o => isRead o.op && o.guard.isNone) = true →
    a.tmps = conc0 t → a.defers = [] → (∀ x ∈ t, x.ok 0) → seqX P ops l K ⟨t, [], fun _ => none, V⟩ → (∀ t' a', a'.tmps = conc0 t' → a'.defers = [] → (∀ x ∈ t', x.ok 0) → K ⟨t', [], fun _ => none, V⟩ → wpOpsIn Fence.wide 0 P ops Q' rest a' W) →
    wpOpsIn Fence.wide 0 P ops Q' (List.range' k l.length ++ rest) a W
  | [], k, K, t, a, _, _, e1, e2, hok, h, hk => by simpa using hk t a e1 e2 hok h
  | o :: l, k, K, t, a, hi, hall, e1, e2, hok, h, hk => by
    simp only [List.all_cons, Bool.and_eq_true] at hall
    obtain ⟨⟨hrd, hgd⟩, hall⟩ := hall
    have ho : ops[k]? = some o := by simpa using hi 0 o (by simp)
    have hg : o.guard = none := by cases hx : o.guard <;> simp_all
    simp only [List.length_cons, List.range'_succ, List.cons_append]
    rw [wpOpsIn_cons]
    unfold wpOpIn
    simp only [ho]
    have hw : Region.wanted o (yielded ops a.tmps) = true := by unfold Region.wanted; rw [hg]
    rw [if_pos hw]
    unfold seqX stepX at h
    rw [hg] at h
    dsimp only at h
    unfold opX at h
    rw [if_pos hrd] at h
    obtain ⟨sv, ⟨hsv, hrun⟩, h⟩ := readX_sound (s := ⟨t, [], fun _ => none, V⟩) hok h
    have hr := hrun ⟨W, V, W, none⟩ (fun _ => 0) a W e1 ⟨fun i vs hi => by simp at hi, fun b r hb => (by cases hb), hV, Below.refl _ _⟩
    refine ⟨fun _ _ => trivial, ?_⟩
    have hd : ∀ c, o.op ≠ .defer c := fun c e => by rw [e] at hrd; cases hrd
    rw [Oper.semAt_eq _ _ _ hd, hr]
    have hconc : Conc ⟨W, V, W, none⟩ (fun _ => 0) ⟨t, [], fun _ => none, V⟩ a W := ⟨e1, ⟨⟨[], by rw [e2]; rfl, List.nodup_nil, fun D hD => by simp at hD⟩, KeepsOthers.refl _⟩, ⟨fun i vs hi => by simp at hi, fun b r hb => (by cases hb), hV, Below.refl _ _⟩, ⟨fun i j hi => by simp at hi, fun i hi => by simp at hi, fun b r hb => (by cases hb), View.le_refl _, View.from_refl _ _⟩, hok⟩
    have hput := hconc.put o.dst sv hsv
    have et : (XS.put ⟨t, [], fun _ => none, V⟩ o.dst sv) = ⟨(XS.put ⟨t, [], fun _ => none, V⟩ o.dst sv).t, [], fun _ => none, V⟩ := by cases o.dst <;> rfl
    rw [et] at h
    have hok2 : ∀ x ∈ (XS.put ⟨t, [], fun _ => none, V⟩ o.dst sv).t, x.ok 0 := by
      have := put_ok (s := ⟨t, [], fun _ => none, V⟩) hok o.dst hsv
      rw [XS.put_bx] at this; exact this
    refine reads_in hV rest l (k + 1) K _ _ (fun i o' h' => ?_) hall hput.tm ?_ hok2 h hk
    · have := hi (i + 1) o' (by simpa using h')
      rw [show k + 1 + i = k + (i + 1) by omega]; exact this
    · cases o.dst <;> exact e2
theorem YW.reads {id : Nat} {ops : Array Oper} {V : View} (hV : V.sub W) (hok : ∀ x ∈ t, x.ok 0) (hall : (ops.toList.all fun o => isRead o.op && o.guard.isNone) = true) (h : seqX P ops ops.toList (fun s => (∀ x ∈ s.t, x.ok 0) → Q .normal s.t W) ⟨t, [], fun _ => none, V⟩) : YW P (.region id ops false) Q t W := fun a e1 e2 => by
  refine wpIn_region ?_
  have := reads_in (Q' := YQ Q) hV [] ops.toList 0 _ t a (fun i o h => by simpa using h) hall e1 e2 hok h fun t' a' e1' e2' hok' hk => ⟨t', e1', e2', hk hok'⟩
  rwa [List.append_nil, Array.length_toList, ← List.range_eq_range'] at this
/-- reads, a call of yield, reads -/
theorem YW.yield {id : Nat} {ops : Array Oper} {V : View} {pre post : List Oper} {d : Option Tmp} {x : Tmp} {xs : List Operand} {ts : Array TypeId} {ty pos af} (hops : ops.toList = pre ++ ⟨d, .call ⟨.value (.tmp x), xs.toArray, ts⟩, ty, pos, af, none⟩ :: post) (hV : V.sub W) (hok : ∀ x ∈ t, x.ok 0)
    (hpre : (pre.all fun o => isRead o.op && o.guard.isNone) = true) (hpost : (post.all fun o => isRead o.op && o.guard.isNone) = true)
    (h : seqX P ops pre (fun s => ∃ (l : Nat) (args : List Value) (R : Ending → World → Prop), s.ev (.tmp x) = .v (.func (.yield l) #[] #[]) ∧ xs.map s.ev = args.map .v ∧ YieldAt Fence.wide 0 P l args.toArray W R ∧
      ∀ e W', R e W' → ∃ b, e = .returned (.bool b) ∧ V.sub W' ∧ seqX P ops post (fun s' => (∀ x ∈ s'.t, x.ok 0) → Q .normal s'.t W') (s.put d (.v (.bool b)))) ⟨t, [], fun _ => none, V⟩) : YW P (.region id ops false) Q t W := fun a e1 e2 => by
  refine wpIn_region ?_
  have hlen : List.range ops.size = List.range' 0 pre.length ++ (pre.length :: List.range' (pre.length + 1) post.length) := by
    have : ops.size = pre.length + (post.length + 1) := by rw [← Array.length_toList, hops]; simp
    rw [this, List.range_eq_range', ← List.range'_append_1, Nat.zero_add, List.range'_succ]
  rw [hlen]
  have hget : ∀ i : Nat, ops[i]? = (pre ++ ⟨d, .call ⟨.value (.tmp x), xs.toArray, ts⟩, ty, pos, af, none⟩ :: post)[i]? := fun i => by rw [← hops]; simp
  refine reads_in hV _ pre 0 _ t a (fun i o h => by
    rw [hget, Nat.zero_add, List.getElem?_append_left (List.getElem?_eq_some_iff.1 h).1]; exact h) hpre e1 e2 hok h fun t' a' e1' e2' hok' hk => ?_
  obtain ⟨l, args, R, hx, hxs, ⟨fn, tmps, assign, body, hrun, hround⟩, hR⟩ := hk
  rw [wpOpsIn_cons]
  unfold wpOpIn
  have ho : ops[pre.length]? = some ⟨d, .call ⟨.value (.tmp x), xs.toArray, ts⟩, ty, pos, af, none⟩ := by rw [hget, List.getElem?_append_right (Nat.le_refl _), Nat.sub_self]; rfl
  simp only [ho]
  rw [if_pos (by unfold Region.wanted; rfl)]
  refine ⟨fun _ _ => trivial, ?_⟩
  rw [Oper.semAt_eq _ _ _ (fun c e => by cases e)]
  have hev : a'.eval (.tmp x) = .func (.yield l) #[] #[] := by rw [ev0 e1' _ (fun _ => none) V, hx]; rfl
  have hargs : xs.toArray.map a'.eval = args.toArray := by
    apply Array.ext'
    simp only [Array.toList_map]
    have h2 : xs.map a'.eval = (xs.map (⟨t', [], fun _ => none, V⟩ : XS).ev).map (SV.conc fun _ => 0) := by
      rw [List.map_map]
      exact List.map_congr_left fun q _ => ev0 e1' q (fun _ => none) V
    rw [h2, hxs, List.map_map]
    have : (SV.conc fun _ => 0) ∘ SV.v = fun x => x := rfl
    rw [this, List.map_id']
  have hcall : (execOp a'.eval ⟨d, .call ⟨.value (.tmp x), xs.toArray, ts⟩, ty, pos, af, none⟩).run P W = .ok (.round l fn tmps assign body) W := by
    simp [execOp, resolve, hev, Deferred.ofValue, invoke, callFunc, hargs, hrun]
  rw [hcall]
  refine ⟨fun h => by simp [Fence.wide] at h, hround.mono fun e W' hre => ?_⟩
  obtain ⟨b, rfl, hV', hpo⟩ := hR e W' hre
  dsimp only
  have hokp : ∀ y ∈ (XS.put ⟨t', [], fun _ => none, V⟩ d (.v (.bool b))).t, y.ok 0 := by
    have := put_ok (s := ⟨t', [], fun _ => none, V⟩) hok' d (x := .v (.bool b)) trivial
    rw [XS.put_bx] at this; exact this
  have et : (XS.put ⟨t', [], fun _ => none, V⟩ d (.v (.bool b))) = ⟨(XS.put ⟨t', [], fun _ => none, V⟩ d (.v (.bool b))).t, [], fun _ => none, V⟩ := by cases d <;> rfl
  rw [et] at hpo
  have := reads_in (Q' := YQ Q) hV' [] post (pre.length + 1) _ _ (a'.put d (.bool b)) (fun i o h => by
    rw [hget, List.getElem?_append_right (by omega), show pre.length + 1 + i - pre.length = i + 1 by omega]; simpa using h) hpost (conc_put (s := ⟨t', [], fun _ => none, V⟩) e1' d (.v (.bool b))) (by cases d <;> exact e2') hokp hpo fun t2 a2 e3 e4 hok2 hk => ⟨t2, e3, e4, hk hok2⟩
  rwa [List.append_nil] at this
theorem YW.yieldAt {id : Nat} {ops : Array Oper} {V : View} (k : Nat) {d : Option Tmp} {x : Tmp} {xs : List Operand} {ts : Array TypeId} {ty pos af} (hk : ops.toList[k]? = some ⟨d, .call ⟨.value (.tmp x), xs.toArray, ts⟩, ty, pos, af, none⟩) (hV : V.sub W) (hok : ∀ x ∈ t, x.ok 0)
    (hpre : ((ops.toList.take k).all fun o => isRead o.op && o.guard.isNone) = true) (hpost : ((ops.toList.drop (k + 1)).all fun o => isRead o.op && o.guard.isNone) = true)
    (h : seqX P ops (ops.toList.take k) (fun s => ∃ (l : Nat) (args : List Value) (R : Ending → World → Prop), s.ev (.tmp x) = .v (.func (.yield l) #[] #[]) ∧ xs.map s.ev = args.map .v ∧ YieldAt Fence.wide 0 P l args.toArray W R ∧
      ∀ e W', R e W' → ∃ b, e = .returned (.bool b) ∧ V.sub W' ∧ seqX P ops (ops.toList.drop (k + 1)) (fun s' => (∀ x ∈ s'.t, x.ok 0) → Q .normal s'.t W') (s.put d (.v (.bool b)))) ⟨t, [], fun _ => none, V⟩) : YW P (.region id ops false) Q t W :=
  YW.yield (pre := ops.toList.take k) (post := ops.toList.drop (k + 1)) (d := d) (x := x) (xs := xs) (ts := ts) (ty := ty) (pos := pos) (af := af) (by
    obtain ⟨hlt, he⟩ := List.getElem?_eq_some_iff.1 hk
    rw [← he, List.getElem_cons_drop, List.take_append_drop]) hV hok hpre hpost h
end
end Go.Proofs.YthoboehbadmlmaaGreat
end
section
namespace Go.Proofs.YthoboehbadmlmaaGreat
open Go Go.RowKit
set_option linter.unusedSimpArgs false
set_option linter.unusedVariables false
attribute [local irreducible] XWP Spec SpecO XPub XCall seqX clX apX stX ldX iaX slX
end Go.Proofs.YthoboehbadmlmaaGreat
end
section
namespace Go.Proofs.YthoboehbadmlmaaGreat
open Go Go.RowKit
set_option linter.unusedSimpArgs false
set_option linter.unusedVariables false
attribute [local irreducible] XWP Spec SpecO XPub XCall seqX clX apX stX ldX iaX slX
end Go.Proofs.YthoboehbadmlmaaGreat
end
section
namespace Go.Proofs.YthoboehbadmlmaaGreat
open Go Go.RowKit
set_option linter.unusedSimpArgs false
set_option linter.unusedVariables false
attribute [local irreducible] XWP Spec SpecO XPub XCall seqX clX apX stX ldX iaX slX
attribute [local irreducible] YW
def TIs (F : (Nat → SV) → List SV) (t : List SV) : Prop := F (nth t) = t
theorem TIs.out {F : (Nat → SV) → List SV} {t : List SV} (h : TIs F t) : ∃ u, t = F u := ⟨nth t, h.symm⟩
theorem backward_c (V : View) (v : Value) (h1 : isOne v = true) : Spec Tryz.prog 48 [v] V fun v' V' => ∃ Bs e, v' = .func (.func 108) #[] #[.pointer (some ⟨Bs, 0, none⟩)] ∧ V' Bs = some (.cells #[v] e (0, 0)) := by
  have hc : v.cells.toList = [v] := by cases v <;> first | rfl | cases h1
  refine (Spec.enter Tryz.func48 rfl fun Γ => ?_)
  simp only [Tryz.ntmps48, List.map_cons, List.map_nil, List.length_cons, List.length_nil, Nat.reduceAdd, Nat.reduceSub, List.replicate_succ, List.replicate_zero, List.cons_append, List.nil_append]
  first | refine Gx.a (by kernel_rfl) fun K hK => ?_ | refine Gx.b (by kernel_rfl) fun K hK => ?_ | refine Gx.c (by kernel_rfl) fun K hK => ?_
  simp only [XA, XB, gateX, Nat.reduceAdd, Nat.reduceLeDiff, Nat.reduceSub, Nat.reduceMul, ↓reduceIte, Int.reduceToNat, Int.reduceLE, beq_self_eq_true, bxS, hc]
  refine hK _ ?_
  refine XWP.row1 (bx := []) fun b e hb1 hb2 => ?_
  simp only [List.map_cons, List.map_nil, rowS_v, rowS_p, List.length_nil, List.length_cons, Nat.reduceAdd, Nat.reduceEqDiff, ↓reduceIte]
  first | refine Gx.a (by kernel_rfl) fun K hK => ?_ | refine Gx.b (by kernel_rfl) fun K hK => ?_ | refine Gx.c (by kernel_rfl) fun K hK => ?_
  refine mkf_go [.pointer (some ⟨b, 0, none⟩)] rfl ?_
  simp only [XA, XB, gateX, Nat.reduceAdd, Nat.reduceLeDiff, Nat.reduceSub, Nat.reduceMul, ↓reduceIte, Int.reduceToNat, Int.reduceLE, beq_self_eq_true]
  refine hK _ (XWP.ret ?_)
  try simp only [thenX_ret, inBlockX_ret]
  have hbb : upd (fun _ => none) b (some ⟨e, [v], 1⟩) b = some ⟨e, [v], 1⟩ := upd_at _ _ _
  refine ret_pub b _ hbb fun o ho hle' => ret_go _ rfl ⟨b, e, rfl, ?_⟩
  obtain ⟨ex, rfl, hl⟩ := ho
  have : ex = [] := List.length_eq_zero_iff.1 (by simpa using hl)
  subst this
  simp [addV]
/-- the values that lie in a slice -/
theorem SlAt.vals {α : Type} {E : View → Value → α → Prop} {V : View} {b o n c : Nat} {xs : List α} (h : SlAt E V (.slice (some ⟨b, o, none⟩) n c) xs) : ∃ f : Nat → Value, ∀ i (hi : i < xs.length), E V (f i) xs[i] ∧ (∃ m n d, f i = .agg #[m, n, d] ∧ isOne m = true ∧ isOne n = true ∧ isOne d = true) ∧ ∀ H, Loads Tryz.prog H V 48 b (o + i * 3) (f i) := by
  refine ⟨fun i => if hi : i < xs.length then (SlAt.load h i hi).choose else undef, fun i hi => ?_⟩
  simp only [dif_pos hi]
  exact (SlAt.load h i hi).choose_spec
def bwL (n : Nat) (f : Nat → Value) : List (Array Value) := (List.range n).map fun r => #[.int .i64 ((n - 1 - r : Nat) : Int), f (n - 1 - r)]
theorem bwL_get {n : Nat} {f : Nat → Value} {r : Nat} (h : r < n) : (bwL n f)[r]? = some #[.int .i64 ((n - 1 - r : Nat) : Int), f (n - 1 - r)] := by simp [bwL, h]
theorem bwL_len (n : Nat) (f : Nat → Value) : (bwL n f).length = n := by simp [bwL]
set_option maxRecDepth 100000 in
theorem backward_it {V : View} {Bs n c e : Nat} {A : Option Addr} {f : Nat → Value} (hB : V Bs = some (.cells #[.slice A n c] e (0, 0))) (hn : n ≤ 1000000) (hf : n = 0 ∨ ∃ b o, A = some ⟨b, o, none⟩ ∧ ∀ i, i < n → Loads Tryz.prog (fun _ => none) V 48 b (o + i * 3) (f i)) :
    IterX Tryz.prog 108 #[.pointer (some ⟨Bs, 0, none⟩)] V (bwL n f) := by
  intro l J Jx W hJ0 hJV hJX hY
  refine callsIn_of_wp Tryz.func108 rfl trivial ?_
  have hld : Loads Tryz.prog (fun _ => none) V 25 Bs 0 (.slice A n c) := ⟨false, 1, shapeT_25, .inr ⟨rfl, .inr ⟨_, _, _, hB, rfl⟩⟩⟩
  rw [bwL_len]
  simp only [Tryz.ntmps108, List.size_toArray, List.length_cons, List.length_nil, Nat.reduceAdd, Nat.reduceSub, Array.replicate_succ, Array.replicate_zero, List.push_toArray, List.append_toArray, List.nil_append, List.cons_append]
  refine wpIn_mono (Q := YQ fun e t W' => (e = .normal ∨ e = .ret) ∧ (J n W' ∨ Jx W')) (YW.apply (t := [.v (.func (.yield l) #[] #[]), .v (.pointer (some ⟨Bs, 0, none⟩)), .v undef, .v undef, .v undef, .v undef, .v undef, .v undef, .v undef, .v undef, .v undef, .v undef, .v undef, .v undef, .v undef, .v undef, .v undef, .v undef, .v undef]) ?_ rfl rfl) ?_
  rotate_left
  · rintro e a W' ⟨t, e1, e2, hq, hr⟩
    rcases hq with rfl | rfl
    · exact ⟨e2, _, results_none rfl _ _ _, ⟨_, rfl⟩, hr⟩
    · exact ⟨e2, _, results_none rfl _ _ _, ⟨_, rfl⟩, hr⟩
  have hV := hJV 0 W hJ0
  refine YW.seq (YW.reads hV (by intro x hx; simp only [List.mem_cons, List.not_mem_nil, or_false] at hx; rcases hx with h | h | h | h | h | h | h | h | h | h | h | h | h | h | h | h | h | h | h <;> subst h <;> trivial) (by kernel_rfl) ?_)
  simp only [XA, XB, gateX, Nat.reduceAdd, Nat.reduceLeDiff, Nat.reduceSub, Nat.reduceMul, ↓reduceIte, Int.reduceToNat, Int.reduceLE, beq_self_eq_true]
  refine ld_mem hld ?_
  have w0 : IntKind.i64.wrap ((n : Int) - 1) = (n : Int) - 1 := wrap_id (by omega) (by omega)
  simp only [XA, XB, gateX, Nat.reduceAdd, Nat.reduceLeDiff, Nat.reduceSub, Nat.reduceMul, ↓reduceIte, Int.reduceToNat, Int.reduceLE, beq_self_eq_true, w0]
  intro hok
  refine YW.block (YW.loop (fun m t W' => ∃ (r : Nat) (zi : Int), m + r = n ∧ zi = (n : Int) - 1 - (r : Int) ∧ J r W' ∧ TIs (fun Z => [.v (.func (.yield l) #[] #[]), .v (.pointer (some ⟨Bs, 0, none⟩)), Z 2, .v (.int .i64 zi), Z 4,Z 5,Z 6,Z 7,Z 8,Z 9,Z 10,Z 11,Z 12,Z 13,Z 14,Z 15,Z 16,Z 17,Z 18]) t ∧ ∀ x ∈ t, x.ok 0) n ⟨0, (n : Int) - 1, by omega, by omega, hJ0, by exact rfl, hok⟩ ?_)
  clear hok
  rintro m t W' ⟨r, zi, hm, hz, hJ, ht, hok⟩
  obtain ⟨u, rfl⟩ := ht.out
  clear ht
  try dsimp only at hok ⊢
  have hV := hJV r W' hJ
  by_cases hr : r < n
  rotate_left
  · have b1 : decide (0 ≤ zi) = false := decide_eq_false (by omega)
    refine YW.seq (YW.seq (YW.reads hV hok (by kernel_rfl) ?_))
    simp only [XA, XB, gateX, Nat.reduceAdd, Nat.reduceLeDiff, Nat.reduceSub, Nat.reduceMul, ↓reduceIte, Int.reduceToNat, Int.reduceLE, beq_self_eq_true, b1]
    intro hok2
    refine YW.cond (V := V) (b := false) rfl (fun h => by cases h) (fun _ => YW.exit ?_)
    have : r = n := by omega
    subst this
    exact ⟨.inl rfl, .inl hJ⟩
  have b1 : decide (0 ≤ zi) = true := decide_eq_true (by omega)
  obtain ⟨i, rfl, hi⟩ : ∃ i : Nat, zi = i ∧ n - 1 - r = i := ⟨n - 1 - r, by omega, rfl⟩
  rcases hf with h0 | ⟨b, o, rfl, hf⟩
  · omega
  refine YW.seq (YW.seq (YW.reads hV hok (by kernel_rfl) ?_))
  simp only [XA, XB, gateX, Nat.reduceAdd, Nat.reduceLeDiff, Nat.reduceSub, Nat.reduceMul, ↓reduceIte, Int.reduceToNat, Int.reduceLE, beq_self_eq_true, b1]
  intro hok2
  refine YW.cond (V := V) (b := true) rfl (fun _ => YW.skip ?_) (fun h => by cases h)
  refine YW.seq (YW.block (YW.seq (YW.yieldAt 6 (by rfl) hV hok2 (by kernel_rfl) (by kernel_rfl) ?_)))
  simp only [XA, XB, gateX, Nat.reduceAdd, Nat.reduceLeDiff, Nat.reduceSub, Nat.reduceMul, ↓reduceIte, Int.reduceToNat, Int.reduceLE, beq_self_eq_true]
  refine ld_mem hld ?_
  simp only [XA, XB, gateX, Nat.reduceAdd, Nat.reduceLeDiff, Nat.reduceSub, Nat.reduceMul, ↓reduceIte, Int.reduceToNat, Int.reduceLE, beq_self_eq_true]
  refine ⟨by omega, by omega, ld_mem (hf i (by omega)) ?_⟩
  simp only [XA, XB, gateX, Nat.reduceAdd, Nat.reduceLeDiff, Nat.reduceSub, Nat.reduceMul, ↓reduceIte, Int.reduceToNat, Int.reduceLE, beq_self_eq_true]
  obtain ⟨fn, tmps, asn, bd, hy1, hy2⟩ := hY r W' _ (bwL_get hr) hJ
  rw [hi] at hy1
  refine ⟨l, [.int .i64 (i : Int), f i], _, rfl, rfl, ⟨fn, tmps, asn, bd, hy1, hy2⟩, ?_⟩
  rintro e W3 (⟨rfl, hJ3⟩ | ⟨rfl, hJ3⟩)
  · have hV3 := hJV _ W3 hJ3
    refine ⟨true, rfl, hV3, ?_⟩
    simp only [XA, XB, gateX, Nat.reduceAdd, Nat.reduceLeDiff, Nat.reduceSub, Nat.reduceMul, ↓reduceIte, Int.reduceToNat, Int.reduceLE, beq_self_eq_true]
    intro hok3
    refine YW.cond (V := V) (b := false) rfl (fun h => by cases h) (fun _ => YW.skip ?_)
    refine YW.reads hV3 hok3 (by kernel_rfl) ?_
    have w1 : IntKind.i64.wrap ((i : Int) - 1) = (i : Int) - 1 := wrap_id (by omega) (by omega)
    simp only [XA, XB, gateX, Nat.reduceAdd, Nat.reduceLeDiff, Nat.reduceSub, Nat.reduceMul, ↓reduceIte, Int.reduceToNat, Int.reduceLE, beq_self_eq_true, w1]
    intro hok4
    exact ⟨m - 1, by omega, r + 1, (i : Int) - 1, by omega, by omega, hJ3, by exact rfl, hok4⟩
  · refine ⟨false, rfl, ?_, ?_⟩
    · exact hJX W3 hJ3
    simp only [XA, XB, gateX, Nat.reduceAdd, Nat.reduceLeDiff, Nat.reduceSub, Nat.reduceMul, ↓reduceIte, Int.reduceToNat, Int.reduceLE, beq_self_eq_true]
    intro hok3
    refine YW.cond (V := V) (b := true) rfl (fun _ => YW.ret ?_) (fun h => by cases h)
    exact ⟨.inr rfl, .inr hJ3⟩
theorem splice3 (a b c d e f : Value) : splice [a, b, c] 0 [d, e, f] = [d, e, f] := by simp [splice]
/-- the program's way: from the highest power down -/
def hor (l : List Rat) (x : Rat) : Nat → Rat
  | 0 => 0
  | r + 1 => hor l x r * x + cf l (l.length - 1 - r)
end Go.Proofs.YthoboehbadmlmaaGreat
end
