/- The program's period of a class is that of its reference. (part 9 of 11) -/
import Derived.OrdersHeld
import Derived.Below
import Derived.Tactics
import Derived.KernelRfl
import Derived.RangeFuncCalls
import Derived.RangeFuncFrom
import Derived.RangeFuncLeaves
import Derived.OrdersIn
import Derived.Laws.AppendOwn
import Derived.Laws.MakeOwn
import Derived.Laws.CopyRow
import Derived.Laws.Cells
import Derived.Laws.World
import Derived.Laws.Alloc2
import Derived.Laws.NewBlocks
import Derived.Maps.AppendAt
import Derived.Test.YtkgmicakfmllmaaGreatProg
import Init.Data.List.Lemmas
import Init.Omega
import Derived.WalkKit
import Derived.ProofKit
import Derived.OpenShut
import Derived.ChangeOld
import Derived.SizedLaws
import Derived.ChangeSlices
import Derived.ChangeArms
import Derived.Deep.Slices
import Derived.MapKept
import Derived.Test.YtkgmicakfmllmaaGreatPE8
section
namespace Go.Proofs.YtkgmicakfmllmaaGreat
open Go Go.RowKit
set_option linter.unusedSimpArgs false
set_option linter.unusedVariables false
attribute [local irreducible] XWP Spec SpecO XPub XCall seqX clX apX stX ldX iaX slX
/-- the equations and their right-hand sides, side by side -/
def augG (A B : Grid) (n : Nat) : Grid := fun i k => if k < n then A i k else B i (k - n)
theorem solved1_c (V : View) (b6 b2 b3 e6 e2 e3 n m i k : Nat) (sa sb : Value) (la lb : List Rat) (h6 : V b6 = some (.cells ([.int .i64 (n : Int)] : List Value).toArray e6 (0, 0))) (h2 : V b2 = some (.cells ([.int .i64 (n : Int), .int .i64 (n : Int), sa] : List Value).toArray e2 (0, 0)))
    (h3 : V b3 = some (.cells ([.int .i64 (n : Int), .int .i64 (m : Int), sb] : List Value).toArray e3 (0, 0))) (ha : Rats V sa la) (hb : Rats V sb lb) (lla : la.length = n * n) (llb : lb.length = n * m) (hn : n ≤ 500) (hm : m ≤ 500) (hi : i < n) (hk : k < n + m) (hq : ∀ x ∈ la, QF x) (hq' : ∀ x ∈ lb, QF x) :
    Spec Tryz.prog 182 [.int .i64 (i : Int), .int .i64 (k : Int), .pointer (some ⟨b6, 0, none⟩), .pointer (some ⟨b2, 0, none⟩), .pointer (some ⟨b3, 0, none⟩)] V fun v' V' => RatC V' v' (augG (gridL la n) (gridL lb m) n i k) := by
  have hnn : n * n ≤ 250000 := Nat.le_trans (Nat.mul_le_mul hn hn) (by decide)
  have hnm : n * m ≤ 250000 := Nat.le_trans (Nat.mul_le_mul hn hm) (by decide)
  obtain ⟨A1, c1, rfl, hc1, hm1⟩ := ha.form
  obtain ⟨A2, c2, rfl, hc2, hm2⟩ := hb.form
  refine (Spec.enter Tryz.func182 rfl fun Γ => ?_)
  simp only [Tryz.ntmps182, List.map_cons, List.map_nil, List.length_cons, List.length_nil, Nat.reduceAdd, Nat.reduceSub, List.replicate_succ, List.replicate_zero, List.cons_append, List.nil_append]
  refine Gx.a (by kernel_rfl) fun K hK => ?_
  simp only [XA, XB]
  refine hK _ ?_
  refine XWP.seq ?_
  by_cases hkn : k < n
  · have b1 : decide ((k : Int) < (n : Int)) = true := decide_eq_true (by omega)
    have hp := pos_lt hi hkn
    have w1 := wr_mul (i := i) (C := n) (by omega) (by omega)
    have w2 := wr_add (p := i * n) (k := k) (by omega) (by omega)
    obtain ⟨b, o, rfl⟩ := SlAt.addr ha (by omega)
    obtain ⟨x, y, z, hx, ⟨o1, o2, o3⟩, hld⟩ := Rats.get ha (i * n + k) (by omega)
    refine Gx.a (by kernel_rfl) fun K hK => ?_
    simp only [XA]
    refine ld_mem (ldV1 h6 (off := 0) rfl shapeT_3 _) ?_
    simp only [XA, XB, b1]
    refine hK _ ?_
    refine Gx.t rfl ?_
    refine Gx.a (by kernel_rfl) fun K hK => ?_
    simp only [XM, XA]
    refine ld_mem (ldV1 h2 (off := 2) rfl shapeT_22 _) ?_
    simp only [XA]
    refine ld_mem (ldV1 h6 (off := 0) rfl shapeT_3 _) ?_
    simp only [XA, XB, w1, w2]
    refine ⟨by omega, by omega, ?_⟩
    refine ld_mem (hld _) ?_
    simp only [XA]
    refine call_go (by kernel_rfl) rfl (copied_c _ _ _ hx (hq _ (cf_mem (by omega)))) fun v1 V1 hV1 h1 => ?_
    obtain ⟨x1, y1, rfl, p1, p2⟩ := h1.form
    simp only [XA]
    refine st_rat rfl rfl rfl p1 p2 ?_
    simp only [XA]
    refine hK _ (XWP.ret ?_)
    try simp only [thenX_ret, inBlockX_ret]
    refine ret_rat1 rfl rfl rfl ?_
    unfold augG
    rw [if_pos hkn]; exact h1
  have b1 : decide ((k : Int) < (n : Int)) = false := decide_eq_false (by omega)
  have hp := pos_lt hi (show k - n < m by omega)
  have w1 := wr_mul (i := i) (C := m) (by omega) (by omega)
  have w2 := wr_add (p := i * m) (k := k) (by omega) (by omega)
  have w3 := i64_sub (i * m + k) n (by omega) (by omega)
  have e4 : i * m + k - n = i * m + (k - n) := by omega
  rw [e4] at w3
  obtain ⟨b, o, rfl⟩ := SlAt.addr hb (by omega)
  obtain ⟨x, y, z, hx, ⟨o1, o2, o3⟩, hld⟩ := Rats.get hb (i * m + (k - n)) (by omega)
  refine Gx.a (by kernel_rfl) fun K hK => ?_
  simp only [XA]
  refine ld_mem (ldV1 h6 (off := 0) rfl shapeT_3 _) ?_
  simp only [XA, XB, b1]
  refine hK _ ?_
  refine Gx.f rfl ?_
  refine XWP.skip ?_
  refine Gx.a (by kernel_rfl) fun K hK => ?_
  simp only [XM, XA]
  refine ld_mem (ldV1 h3 (off := 2) rfl shapeT_22 _) ?_
  simp only [XM, XA]
  refine ld_mem (ldV1 h3 (off := 1) rfl shapeT_3 _) ?_
  simp only [XA, XB, w1, w2]
  refine ld_mem (ldV1 h6 (off := 0) rfl shapeT_3 _) ?_
  simp only [XA, XB, w3]
  refine ⟨by omega, by omega, ?_⟩
  refine ld_mem (hld _) ?_
  simp only [XA]
  refine call_go (by kernel_rfl) rfl (copied_c _ _ _ hx (hq' _ (cf_mem (by omega)))) fun v1 V1 hV1 h1 => ?_
  obtain ⟨x1, y1, rfl, p1, p2⟩ := h1.form
  simp only [XA]
  refine st_rat rfl rfl rfl p1 p2 ?_
  simp only [XA]
  refine hK _ (XWP.ret ?_)
  try simp only [thenX_ret, inBlockX_ret]
  refine ret_rat1 rfl rfl rfl ?_
  unfold augG
  rw [if_neg hkn]; exact h1
theorem solved2_c (V : View) (b7 b6 e7 e6 n m i k : Nat) (s : Value) (G : Grid) (h7 : V b7 = some (.cells ([.int .i64 (n : Int), .int .i64 ((n + m : Nat) : Int), s] : List Value).toArray e7 (0, 0))) (h6 : V b6 = some (.cells ([.int .i64 (n : Int)] : List Value).toArray e6 (0, 0)))
    (hs : Rats V s (flatG G n (n + m))) (hn : n ≤ 500) (hm : m ≤ 500) (hi : i < n) (hk : k < m) (hd : G i i ≠ 0) (hq : ∀ i k, i < n → k < n + m → QF (G i k)) :
    Spec Tryz.prog 186 [.int .i64 (i : Int), .int .i64 (k : Int), .pointer (some ⟨b7, 0, none⟩), .pointer (some ⟨b6, 0, none⟩)] V fun v' V' => RatC V' v' (G i (n + k) / G i i) := by
  have hnn : n * (n + m) ≤ 1000000 := Nat.le_trans (Nat.mul_le_mul hn (show n + m ≤ 1000 by omega)) (by decide)
  have hll := flatG_len G n (n + m)
  have hp1 := pos_lt (C := n + m) hi (show n + k < n + m by omega)
  have hp2 := pos_lt (C := n + m) hi (show i < n + m by omega)
  have g1 := flatG_at G (C := n + m) hi (show n + k < n + m by omega)
  have g2 := flatG_at G (C := n + m) hi (show i < n + m by omega)
  have w1 := wr_mul (i := i) (C := n + m) (by omega) (by omega)
  have w2 := wr_add (p := i * (n + m)) (k := n) (by omega) (by omega)
  have w3 := wr_add (p := i * (n + m) + n) (k := k) (by omega) (by omega)
  have w4 := wr_add (p := i * (n + m)) (k := i) (by omega) (by omega)
  rw [Nat.add_assoc] at w3
  obtain ⟨A1, c1, rfl, hc1, hm1⟩ := hs.form
  obtain ⟨b, o, rfl⟩ := SlAt.addr hs (by omega)
  obtain ⟨x, y, z, hx, ⟨o1, o2, o3⟩, hld⟩ := Rats.get hs (i * (n + m) + (n + k)) (by omega)
  obtain ⟨x', y', z', hx', ⟨o1', o2', o3'⟩, hld'⟩ := Rats.get hs (i * (n + m) + i) (by omega)
  rw [g1] at hx
  rw [g2] at hx'
  refine (Spec.enter Tryz.func186 rfl fun Γ => ?_)
  simp only [Tryz.ntmps186, List.map_cons, List.map_nil, List.length_cons, List.length_nil, Nat.reduceAdd, Nat.reduceSub, List.replicate_succ, List.replicate_zero, List.cons_append, List.nil_append]
  refine Gx.a (by kernel_rfl) fun K hK => ?_
  simp only [XA, XB]
  refine hK _ ?_
  refine XWP.cut (fun s => ∃ (V5 : View) (x1 y1 : Value), StIs (fun Z => [Z 0,Z 1,Z 2,Z 3,Z 4,Z 5, .p 0 0, .p 1 0, Z 8,Z 9,Z 10,Z 11,Z 12,Z 13,Z 14,Z 15,Z 16,Z 17,Z 18,Z 19,Z 20,Z 21,Z 22,Z 23,Z 24,Z 25,Z 26,Z 27,Z 28,Z 29,Z 30,Z 31,Z 32,Z 33,Z 34,Z 35]) [[.bool false, .slice none 0 0, .slice none 0 0], [.bool (ng (G i (n + k) / G i i)), x1, y1]] (fun _ => none) V5 s ∧ RatC V5 (.agg #[.bool (ng (G i (n + k) / G i i)), x1, y1]) (G i (n + k) / G i i) ∧ isOne x1 = true ∧ isOne y1 = true) ?_ ?_
  · (refine XWP.drwT1 (.lin [0, 1, 2, 3, 4, 5, 6, 7, 8, 9, 10, 11, 12, 13, 14, 15, 16, 17, 18, 19, 20, 21] (.two (.lin [22, 23, 24, 25, 26, 27, 28] .nil) (.lin [26, 22, 23, 24, 25, 27, 28] .nil))) (by kernel_rfl) (by kernel_rfl) (by kernel_rfl) fun K hK => ?_)
    simp only [XM, XA]
    refine ld_mem (ldV1 h7 (off := 2) rfl shapeT_22 _) ?_
    simp only [XM, XA]
    refine ld_mem (ldV1 h7 (off := 1) rfl shapeT_3 _) ?_
    simp only [XA, XB, w1]
    refine ld_mem (ldV1 h6 (off := 0) rfl shapeT_3 _) ?_
    simp only [XA, XB, w2, w3]
    refine ⟨by omega, by omega, ?_⟩
    refine ld_mem (hld _) ?_
    simp only [XM, XA]
    refine ld_mem (ldV1 h7 (off := 2) rfl shapeT_22 _) ?_
    simp only [XM, XA]
    refine ld_mem (ldV1 h7 (off := 1) rfl shapeT_3 _) ?_
    simp only [XA, XB, w1, w4]
    refine ⟨by omega, by omega, ?_⟩
    refine ld_mem (hld' _) ?_
    simp only [XA, XB]
    refine And.intro ?_ ?_
    all_goals refine call_go (by kernel_rfl) rfl (qdiv_c _ _ _ _ _ hx hx' (hq _ _ hi (by omega)) (hq _ _ hi (by omega))) fun v9 V9 hV9 h9 => ?_
    all_goals obtain ⟨x7, rfl, hx7⟩ := h9.2 hd
    all_goals obtain ⟨x9, y9, rfl, ox, oy⟩ := hx7.form
    all_goals simp only [XA, XB]
    all_goals refine st_rat rfl rfl rfl ox oy ?_
    all_goals simp only [XA]
    all_goals exact hK _ ⟨V9, x9, y9, StIs.of (by exact rfl), hx7, ox, oy⟩
  rintro s ⟨V5, x1, y1, hs5, h5, p1, p2⟩
  obtain ⟨z, rfl⟩ := hs5.out
  try dsimp only
  refine Gx.a (by kernel_rfl) fun K hK => ?_
  simp only [XA, XB, Nat.reduceAdd, Nat.reduceLeDiff, ↓reduceIte]
  refine st_rat rfl rfl rfl p1 p2 ?_
  simp only [XA]
  refine hK _ (XWP.ret ?_)
  try simp only [thenX_ret, inBlockX_ret]
  exact ret_rat1 rfl rfl rfl h5
end Go.Proofs.YtkgmicakfmllmaaGreat
end
section
namespace Go.Proofs.YtkgmicakfmllmaaGreat
open Go Go.RowKit
set_option linter.unusedSimpArgs false
set_option linter.unusedVariables false
attribute [local irreducible] XWP Spec SpecO XPub XCall seqX clX apX stX ldX iaX slX
theorem ge_add (B i : Nat) : ∀ k, ge (ge B i) k = ge B (i + k)
  | 0 => rfl
  | k + 1 => by rw [ge, ge_add B i k]; rfl
theorem ge_le (B k : Nat) : B ≤ ge B k := ge_mono B (Nat.zero_le k)
theorem aug_ker {A B : Grid} {n : Nat} : UniG (augG A B n) n n ↔ UniG A n n := by
  have e : ∀ i (x : Nat → Rat), Sm (fun j => augG A B n i j * x j) n = Sm (fun j => A i j * x j) n := fun i x => Sm_congr _ fun j hj => by unfold augG; rw [if_pos hj]
  constructor
  · intro h x hx; exact h x fun i hi => by rw [e]; exact hx i hi
  · intro h x hx; exact h x fun i hi => by rw [← e]; exact hx i hi
theorem aug_lin {A B : Grid} {n c : Nat} {x : Nat → Rat} (h : LinG (augG A B n) n n (fun i => augG A B n i (n + c)) x) : LinG A n n (fun i => B i c) x := fun i hi => by
  have e : Sm (fun j => augG A B n i j * x j) n = Sm (fun j => A i j * x j) n := Sm_congr _ fun j hj => by unfold augG; rw [if_pos hj]
  rw [← e, h i hi]
  show augG A B n i (n + c) = B i c
  unfold augG
  rw [if_neg (by omega), Nat.add_sub_cancel_left]
theorem own_rw {H : Heap} {o : Option (Nat × Row)} {e n : Nat} {v : Value} {cells : List Value} (h : Own (addRow (fun _ => none) o) e 3 v n cells) (hn : 1 ≤ n) : ∃ g cap, v = .slice (some ⟨g, 0, none⟩) n cap ∧ o = some (g, ⟨e, cells, cap * 3⟩) ∧ addRow H o g = some ⟨e, cells, cap * 3⟩ ∧ n ≤ cap ∧ cap ≤ maxLen := by
  rcases own_parts h with ⟨_, h0, _⟩ | ⟨g, cap, rfl, hg, hle, hcap, _⟩
  · omega
  · cases o with
    | none => cases hg
    | some q =>
      obtain ⟨g', r⟩ := q
      simp only [addRow, upd] at hg
      split at hg
      · rename_i e'
        subst e'
        cases hg
        exact ⟨g, cap, rfl, rfl, upd_at _ _ _, hle, hcap⟩
      · cases hg
theorem own_any {H : Heap} {o : Option (Nat × Row)} {e n : Nat} {v : Value} {cells : List Value} (h : Own (addRow (fun _ => none) o) e 3 v n cells) : Own (addRow H o) e 3 v n cells := by
  rcases Nat.eq_zero_or_pos n with h0 | h0
  · rcases own_parts h with ⟨rfl, _, rfl⟩ | ⟨g, cap, rfl, hg, hle, hcap, hl⟩
    · rw [h0]; exact own_nil
    · cases o with
      | none => cases hg
      | some q =>
        obtain ⟨g', r⟩ := q
        simp only [addRow, upd] at hg
        split at hg
        · rename_i e'
          subst e'
          cases hg
          exact ⟨hl, .inr ⟨g, cap, rfl, upd_at _ _ _, hle, hcap⟩⟩
        · cases hg
  · obtain ⟨g, cap, rfl, _, h2, h3, h4⟩ := own_rw (H := H) h h0
    exact ⟨h.1, .inr ⟨g, cap, rfl, h2, h3, h4⟩⟩
theorem addRow_only {o : Option (Nat × Row)} {g : Nat} {r : Row} (h : addRow (fun _ => none) o g = some r) : o = some (g, r) := by
  cases o with
  | none => cases h
  | some q =>
    obtain ⟨g', r'⟩ := q
    simp only [addRow, upd] at h
    split at h
    · rename_i e'
      subst e'; cases h; rfl
    · cases h
theorem addRow_off {H : Heap} {o : Option (Nat × Row)} {b : Nat} {r : Row} (hb : H b = some r) (hs : ∀ g q, o = some (g, q) → H g = none) : addRow H o b = some r := by
  cases o with
  | none => exact hb
  | some q =>
    obtain ⟨g, q⟩ := q
    have := hs g q rfl
    simp only [addRow, upd]
    rw [if_neg fun e => by rw [e, this] at hb; cases hb]; exact hb
theorem splice_all {a b c x y z : Value} : splice [a, b, c] 0 [x, y, z] = [x, y, z] := by unfold splice; simp
set_option maxHeartbeats 4000000 in
theorem mSolved_c (V : View) (sa sb : Value) (n m B : Nat) (la lb : List Rat) (ha : Rats V sa la) (hb : Rats V sb lb) (lla : la.length = n * n) (llb : lb.length = n * m) (h1 : 1 ≤ n) (hn : n ≤ 500) (hm : m ≤ 500) (hqa : ∀ x ∈ la, QB B x) (hqb : ∀ x ∈ lb, QB B x) (hB : ge B (2 * n + 1) ≤ 17592186044416) :
    Spec Tryz.prog 158 [.agg #[.int .i64 (n : Int), .int .i64 (n : Int), sa], .agg #[.int .i64 (n : Int), .int .i64 (m : Int), sb]] V fun v' V' =>
      (¬ UniG (gridL la n) n n → v' = .tuple #[.agg #[.int .i64 0, .int .i64 0, .slice none 0 0], .bool false]) ∧
      (UniG (gridL la n) n n → ∃ w X, v' = .tuple #[.agg #[.int .i64 (n : Int), .int .i64 (m : Int), w], .bool true] ∧ Rats V' w (flatG X n m) ∧ (∀ c, c < m → LinG (gridL la n) n n (fun i => gridL lb m i c) (fun j => X j c)) ∧ ∀ i k, i < n → k < m → QB (2 * ge B (2 * n)) (X i k)) := by
  obtain ⟨A1, c1, rfl, hc1, hm1⟩ := ha.form
  obtain ⟨A2, c2, rfl, hc2, hm2⟩ := hb.form
  have hB1 : ge B (2 * n) * 4 + 2 ≤ 17592186044416 := by rw [ge] at hB; omega
  have hBn : ge B (n + 1) ≤ 17592186044416 := Nat.le_trans (ge_mono B (by omega)) hB
  have hB0 : B ≤ 17592186044416 := Nat.le_trans (ge_le B _) hB
  have hnm : n * (n + m) ≤ 500000 := Nat.le_trans (Nat.mul_le_mul hn (show n + m ≤ 1000 by omega)) (by decide)
  have hpos : 1 ≤ n * (n + m) := Nat.mul_pos (by omega) (by omega)
  have hqA : ∀ i k, i < n → k < n → QB B (gridL la n i k) := fun i k hi hk => hqa _ (cf_mem (by rw [lla]; exact pos_lt hi hk))
  have hqB : ∀ i k, i < n → k < m → QB B (gridL lb m i k) := fun i k hi hk => hqb _ (cf_mem (by rw [llb]; exact pos_lt hi hk))
  have hqG : ∀ i k, i < n → k < n + m → QB B (augG (gridL la n) (gridL lb m) n i k) := fun i k hi hk => by
    unfold augG
    split
    · exact hqA i k hi (by assumption)
    · exact hqB i _ hi (by omega)
  obtain ⟨G0, hG0⟩ : ∃ G0, G0 = augG (gridL la n) (gridL lb m) n := ⟨_, rfl⟩
  rw [← hG0] at hqG
  refine (Spec.enterR Tryz.func158 rfl fun Γ hΓ => ?_)
  simp only [Tryz.ntmps158, List.map_cons, List.map_nil, List.length_cons, List.length_nil, Nat.reduceAdd, Nat.reduceSub, List.replicate_succ, List.replicate_zero, List.cons_append, List.nil_append]
  refine Gx.a (by kernel_rfl) fun K hK => ?_
  simp only [XM, XA, Nat.reduceAdd]
  refine hK _ ?_
  refine Gx.a (by kernel_rfl) fun K hK => ?_
  simp only [XM, XA, XB, Nat.reduceAdd]
  refine st_one shapeT_3 rfl rfl (by simp) ?_
  simp only [XA]
  refine hK _ ?_
  refine XWP.row1 (bx := [_, _, _]) fun b6 e6 hb6 _ => ?_
  simp only [List.map_cons, List.map_nil, rowS_v, rowS_p, List.length_nil, List.length_cons, Nat.reduceAdd, Nat.reduceEqDiff, ↓reduceIte]
  refine XWP.pub b6 _ (upd_at _ _ _) fun o6 ho6 hle6 => ?_
  have eo6 := row_obj ho6
  subst eo6
  have h6 := addV_at V b6 (.cells ([.int .i64 (n : Int)] : List Value).toArray e6 (0, 0))
  generalize upd (upd (fun _ => none) b6 _) b6 none = H1 at *
  generalize addV V b6 _ = V1 at *
  refine XWP.row1 (bx := [_, _]) fun b4 e4 hb4 _ => ?_
  simp only [List.map_cons, List.map_nil, rowS_v, rowS_p, List.length_nil, List.length_cons, Nat.reduceAdd, Nat.reduceEqDiff, ↓reduceIte]
  have f2 : upd H1 b4 (some ⟨e4, [.int .i64 0, .int .i64 0, .slice none 0 0], 3⟩) b4 = some ⟨e4, [.int .i64 0, .int .i64 0, .slice none 0 0], 3⟩ := upd_at _ _ _
  generalize upd H1 b4 (some ⟨e4, [.int .i64 0, .int .i64 0, .slice none 0 0], 3⟩) = H2 at *
  refine XWP.row1 (bx := [_]) fun b3 e3 hb3 _ => ?_
  simp only [List.map_cons, List.map_nil, rowS_v, rowS_p, List.length_nil, List.length_cons, Nat.reduceAdd, Nat.reduceEqDiff, ↓reduceIte]
  refine XWP.pub b3 _ (upd_at _ _ _) fun o3 ho3 hle3 => ?_
  have eo3 := row_obj ho3
  subst eo3
  have n43 := new_ne hb3 f2
  have f3 : upd (upd H2 b3 (some ⟨e3, [.int .i64 (n : Int), .int .i64 (m : Int), .slice A2 lb.length c2], 3⟩)) b3 none b4 = some ⟨e4, [.int .i64 0, .int .i64 0, .slice none 0 0], 3⟩ := (upd_off n43).trans ((upd_off n43).trans f2)
  have h3 := addV_at V1 b3 (.cells ([.int .i64 (n : Int), .int .i64 (m : Int), .slice A2 lb.length c2] : List Value).toArray e3 (0, 0))
  generalize upd (upd H2 b3 _) b3 none = H3 at *
  generalize addV V1 b3 _ = V3 at *
  refine XWP.row1 (bx := []) fun b2 e2 hb2 _ => ?_
  simp only [List.map_cons, List.map_nil, rowS_v, rowS_p, List.length_nil, List.length_cons, Nat.reduceAdd, ↓reduceIte]
  refine XWP.pub b2 _ (upd_at _ _ _) fun o2 ho2 hle2 => ?_
  have eo2 := row_obj ho2
  subst eo2
  have n42 := new_ne hb2 f3
  have f4 : upd (upd H3 b2 (some ⟨e2, [.int .i64 (n : Int), .int .i64 (n : Int), .slice A1 la.length c1], 3⟩)) b2 none b4 = some ⟨e4, [.int .i64 0, .int .i64 0, .slice none 0 0], 3⟩ := (upd_off n42).trans ((upd_off n42).trans f3)
  have h2 := addV_at V3 b2 (.cells ([.int .i64 (n : Int), .int .i64 (n : Int), .slice A1 la.length c1] : List Value).toArray e2 (0, 0))
  generalize upd (upd H3 b2 _) b2 none = H4 at *
  generalize addV V3 b2 _ = V4 at *
  have hle14 := View.le_trans hle3 hle2
  have h6 := hle14 _ _ h6
  have h3 := hle2 _ _ h3
  have ha4 := (ha.up hle6).up hle14
  have hb4 := (hb.up hle6).up hle14
  have w0 := wr_add (p := n) (k := m) (by omega) (by omega)
  -- the grid is made
  refine Gx.a (by kernel_rfl) fun K hK => ?_
  simp only [XA]
  refine ld_mem (ldV1 h6 (off := 0) rfl shapeT_3 _) ?_
  simp only [XA]
  refine ld_mem (ldV1 h6 (off := 0) rfl shapeT_3 _) ?_
  simp only [XM, XA]
  refine ld_mem (ldV1 h3 (off := 1) rfl shapeT_3 _) ?_
  simp only [XA, XB, w0]
  refine mkf_go [.pointer (some ⟨b6, 0, none⟩), .pointer (some ⟨b2, 0, none⟩), .pointer (some ⟨b3, 0, none⟩)] rfl ?_
  simp only [XA]
  refine call_own (by kernel_rfl) rfl (filled_o V4 (lb := [.pointer (some ⟨b6, 0, none⟩), .pointer (some ⟨b2, 0, none⟩), .pointer (some ⟨b3, 0, none⟩)]) n (n + m) G0 (by kernel_rfl) (by omega) (by omega) fun V' i k hV hi hk => ?_) fun v7 V7 o7 hV7 hs7 hR7 => ?_
  · rw [hG0]
    exact solved1_c V' b6 b2 b3 e6 e2 e3 n m i k _ _ la lb (hV _ _ h6) (hV _ _ h2) (hV _ _ h3) (ha4.up hV) (hb4.up hV) lla llb hn hm hi hk (fun x hx => (hqa x hx).qf hB0) (fun x hx => (hqb x hx).qf hB0)
  obtain ⟨sl, cells, rfl, hown, hrow⟩ := hR7
  obtain ⟨g, cap, rfl, ho7, hg, hgc, hgm⟩ := own_rw (H := H4) hown hpos
  have f5 : addRow H4 o7 b4 = some _ := addRow_off f4 fun g' q e => (hs7 g' q e).1
  have hgb4 : g ≠ b4 := Ne.symm (new_ne (hs7 g _ ho7).1 f4)
  clear hs7 hown ho7
  simp only [XM, XA]
  refine st_mat shapeT_24 rfl rfl rfl rfl rfl ?_
  simp only [XA]
  refine hK _ ?_
  clear hK
  generalize addRow H4 o7 = H5 at *
  refine XWP.row1 (bx := []) fun b7 e7 hb7 _ => ?_
  simp only [List.map_cons, List.map_nil, rowS_v, rowS_p, List.length_nil, List.length_cons, Nat.reduceAdd, ↓reduceIte]
  refine XWP.pub b7 _ (upd_at _ _ _) fun o7' ho7' hle7 => ?_
  have eo7 := row_obj ho7'
  subst eo7
  have n47 := new_ne hb7 f5
  have n57 := new_ne hb7 hg
  have f6 : upd (upd H5 b7 (some ⟨e7, [.int .i64 (n : Int), .int .i64 ((n + m : Nat) : Int), .slice (some ⟨g, 0, none⟩) (n * (n + m)) cap], 3⟩)) b7 none b4 = some ⟨e4, [.int .i64 0, .int .i64 0, .slice none 0 0], 3⟩ := (upd_off n47).trans ((upd_off n47).trans f5)
  have hM0 : MatH (upd (upd H5 b7 (some ⟨e7, [.int .i64 (n : Int), .int .i64 ((n + m : Nat) : Int), .slice (some ⟨g, 0, none⟩) (n * (n + m)) cap], 3⟩)) b7 none) (addV V7 b7 (.cells ([.int .i64 (n : Int), .int .i64 ((n + m : Nat) : Int), .slice (some ⟨g, 0, none⟩) (n * (n + m)) cap] : List Value).toArray e7 (0, 0))) g cap n (n + m) G0 := ⟨cells, (upd_off n57).trans ((upd_off n57).trans hg), hrow.mono ratE_ok hle7⟩
  have h7 := addV_at V7 b7 (.cells ([.int .i64 (n : Int), .int .i64 ((n + m : Nat) : Int), .slice (some ⟨g, 0, none⟩) (n * (n + m)) cap] : List Value).toArray e7 (0, 0))
  have h6 := hle7 _ _ (hV7 _ _ h6)
  have h3 := hle7 _ _ (hV7 _ _ h3)
  generalize upd (upd H5 b7 _) b7 none = H6 at *
  generalize addV V7 b7 _ = V8 at *
  clear hrow hg f5 f4 f3 f2 hb7 hb6 hb2 hb3 ho7' ho2 ho3 ho6 h2 ha4 hb4 hle7 hV7
  -- the steps
  refine XWP.seq ?_
  refine Gx.ma 2 hΓ rfl (by kernel_rfl) (by kernel_rfl) fun K hK => ?_
  simp only [XA, Nat.reduceAdd]
  refine ld_mem (ldV3 h7 shapeT_24 _) ?_
  simp only [XA]
  refine ld_mem (ldV1 h6 (off := 0) rfl shapeT_3 _) ?_
  simp only [XA]
  refine mcall_go rfl rfl (steps_m H6 V8 g cap n (n + m) n B G0 hM0 (by omega) (by omega) (by omega) hqG hBn) fun v9 H9 V9 h9 => ?_
  obtain ⟨rank, odd, G, rfl, hV9, hoff, hM, hS⟩ := h9
  simp only [XA]
  refine hK _ ?_
  have f9 := hoff b4 _ (Ne.symm hgb4) f6
  have h7 := hV9 _ _ h7
  have h6 := hV9 _ _ h6
  have h3 := hV9 _ _ h3
  have huni : UniG (gridL la n) n n ↔ UniG G n n := by
    rw [UniG.req hS.eqv, hG0]; exact aug_ker.symm
  obtain ⟨col, hcol, hst, hor⟩ := hS.stp
  by_cases hr : rank < n
  · have hnu : ¬ UniG (gridL la n) n n := fun h => by
      have hc : col = n := by omega
      refine low_not_uni (G := G) (R := n) (n := n) hr (fun i j a b c => hst.low i j a b (by omega)) (huni.1 h)
    have b1 : decide ((rank : Int) < (n : Int)) = true := decide_eq_true (by omega)
    refine Gx.a (by kernel_rfl) fun K hK => ?_
    simp only [XA]
    refine ld_mem (ldV1 h6 (off := 0) rfl shapeT_3 _) ?_
    simp only [XA, XB, b1]
    refine hK _ ?_
    refine Gx.t rfl ?_
    refine Gx.a (by kernel_rfl) fun K hK => ?_
    simp only []
    refine bd_go (by kernel_rfl) #[] (by simp) bd_mtx0 ?_
    simp only [XA]
    refine st_rowA shapeT_24 (all3 rfl rfl rfl) rfl f9 (by simp) ?_
    simp only [XA]
    refine hK _ (XWP.ret ?_)
    try simp only [thenX_ret, inBlockX_ret]
    refine ret_go _ (by simp [resAll, resV, cellsV, shapeT_24, upd_at, splice_all]; rfl) ⟨fun _ => rfl, fun h => absurd h hnu⟩
  have hrn : rank = n := by have := hst.le; omega
  subst hrn
  have htri : TriG G rank := hst.tri_of hcol
  have hu : UniG (gridL la rank) rank rank := huni.2 htri.uni
  have b1 : decide ((rank : Int) < (rank : Int)) = false := decide_eq_false (by omega)
  refine Gx.a (by kernel_rfl) fun K hK => ?_
  simp only [XA]
  refine ld_mem (ldV1 h6 (off := 0) rfl shapeT_3 _) ?_
  simp only [XA, XB, b1]
  refine hK _ ?_
  refine Gx.f rfl ?_
  refine XWP.skip ?_
  have hQ := hS.qb
  have hE := hS.eqv
  obtain ⟨B', hB'⟩ : ∃ B', B' = ge B rank := ⟨_, rfl⟩
  rw [← hB'] at hQ
  have hBB : ∀ k, k ≤ rank → 4 * ge B' k + 2 ≤ 17592186044416 := fun k hk => by
    rw [hB', ge_add]
    have := ge_mono B (show rank + k ≤ 2 * rank by omega)
    omega
  refine XWP.cutD 0 (fun s => ∃ (V10 : View) (H10 : Heap) (G10 : Grid), StIs (fun Z => [Z 0,Z 1, .v (.pointer (some ⟨b2, 0, none⟩)), .v (.pointer (some ⟨b3, 0, none⟩)), .v (.pointer (some ⟨b4, 0, none⟩)), Z 5, .v (.pointer (some ⟨b6, 0, none⟩)), .v (.pointer (some ⟨b7, 0, none⟩)), Z 8,Z 9,Z 10,Z 11,Z 12,Z 13,Z 14,Z 15,Z 16,Z 17,Z 18,Z 19,Z 20,Z 21,Z 22,Z 23,Z 24,Z 25,Z 26,Z 27,Z 28,Z 29,Z 30,Z 31,Z 32,Z 33,Z 34,Z 35,Z 36,Z 37,Z 38,Z 39,Z 40,Z 41,Z 42,Z 43,Z 44,Z 45,Z 46,Z 47,Z 48,Z 49,Z 50,Z 51]) [] H10 V10 s ∧ V9.le V10 ∧ (∀ k r, k ≠ g → H9 k = some r → H10 k = some r) ∧ MatH H10 V10 g cap rank (rank + m) G10 ∧ REq G0 G10 rank rank ∧ DiaG G10 rank 0 ∧ ∀ i k, i < rank → k < rank + m → QB (ge B' rank) (G10 i k)) ?_ ?_
  · have wn := i64_sub rank 1 (by omega) (by omega)
    have hw : (((rank - 1 : Nat) : Int)) = (rank : Int) - 1 := by omega
    have wn' : IntKind.i64.wrap ((rank : Int) - 1) = (rank : Int) - 1 := wrap_id (by omega) (by omega)
    refine Gx.a (by kernel_rfl) fun K hK => ?_
    simp only [XA]
    refine ld_mem (ldV1 h6 (off := 0) rfl shapeT_3 _) ?_
    simp only [XA, XB, wn']
    refine hK _ ?_
    clear hK
    refine XWP.block ?_
    refine XWP.loopD 0 (fun q s => ∃ (V10 : View) (H10 : Heap) (G10 : Grid), StIs (fun Z => [Z 0,Z 1, .v (.pointer (some ⟨b2, 0, none⟩)), .v (.pointer (some ⟨b3, 0, none⟩)), .v (.pointer (some ⟨b4, 0, none⟩)), Z 5, .v (.pointer (some ⟨b6, 0, none⟩)), .v (.pointer (some ⟨b7, 0, none⟩)), Z 8,Z 9, .v (.int .i64 ((q : Int) - 1)), Z 11,Z 12,Z 13,Z 14,Z 15,Z 16,Z 17,Z 18,Z 19,Z 20,Z 21,Z 22,Z 23,Z 24,Z 25,Z 26,Z 27,Z 28,Z 29,Z 30,Z 31,Z 32,Z 33,Z 34,Z 35,Z 36,Z 37,Z 38,Z 39,Z 40,Z 41,Z 42,Z 43,Z 44,Z 45,Z 46,Z 47,Z 48,Z 49,Z 50,Z 51]) [] H10 V10 s ∧ q ≤ rank ∧ V9.le V10 ∧ (∀ k r, k ≠ g → H9 k = some r → H10 k = some r) ∧ MatH H10 V10 g cap rank (rank + m) G10 ∧ REq G0 G10 rank rank ∧ DiaG G10 rank q ∧ ∀ i k, i < rank → k < rank + m → QB (ge B' (rank - q)) (G10 i k)) rank ⟨V9, H9, G, StIs.of (by exact rfl), Nat.le_refl _, View.le_refl _, fun _ _ _ h => h, hM, hE, htri.dia, fun i k a b => by rw [Nat.sub_self]; exact hQ i k a b⟩ ?_
    rintro q s ⟨V10, H10, G10, hs, hq, hV10, hoff10, hM10, hE10, hD10, hQ10⟩
    obtain ⟨z, rfl⟩ := hs.out
    try dsimp only
    clear hs
    have h7' := hV10 _ _ h7
    refine XWP.seq ?_
    by_cases hq0 : q = 0
    · subst hq0
      have bq : decide ((0 : Int) ≤ ((0 : Nat) : Int) - 1) = false := rfl
      refine Gx.a (by kernel_rfl) fun K hK => ?_
      simp only [XA, XB, bq]
      refine hK _ ?_
      refine Gx.f rfl ?_
      refine XWP.exit ?_
      exact fun f => ⟨V10, H10, G10, StIs.of (by exact rfl), hV10, hoff10, hM10, hE10, hD10, fun i k a b => hQ10 i k a b⟩
    have bq : decide ((0 : Int) ≤ (q : Int) - 1) = true := decide_eq_true (by omega)
    refine Gx.a (by kernel_rfl) fun K hK => ?_
    simp only [XA, XB, bq]
    refine hK _ ?_
    refine Gx.t rfl ?_
    refine XWP.skip ?_
    obtain ⟨i, rfl⟩ : ∃ i, q = i + 1 := ⟨q - 1, by omega⟩
    have ei : ((i + 1 : Nat) : Int) - 1 = (i : Int) := by omega
    rw [ei]
    refine XWP.cutD 0 (fun s => ∃ (V11 : View) (H11 : Heap) (G11 : Grid), StIs (fun Z => [Z 0,Z 1, .v (.pointer (some ⟨b2, 0, none⟩)), .v (.pointer (some ⟨b3, 0, none⟩)), .v (.pointer (some ⟨b4, 0, none⟩)), Z 5, .v (.pointer (some ⟨b6, 0, none⟩)), .v (.pointer (some ⟨b7, 0, none⟩)), Z 8,Z 9, .v (.int .i64 (i : Int)), Z 11,Z 12,Z 13,Z 14,Z 15,Z 16,Z 17,Z 18,Z 19,Z 20,Z 21,Z 22,Z 23,Z 24,Z 25,Z 26,Z 27,Z 28,Z 29,Z 30,Z 31,Z 32,Z 33,Z 34,Z 35,Z 36,Z 37,Z 38,Z 39,Z 40,Z 41,Z 42,Z 43,Z 44,Z 45,Z 46,Z 47,Z 48,Z 49,Z 50,Z 51]) [] H11 V11 s ∧ V10.le V11 ∧ (∀ k r, k ≠ g → H10 k = some r → H11 k = some r) ∧ MatH H11 V11 g cap rank (rank + m) G11 ∧ REq G10 G11 rank rank ∧ DiaG G11 rank i ∧ ∀ a k, a < rank → k < rank + m → QB (ge B' (rank - i)) (G11 a k)) ?_ ?_
    · refine XWP.block ?_
      refine Gx.a (by kernel_rfl) fun K hK => ?_
      simp only [XA]
      refine hK _ ?_
      clear hK
      have hsub : rank - i = rank - (i + 1) + 1 := by omega
      refine XWP.block ?_
      refine XWP.loopD 0 (fun p s => ∃ (j : Nat) (V11 : View) (H11 : Heap) (G11 : Grid), StIs (fun Z => [Z 0,Z 1, .v (.pointer (some ⟨b2, 0, none⟩)), .v (.pointer (some ⟨b3, 0, none⟩)), .v (.pointer (some ⟨b4, 0, none⟩)), Z 5, .v (.pointer (some ⟨b6, 0, none⟩)), .v (.pointer (some ⟨b7, 0, none⟩)), Z 8,Z 9, .v (.int .i64 (i : Int)), Z 11,Z 12,Z 13,Z 14,Z 15,Z 16,Z 17,Z 18,Z 19,Z 20,Z 21,Z 22,Z 23,Z 24,Z 25,Z 26,Z 27,Z 28,Z 29,Z 30,Z 31,Z 32,Z 33,Z 34,Z 35,Z 36, .v (.int .i64 (i : Int)), .v (.int .i64 (j : Int)), Z 39,Z 40,Z 41,Z 42,Z 43,Z 44,Z 45,Z 46,Z 47,Z 48,Z 49,Z 50,Z 51]) [] H11 V11 s ∧ p + j = i ∧ V10.le V11 ∧ (∀ k r, k ≠ g → H10 k = some r → H11 k = some r) ∧ MatH H11 V11 g cap rank (rank + m) G11 ∧ REq G10 G11 rank rank ∧ DiaJ G11 rank i j ∧ (∀ a k, a < rank → k < rank + m → QB (ge B' (rank - i)) (G11 a k)) ∧ ∀ a k, a < rank → k < rank + m → j ≤ a → QB (ge B' (rank - (i + 1))) (G11 a k)) i ⟨0, V10, H10, G10, StIs.of (by exact rfl), by omega, View.le_refl _, fun _ _ _ h => h, hM10, REq.refl _ _ _, DiaJ.zero hD10, fun a k h1 h2 => (hQ10 a k h1 h2).mono (ge_mono B' (by omega)), fun a k h1 h2 _ => hQ10 a k h1 h2⟩ ?_
      rintro p s ⟨j, V11, H11, G11, hs, hp, hV11, hoff11, hM11, hE11, hD11, hQ11, hQ12⟩
      obtain ⟨z, rfl⟩ := hs.out
      try dsimp only
      clear hs
      have h7'' := hV11 _ _ h7'
      by_cases hj : j < i
      rotate_left
      · obtain rfl : j = i := by omega
        have b3 : decide ((j : Int) < (j : Int)) = false := decide_eq_false (by omega)
        refine Gx.a (by kernel_rfl) fun K hK => ?_
        simp only [XA, XB, b3]
        refine hK _ ?_
        refine XWP.seq (Gx.f rfl ?_)
        refine XWP.exit ?_
        exact fun f => ⟨V11, H11, G11, StIs.of (by exact rfl), hV11, hoff11, hM11, hE11, hD11.done, hQ11⟩
      have b3 : decide ((j : Int) < (i : Int)) = true := decide_eq_true (by omega)
      refine Gx.a (by kernel_rfl) fun K hK => ?_
      simp only [XA, XB, b3]
      refine hK _ ?_
      refine XWP.seq (Gx.t rfl ?_)
      refine XWP.skip ?_
      refine XWP.seq ?_
      refine XWP.block ?_
      refine Gx.a (by kernel_rfl) fun K hK => ?_
      simp only [XA]
      refine hK _ ?_
      refine Gx.mc 4 hΓ rfl (by kernel_rfl) (by kernel_rfl) fun K hK => ?_
      simp only [XA, Nat.reduceAdd]
      refine ld_mem (ldV3 h7'' shapeT_24 _) ?_
      simp only [XA]
      have hbb := hBB (rank - (i + 1)) (by omega)
      refine mcall_go rfl rfl (clear_m H11 V11 g cap rank (rank + m) i j i (ge B' (rank - (i + 1))) G11 hM11 (by omega) (by omega) (by omega) (by omega) (by omega) (by omega) (hD11.diag i (by omega)) (fun k hk => hQ12 j k (by omega) hk (Nat.le_refl _)) (fun k hk => hQ12 i k (by omega) hk (by omega)) hbb) fun v12 H12 V12 h12 => ?_
      obtain ⟨hV12, hoff12, hM12⟩ := h12
      simp only [XA]
      refine hK _ ?_
      refine Gx.c (by kernel_rfl) fun K hK => ?_
      simp only [XA, XB, i64_succ j (by omega)]
      have hnew : ∀ a k, a < rank → k < rank + m → QB (ge B' (rank - i)) (gsub G11 j i (G11 j i / G11 i i) a k) := fun a k h1 h2 => by
        unfold gsub
        split
        · have d1 := (hQ12 j i (by omega) (by omega) (Nat.le_refl _)).div (hQ12 i i (by omega) (by omega) (by omega))
          exact ((hQ12 j k (by omega) h2 (Nat.le_refl _)).sub (d1.mul (hQ12 i k (by omega) h2 (by omega)))).mono (by rw [hsub]; simp only [ge]; omega)
        · exact hQ11 a k h1 h2
      exact hK _ ⟨p - 1, by omega, fun f => ⟨j + 1, V12, H12, _, StIs.of (by exact rfl), by omega, View.le_trans hV11 hV12, fun k r hk hr' => by rw [hoff12 k hk]; exact hoff11 k r hk hr', hM12, hE11.trans (REq.sub G11 _ (by omega) (by omega) (by omega)), hD11.step hj (by omega), hnew, fun a k h1 h2 h3 => by
        unfold gsub
        rw [if_neg (by omega)]; exact hQ12 a k h1 h2 (by omega)⟩⟩
    rintro s ⟨V11, H11, G11, hs, hV11, hoff11, hM11, hE11, hD11, hQ11⟩
    obtain ⟨z, rfl⟩ := hs.out
    try dsimp only
    clear hs
    have wi : IntKind.i64.wrap ((i : Int) - 1) = (i : Int) - 1 := wrap_id (by omega) (by omega)
    refine Gx.c (by kernel_rfl) fun K hK => ?_
    simp only [XA, XB, wi]
    exact hK _ ⟨i, by omega, fun f => ⟨V11, H11, G11, StIs.of (by exact rfl), by omega, View.le_trans hV10 hV11, fun k r hk hr' => hoff11 k r hk (hoff10 k r hk hr'), hM11, hE10.trans hE11, hD11, hQ11⟩⟩
  rintro s ⟨V10, H10, G10, hs, hV10, hoff10, hM10, hE10, hD10, hQ10⟩
  obtain ⟨z, rfl⟩ := hs.out
  try dsimp only
  clear hs
  have f10 := hoff10 b4 _ (Ne.symm hgb4) f9
  have hgB : ge B' rank = ge B (2 * rank) := by rw [hB', ge_add]; congr 1; omega
  rw [hgB] at hQ10
  have h7 := hV10 _ _ h7
  have h6 := hV10 _ _ h6
  have h3 := hV10 _ _ h3
  obtain ⟨cells', hg', hrow'⟩ := hM10
  refine XWP.pub g _ hg' fun og hog hleg => ?_
  have hRs : Rats _ _ _ := hrow'.pub ratE_ok hog hleg (n := rank * (rank + m)) (c := cap) (flatG_len _ _ _) hgc (by unfold maxLen at hgm; omega)
  have f11 : upd H10 g none b4 = some _ := (upd_off (Ne.symm hgb4)).trans f10
  have h7 := hleg _ _ h7
  have h6 := hleg _ _ h6
  have h3 := hleg _ _ h3
  generalize upd H10 g none = H11 at *
  generalize addV V10 g og = V11 at *
  refine Gx.a (by kernel_rfl) fun K hK => ?_
  simp only [XA]
  refine ld_mem (ldV1 h6 (off := 0) rfl shapeT_3 _) ?_
  simp only [XM, XA]
  refine ld_mem (ldV1 h3 (off := 1) rfl shapeT_3 _) ?_
  simp only [XA]
  refine mkf_go [.pointer (some ⟨b7, 0, none⟩), .pointer (some ⟨b6, 0, none⟩)] rfl ?_
  simp only [XA]
  refine call_own (by kernel_rfl) rfl (filled_o V11 (lb := [.pointer (some ⟨b7, 0, none⟩), .pointer (some ⟨b6, 0, none⟩)]) rank m (fun i k => G10 i (rank + k) / G10 i i) (by kernel_rfl) (by omega) (by omega) fun V' i k hV hi hk => solved2_c V' b7 b6 e7 e6 rank m i k _ G10 (hV _ _ h7) (hV _ _ h6) (hRs.up hV) hn hm hi hk (hD10.diag i hi) fun i k a b => (hQ10 i k a b).qf (by omega)) fun v12 V12 o12 hV12 hs12 hR12 => ?_
  obtain ⟨sl, cells, rfl, hown, hrow⟩ := hR12
  have f12 : addRow H11 o12 b4 = some _ := addRow_off f11 fun g' q e => (hs12 g' q e).1
  have hown2 := own_any (H := H11) hown
  have osl := own_isOne hown2
  have hne : sl.ownBlock ≠ some b4 := fun e => by
    rcases own_parts hown with ⟨rfl, _, _⟩ | ⟨g2, cap2, rfl, hg2, _⟩
    · cases e
    · have : g2 = b4 := by simpa [Value.ownBlock] using e
      exact new_ne (hs12 g2 _ (addRow_only hg2)).1 f11 this.symm
  generalize addRow H11 o12 = H12 at *
  simp only [XA]
  refine st_rowA shapeT_24 (all3 rfl rfl osl) rfl f12 (by simp) ?_
  simp only [XA]
  refine hK _ ?_
  have hown3 : Own (upd H12 b4 (some ⟨e4, splice [.int .i64 0, .int .i64 0, .slice none 0 0] 0 [.int .i64 (rank : Int), .int .i64 (m : Int), sl], 3⟩)) 49 3 sl (rank * m) cells := by
    refine ⟨hown2.1, ?_⟩
    rcases hown2.2 with h | ⟨g2, cap2, rfl, hg2, h⟩
    · exact .inl h
    · exact .inr ⟨g2, cap2, rfl, by rw [upd_off fun e => hne (by rw [e]; rfl)]; exact hg2, h⟩
  refine XWP.pubR ratE_ok hown3 hrow fun H13 V13 hV13 hRw hk13 => ?_
  have f13 := (hk13 b4 hne).trans (upd_at _ _ _)
  refine XWP.ret ?_
  try simp only [thenX_ret, inBlockX_ret]
  refine ret_go _ (by simp [resAll, resV, cellsV, shapeT_24, f13, splice_all]; rfl) ⟨fun h => absurd hu h, fun _ => ⟨sl, _, rfl, hRw, fun c hc => ?_, fun i k hi hk => ?_⟩⟩
  · have h1 := (hE10.col (rank + c) _).1 (hD10.sol fun i => G10 i (rank + c))
    rw [hG0] at h1
    exact aug_lin h1
  · exact ((hQ10 i (rank + k) hi (by omega)).div (hQ10 i i hi (by omega))).mono (by omega)
end Go.Proofs.YtkgmicakfmllmaaGreat
end
section
namespace Go.Proofs.YtkgmicakfmllmaaGreat
open Go Go.RowKit
set_option linter.unusedSimpArgs false
set_option linter.unusedVariables false
attribute [local irreducible] XWP Spec SpecO XPub XCall seqX clX apX stX ldX iaX slX
/-- who comes to whom -/
noncomputable def wR (e : Nat → Nat → Bool) (n i k : Nat) : Bool := @decide (Rch (fun a b => e a b = true) n i k) (Classical.propDecidable _)
theorem wR_iff (e : Nat → Nat → Bool) (n i k : Nat) : wR e n i k = true ↔ Rch (fun a b => e a b = true) n i k := by unfold wR; exact @decide_eq_true_iff _ (Classical.propDecidable _)
def eM (l : List Rat) (n : Nat) : Nat → Nat → Bool := fun a b => decide (cf l (a * n + b) ≠ 0)
def bvs (n : Nat) (r : Nat → Bool) : List Value := (List.range n).map fun k => Value.bool (r k)
def ivs (l : List Nat) : List Value := l.map fun (k : Nat) => Value.int .i64 (k : Int)
theorem bvs_len (n : Nat) (r : Nat → Bool) : (bvs n r).length = n := by simp [bvs]
theorem ivs_len (l : List Nat) : (ivs l).length = l.length := by simp [ivs]
theorem bvs_get {n : Nat} {r : Nat → Bool} {k : Nat} (h : k < n) : (bvs n r)[k]? = some (.bool (r k)) := by simp [bvs, h]
theorem bvs_set {n : Nat} {r : Nat → Bool} {k : Nat} : (bvs n r).set k (.bool true) = bvs n (bset r k) := by
  refine List.ext_getElem? fun j => ?_
  by_cases hj : j < n
  · by_cases e : k = j
    · subst e
      rw [List.getElem?_set_self (by rw [bvs_len]; exact hj), bvs_get hj]
      unfold bset; rw [if_pos rfl]
    · rw [List.getElem?_set_ne e, bvs_get hj, bvs_get hj]
      unfold bset; rw [if_neg (Ne.symm e)]
  · rw [List.getElem?_eq_none (by rw [List.length_set, bvs_len]; omega), List.getElem?_eq_none (by rw [bvs_len]; omega)]
theorem bvs_none (n : Nat) : (List.replicate n [Value.bool false]).flatten = bvs n fun _ => false := by
  rw [flat_one]
  refine List.ext_getElem? fun j => ?_
  by_cases hj : j < n
  · rw [bvs_get hj, List.getElem?_replicate, if_pos hj]
  · rw [List.getElem?_eq_none (by simp; omega), List.getElem?_eq_none (by rw [bvs_len]; omega)]
theorem ldH1 {H : Heap} {V : View} {b e tot : Nat} {cells : List Value} (h : H b = some ⟨e, cells, tot⟩) {i t m : Nat} {u : Value} (hu : cells[i]? = some u) (ht : shapeT Tryz.prog t = some (false, m)) : Loads Tryz.prog H V t b i u :=
  ⟨false, m, ht, .inr ⟨rfl, .inl ⟨_, h, hu⟩⟩⟩
theorem app_keep {H H' : Heap} {V : View} {e sz n : Nat} {v v' : Value} {xs : List Value} (h : AppRes H V e sz v n xs v' H') {b : Nat} {r : Row} (hb : H b = some r) (hv : v.ownBlock ≠ some b) : H' b = some r ∧ v'.ownBlock ≠ some b := by
  obtain ⟨_, h2, h3⟩ := h
  have : v'.ownBlock ≠ some b := fun e => by
    rcases h3 b e with h4 | ⟨h4, _⟩
    · exact hv h4
    · rw [hb] at h4; cases h4
  exact ⟨by rw [h2 b this]; exact hb, this⟩
theorem R1At.bvs (V : View) (n : Nat) (r : Nat → Bool) : R1At booE V (bvs n r) ((List.range n).map r) := by
  refine ⟨by rw [bvs_len]; simp, fun i x hi => ?_⟩
  have hlt : i < n := by
    rcases Nat.lt_or_ge i n with h | h
    · exact h
    · rw [List.getElem?_eq_none (by simpa using h)] at hi; cases hi
  have : x = r i := by simpa [hlt] using hi.symm
  exact ⟨_, bvs_get hlt, rfl, by rw [this]; rfl⟩
theorem own_form {H : Heap} {e sz n : Nat} {v : Value} {xs : List Value} (h : Own H e sz v n xs) : ∃ A c, v = .slice A n c := by
  rcases own_parts h with ⟨rfl, rfl, _⟩ | ⟨b, cap, rfl, _⟩
  · exact ⟨none, 0, rfl⟩
  · exact ⟨_, _, rfl⟩
set_option maxHeartbeats 4000000 in
theorem cways_c (V : View) (s : Value) (n : Nat) (l : List Rat) (h : Rats V s l) (ll : l.length = n * n) (hn : n ≤ 60) :
    Spec Tryz.prog 121 [.agg #[.int .i64 (n : Int), .int .i64 (n : Int), s]] V fun v' V' => Sl1 (Sl1 booE) V' v' (mkB n (wR (eM l n) n)) := by
  obtain ⟨A, c, rfl, hc, hm⟩ := h.form
  have hnn : n * n ≤ 3600 := Nat.le_trans (Nat.mul_le_mul hn hn) (by decide)
  refine (Spec.enter Tryz.func121 rfl fun Γ => ?_)
  simp only [Tryz.ntmps121, List.map_cons, List.map_nil, List.length_cons, List.length_nil, Nat.reduceAdd, Nat.reduceSub, List.replicate_succ, List.replicate_zero, List.cons_append, List.nil_append]
  refine Gx.a (by kernel_rfl) fun K hK => ?_
  simp only [XA]
  refine hK _ ?_
  refine Gx.a (by kernel_rfl) fun K hK => ?_
  simp only [XM, XA, XB]
  refine mk_go rfl rfl elemT_138 zeroT_117 (by omega) (by omega) (by omega) (by omega) rfl (by omega) fun b3 hb1 hb2 => ?_
  simp only [XA, flat_one]
  refine hK _ ?_
  refine XWP.cutD 1 (fun s => ∃ (V2 : View) (H2 : Heap) (outs : List Value), StIs (fun Z => [Z 0,Z 1,Z 2, .v (.slice (some ⟨b3, 0, none⟩) n n), Z 4,Z 5,Z 6,Z 7,Z 8,Z 9,Z 10,Z 11,Z 12,Z 13,Z 14,Z 15,Z 16,Z 17,Z 18,Z 19,Z 20,Z 21,Z 22,Z 23,Z 24,Z 25,Z 26,Z 27,Z 28,Z 29,Z 30,Z 31,Z 32,Z 33,Z 34,Z 35,Z 36,Z 37,Z 38,Z 39,Z 40,Z 41,Z 42,Z 43,Z 44,Z 45,Z 46,Z 47,Z 48,Z 49,Z 50,Z 51,Z 52,Z 53,Z 54,Z 55,Z 56,Z 57,Z 58,Z 59,Z 60,Z 61,Z 62,Z 63,Z 64,Z 65,Z 66,Z 67,Z 68,Z 69,Z 70,Z 71,Z 72,Z 73,Z 74,Z 75,Z 76,Z 77,Z 78]) [[.int .i64 (n : Int), .int .i64 (n : Int), .slice A l.length c]] H2 V2 s ∧ H2 b3 = some ⟨117, outs, n⟩ ∧ outs.length = n ∧ ∀ j, j < n → ∃ v, outs[j]? = some v ∧ Sl1 booE V2 v ((List.range n).map (wR (eM l n) n j))) ?_ ?_
  · refine Gx.a (by kernel_rfl) fun K hK => ?_
    simp only [XN, XA]
    refine hK _ ?_
    clear hK
    refine XWP.block ?_
    refine XWP.loopD 1 (fun q s => ∃ (i : Nat) (V2 : View) (H2 : Heap) (outs : List Value), StIs (fun Z => [Z 0, .p 0 0, Z 2, .v (.slice (some ⟨b3, 0, none⟩) n n), Z 4,Z 5,Z 6,Z 7,Z 8,Z 9,Z 10,Z 11, .v (.int .i64 (n : Int)), .v (.int .i64 (i : Int)), Z 14,Z 15,Z 16,Z 17,Z 18,Z 19,Z 20,Z 21,Z 22,Z 23,Z 24,Z 25,Z 26,Z 27,Z 28,Z 29,Z 30,Z 31,Z 32,Z 33,Z 34,Z 35,Z 36,Z 37,Z 38,Z 39,Z 40,Z 41,Z 42,Z 43,Z 44,Z 45,Z 46,Z 47,Z 48,Z 49,Z 50,Z 51,Z 52,Z 53,Z 54,Z 55,Z 56,Z 57,Z 58,Z 59,Z 60,Z 61,Z 62,Z 63,Z 64,Z 65,Z 66,Z 67,Z 68,Z 69,Z 70,Z 71,Z 72,Z 73,Z 74,Z 75,Z 76,Z 77,Z 78]) [[.int .i64 (n : Int), .int .i64 (n : Int), .slice A l.length c]] H2 V2 s ∧ q + i = n ∧ V.le V2 ∧ H2 b3 = some ⟨117, outs, n⟩ ∧ outs.length = n ∧ ∀ j, j < i → ∃ v, outs[j]? = some v ∧ Sl1 booE V2 v ((List.range n).map (wR (eM l n) n j))) n ⟨0, V, _, _, StIs.of (by exact rfl), by omega, View.le_refl _, upd_at _ _ _, List.length_replicate, fun j hj => by omega⟩ ?_
    rintro q s ⟨i, V2, H2, outs, hs, hq, hV2, hH, hol, hout⟩
    obtain ⟨z, rfl⟩ := hs.out
    try dsimp only
    clear hs
    by_cases hi : i < n
    rotate_left
    · obtain rfl : i = n := by omega
      have b1 : decide ((i : Int) < (i : Int)) = false := decide_eq_false (by omega)
      refine Gx.a (by kernel_rfl) fun K hK => ?_
      simp only [XA, XB, b1]
      refine hK _ ?_
      refine XWP.seq (Gx.f rfl ?_)
      refine XWP.exit ?_
      exact fun f => ⟨V2, H2, outs, StIs.of (by exact rfl), hH, hol, hout⟩
    have b1 : decide ((i : Int) < (n : Int)) = true := decide_eq_true (by omega)
    refine Gx.a (by kernel_rfl) fun K hK => ?_
    simp only [XA, XB, b1]
    refine hK _ ?_
    refine XWP.seq (Gx.t rfl ?_)
    refine XWP.skip ?_
    refine XWP.cutD 1 (fun s => ∃ (V3 : View) (H3 : Heap) (outs : List Value) (bi : Nat) (r : Nat → Bool), StIs (fun Z => [Z 0, .p 0 0, Z 2, .v (.slice (some ⟨b3, 0, none⟩) n n), Z 4,Z 5,Z 6,Z 7,Z 8,Z 9,Z 10,Z 11, .v (.int .i64 (n : Int)), .v (.int .i64 (i : Int)), Z 14,Z 15,Z 16,Z 17,Z 18,Z 19,Z 20,Z 21,Z 22,Z 23,Z 24,Z 25,Z 26,Z 27,Z 28,Z 29,Z 30,Z 31,Z 32,Z 33,Z 34,Z 35,Z 36,Z 37,Z 38,Z 39,Z 40,Z 41,Z 42,Z 43,Z 44,Z 45,Z 46,Z 47,Z 48,Z 49,Z 50,Z 51,Z 52,Z 53,Z 54,Z 55,Z 56,Z 57,Z 58,Z 59,Z 60,Z 61,Z 62,Z 63,Z 64,Z 65,Z 66,Z 67,Z 68,Z 69,Z 70,Z 71,Z 72,Z 73,Z 74,Z 75,Z 76,Z 77,Z 78]) [[.int .i64 (n : Int), .int .i64 (n : Int), .slice A l.length c]] H3 V3 s ∧ V2.le V3 ∧ H3 b3 = some ⟨117, outs, n⟩ ∧ outs.length = n ∧ (∀ j, j < i → ∃ v, outs[j]? = some v ∧ Sl1 booE V3 v ((List.range n).map (wR (eM l n) n j))) ∧ outs[i]? = some (.slice (some ⟨bi, 0, none⟩) n n) ∧ H3 bi = some ⟨4, bvs n r, n⟩ ∧ ∀ k, k < n → r k = wR (eM l n) n i k) ?_ ?_
    · refine XWP.block ?_
      refine Gx.a (by kernel_rfl) fun K hK => ?_
      simp only [XA]
      refine hK _ ?_
      refine Gx.a (by kernel_rfl) fun K hK => ?_
      simp only [XM, XA, XB]
      refine mk_go rfl rfl elemT_117 zeroT_4 (by omega) (by omega) (by omega) (by omega) rfl (by omega) fun bi hbi1 hbi2 => ?_
      have n3i := new_ne hbi1 hH
      simp only [XN, XA, bvs_none]
      refine ⟨by omega, by omega, ?_⟩
      refine st_row shapeT_117 rfl rfl ((upd_off n3i).trans hH) (by dsimp only; omega) ?_
      simp only [XA]
      refine hK _ ?_
      have hl1 : outs.set i (.slice (some ⟨bi, 0, none⟩) n n) = outs.set i (.slice (some ⟨bi, 0, none⟩) n n) := rfl
      have hg1 : (outs.set i (.slice (some ⟨bi, 0, none⟩) n n))[i]? = some (.slice (some ⟨bi, 0, none⟩) n n) := List.getElem?_set_self (by omega)
      refine Gx.a (by kernel_rfl) fun K hK => ?_
      simp only [XN, XA]
      refine ⟨by omega, by omega, ?_⟩
      refine ld_mem (ldH1 (upd_at _ _ _) hg1 shapeT_117) ?_
      simp only [XN, XA, XB]
      refine ⟨by omega, by omega, ?_⟩
      refine st_row shapeT_4 rfl rfl ((upd_off (Ne.symm n3i)).trans (upd_at _ _ _)) (by dsimp only; rw [bvs_len]; omega) ?_
      simp only [XA, bvs_set]
      refine hK _ ?_
      refine Gx.a (by kernel_rfl) fun K hK => ?_
      simp only [XA]
      refine bs_go (by kernel_rfl) #[(0, .int .i64 (i : Int))] (by simp [ev_tmp, SV.val]) (bs_one elemT_34 zeroT_3 rfl) fun bn hbn1 hbn2 => ?_
      simp only [XA]
      refine hK _ ?_
      have f3 : upd (upd (upd (upd H2 bi (some ⟨4, bvs n fun _ => false, n⟩)) b3 (some ⟨117, outs.set i (.slice (some ⟨bi, 0, none⟩) n n), n⟩)) bi (some ⟨4, bvs n (bset (fun _ => false) i), n⟩)) bn (some ⟨3, [.int .i64 (i : Int)], 1⟩) b3 = some ⟨117, outs.set i (.slice (some ⟨bi, 0, none⟩) n n), n⟩ := (upd_off (new_ne hbn1 ((upd_off n3i).trans (upd_at _ _ _)))).trans ((upd_off n3i).trans (upd_at _ _ _))
      have fi : upd (upd (upd (upd H2 bi (some ⟨4, bvs n fun _ => false, n⟩)) b3 (some ⟨117, outs.set i (.slice (some ⟨bi, 0, none⟩) n n), n⟩)) bi (some ⟨4, bvs n (bset (fun _ => false) i), n⟩)) bn (some ⟨3, [.int .i64 (i : Int)], 1⟩) bi = some ⟨4, bvs n (bset (fun _ => false) i), n⟩ := (upd_off (new_ne hbn1 (upd_at _ _ _))).trans (upd_at _ _ _)
      have nn3 : bn ≠ b3 := Ne.symm (new_ne hbn1 ((upd_off n3i).trans (upd_at _ _ _)))
      have nni : bn ≠ bi := Ne.symm (new_ne hbn1 (upd_at _ _ _))
      have fn : upd (upd (upd (upd H2 bi (some ⟨4, bvs n fun _ => false, n⟩)) b3 (some ⟨117, outs.set i (.slice (some ⟨bi, 0, none⟩) n n), n⟩)) bi (some ⟨4, bvs n (bset (fun _ => false) i), n⟩)) bn (some ⟨3, [.int .i64 (i : Int)], 1⟩) bn = some ⟨3, [.int .i64 (i : Int)], 1⟩ := upd_at _ _ _
      generalize upd (upd (upd (upd H2 bi _) b3 _) bi _) bn _ = H4 at *
      have hout2 : ∀ j, j < i → ∃ v, (outs.set i (.slice (some ⟨bi, 0, none⟩) n n))[j]? = some v ∧ Sl1 booE V2 v ((List.range n).map (wR (eM l n) n j)) := fun j hj => by
        rw [List.getElem?_set_ne (by omega)]; exact hout j hj
      have hol2 : (outs.set i (.slice (some ⟨bi, 0, none⟩) n n)).length = n := by rw [List.length_set]; exact hol
      generalize outs.set i (.slice (some ⟨bi, 0, none⟩) n n) = outs2 at *
      clear hbn1 hbn2 hbi1 hbi2 hH hol hout
      have hcn := cntF_le (bset (fun _ => false) i) n
      refine XWP.block ?_
      refine XWP.loopD 1 (fun m s => ∃ (V4 : View) (H4 : Heap) (r : Nat → Bool) (nx : List Nat) (w5 : Value), StIs (fun Z => [Z 0, .p 0 0, Z 2, .v (.slice (some ⟨b3, 0, none⟩) n n), .v (.int .i64 (i : Int)), .v w5, Z 6,Z 7,Z 8,Z 9,Z 10,Z 11, .v (.int .i64 (n : Int)), .v (.int .i64 (i : Int)), Z 14,Z 15,Z 16,Z 17,Z 18,Z 19,Z 20,Z 21,Z 22,Z 23,Z 24,Z 25,Z 26,Z 27,Z 28,Z 29,Z 30,Z 31,Z 32,Z 33,Z 34,Z 35,Z 36,Z 37,Z 38,Z 39,Z 40,Z 41,Z 42,Z 43,Z 44,Z 45,Z 46,Z 47,Z 48,Z 49,Z 50,Z 51,Z 52,Z 53,Z 54,Z 55,Z 56,Z 57,Z 58,Z 59,Z 60,Z 61,Z 62,Z 63,Z 64,Z 65,Z 66,Z 67,Z 68,Z 69,Z 70,Z 71,Z 72,Z 73,Z 74,Z 75,Z 76,Z 77,Z 78]) [[.int .i64 (n : Int), .int .i64 (n : Int), .slice A l.length c]] H4 V4 s ∧ 2 * cntF r n + nx.length ≤ m ∧ m ≤ 200 ∧ V2.le V4 ∧ H4 b3 = some ⟨117, outs2, n⟩ ∧ H4 bi = some ⟨4, bvs n r, n⟩ ∧ Own H4 3 1 w5 nx.length (ivs nx) ∧ w5.ownBlock ≠ some b3 ∧ w5.ownBlock ≠ some bi ∧ DfsI (eM l n) n i r nx) (2 * cntF (bset (fun _ => false) i) n + 1) ⟨V2, H4, _, [i], _, StIs.of (by exact rfl), by simp, by omega, View.le_refl _, f3, fi, ⟨rfl, .inr ⟨bn, 1, rfl, fn, by simp, by unfold maxLen; omega⟩⟩, fun e => nn3 (by simpa [Value.ownBlock] using e), fun e => nni (by simpa [Value.ownBlock] using e), DfsI.start _ hi⟩ ?_
      clear f3 fi fn nn3 nni hcn
      rintro m s ⟨V4, H4, r, nx, w5, hs, hm, hm2, hV4, f3, fi, hown, wn3, wni, hI⟩
      obtain ⟨z, rfl⟩ := hs.out
      try dsimp only
      clear hs
      refine XWP.seq ?_
      rcases List.eq_nil_or_concat nx with rfl | ⟨nx', a0, rfl⟩
      · obtain ⟨A5, c5, rfl⟩ := own_form hown
        refine Gx.a (by kernel_rfl) fun K hK => ?_
        simp only [XN, XA, XB]
        refine hK _ ?_
        refine Gx.f rfl ?_
        refine XWP.exit ?_
        exact fun f => ⟨V4, H4, outs2, bi, r, StIs.of (by exact rfl), hV4, f3, hol2, fun j hj => by obtain ⟨v, h1, h2⟩ := hout2 j hj; exact ⟨v, h1, h2.mono booE_ok hV4⟩, hg1, fi, fun k hk => by
          have := hI.all k hk
          rw [← wR_iff] at this
          cases h1 : r k <;> cases h2 : wR (eM l n) n i k <;> simp_all⟩
      rw [List.concat_eq_append] at *
      have hln : (nx' ++ [a0]).length = nx'.length + 1 := by simp
      rw [hln] at hown hm
      rcases own_parts hown with ⟨_, h0, _⟩ | ⟨bn, cap, rfl, hbn, hle, hcap, _⟩
      · omega
      have eiv : ivs (nx' ++ [a0]) = ivs nx' ++ [.int .i64 (a0 : Int)] := by simp [ivs]
      rw [eiv] at hbn
      have hJ := hI.pop
      have ha0 := hJ.at_.1
      have b2 : decide ((0 : Int) < ((nx'.length + 1 : Nat) : Int)) = true := decide_eq_true (by omega)
      refine Gx.a (by kernel_rfl) fun K hK => ?_
      simp only [XN, XA, XB, b2]
      refine hK _ ?_
      refine Gx.t rfl ?_
      refine XWP.skip ?_
      have w1 : IntKind.i64.wrap (((nx'.length + 1 : Nat) : Int) - 1) = ((nx'.length : Nat) : Int) := by rw [wrap_id (by omega) (by omega)]; omega
      have hga : (ivs nx' ++ [Value.int .i64 (a0 : Int)])[nx'.length]? = some (.int .i64 (a0 : Int)) := by
        rw [List.getElem?_append_right (by rw [ivs_len]; omega), ivs_len]; simp
      refine XWP.block ?_
      refine Gx.a (by kernel_rfl) fun K hK => ?_
      simp only [XN, XA, XB, w1]
      refine ⟨by omega, by omega, ?_⟩
      refine ld_mem (ldH1 hbn (by simpa using hga) shapeT_3) ?_
      simp only [XA]
      refine hK _ ?_
      refine Gx.a (by kernel_rfl) fun K hK => ?_
      simp only [XN, XA, XB, w1]
      refine ⟨by omega, by omega, by omega, ?_⟩
      try simp only [XM, XN, XA, XB, gateX, Nat.reduceAdd, Nat.reduceLeDiff, Nat.reduceSub, Nat.reduceMul, ↓reduceIte, Int.reduceToNat, Int.reduceLE, beq_self_eq_true]
      refine hK _ ?_
      refine XWP.forget bn hbn ?_
      have n3 : b3 ≠ bn := fun e => wn3 (by rw [e]; rfl)
      have ni : bi ≠ bn := fun e => wni (by rw [e]; rfl)
      have f3' : upd H4 bn (some ⟨3, ivs nx', cap * 1⟩) b3 = some ⟨117, outs2, n⟩ := (upd_off n3).trans f3
      have fi' : upd H4 bn (some ⟨3, ivs nx', cap * 1⟩) bi = some ⟨4, bvs n r, n⟩ := (upd_off ni).trans fi
      have hown' : Own (upd H4 bn (some ⟨3, ivs nx', cap * 1⟩)) 3 1 (.slice (some ⟨bn, 0, none⟩) nx'.length cap) nx'.length (ivs nx') := ⟨by rw [ivs_len]; omega, .inr ⟨bn, cap, rfl, upd_at _ _ _, by omega, hcap⟩⟩
      have wn3' : (Value.slice (some ⟨bn, 0, none⟩) nx'.length cap).ownBlock ≠ some b3 := fun e => n3 (by simpa [Value.ownBlock] using e.symm)
      have wni' : (Value.slice (some ⟨bn, 0, none⟩) nx'.length cap).ownBlock ≠ some bi := fun e => ni (by simpa [Value.ownBlock] using e.symm)
      generalize upd H4 bn (some ⟨3, ivs nx', cap * 1⟩) = H5 at *
      generalize Value.slice (some ⟨bn, 0, none⟩) nx'.length cap = w6 at *
      clear hown hbn f3 fi wn3 wni hI eiv hga hln n3 ni
      refine Gx.a (by kernel_rfl) fun K hK => ?_
      simp only [XM, XA, XB]
      refine hK _ ?_
      clear hK
      refine XWP.block ?_
      refine XWP.loopD 1 (fun p s => ∃ (k : Nat) (V5 : View) (H5 : Heap) (r : Nat → Bool) (nx : List Nat) (w5 : Value), StIs (fun Z => [Z 0, .p 0 0, Z 2, .v (.slice (some ⟨b3, 0, none⟩) n n), .v (.int .i64 (i : Int)), .v w5, .v (.int .i64 (a0 : Int)), Z 7,Z 8,Z 9,Z 10,Z 11, .v (.int .i64 (n : Int)), .v (.int .i64 (i : Int)), Z 14,Z 15,Z 16,Z 17,Z 18,Z 19,Z 20,Z 21,Z 22,Z 23,Z 24,Z 25,Z 26,Z 27,Z 28,Z 29,Z 30,Z 31,Z 32,Z 33,Z 34,Z 35,Z 36,Z 37,Z 38,Z 39,Z 40,Z 41,Z 42,Z 43,Z 44, .v (.int .i64 (n : Int)), .v (.int .i64 (k : Int)), Z 47,Z 48,Z 49,Z 50,Z 51,Z 52,Z 53,Z 54,Z 55,Z 56,Z 57,Z 58,Z 59,Z 60,Z 61,Z 62,Z 63,Z 64,Z 65,Z 66,Z 67,Z 68,Z 69,Z 70,Z 71,Z 72,Z 73,Z 74,Z 75,Z 76,Z 77,Z 78]) [[.int .i64 (n : Int), .int .i64 (n : Int), .slice A l.length c]] H5 V5 s ∧ p + k = n ∧ 2 * cntF r n + nx.length + 1 ≤ m ∧ V2.le V5 ∧ H5 b3 = some ⟨117, outs2, n⟩ ∧ H5 bi = some ⟨4, bvs n r, n⟩ ∧ Own H5 3 1 w5 nx.length (ivs nx) ∧ w5.ownBlock ≠ some b3 ∧ w5.ownBlock ≠ some bi ∧ DfsJ (eM l n) n i r nx a0 k) n ⟨0, V4, H5, r, nx', w6, StIs.of (by exact rfl), by omega, by omega, hV4, f3', fi', hown', wn3', wni', hJ⟩ ?_
      clear f3' fi' hown' wn3' wni' hJ hm hV4
      rintro p s ⟨k, V5, H5, r, nx, w5, hs, hp, hm, hV5, f3, fi, hown, wn3, wni, hJ⟩
      obtain ⟨z, rfl⟩ := hs.out
      try dsimp only
      clear hs
      by_cases hk : k < n
      rotate_left
      · obtain rfl : k = n := by omega
        have b4 : decide ((k : Int) < (k : Int)) = false := decide_eq_false (by omega)
        refine Gx.a (by kernel_rfl) fun K hK => ?_
        simp only [XA, XB, b4]
        refine hK _ ?_
        refine XWP.seq (Gx.f rfl ?_)
        refine XWP.exit ?_
        exact ⟨m - 1, by omega, fun f => ⟨V5, H5, r, nx, w5, StIs.of (by exact rfl), by omega, by omega, hV5, f3, fi, hown, wn3, wni, hJ.done⟩⟩
      have b4 : decide ((k : Int) < (n : Int)) = true := decide_eq_true (by omega)
      refine Gx.a (by kernel_rfl) fun K hK => ?_
      simp only [XA, XB, b4]
      refine hK _ ?_
      refine XWP.seq (Gx.t rfl ?_)
      refine XWP.skip ?_
      refine XWP.cutD 1 (fun s => ∃ (V6 : View) (H6 : Heap) (r : Nat → Bool) (nx : List Nat) (w5 : Value), StIs (fun Z => [Z 0, .p 0 0, Z 2, .v (.slice (some ⟨b3, 0, none⟩) n n), .v (.int .i64 (i : Int)), .v w5, .v (.int .i64 (a0 : Int)), Z 7,Z 8,Z 9,Z 10,Z 11, .v (.int .i64 (n : Int)), .v (.int .i64 (i : Int)), Z 14,Z 15,Z 16,Z 17,Z 18,Z 19,Z 20,Z 21,Z 22,Z 23,Z 24,Z 25,Z 26,Z 27,Z 28,Z 29,Z 30,Z 31,Z 32,Z 33,Z 34,Z 35,Z 36,Z 37,Z 38,Z 39,Z 40,Z 41,Z 42,Z 43,Z 44, .v (.int .i64 (n : Int)), .v (.int .i64 (k : Int)), Z 47,Z 48,Z 49,Z 50,Z 51,Z 52,Z 53,Z 54,Z 55,Z 56,Z 57,Z 58,Z 59,Z 60,Z 61,Z 62,Z 63,Z 64,Z 65,Z 66,Z 67,Z 68,Z 69,Z 70,Z 71,Z 72,Z 73,Z 74,Z 75,Z 76,Z 77,Z 78]) [[.int .i64 (n : Int), .int .i64 (n : Int), .slice A l.length c]] H6 V6 s ∧ 2 * cntF r n + nx.length + 1 ≤ m ∧ V2.le V6 ∧ H6 b3 = some ⟨117, outs2, n⟩ ∧ H6 bi = some ⟨4, bvs n r, n⟩ ∧ Own H6 3 1 w5 nx.length (ivs nx) ∧ w5.ownBlock ≠ some b3 ∧ w5.ownBlock ≠ some bi ∧ DfsJ (eM l n) n i r nx a0 (k + 1)) ?_ ?_
      · refine XWP.block ?_
        refine Gx.a (by kernel_rfl) fun K hK => ?_
        simp only [XA]
        refine hK _ ?_
        refine Gx.a (by kernel_rfl) fun K hK => ?_
        simp only [XN, XA]
        refine ⟨by omega, by omega, ?_⟩
        refine ld_mem (ldH1 f3 (by simpa using hg1) shapeT_117) ?_
        simp only [XN, XA, XB]
        refine ⟨by omega, by omega, ?_⟩
        refine ld_mem (ldH1 fi (by simpa using bvs_get (r := r) hk) shapeT_4) ?_
        cases hr : r k
        rotate_left
        · simp only [XA, gateX, ↓reduceIte]
          refine hK _ ?_
          refine Gx.f rfl ?_
          refine XWP.skip ?_
          exact fun f => ⟨V5, H5, r, nx, w5, StIs.of (by exact rfl), hm, hV5, f3, fi, hown, wn3, wni, hJ.skip (.inl hr)⟩
        simp only [XM, XA, gateX, Nat.reduceAdd, Nat.reduceLeDiff, ↓reduceIte, beq_self_eq_true]
        have hp2 := pos_lt ha0 hk
        refine call_go (by kernel_rfl) rfl (ccell_c _ _ _ n a0 k l ((h.up hV2).up hV5) (by omega) hn (by omega) (by omega)) fun v6 V6 hV6 h6 => ?_
        obtain ⟨n6, d6, rfl, hn6, hd6⟩ := h6
        obtain ⟨A6, c6, rfl, _, _⟩ := NatAt.form hn6
        simp only [XA, XB, gateX, ↓reduceIte, beq_self_eq_true]
        by_cases hz : cf l (a0 * n + k) = 0
        · have b5 := dg_of_zero hz
          simp only [b5]
          refine hK _ ?_
          refine Gx.f rfl ?_
          refine XWP.skip ?_
          exact fun f => ⟨V6, H5, r, nx, w5, StIs.of (by exact rfl), hm, View.le_trans hV5 hV6, f3, fi, hown, wn3, wni, hJ.skip (.inr (by unfold eM; exact decide_eq_false (fun h => h hz)))⟩
        have hlen : 0 < (dg (cf l (a0 * n + k)).num.natAbs).length := by
          rcases Nat.eq_zero_or_pos (dg (cf l (a0 * n + k)).num.natAbs).length with e | e
          · exact absurd ((rat_zero_iff _).2 (dg_nil e)) hz
          · exact e
        have b5 : decide ((0 : Int) < ((dg (cf l (a0 * n + k)).num.natAbs).length : Int)) = true := decide_eq_true (by omega)
        simp only [b5]
        refine hK _ ?_
        refine Gx.t rfl ?_
        refine Gx.a (by kernel_rfl) fun K hK => ?_
        simp only [XN, XA]
        refine ⟨by omega, by omega, ?_⟩
        refine ld_mem (ldH1 f3 (by simpa using hg1) shapeT_117) ?_
        simp only [XN, XA, XB]
        refine ⟨by omega, by omega, ?_⟩
        refine st_row shapeT_4 rfl rfl fi (by dsimp only; rw [bvs_len]; omega) ?_
        simp only [XA, bvs_set]
        refine hK _ ?_
        have n3i : b3 ≠ bi := fun e => by rw [e, fi] at f3; cases f3
        have own7 : Own (upd H5 bi (some ⟨4, bvs n (bset r k), n⟩)) 3 1 w5 nx.length (ivs nx) := by
          refine ⟨hown.1, ?_⟩
          rcases hown.2 with h | ⟨g2, cap2, rfl, hg2, h⟩
          · exact .inl h
          · exact .inr ⟨g2, cap2, rfl, by rw [upd_off fun e => wni (by rw [e]; rfl)]; exact hg2, h⟩
        have f3' : upd H5 bi (some ⟨4, bvs n (bset r k), n⟩) b3 = some ⟨117, outs2, n⟩ := (upd_off n3i).trans f3
        have fi' := upd_at H5 bi (some ⟨4, bvs n (bset r k), n⟩)
        generalize upd H5 bi (some ⟨4, bvs n (bset r k), n⟩) = H6 at *
        have hcs := cntF_set hk hr
        refine Gx.c (by kernel_rfl) fun K hK => ?_
        simp only [XA]
        refine bs_go (by kernel_rfl) #[(0, .int .i64 (k : Int))] (by simp [ev_tmp, SV.val]) (bs_one elemT_34 zeroT_3 rfl) fun bq hbq1 hbq2 => ?_
        have f3q := (upd_off (r := some ⟨3, [.int .i64 (k : Int)], 1⟩) (new_ne hbq1 f3')).trans f3'
        have fiq := (upd_off (r := some ⟨3, [.int .i64 (k : Int)], 1⟩) (new_ne hbq1 fi')).trans fi'
        simp only [XA]
        refine ap_go elemT_34 (by kernel_rfl) zeroT_3 rfl (by omega) (own_upd own7 hbq1) (src_one (upd_at _ _ _) rfl) (by omega) (by omega) fun v' H' hres => ?_
        obtain ⟨g3, w3'⟩ := app_keep hres f3q wn3
        obtain ⟨gi, wi'⟩ := app_keep hres fiq wni
        simp only [XA]
        refine hK _ ?_
        have eiv : ivs nx ++ [Value.int .i64 (k : Int)] = ivs (nx ++ [k]) := by simp [ivs]
        have hown8 := hres.1
        rw [eiv] at hown8
        exact fun f => ⟨V6, H', bset r k, nx ++ [k], v', StIs.of (by exact rfl), by simp; omega, View.le_trans hV5 hV6, g3, gi, by simpa using hown8, w3', wi', hJ.push hk (by unfold eM; exact decide_eq_true hz)⟩
      rintro s ⟨V6, H6, r, nx, w5, hs, hm, hV6, f3, fi, hown, wn3, wni, hJ⟩
      obtain ⟨z, rfl⟩ := hs.out
      try dsimp only
      refine Gx.c (by kernel_rfl) fun K hK => ?_
      simp only [XA, XB, i64_succ k (by omega)]
      exact hK _ ⟨p - 1, by omega, fun f => ⟨k + 1, V6, H6, r, nx, w5, StIs.of (by exact rfl), by omega, hm, hV6, f3, fi, hown, wn3, wni, hJ⟩⟩
    rintro s ⟨V3, H3, outs, bi, r, hs, hV3, hH, hol, hout, hoi, hbi, hr⟩
    obtain ⟨z, rfl⟩ := hs.out
    try dsimp only
    clear hs
    have n3i : b3 ≠ bi := fun e => by rw [e, hbi] at hH; cases hH
    refine XWP.pub bi _ hbi fun o ho hle => ?_
    have er : (List.range n).map r = (List.range n).map (wR (eM l n) n i) := List.map_congr_left fun k hk => hr k (List.mem_range.1 hk)
    have hpub := (R1At.bvs V3 n r).pub booE_ok ho hle (n := n) (c := n) (by simp) (Nat.le_refl _) (by omega)
    rw [er] at hpub
    refine Gx.c (by kernel_rfl) fun K hK => ?_
    simp only [XA, XB, i64_succ i (by omega)]
    exact hK _ ⟨q - 1, by omega, fun f => ⟨i + 1, _, _, outs, StIs.of (by exact rfl), by omega, View.le_trans hV2 (View.le_trans hV3 hle), (upd_off n3i).trans hH, hol, fun j hj => by
      by_cases e : j = i
      · subst e; exact ⟨_, hoi, hpub⟩
      · obtain ⟨v, h1, h2⟩ := hout j (by omega)
        exact ⟨v, h1, h2.mono booE_ok hle⟩⟩⟩
  rintro s ⟨V2, H2, outs, hs, hH, hol, hout⟩
  obtain ⟨z, rfl⟩ := hs.out
  try dsimp only
  refine Gx.a (by kernel_rfl) fun K hK => ?_
  simp only [XA]
  refine hK _ (XWP.ret ?_)
  try simp only [thenX_ret, inBlockX_ret]
  have hrow : R1At (Sl1 booE) V2 outs (mkB n (wR (eM l n) n)) := by
    refine ⟨by rw [hol]; simp [mkB], fun i x hx => ?_⟩
    have hlt : i < n := by
      rcases Nat.lt_or_ge i n with h | h
      · exact h
      · rw [List.getElem?_eq_none (by simpa [mkB] using h)] at hx; cases hx
    have : x = (List.range n).map (wR (eM l n) n i) := by simpa [mkB, hlt] using hx.symm
    obtain ⟨v, h1, h2⟩ := hout i hlt
    exact ⟨v, h1, h2.one, by rw [this]; exact h2⟩
  refine ret_pub b3 _ hH fun o ho hle => ret_go _ rfl ?_
  exact hrow.pub (Sl1_ok booE_ok) ho hle (by simp [mkB]) (Nat.le_refl _) (by omega)
end Go.Proofs.YtkgmicakfmllmaaGreat
end
section
namespace Go.Proofs.YtkgmicakfmllmaaGreat
open Go Go.RowKit
set_option linter.unusedSimpArgs false
set_option linter.unusedVariables false
attribute [local irreducible] XWP Spec SpecO XPub XCall seqX clX apX stX ldX iaX slX
def natE : El Nat := fun _ u x => u = .int .i64 (x : Int)
theorem natE_ok : ElOk natE := fun _ _ _ _ _ h => h
theorem R1At.ivs (V : View) (l : List Nat) : R1At natE V (ivs l) l := by
  refine ⟨ivs_len l, fun i x hi => ⟨.int .i64 (x : Int), ?_, rfl, rfl⟩⟩
  have hlt := (List.getElem?_eq_some_iff.1 hi).1
  simp [Go.Proofs.YtkgmicakfmllmaaGreat.ivs, hi]
/-- an own list of one-cell elements is published -/
theorem XWP.pub1 {Γ : Cx} {P : Program} {Q : Exit → XS → Prop} {t : List SV} {bx : List (List Value)} {H : Heap} {V : View} {α : Type} {E : El α} (hE : ElOk E) {c : Code} {e n : Nat} {v : Value} {cells : List Value} {l : List α} (hown : Own H e 1 v n cells) (hrow : R1At E V cells l) (h : ∀ H' V', V.le V' → Sl1 E V' v l → (∀ k, v.ownBlock ≠ some k → H' k = H k) → XWP Γ P c Q ⟨t, bx, H', V'⟩) : XWP Γ P c Q ⟨t, bx, H, V⟩ := by
  have h1 := hown.1
  have h2 := hrow.1
  have hl : l.length = n := by omega
  rcases own_parts hown with ⟨rfl, h0, _⟩ | ⟨g, cap, rfl, hg, hle, hcap, _⟩
  · refine h H V (View.le_refl _) ?_ fun _ _ => rfl
    rw [List.length_eq_zero_iff.1 (show l.length = 0 by omega)]; exact Sl1.nil V
  · refine XWP.pub g _ hg fun o ho hle' => h _ _ hle' (hrow.pub hE ho hle' hl hle (by unfold maxLen at hcap; omega)) fun k hk => ?_
    exact upd_off fun e => hk (by rw [e]; rfl)
theorem ways_at {V : View} {b o c n : Nat} {w : Nat → Nat → Bool} (h : Sl1 (Sl1 booE) V (.slice (some ⟨b, o, none⟩) n c) (mkB n w)) {i k : Nat} (hi : i < n) (hk : k < n) :
    ∃ b' o' c', (∀ H, Loads Tryz.prog H V 117 b (o + i) (.slice (some ⟨b', o', none⟩) n c')) ∧ (∀ H, Loads Tryz.prog H V 4 b' (o' + k) (.bool (w i k))) := by
  obtain ⟨u, h1, _, h2⟩ := h.load i (by simp [mkB]; exact hi)
  have e : (mkB n w)[i]'(by simp [mkB]; exact hi) = (List.range n).map (w i) := by simp [mkB]
  rw [e] at h1
  obtain ⟨A, c', rfl, _, _⟩ := h1.form
  obtain ⟨b', o', rfl⟩ := h1.addr (by simp; omega)
  obtain ⟨u', g1, _, g2⟩ := Sl1.load (n := ((List.range n).map (w i)).length) h1 k (by simp; exact hk)
  have e2 : ((List.range n).map (w i))[k]'(by simp; exact hk) = w i k := by simp
  rw [e2] at g1
  cases g1
  refine ⟨b', o', c', fun H => ?_, fun H => g2 H _ _ shapeT_4⟩
  have := h2 H _ _ shapeT_117
  simpa using this
def shutC (w : Nat → Nat → Bool) (op : Nat → Bool) (n i : Nat) : Bool := (List.range n).all fun k => !w i k || (w k i && !op k && decide (i ≤ k))
def shutP (w : Nat → Nat → Bool) (op : Nat → Bool) (n m : Nat) : List (List Nat) := (List.range m).filterMap fun i => if shutC w op n i = true then some ((List.range n).filter (w i)) else none
theorem shutP_yes {w : Nat → Nat → Bool} {op : Nat → Bool} {n m : Nat} (h : shutC w op n m = true) : shutP w op n (m + 1) = shutP w op n m ++ [(List.range n).filter (w m)] := by
  unfold shutP; rw [List.range_succ, List.filterMap_append]; simp [h]
theorem shutP_no {w : Nat → Nat → Bool} {op : Nat → Bool} {n m : Nat} (h : shutC w op n m = false) : shutP w op n (m + 1) = shutP w op n m := by
  unfold shutP; rw [List.range_succ, List.filterMap_append]; simp [h]
theorem shutC_no {w : Nat → Nat → Bool} {op : Nat → Bool} {n i k : Nat} (hk : k < n) (h : (!w i k || (w k i && !op k && decide (i ≤ k))) = false) : shutC w op n i = false := by
  unfold shutC
  rw [List.all_eq_false]
  exact ⟨k, List.mem_range.2 hk, by rw [h]; simp⟩
theorem shutP_len (w : Nat → Nat → Bool) (op : Nat → Bool) (n m : Nat) : (shutP w op n m).length ≤ m := by
  have := List.length_filterMap_le (fun i => if shutC w op n i = true then some ((List.range n).filter (w i)) else none) (List.range m)
  rwa [List.length_range] at this
set_option maxHeartbeats 4000000 in
theorem cshut_c (V : View) (vw vo : Value) (n : Nat) (w : Nat → Nat → Bool) (op : Nat → Bool) (hw : Sl1 (Sl1 booE) V vw (mkB n w)) (ho : Sl1 booE V vo ((List.range n).map op)) (hn : n ≤ 60) :
    Spec Tryz.prog 120 [vw, vo] V fun v' V' => Sl1 (Sl1 natE) V' v' (shutL w op n) := by
  obtain ⟨A1, c1, rfl, hc1, hm1⟩ := hw.form
  obtain ⟨A2, c2, rfl, hc2, hm2⟩ := ho.form
  have lw : (mkB n w).length = n := by simp [mkB]
  have lo : ((List.range n).map op).length = n := by simp
  rw [lw] at hw hc1 ⊢
  rw [lo] at ho hc2 ⊢
  refine (Spec.enter Tryz.func120 rfl fun Γ => ?_)
  simp only [Tryz.ntmps120, List.map_cons, List.map_nil, List.length_cons, List.length_nil, Nat.reduceAdd, Nat.reduceSub, List.replicate_succ, List.replicate_zero, List.cons_append, List.nil_append]
  refine Gx.a (by kernel_rfl) fun K hK => ?_
  simp only [XA]
  refine hK _ ?_
  refine XWP.scope (fun _ _ h => h) ?_
  refine Gx.a (by kernel_rfl) fun K hK => ?_
  simp only [XA]
  refine hK _ ?_
  refine XWP.seq (XWP.label ?_)
  refine XWP.cutD 0 (fun s => ∃ (V2 : View) (H2 : Heap) (wo : Value) (outs : List Value), StIs (fun Z => [Z 0,Z 1,Z 2,Z 3,Z 4, .v wo, Z 6,Z 7,Z 8,Z 9,Z 10,Z 11,Z 12,Z 13,Z 14,Z 15,Z 16,Z 17,Z 18,Z 19,Z 20,Z 21,Z 22,Z 23,Z 24,Z 25,Z 26,Z 27,Z 28,Z 29,Z 30,Z 31,Z 32,Z 33,Z 34,Z 35,Z 36,Z 37,Z 38,Z 39,Z 40,Z 41,Z 42,Z 43,Z 44,Z 45,Z 46,Z 47,Z 48,Z 49,Z 50,Z 51,Z 52,Z 53,Z 54,Z 55,Z 56]) [] H2 V2 s ∧ Own H2 34 1 wo (shutL w op n).length outs ∧ R1At (Sl1 natE) V2 outs (shutL w op n)) ?_ ?_
  · refine Gx.a (by kernel_rfl) fun K hK => ?_
    simp only [XN, XA]
    refine hK _ ?_
    clear hK
    refine XWP.block ?_
    refine XWP.loopD 0 (fun q s => ∃ (i : Nat) (V2 : View) (H2 : Heap) (wo : Value) (outs : List Value), StIs (fun Z => [.v (.slice A1 n c1), .v (.slice A2 n c2), Z 2,Z 3,Z 4, .v wo, Z 6,Z 7,Z 8,Z 9, .v (.int .i64 (n : Int)), .v (.int .i64 (i : Int)), Z 12,Z 13,Z 14,Z 15,Z 16,Z 17,Z 18,Z 19,Z 20,Z 21,Z 22,Z 23,Z 24,Z 25,Z 26,Z 27,Z 28,Z 29,Z 30,Z 31,Z 32,Z 33,Z 34,Z 35,Z 36,Z 37,Z 38,Z 39,Z 40,Z 41,Z 42,Z 43,Z 44,Z 45,Z 46,Z 47,Z 48,Z 49,Z 50,Z 51,Z 52,Z 53,Z 54,Z 55,Z 56]) [] H2 V2 s ∧ q + i = n ∧ V.le V2 ∧ Own H2 34 1 wo (shutP w op n i).length outs ∧ R1At (Sl1 natE) V2 outs (shutP w op n i)) n ⟨0, V, _, _, [], StIs.of (by exact rfl), by omega, View.le_refl _, own_nil, R1At.nil _⟩ ?_
    rintro q s ⟨i, V2, H2, wo, outs, hs, hq, hV2, hown, hrow⟩
    obtain ⟨z, rfl⟩ := hs.out
    try dsimp only
    clear hs
    by_cases hi : i < n
    rotate_left
    · obtain rfl : i = n := by omega
      have b1 : decide ((i : Int) < (i : Int)) = false := decide_eq_false (by omega)
      refine Gx.a (by kernel_rfl) fun K hK => ?_
      simp only [XA, XB, b1]
      refine hK _ ?_
      refine XWP.seq (Gx.f rfl ?_)
      refine XWP.exit ?_
      exact fun f => ⟨V2, H2, wo, outs, StIs.of (by exact rfl), hown, hrow⟩
    have b1 : decide ((i : Int) < (n : Int)) = true := decide_eq_true (by omega)
    refine Gx.a (by kernel_rfl) fun K hK => ?_
    simp only [XA, XB, b1]
    refine hK _ ?_
    refine XWP.seq (Gx.t rfl ?_)
    refine XWP.skip ?_
    obtain ⟨ba, oa, rfl⟩ := hw.addr (by omega)
    obtain ⟨bo, oo, rfl⟩ := ho.addr (by omega)
    refine XWP.cutD 0 (fun s => ∃ (V3 : View) (H3 : Heap) (wo : Value) (outs : List Value), StIs (fun Z => [.v (.slice (some ⟨ba, oa, none⟩) n c1), .v (.slice (some ⟨bo, oo, none⟩) n c2), Z 2,Z 3,Z 4, .v wo, Z 6,Z 7,Z 8,Z 9, .v (.int .i64 (n : Int)), .v (.int .i64 (i : Int)), Z 12,Z 13,Z 14,Z 15,Z 16,Z 17,Z 18,Z 19,Z 20,Z 21,Z 22,Z 23,Z 24,Z 25,Z 26,Z 27,Z 28,Z 29,Z 30,Z 31,Z 32,Z 33,Z 34,Z 35,Z 36,Z 37,Z 38,Z 39,Z 40,Z 41,Z 42,Z 43,Z 44,Z 45,Z 46,Z 47,Z 48,Z 49,Z 50,Z 51,Z 52,Z 53,Z 54,Z 55,Z 56]) [] H3 V3 s ∧ V2.le V3 ∧ Own H3 34 1 wo (shutP w op n (i + 1)).length outs ∧ R1At (Sl1 natE) V3 outs (shutP w op n (i + 1))) ?_ ?_
    · refine XWP.block ?_
      refine Gx.a (by kernel_rfl) fun K hK => ?_
      simp only [XA]
      refine hK _ ?_
      refine Gx.a (by kernel_rfl) fun K hK => ?_
      simp only [XA]
      refine hK _ ?_
      refine XWP.cutD 0 (fun s => ∃ (H3 : Heap) (w7 : Value), StIs (fun Z => [.v (.slice (some ⟨ba, oa, none⟩) n c1), .v (.slice (some ⟨bo, oo, none⟩) n c2), Z 2,Z 3,Z 4, .v wo, .v (.int .i64 (i : Int)), .v w7, Z 8,Z 9, .v (.int .i64 (n : Int)), .v (.int .i64 (i : Int)), Z 12,Z 13,Z 14,Z 15,Z 16,Z 17,Z 18,Z 19,Z 20,Z 21,Z 22,Z 23,Z 24,Z 25,Z 26,Z 27,Z 28,Z 29,Z 30,Z 31,Z 32,Z 33,Z 34,Z 35,Z 36,Z 37,Z 38,Z 39,Z 40,Z 41,Z 42,Z 43,Z 44,Z 45,Z 46,Z 47,Z 48,Z 49,Z 50,Z 51,Z 52,Z 53,Z 54,Z 55,Z 56]) [] H3 V2 s ∧ Own H3 34 1 wo (shutP w op n i).length outs ∧ Own H3 3 1 w7 ((List.range n).filter (w i)).length (ivs ((List.range n).filter (w i))) ∧ shutC w op n i = true) ?_ ?_
      · refine Gx.a (by kernel_rfl) fun K hK => ?_
        simp only [XN, XA]
        refine hK _ ?_
        clear hK
        refine XWP.block ?_
        refine XWP.loopD 0 (fun p s => ∃ (k : Nat) (H3 : Heap) (w7 : Value), StIs (fun Z => [.v (.slice (some ⟨ba, oa, none⟩) n c1), .v (.slice (some ⟨bo, oo, none⟩) n c2), Z 2,Z 3,Z 4, .v wo, .v (.int .i64 (i : Int)), .v w7, Z 8,Z 9, .v (.int .i64 (n : Int)), .v (.int .i64 (i : Int)), Z 12,Z 13,Z 14, .v (.int .i64 (n : Int)), .v (.int .i64 (k : Int)), Z 17,Z 18,Z 19,Z 20,Z 21,Z 22,Z 23,Z 24,Z 25,Z 26,Z 27,Z 28,Z 29,Z 30,Z 31,Z 32,Z 33,Z 34,Z 35,Z 36,Z 37,Z 38,Z 39,Z 40,Z 41,Z 42,Z 43,Z 44,Z 45,Z 46,Z 47,Z 48,Z 49,Z 50,Z 51,Z 52,Z 53,Z 54,Z 55,Z 56]) [] H3 V2 s ∧ p + k = n ∧ Own H3 34 1 wo (shutP w op n i).length outs ∧ Own H3 3 1 w7 ((List.range k).filter (w i)).length (ivs ((List.range k).filter (w i))) ∧ ((List.range k).all fun k => !w i k || (w k i && !op k && decide (i ≤ k))) = true) n ⟨0, H2, _, StIs.of (by exact rfl), by omega, hown, own_nil, rfl⟩ ?_
        clear hown
        rintro p s ⟨k, H3, w7, hs, hp, hown, hown7, hall⟩
        obtain ⟨z, rfl⟩ := hs.out
        try dsimp only
        clear hs
        by_cases hk : k < n
        rotate_left
        · obtain rfl : k = n := by omega
          have b2 : decide ((k : Int) < (k : Int)) = false := decide_eq_false (by omega)
          refine Gx.a (by kernel_rfl) fun K hK => ?_
          simp only [XA, XB, b2]
          refine hK _ ?_
          refine XWP.seq (Gx.f rfl ?_)
          refine XWP.exit ?_
          exact fun f => ⟨H3, w7, StIs.of (by exact rfl), hown, hown7, hall⟩
        have b2 : decide ((k : Int) < (n : Int)) = true := decide_eq_true (by omega)
        refine Gx.a (by kernel_rfl) fun K hK => ?_
        simp only [XA, XB, b2]
        refine hK _ ?_
        refine XWP.seq (Gx.t rfl ?_)
        refine XWP.skip ?_
        obtain ⟨b5, o5, c5, l5, l6⟩ := ways_at (hw.mono (Sl1_ok booE_ok) hV2) hi hk
        obtain ⟨b7, o7, c7, l7, l8⟩ := ways_at (hw.mono (Sl1_ok booE_ok) hV2) hk hi
        obtain ⟨u9, g9, _, l9⟩ := Sl1.load (ho.mono booE_ok hV2) k (by simp; exact hk)
        have e9 : ((List.range n).map op)[k]'(by simp; exact hk) = op k := by simp
        rw [e9] at g9
        cases g9
        have l9 := fun H => l9 H _ _ shapeT_4
        have esuc : (List.range (k + 1)).all (fun k => !w i k || (w k i && !op k && decide (i ≤ k))) = (!w i k || (w k i && !op k && decide (i ≤ k))) := by rw [List.range_succ, List.all_append, hall]; simp
        refine XWP.cutD 0 (fun s => ∃ (H3 : Heap) (w7 : Value), StIs (fun Z => [.v (.slice (some ⟨ba, oa, none⟩) n c1), .v (.slice (some ⟨bo, oo, none⟩) n c2), Z 2,Z 3,Z 4, .v wo, .v (.int .i64 (i : Int)), .v w7, Z 8,Z 9, .v (.int .i64 (n : Int)), .v (.int .i64 (i : Int)), Z 12,Z 13,Z 14, .v (.int .i64 (n : Int)), .v (.int .i64 (k : Int)), Z 17,Z 18,Z 19,Z 20,Z 21,Z 22,Z 23,Z 24,Z 25,Z 26,Z 27,Z 28,Z 29,Z 30,Z 31,Z 32,Z 33,Z 34,Z 35,Z 36,Z 37,Z 38,Z 39,Z 40,Z 41,Z 42,Z 43,Z 44,Z 45,Z 46,Z 47,Z 48,Z 49,Z 50,Z 51,Z 52,Z 53,Z 54,Z 55,Z 56]) [] H3 V2 s ∧ Own H3 34 1 wo (shutP w op n i).length outs ∧ Own H3 3 1 w7 ((List.range (k + 1)).filter (w i)).length (ivs ((List.range (k + 1)).filter (w i))) ∧ ((List.range (k + 1)).all fun k => !w i k || (w k i && !op k && decide (i ≤ k))) = true) ?_ ?_
        · refine XWP.block ?_
          refine Gx.a (by kernel_rfl) fun K hK => ?_
          simp only [XA]
          refine hK _ ?_
          refine XWP.seq ?_
          cases hwik : w i k
          · rw [hwik] at l6
            refine Gx.a (by kernel_rfl) fun K hK => ?_
            simp only [XN, XA]
            refine ⟨by omega, by omega, ?_⟩
            refine ld_mem (by simpa using l5 _) ?_
            simp only [XN, XA, XB]
            refine ⟨by omega, by omega, ?_⟩
            refine ld_mem (by simpa using l6 _) ?_
            simp only [XA]
            refine hK _ ?_
            refine Gx.t rfl ?_
            refine XWP.exit ?_
            exact fun f => ⟨H3, w7, StIs.of (by exact rfl), hown, by rw [List.range_succ, List.filter_append]; simpa [hwik] using hown7, by rw [esuc, hwik]; rfl⟩
          rw [hwik] at l6
          refine Gx.a (by kernel_rfl) fun K hK => ?_
          simp only [XN, XA]
          refine ⟨by omega, by omega, ?_⟩
          refine ld_mem (by simpa using l5 _) ?_
          simp only [XN, XA, XB]
          refine ⟨by omega, by omega, ?_⟩
          refine ld_mem (by simpa using l6 _) ?_
          simp only [XA]
          refine hK _ ?_
          refine Gx.f rfl ?_
          refine XWP.skip ?_
          refine XWP.seq ?_
          have bad : (w k i && !op k && decide (i ≤ k)) = false → ∀ f : Nat → Nat → Value, ∃ (V3 : View) (H3' : Heap) (wo' : Value) (outs' : List Value), V3 = V2 ∧ H3' = H3 ∧ wo' = wo ∧ V2.le V3 ∧ Own H3' 34 1 wo' (shutP w op n (i + 1)).length outs' ∧ R1At (Sl1 natE) V3 outs' (shutP w op n (i + 1)) := fun hb f => by
            have hno := shutC_no (w := w) (op := op) (i := i) hk (by rw [hwik, hb]; rfl)
            exact ⟨V2, H3, wo, outs, rfl, rfl, rfl, View.le_refl _, by rw [shutP_no hno]; exact hown, by rw [shutP_no hno]; exact hrow⟩
          cases hwki : w k i
          · rw [hwki] at l8 bad
            refine Gx.a (by kernel_rfl) fun K hK => ?_
            simp only [XN, XA]
            refine ⟨by omega, by omega, ?_⟩
            refine ld_mem (by simpa using l7 _) ?_
            simp only [XN, XA, XB]
            refine ⟨by omega, by omega, ?_⟩
            refine ld_mem (by simpa using l8 _) ?_
            simp only [XA, gateX, ↓reduceIte]
            refine hK _ ?_
            refine Gx.t rfl ?_
            refine XWP.exit ?_
            exact fun f => by obtain ⟨V3, H3', wo', outs', rfl, rfl, rfl, h1, h2, h3⟩ := bad rfl f; exact ⟨V3, H3', wo', outs', StIs.of (by exact rfl), h1, h2, h3⟩
          rw [hwki] at l8 bad
          refine Gx.a (by kernel_rfl) fun K hK => ?_
          simp only [XN, XA]
          refine ⟨by omega, by omega, ?_⟩
          refine ld_mem (by simpa using l7 _) ?_
          simp only [XN, XA, XB]
          refine ⟨by omega, by omega, ?_⟩
          refine ld_mem (by simpa using l8 _) ?_
          simp only [XN, XA, XB, gateX, ↓reduceIte, beq_self_eq_true]
          refine ⟨by omega, by omega, ?_⟩
          refine ld_mem (by simpa using l9 _) ?_
          cases hop : op k
          rotate_left
          · rw [hop] at bad
            simp only [XA, gateX, ↓reduceIte]
            refine hK _ ?_
            refine Gx.t rfl ?_
            refine XWP.exit ?_
            exact fun f => by obtain ⟨V3, H3', wo', outs', rfl, rfl, rfl, h1, h2, h3⟩ := bad rfl f; exact ⟨V3, H3', wo', outs', StIs.of (by exact rfl), h1, h2, h3⟩
          rw [hop] at bad
          by_cases hki : k < i
          · have b5 : decide ((k : Int) < (i : Int)) = true := decide_eq_true (by omega)
            simp only [XA, XB, gateX, ↓reduceIte, beq_self_eq_true, b5]
            refine hK _ ?_
            refine Gx.t rfl ?_
            refine XWP.exit ?_
            exact fun f => by obtain ⟨V3, H3', wo', outs', rfl, rfl, rfl, h1, h2, h3⟩ := bad (by rw [decide_eq_false (by omega)]; rfl) f; exact ⟨V3, H3', wo', outs', StIs.of (by exact rfl), h1, h2, h3⟩
          have b5 : decide ((k : Int) < (i : Int)) = false := decide_eq_false (by omega)
          simp only [XA, XB, gateX, ↓reduceIte, beq_self_eq_true, b5]
          refine hK _ ?_
          refine Gx.f rfl ?_
          refine XWP.skip ?_
          have hlk : ((List.range k).filter (w i)).length ≤ 60 := by
            have := List.length_filter_le (w i) (List.range k)
            rw [List.length_range] at this; omega
          refine Gx.c (by kernel_rfl) fun K hK => ?_
          simp only [XA]
          refine bs_go (by kernel_rfl) #[(0, .int .i64 (k : Int))] (by simp [ev_tmp, SV.val]) (bs_one elemT_34 zeroT_3 rfl) fun bq hbq1 hbq2 => ?_
          simp only [XA]
          have hdj : ∀ b, wo.ownBlock = some b → w7.ownBlock ≠ some b := fun b e1 e2 => by
            rcases own_parts hown with ⟨rfl, _, _⟩ | ⟨g, cap, rfl, hg, _⟩
            · cases e1
            · rcases own_parts hown7 with ⟨rfl, _, _⟩ | ⟨g', cap', rfl, hg', _⟩
              · cases e2
              · have h1 : g = b := by simpa [Value.ownBlock] using e1
                have h2 : g' = b := by simpa [Value.ownBlock] using e2
                rw [h1] at hg; rw [h2, hg] at hg'; cases hg'
          refine ap_go elemT_34 (by kernel_rfl) zeroT_3 rfl (by omega) (own_upd hown7 hbq1) (src_one (upd_at _ _ _) rfl) (by omega) (by omega) fun v' H' hres => ?_
          have howno : Own H' 34 1 wo (shutP w op n i).length outs := by
            have h0 := own_upd (r := some ⟨3, [.int .i64 (k : Int)], 1⟩) hown hbq1
            refine ⟨h0.1, ?_⟩
            rcases h0.2 with h | ⟨g, cap, e, hg, h⟩
            · exact .inl h
            · exact .inr ⟨g, cap, e, (app_keep hres hg (hdj g (by rw [e]; rfl))).1, h⟩
          simp only [XA]
          refine hK _ ?_
          have ef : (List.range (k + 1)).filter (w i) = (List.range k).filter (w i) ++ [k] := by rw [List.range_succ, List.filter_append]; simp [hwik]
          have eiv : ivs ((List.range k).filter (w i)) ++ [Value.int .i64 (k : Int)] = ivs ((List.range k).filter (w i) ++ [k]) := by simp [ivs]
          have hown8 := hres.1
          rw [eiv] at hown8
          exact fun f => ⟨H', v', StIs.of (by exact rfl), howno, by rw [ef]; simpa using hown8, by rw [esuc, hwik, hwki, hop, decide_eq_true (by omega)]; rfl⟩
        rintro s ⟨H3, w7, hs, hown, hown7, hall⟩
        obtain ⟨z, rfl⟩ := hs.out
        try dsimp only
        refine Gx.c (by kernel_rfl) fun K hK => ?_
        simp only [XA, XB, i64_succ k (by omega)]
        exact hK _ ⟨p - 1, by omega, fun f => ⟨k + 1, H3, w7, StIs.of (by exact rfl), by omega, hown, hown7, hall⟩⟩
      clear hown
      rintro s ⟨H3, w7, hs, hown, hown7, hyes⟩
      obtain ⟨z, rfl⟩ := hs.out
      try dsimp only
      clear hs
      have hdj : ∀ b, wo.ownBlock = some b → w7.ownBlock ≠ some b := fun b e1 e2 => by
        rcases own_parts hown with ⟨rfl, _, _⟩ | ⟨g, cap, rfl, hg, _⟩
        · cases e1
        · rcases own_parts hown7 with ⟨rfl, _, _⟩ | ⟨g', cap', rfl, hg', _⟩
          · cases e2
          · have h1 : g = b := by simpa [Value.ownBlock] using e1
            have h2 : g' = b := by simpa [Value.ownBlock] using e2
            rw [h1] at hg; rw [h2, hg] at hg'; cases hg'
      refine XWP.pub1 natE_ok hown7 (R1At.ivs V2 _) fun H4 V4 hV4 hs7 hk4 => ?_
      have hown4 : Own H4 34 1 wo (shutP w op n i).length outs := by
        refine ⟨hown.1, ?_⟩
        rcases hown.2 with h | ⟨g, cap, e, hg, h⟩
        · exact .inl h
        · exact .inr ⟨g, cap, e, by rw [hk4 g (hdj g (by rw [e]; rfl))]; exact hg, h⟩
      have o7 := hs7.one
      have hle := shutP_len w op n i
      refine Gx.c (by kernel_rfl) fun K hK => ?_
      simp only [XA]
      refine bs_go (by kernel_rfl) #[(0, w7)] (by simp [ev_tmp, SV.val]) (bs_one elemT_26 zeroT_34 o7) fun bq hbq1 hbq2 => ?_
      simp only [XA]
      refine ap_go elemT_26 (by kernel_rfl) zeroT_34 rfl (by omega) (own_upd hown4 hbq1) (src_one (upd_at _ _ _) o7) (by omega) (by omega) fun v' H' hres => ?_
      simp only [XA]
      refine hK _ ?_
      have hrow' := (hrow.mono (Sl1_ok natE_ok) hV4).snoc o7 hs7
      have hown8 := hres.1
      rw [← shutP_yes hyes] at hrow'
      have el : (shutP w op n (i + 1)).length = (shutP w op n i).length + 1 := by rw [shutP_yes hyes]; simp
      exact fun f => ⟨V4, H', v', outs ++ [w7], StIs.of (by exact rfl), hV4, by rw [el]; exact hown8, hrow'⟩
    clear hown hrow
    rintro s ⟨V3, H3, wo, outs, hs, hV3, hown, hrow⟩
    obtain ⟨z, rfl⟩ := hs.out
    try dsimp only
    refine Gx.c (by kernel_rfl) fun K hK => ?_
    simp only [XA, XB, i64_succ i (by omega)]
    exact hK _ ⟨q - 1, by omega, fun f => ⟨i + 1, V3, H3, wo, outs, StIs.of (by exact rfl), by omega, View.le_trans hV2 hV3, hown, hrow⟩⟩
  rintro s ⟨V2, H2, wo, outs, hs, hown, hrow⟩
  obtain ⟨z, rfl⟩ := hs.out
  try dsimp only
  refine Gx.a (by kernel_rfl) fun K hK => ?_
  simp only [XA]
  refine hK _ ?_
  refine XWP.pub1 (Sl1_ok natE_ok) hown hrow fun H4 V4 hV4 hs4 _ => ?_
  refine XWP.ret ?_
  try simp only [thenX_ret, inBlockX_ret]
  exact ret_go _ rfl hs4
end Go.Proofs.YtkgmicakfmllmaaGreat
end
section
namespace Go.Proofs.YtkgmicakfmllmaaGreat
open Go Go.RowKit
set_option linter.unusedSimpArgs false
set_option linter.unusedVariables false
attribute [local irreducible] XWP Spec SpecO XPub XCall seqX clX apX stX ldX iaX slX
def zs (l : List Nat) : List Int := l.map fun (k : Nat) => (k : Int)
theorem Sl1.ints {V : View} {v : Value} {l : List Nat} (h : Sl1 natE V v l) : Sl1 intE V v (zs l) := by
  obtain ⟨A, c, rfl, h1, h2, h3⟩ := h
  refine ⟨A, c, by simp [zs], by simpa [zs] using h1, h2, ?_⟩
  rcases h3 with rfl | ⟨b, o, arr, ty, fr, rfl, hb, hx⟩
  · exact .inl rfl
  · refine .inr ⟨b, o, arr, ty, fr, rfl, hb, fun i x hi => ?_⟩
    unfold zs at hi
    rw [List.getElem?_map] at hi
    cases e : l[i]? with
    | none => rw [e] at hi; cases hi
    | some y =>
      rw [e] at hi
      cases hi
      exact hx i y e
theorem equal_c (V : View) (v u : Value) (l m : List Int) (hv : Sl1 intE V v l) (hu : Sl1 intE V u m) (ll : l.length ≤ 1000000) (lm : m.length ≤ 1000000) : Spec Tryz.prog 84 [v, u] V fun v' V' => v' = .bool (decide (l = m)) := by
  obtain ⟨A1, c1, rfl, hc1, hm1⟩ := hv.form
  obtain ⟨A2, c2, rfl, hc2, hm2⟩ := hu.form
  refine (Spec.enter Tryz.func84 rfl fun Γ => ?_)
  simp only [Tryz.ntmps84, List.map_cons, List.map_nil, List.length_cons, List.length_nil, Nat.reduceAdd, Nat.reduceSub, List.replicate_succ, List.replicate_zero, List.cons_append, List.nil_append]
  refine Gx.a (by kernel_rfl) fun K hK => ?_
  simp only [XA]
  refine hK _ ?_
  refine XWP.seq ?_
  by_cases hlen : l.length = m.length
  rotate_left
  · have b1 : decide ((l.length : Int) = (m.length : Int)) = false := decide_eq_false (by omega)
    refine Gx.a (by kernel_rfl) fun K hK => ?_
    simp only [XN, XA, XB, b1]
    refine hK _ ?_
    refine Gx.t rfl ?_
    refine Gx.a (by kernel_rfl) fun K hK => ?_
    simp only [XA]
    refine hK _ (XWP.ret ?_)
    try simp only [thenX_ret, inBlockX_ret]
    refine ret_go _ rfl ?_
    rw [decide_eq_false (fun e => hlen (by rw [e]))]; rfl
  have b1 : decide ((l.length : Int) = (m.length : Int)) = true := decide_eq_true (by omega)
  refine Gx.a (by kernel_rfl) fun K hK => ?_
  simp only [XN, XA, XB, b1]
  refine hK _ ?_
  refine Gx.f rfl ?_
  refine XWP.skip ?_
  refine XWP.cut (fun s => ∃ (x : Nat), StIs (fun Z => [Z 0,Z 1,Z 2,Z 3,Z 4,Z 5,Z 6,Z 7,Z 8,Z 9,Z 10,Z 11,Z 12,Z 13,Z 14,Z 15,Z 16,Z 17,Z 18,Z 19,Z 20,Z 21,Z 22,Z 23,Z 24,Z 25]) [] (fun _ => none) V s ∧ l = m) ?_ ?_
  · refine Gx.a (by kernel_rfl) fun K hK => ?_
    simp only [XN, XA]
    refine hK _ ?_
    clear hK
    refine XWP.block ?_
    refine XWP.loop (fun n s => ∃ (k : Nat), StIs (fun Z => [.v (.slice A1 l.length c1), .v (.slice A2 m.length c2), Z 2,Z 3,Z 4,Z 5,Z 6,Z 7,Z 8,Z 9,Z 10,Z 11, .v (.int .i64 (l.length : Int)), .v (.int .i64 (k : Int)), Z 14,Z 15,Z 16,Z 17,Z 18,Z 19,Z 20,Z 21,Z 22,Z 23,Z 24,Z 25]) [] (fun _ => none) V s ∧ n + k = l.length ∧ ∀ i (h : i < l.length), i < k → l[i] = m[i]'(by omega)) l.length ⟨0, StIs.of (by exact rfl), by omega, fun i _ hi => by omega⟩ ?_
    rintro n s ⟨k, hs, hn, hk⟩
    obtain ⟨z, rfl⟩ := hs.out
    try dsimp only
    clear hs
    by_cases hlt : k < l.length
    rotate_left
    · have b2 : decide ((k : Int) < (l.length : Int)) = false := decide_eq_false (by omega)
      refine Gx.a (by kernel_rfl) fun K hK => ?_
      simp only [XA, XB, b2]
      refine hK _ ?_
      refine XWP.seq (Gx.f rfl ?_)
      refine XWP.exit ?_
      exact ⟨0, StIs.of (by exact rfl), List.ext_getElem hlen fun i h1 h2 => hk i h1 (by omega)⟩
    have b2 : decide ((k : Int) < (l.length : Int)) = true := decide_eq_true (by omega)
    refine Gx.a (by kernel_rfl) fun K hK => ?_
    simp only [XA, XB, b2]
    refine hK _ ?_
    refine XWP.seq (Gx.t rfl ?_)
    refine XWP.skip ?_
    obtain ⟨b, o, rfl⟩ := hv.addr (by omega)
    obtain ⟨b', o', rfl⟩ := hu.addr (by omega)
    obtain ⟨x, rfl, p1, hx⟩ := hv.load k hlt
    obtain ⟨y, rfl, p2, hy⟩ := hu.load k (by omega)
    refine XWP.seq ?_
    refine XWP.block ?_
    refine Gx.a (by kernel_rfl) fun K hK => ?_
    simp only [XA]
    refine hK _ ?_
    (refine XWP.drw [0, 1, 2, 3, 4, 5, 6, 7, 8] (by kernel_rfl) (by kernel_rfl) (by kernel_rfl) fun K hK => ?_) <;> dsimp only [pickOps, List.getElem?_cons_zero, List.getElem?_cons_succ]
    simp only [XN, XA, XB]
    refine ⟨by omega, by omega, ld_mem (by simpa using hx _ 3 1 shapeT_3) ?_⟩
    simp only [XN, XA, XB]
    refine ⟨by omega, by omega, ld_mem (by simpa using hy _ 3 1 shapeT_3) ?_⟩
    by_cases he : l[k] = m[k]'(by omega)
    · have b3 : decide (l[k] = m[k]'(by omega)) = true := decide_eq_true he
      simp only [XA, XB, b3]
      refine hK _ ?_
      refine Gx.f rfl ?_
      refine XWP.skip ?_
      refine Gx.c (by kernel_rfl) fun K hK => ?_
      simp only [XA, XB, i64_succ k (by omega)]
      exact hK _ ⟨n - 1, by omega, k + 1, StIs.of (by exact rfl), by omega, fun i h hi => by
        by_cases e : i = k
        · subst e; exact he
        · exact hk i h (by omega)⟩
    · have b3 : decide (l[k] = m[k]'(by omega)) = false := decide_eq_false he
      simp only [XA, XB, b3]
      refine hK _ ?_
      refine Gx.t rfl ?_
      refine Gx.a (by kernel_rfl) fun K hK => ?_
      simp only [XA]
      refine hK _ (XWP.ret ?_)
      try simp only [thenX_ret, inBlockX_ret]
      refine ret_go _ rfl ?_
      rw [decide_eq_false (fun e => he (by subst e; rfl))]; rfl
  rintro s ⟨x, hs, hlm⟩
  obtain ⟨z, rfl⟩ := hs.out
  try dsimp only
  refine Gx.a (by kernel_rfl) fun K hK => ?_
  simp only [XA]
  refine hK _ (XWP.ret ?_)
  try simp only [thenX_ret, inBlockX_ret]
  refine ret_go _ rfl ?_
  rw [decide_eq_true hlm]; rfl
/-- the question of Period -/
theorem pq_c (V : View) (b e : Nat) (u v : Value) (ws : List Int) (l : List Nat) (hb : V b = some (.cells ([u] : List Value).toArray e (0, 0))) (hu : Sl1 intE V u ws) (hv : Sl1 natE V v l) (ll : l.length ≤ 1000000) (lw : ws.length ≤ 1000000) : Spec Tryz.prog 83 [v, .pointer (some ⟨b, 0, none⟩)] V fun v' V' => v' = .bool (decide (zs l = ws)) := by
  have h1 := hv.ints
  have l1 : (zs l).length ≤ 1000000 := by simpa [zs] using ll
  have hld := ldV1 (off := 0) hb rfl shapeT_34 (fun _ => none)
  refine (Spec.enter Tryz.func83 rfl fun Γ => ?_)
  simp only [Tryz.ntmps83, List.map_cons, List.map_nil, List.length_cons, List.length_nil, Nat.reduceAdd, Nat.reduceSub, List.replicate_succ, List.replicate_zero, List.cons_append, List.nil_append]
  refine Gx.a (by kernel_rfl) fun K hK => ?_
  simp only [XA]
  refine hK _ ?_
  refine Gx.a (by kernel_rfl) fun K hK => ?_
  simp only [XA]
  refine ld_mem hld ?_
  simp only [XA]
  refine call_go (by kernel_rfl) rfl (equal_c _ _ _ _ _ h1 hu l1 lw) fun v1 V1 hV1 h1 => ?_
  simp only [XA]
  refine hK _ (XWP.ret ?_)
  try simp only [thenX_ret, inBlockX_ret]
  refine ret_go _ rfl ?_
  exact h1
theorem pindex_c (V : View) (b e : Nat) (u v : Value) (ws : List Int) (L : List (List Nat)) (hb : V b = some (.cells ([u] : List Value).toArray e (0, 0))) (hu : Sl1 intE V u ws) (hv : Sl1 (Sl1 natE) V v L) (ll : ∀ l ∈ L, l.length ≤ 1000000) (lL : L.length ≤ 1000000) (lw : ws.length ≤ 1000000) :
    Spec Tryz.prog 140 [v, .func (.func 83) #[] #[.pointer (some ⟨b, 0, none⟩)]] V fun v' V' => ∃ r : Int, v' = .int .i64 r ∧ decide (0 ≤ r) = L.any fun l => decide (zs l = ws) := by
  obtain ⟨A, c, rfl, hc, hm⟩ := hv.form
  refine (Spec.enter Tryz.func140 rfl fun Γ => ?_)
  simp only [Tryz.ntmps140, List.map_cons, List.map_nil, List.length_cons, List.length_nil, Nat.reduceAdd, Nat.reduceSub, List.replicate_succ, List.replicate_zero, List.cons_append, List.nil_append]
  refine Gx.a (by kernel_rfl) fun K hK => ?_
  simp only [XA]
  refine hK _ ?_
  refine XWP.cut (fun s => ∃ (V2 : View), StIs (fun Z => [Z 0,Z 1,Z 2,Z 3,Z 4,Z 5,Z 6,Z 7,Z 8,Z 9,Z 10,Z 11,Z 12,Z 13,Z 14,Z 15,Z 16,Z 17,Z 18]) [] (fun _ => none) V2 s ∧ (L.any fun l => decide (zs l = ws)) = false) ?_ ?_
  · refine Gx.a (by kernel_rfl) fun K hK => ?_
    simp only [XN, XA]
    refine hK _ ?_
    clear hK
    refine XWP.block ?_
    refine XWP.loop (fun n s => ∃ (k : Nat) (V2 : View), StIs (fun Z => [.v (.slice A L.length c), .v (.func (.func 83) #[] #[.pointer (some ⟨b, 0, none⟩)]), Z 2,Z 3,Z 4,Z 5,Z 6, .v (.int .i64 (L.length : Int)), .v (.int .i64 (k : Int)), Z 9,Z 10,Z 11,Z 12,Z 13,Z 14,Z 15,Z 16,Z 17,Z 18]) [] (fun _ => none) V2 s ∧ V.le V2 ∧ n + k = L.length ∧ ((L.take k).any fun l => decide (zs l = ws)) = false) L.length ⟨0, V, StIs.of (by exact rfl), View.le_refl _, rfl, by simp⟩ ?_
    rintro n s ⟨k, V2, hs, hV2, hn, hk⟩
    obtain ⟨z, rfl⟩ := hs.out
    try dsimp only
    by_cases hlt : k < L.length
    · have b1 : decide ((k : Int) < (L.length : Int)) = true := decide_eq_true (by omega)
      refine Gx.a (by kernel_rfl) fun K hK => ?_
      simp only [XA, XB, b1]
      refine hK _ ?_
      refine XWP.seq (Gx.t rfl ?_)
      refine XWP.skip ?_
      refine XWP.seq ?_
      refine XWP.block ?_
      refine Gx.a (by kernel_rfl) fun K hK => ?_
      simp only [XA]
      refine hK _ ?_
      refine Gx.a (by kernel_rfl) fun K hK => ?_
      have hv2 := hv.mono (Sl1_ok natE_ok) hV2
      obtain ⟨b', o, rfl⟩ := hv2.addr (by omega)
      obtain ⟨x, hx, p1, hld⟩ := hv2.load k hlt
      simp only [XN, XA]
      refine ⟨by omega, by omega, ld_mem (by simpa using hld _ 34 1 shapeT_34) ?_⟩
      simp only [XA]
      refine Eq.mpr (cv_gob _ _ _ _ _ _ 83 [.pointer (some ⟨b, 0, none⟩)] [.v x]) ?_
      refine call_go (args := [.v x, .v (.pointer (some ⟨b, 0, none⟩))]) (by kernel_rfl) rfl (pq_c V2 b e u x ws L[k] (hV2 _ _ hb) (hu.mono intE_ok hV2) hx (ll _ (List.getElem_mem hlt)) lw) fun v3 V3 hV3 h3 => ?_
      subst h3
      have et : L.take (k + 1) = L.take k ++ [L[k]] := by rw [List.take_succ_eq_append_getElem hlt]
      by_cases hr : zs L[k] = ws
      · rw [decide_eq_true hr]
        simp only [XA]
        refine hK _ ?_
        refine Gx.t rfl ?_
        refine Gx.a (by kernel_rfl) fun K hK => ?_
        simp only [XA]
        refine hK _ (XWP.ret ?_)
        try simp only [thenX_ret, inBlockX_ret]
        refine ret_go _ rfl ?_
        refine ⟨k, rfl, ?_⟩
        have : (L.any fun l => decide (zs l = ws)) = true := List.any_eq_true.2 ⟨L[k], List.getElem_mem hlt, decide_eq_true hr⟩
        rw [this, decide_eq_true (by omega)]
      · rw [decide_eq_false hr]
        simp only [XA]
        refine hK _ ?_
        refine Gx.f rfl ?_
        refine XWP.skip ?_
        refine Gx.c (by kernel_rfl) fun K hK => ?_
        simp only [XA, XB, i64_succ k (by omega)]
        refine hK _ ⟨n - 1, by omega, k + 1, V3, StIs.of (by exact rfl), View.le_trans hV2 hV3, by omega, ?_⟩
        rw [et, List.any_append, hk]
        simp [hr]
    · have b1 : decide ((k : Int) < (L.length : Int)) = false := decide_eq_false (by omega)
      refine Gx.a (by kernel_rfl) fun K hK => ?_
      simp only [XA, XB, b1]
      refine hK _ ?_
      refine XWP.seq (Gx.f rfl ?_)
      refine XWP.exit ?_
      rw [List.take_of_length_le (by omega)] at hk
      exact ⟨V2, StIs.of (by exact rfl), hk⟩
  rintro s ⟨V2, hs, hk⟩
  obtain ⟨z, rfl⟩ := hs.out
  try dsimp only
  refine Gx.a (by kernel_rfl) fun K hK => ?_
  simp only [XA]
  refine hK _ (XWP.ret ?_)
  try simp only [thenX_ret, inBlockX_ret]
  refine ret_go _ rfl ?_
  exact ⟨-1, rfl, by rw [hk]; rfl⟩
theorem pcontains_c (V : View) (b e : Nat) (u v : Value) (ws : List Int) (L : List (List Nat)) (hb : V b = some (.cells ([u] : List Value).toArray e (0, 0))) (hu : Sl1 intE V u ws) (hv : Sl1 (Sl1 natE) V v L) (ll : ∀ l ∈ L, l.length ≤ 1000000) (lL : L.length ≤ 1000000) (lw : ws.length ≤ 1000000) :
    Spec Tryz.prog 82 [v, .func (.func 83) #[] #[.pointer (some ⟨b, 0, none⟩)]] V fun v' V' => v' = .bool (L.any fun l => decide (zs l = ws)) := by
  refine (Spec.enter Tryz.func82 rfl fun Γ => ?_)
  simp only [Tryz.ntmps82, List.map_cons, List.map_nil, List.length_cons, List.length_nil, Nat.reduceAdd, Nat.reduceSub, List.replicate_succ, List.replicate_zero, List.cons_append, List.nil_append]
  refine Gx.a (by kernel_rfl) fun K hK => ?_
  simp only [XA]
  refine hK _ ?_
  refine Gx.a (by kernel_rfl) fun K hK => ?_
  simp only [XA]
  refine call_go (by kernel_rfl) rfl (pindex_c _ _ _ _ _ _ _ hb hu hv ll lL lw) fun v1 V1 hV1 h1 => ?_
  obtain ⟨r, rfl, hr⟩ := h1
  simp only [XA, XB, hr]
  refine hK _ (XWP.ret ?_)
  try simp only [thenX_ret, inBlockX_ret]
  refine ret_go _ rfl ?_
  rfl
end Go.Proofs.YtkgmicakfmllmaaGreat
end
section
namespace Go.Proofs.YtkgmicakfmllmaaGreat
open Go Go.RowKit Go.MapKept
set_option linter.unusedVariables false
section
variable {Γ : Cx} {P : Program} {ops : Array Oper} {Q : Exit → XS → Prop} {s : XS} {j : Nat}
theorem Rest.part (n : Nat) (hn : j + n ≤ ops.size) (h : ∀ K : XS → Prop, (∀ s', Rest Γ P ops Q (j + n) s' → K s') → seqX P ops ((ops.toList.drop j).take n) K s) : Rest Γ P ops Q j s :=
  Rest.seq n hn (h _ fun _ h => h)
theorem Rest.fin (h : ∀ K : XS → Prop, (∀ s', Q .normal s' → K s') → seqX P ops (ops.toList.drop j) K s) : Rest Γ P ops Q j s := Rest.done (h _ fun _ h => h)
theorem XWP.rest2 {id : Nat} {y : Code} (hg : guardsIn ops s.t.length = true) (h : ∀ K : XS → Prop, (∀ s', XWP Γ P y Q s' → K s') → Rest Γ P ops (thenX K Q) 0 s) : XWP Γ P (.seq (.region id ops false) y) Q s :=
  XWP.seq (XWP.rest hg (h _ fun _ h => h))
theorem run_append_room_off {w : World} (t ty e : TypeId) (i : TypeInfo) (ht : P.underlying t = some (.slice e)) (hi : P.info? e = some i)
    (g off sLen sCap : Nat) (cur : Array Value) (hg : w.heap[g]? = some (.cells cur e (0, 0)))
    (a : Addr) (m c : Nat) (news : List Value) (hl : news.length = m * i.size) (hnews : ∀ j u, news[j]? = some u → w.cell? (a.add j) = some u) (h1 : ∀ u ∈ news, u.oneCell' = true)
    (hroom : sLen + m ≤ sCap) (hfit : off + sLen * i.size + news.length ≤ cur.size) :
    (Builtin.append_ #[t, t] ty #[.slice (some ⟨g, off, none⟩) sLen sCap, .slice (some a) m c]).run P w =
      .ok (.slice (some ⟨g, off, none⟩) (sLen + m) sCap) (w.setRow g (cur.toList.take (off + sLen * i.size) ++ news ++ cur.toList.drop (off + sLen * i.size + news.length)).toArray) := by
  have hf := run_firstCells_some (P := P) w i.size m a m c news hl hnews
  have hst := run_storeCells_at P g (off + sLen * i.size) e news 0 cur w hg (by simpa using hfit) h1
  simp only [Nat.add_zero] at hst
  simp [Builtin.append_, run_und ht, sizeOf, typeInfo, hi, Builtin.lenOf, hroom, hf, Addr.add_lit, hst]
theorem Rest.appendQ {d : Option Tmp} {t t2 : TypeId} {x y : Operand} {ty pos af} (hi : ops[j]? = some ⟨d, .call ⟨.builtin .append, #[x, y], #[t, t2]⟩, ty, pos, af, none⟩) {g o n c tot : Nat} {e : TypeId} {z : List Value} {by_ : Nat} {yv u : Value} {pre xs : List Value}
    (hx : s.ev x = .v (.slice (some ⟨g, o, none⟩) n c)) (hy : s.ev y = .v yv) (hg : s.H g = some ⟨e, pre ++ xs, tot⟩) (htot : tot = o + c) (hp : pre.length = o) (hxl : xs.length = n) (hle : n ≤ c)
    (he : elemT P t = some e) (he2 : (elemT P t2).isSome = true) (hz : zeroT P e = some (z, 1, by_)) (hzl : z.length = 1) (hsrc : Src s.H s.V 1 yv 1 [u]) (h63 : n + 1 ≤ 9223372036854775807) (h47 : (n + 1) * by_ ≤ 140737488355328)
    (h1 : n + 1 ≤ c → Rest Γ P ops Q (j + 1) (XS.put ⟨s.t, s.bx, upd s.H g (some ⟨e, pre ++ (xs ++ [u]), tot⟩), s.V⟩ d (.v (.slice (some ⟨g, o, none⟩) (n + 1) c))))
    (h2 : ∀ g' c', s.H g' = none → s.V g' = none → n + 1 ≤ c' → c' ≤ 9223372036854775807 → Rest Γ P ops Q (j + 1) (XS.put ⟨s.t, s.bx, upd s.H g' (some ⟨e, xs ++ [u], c'⟩), s.V⟩ d (.v (.slice (some ⟨g', 0, none⟩) (n + 1) c')))) : Rest Γ P ops Q j s := by
  refine Rest.op hi rfl fun bl a w hc => ?_
  have e1 : a.eval x = .slice (some ⟨g, o, none⟩) n c := by rw [hc.ev, hx]; rfl
  have e3 : a.eval y = yv := by rw [hc.ev, hy]; rfl
  obtain ⟨A, c2, rfl, hnl, hone, hsrc⟩ := hsrc
  obtain ⟨e2, he2⟩ := Option.isSome_iff_exists.1 he2
  obtain ⟨i, zv, hinf, hzv, rfl, hsz, rfl⟩ := zero_parts hz
  have hzs : zv.cells.size = i.size := by rw [hsz, ← hzl]; simp
  obtain ⟨src, rfl, hnews⟩ : ∃ src, A = some src ∧ ∀ j v, [u][j]? = some v → w.cell? (src.add j) = some v := by
    rcases hsrc with h0 | ⟨b, o, rfl, hcell⟩
    · omega
    · exact ⟨_, rfl, fun j u hu => by rw [addr_add]; exact cell_of hc.cw (hcell j u hu)⟩
  have hones : ∀ v ∈ [u], v.oneCell' = true := fun v hv => by rw [isOne_oneCell]; exact hone v hv
  obtain ⟨ex, hh, hl⟩ := hc.cw.row g _ hg
  simp only at hh hl
  by_cases hroom : n + 1 ≤ c
  · have hr := run_append_room_off (P := P) (w := w) t ty e i (und_elem he) hinf g o n c _ hh src 1 c2 [u] (by rw [hsz]; rfl) hnews hones hroom (by simp only [List.size_toArray, List.length_cons, List.length_nil]; rw [hl, hsz]; omega)
    rw [← run_append_types (t2 := t2) (und_elem he) (und_elem he2)] at hr
    have hpx : (pre ++ xs).length = o + n * i.size := by rw [List.length_append, hsz]; omega
    have t1 : List.take (o + n * i.size) (pre ++ xs ++ ex) = pre ++ xs := by rw [← hpx]; exact List.take_left
    have t2' : List.drop (o + n * i.size + [u].length) (pre ++ xs ++ ex) = ex.drop 1 := by rw [← hpx, ← List.drop_drop]; simp
    simp only [t1, t2'] at hr
    obtain ⟨k1, k2⟩ := set_row hc.cw hc.cs hg (pre ++ (xs ++ [u])) (ex.drop 1) (by
      simp only [List.length_append, List.length_drop, List.length_cons, List.length_nil] at hl ⊢
      omega)
    have eqv : pre ++ xs ++ [u] ++ ex.drop 1 = pre ++ (xs ++ [u]) ++ ex.drop 1 := by simp
    rw [eqv] at hr
    refine ⟨_, _, _, .inl ?_, Conc.put (s := ⟨s.t, s.bx, upd s.H g (some ⟨e, pre ++ (xs ++ [u]), tot⟩), s.V⟩) ⟨hc.tm, hc.df.keep (others_setRow _ hh), k1, k2, hc.ok⟩ d (.v _) trivial, by rw [put_len], h1 hroom⟩
    simp [execOp, resolve, invoke, builtin, e1, e3, hr, SV.conc]
  · have hge := grownCap_ge w (n + 1) c e
    have hr := run_append_grow (P := P) w t ty e i zv (und_elem he) hinf hzv ⟨g, o, none⟩ n c xs (by rw [hxl, hsz, Nat.mul_one]) (fun j u hu => by rw [addr_add]; exact cell_of hc.cw (.inl ⟨_, hg, by rw [List.getElem?_append_right (by omega), ← hu]; congr 1; omega⟩)) src 1 c2 [u] (by rw [hsz]; rfl) hnews (by omega) (by omega) (growslice_fits (by omega) h47)
    rw [← run_append_types (t2 := t2) (und_elem he) (und_elem he2)] at hr
    obtain ⟨k1, k2, k3, k4⟩ := conc_push_row hc.drew ⟨e, xs ++ [u], grownCap w (n + 1) c e⟩ (Builtin.zeroCells zv.cells (grownCap w (n + 1) c e - (n + 1))).toList
      (by simp only [List.length_append, Array.length_toList, size_zeroCells, hzs, List.length_cons, List.length_nil]; rw [hsz]; omega)
    refine ⟨_, _, _, .inl ?_, Conc.put (s := ⟨s.t, s.bx, upd s.H w.heap.size (some ⟨e, xs ++ [u], grownCap w (n + 1) c e⟩), s.V⟩) k1 d (.v _) trivial, by rw [put_len], h2 _ _ k3 k4 hge (grownCap_le_maxLen w (n + 1) c e h63)⟩
    have e4 : xs.toArray ++ [u].toArray ++ Builtin.zeroCells zv.cells (grownCap w (n + 1) c e - (n + 1)) = (xs ++ [u] ++ (Builtin.zeroCells zv.cells (grownCap w (n + 1) c e - (n + 1))).toList).toArray := by simp
    rw [e4] at hr
    simp [execOp, resolve, invoke, builtin, e1, e3, hr, SV.conc]
end
end Go.Proofs.YtkgmicakfmllmaaGreat
end
section
namespace Go.Proofs.YtkgmicakfmllmaaGreat
set_option linter.unusedVariables false
end Go.Proofs.YtkgmicakfmllmaaGreat
end
section
namespace Go.Proofs.YtkgmicakfmllmaaGreat
set_option linter.unusedVariables false
/-- a walk of a length, whose steps end in a list -/
inductive Wk (E : Nat → Nat → Bool) (C : List Nat) (i : Nat) : Nat → Nat → Prop
  | nil : Wk E C i 0 i
  | step {l a b : Nat} : Wk E C i l a → b ∈ C → E a b = true → Wk E C i (l + 1) b
variable {E : Nat → Nat → Bool} {C : List Nat}
theorem Wk.mem {i l k : Nat} (h : Wk E C i l k) (hi : i ∈ C) : k ∈ C := by
  cases h with
  | nil => exact hi
  | step _ hb _ => exact hb
theorem Wk.trans {i l k m j : Nat} (h : Wk E C i l k) (h2 : Wk E C k m j) : Wk E C i (l + m) j := by
  induction h2 with
  | nil => exact h
  | step _ hb he ih => exact .step ih hb he
theorem Wk.succ {i l b : Nat} : Wk E C i (l + 1) b ↔ b ∈ C ∧ ∃ a, Wk E C i l a ∧ E a b = true := by
  constructor
  · intro h
    cases h with
    | step h hb he => exact ⟨hb, _, h, he⟩
  · rintro ⟨hb, a, h, he⟩
    exact .step h hb he
def cntC (p : Nat → Bool) (C : List Nat) : Nat := (C.filter fun k => !p k).length
theorem cntC_le {p q : Nat → Bool} (h : ∀ j, p j = true → q j = true) : ∀ C : List Nat, cntC q C ≤ cntC p C
  | [] => Nat.le_refl _
  | a :: C => by
    have ih := cntC_le h C
    unfold cntC at ih ⊢
    rw [List.filter_cons, List.filter_cons]
    have := h a
    cases hp : p a <;> cases hq : q a <;> simp_all <;> omega
theorem cntC_lt {p q : Nat → Bool} (h : ∀ j, p j = true → q j = true) {k : Nat} (h1 : p k = false) (h2 : q k = true) : ∀ C : List Nat, k ∈ C → cntC q C + 1 ≤ cntC p C
  | [], hk => by cases hk
  | a :: C, hk => by
    have le := cntC_le h C
    by_cases e : k = a
    · subst e
      unfold cntC at le ⊢
      rw [List.filter_cons, List.filter_cons, h1, h2]
      simpa using le
    · have ih := cntC_lt h h1 h2 C (by rcases List.mem_cons.1 hk with g | g; exact absurd g e; exact g)
      unfold cntC at ih ⊢
      rw [List.filter_cons, List.filter_cons]
      have := h a
      cases hp : p a <;> cases hq : q a <;> simp_all <;> omega
theorem cntC_none (C : List Nat) : cntC (fun _ => false) C = C.length := by
  unfold cntC
  simp
/-- a list of states in which each reaches each -/
def ConC (E : Nat → Nat → Bool) (C : List Nat) : Prop := ∀ i k, i ∈ C → k ∈ C → ∃ l, Wk E C i l k
noncomputable def rchB (E : Nat → Nat → Bool) (C : List Nat) (i m k : Nat) : Bool := @decide (∃ l, l ≤ m ∧ Wk E C i l k) (Classical.propDecidable _)
theorem rchB_iff {i m k : Nat} : rchB E C i m k = true ↔ ∃ l, l ≤ m ∧ Wk E C i l k := by unfold rchB; exact @decide_eq_true_iff _ (Classical.propDecidable _)
theorem ConC.short (hC : ConC E C) {i k : Nat} (hi : i ∈ C) (hk : k ∈ C) : ∃ l, l ≤ C.length ∧ Wk E C i l k := by
  have key : ∀ m, (∀ k, k ∈ C → rchB E C i m k = true) ∨ cntC (rchB E C i m) C + m + 1 ≤ C.length := by
    intro m
    induction m with
    | zero =>
      right
      have := cntC_lt (p := fun _ => false) (q := rchB E C i 0) (fun j h => by cases h) (k := i) rfl (rchB_iff.2 ⟨0, Nat.le_refl _, .nil⟩) C hi
      rw [cntC_none] at this
      omega
    | succ m ih =>
      have up : ∀ j, rchB E C i m j = true → rchB E C i (m + 1) j = true := fun j h => by
        obtain ⟨l, h1, h2⟩ := rchB_iff.1 h
        exact rchB_iff.2 ⟨l, by omega, h2⟩
      rcases ih with ih | ih
      · left
        exact fun k hk => up k (ih k hk)
      by_cases g : ∃ k, k ∈ C ∧ rchB E C i (m + 1) k = true ∧ rchB E C i m k = false
      · obtain ⟨k, hk, g1, g2⟩ := g
        right
        have := cntC_lt up g2 g1 C hk
        omega
      · left
        have cl : ∀ l k, Wk E C i l k → rchB E C i m k = true := by
          intro l k h
          induction h with
          | nil => exact rchB_iff.2 ⟨0, by omega, .nil⟩
          | step h hb he ih =>
            obtain ⟨l', h1, h2⟩ := rchB_iff.1 ih
            cases e : rchB E C i m _
            · exact absurd ⟨_, hb, rchB_iff.2 ⟨l' + 1, by omega, .step h2 hb he⟩, e⟩ g
            · rfl
        intro k hk
        obtain ⟨l, hl⟩ := hC i k hi hk
        exact up _ (cl l k hl)
  rcases key C.length with h | h
  · exact rchB_iff.1 (h k hk)
  · omega
/-- the greatest common divisor of the lengths up to a bound -/
noncomputable def pG (P : Nat → Prop) : Nat → Nat
  | 0 => 0
  | m + 1 => open Classical in if P (m + 1) then Nat.gcd (pG P m) (m + 1) else pG P m
theorem pG_dvd {P : Nat → Prop} {d : Nat} : ∀ m, (∀ l, 1 ≤ l → l ≤ m → P l → d ∣ l) → d ∣ pG P m
  | 0, _ => Nat.dvd_zero d
  | m + 1, h => by
    have ih := pG_dvd m fun l h1 h2 => h l h1 (by omega)
    unfold pG
    split
    · rename_i hp
      exact Nat.dvd_gcd ih (h _ (by omega) (Nat.le_refl _) hp)
    · exact ih
theorem dvd_pG {P : Nat → Prop} {l : Nat} (h1 : 1 ≤ l) (hp : P l) : ∀ m, l ≤ m → pG P m ∣ l
  | 0, h => by omega
  | m + 1, h => by
    unfold pG
    by_cases e : l = m + 1
    · subst e
      rw [if_pos hp]
      exact Nat.gcd_dvd_right _ _
    · have ih := dvd_pG h1 hp m (by omega)
      split
      · exact Nat.dvd_trans (Nat.gcd_dvd_left _ _) ih
      · exact ih
/-! ### The distances that were noted -/
def farO : List (Nat × Nat) → Nat → Option Nat
  | [], _ => none
  | (a, d) :: F, k => if a = k then some d else farO F k
theorem farO_snoc {k d j : Nat} : ∀ (F : List (Nat × Nat)), farO F k = none → farO (F ++ [(k, d)]) j = if k = j then some d else farO F j
  | [], _ => rfl
  | (a, b) :: F, h => by
    rw [farO] at h
    split at h
    · cases h
    · rename_i e
      rw [List.cons_append, farO, farO_snoc F h, farO]
      by_cases e2 : a = j
      · rw [if_pos e2, if_pos e2, if_neg (fun g => e (e2.trans g.symm))]
      · rw [if_neg e2, if_neg e2]
def domB (F : List (Nat × Nat)) (k : Nat) : Bool := (farO F k).isSome
def lowP (E : Nat → Nat → Bool) (C : List Nat) (g : Nat) : Prop := ∀ s k a b, s ∈ C → k ∈ C → Wk E C (C.getD 0 0) a s → Wk E C (C.getD 0 0) b k → a + 1 ≤ C.length → b + 1 ≤ C.length → E s k = true → (g : Int) ∣ (a : Int) + 1 - (b : Int)
structure BfB (E : Nat → Nat → Bool) (C : List Nat) (F : List (Nat × Nat)) (q : List Nat) (d : Nat) : Prop where
  root : farO F (C.getD 0 0) = some 0
  sub : ∀ k a, farO F k = some a → k ∈ C ∧ Wk E C (C.getD 0 0) a k ∧ a + cntC (domB F) C + 1 ≤ C.length
  que : ∀ s, s ∈ q → domB F s = true
  low : ∀ g, lowP E C g → g ∣ d
def dnP (E : Nat → Nat → Bool) (F : List (Nat × Nat)) (d a s k : Nat) : Prop := E s k = true → ∃ b, farO F k = some b ∧ (d : Int) ∣ (a : Int) + 1 - (b : Int)
structure BfI (E : Nat → Nat → Bool) (C : List Nat) (F : List (Nat × Nat)) (q : List Nat) (d : Nat) : Prop extends BfB E C F q d where
  don : ∀ s a, farO F s = some a → s ∉ q → ∀ k, k ∈ C → dnP E F d a s k
structure BfJ (E : Nat → Nat → Bool) (C : List Nat) (F : List (Nat × Nat)) (q : List Nat) (d s a i : Nat) : Prop extends BfB E C F q d where
  at_ : farO F s = some a
  don : ∀ s' a', farO F s' = some a' → s' ∉ q → s' ≠ s → ∀ k, k ∈ C → dnP E F d a' s' k
  cur : ∀ j, j < i → dnP E F d a s (C.getD j 0)
theorem BfI.start (hC : 1 ≤ C.length) : BfI E C [(C.getD 0 0, 0)] [C.getD 0 0] 0 := by
  have h0 : farO [(C.getD 0 0, 0)] (C.getD 0 0) = some 0 := by simp [farO]
  have hm : C.getD 0 0 ∈ C := by rw [List.getD_eq_getElem?_getD, List.getElem?_eq_getElem (by omega)]; exact List.getElem_mem (by omega)
  have hf : ∀ k a, farO [(C.getD 0 0, 0)] k = some a → k = C.getD 0 0 ∧ a = 0 := fun k a h => by
    rw [farO] at h
    split at h
    · rename_i e; cases h; exact ⟨e.symm, rfl⟩
    · cases h
  refine ⟨⟨h0, fun k a h => ?_, fun s hs => ?_, fun g _ => Nat.dvd_zero g⟩, fun s a h hs => ?_⟩
  · obtain ⟨rfl, rfl⟩ := hf k a h
    refine ⟨hm, .nil, ?_⟩
    have := cntC_lt (p := fun _ => false) (q := domB [(C.getD 0 0, 0)]) (fun j h => by cases h) (k := C.getD 0 0) rfl (by unfold domB; rw [h0]; rfl) C hm
    rw [cntC_none] at this
    omega
  · rcases List.mem_cons.1 hs with rfl | h
    · unfold domB; rw [h0]; rfl
    · cases h
  · obtain ⟨rfl, rfl⟩ := hf s a h
    exact absurd (List.mem_singleton.2 rfl) hs
theorem BfI.pop {F : List (Nat × Nat)} {s d : Nat} {q : List Nat} (h : BfI E C F (s :: q) d) : ∃ a, BfJ E C F q d s a 0 := by
  have hs := h.que s (by simp)
  obtain ⟨a, ha⟩ := Option.isSome_iff_exists.1 hs
  exact ⟨a, ⟨h.root, h.sub, fun s' hs' => h.que s' (by simp [hs']), h.low⟩, ha, fun s' a' h1 h2 h3 => h.don s' a' h1 (by simp [h2, h3]), fun j hj => by omega⟩
theorem BfJ.done {F : List (Nat × Nat)} {s d a : Nat} {q : List Nat} (h : BfJ E C F q d s a C.length) : BfI E C F q d :=
  ⟨h.toBfB, fun s' a' h1 h2 k hk => by
    by_cases e : s' = s
    · subst e
      have := h.at_.symm.trans h1
      cases this
      obtain ⟨j, hj, ej⟩ := List.mem_iff_getElem.1 hk
      have := h.cur j hj
      rwa [List.getD_eq_getElem?_getD, List.getElem?_eq_getElem hj, Option.getD_some, ej] at this
    · exact h.don s' a' h1 h2 e k hk⟩
theorem BfJ.skip {F : List (Nat × Nat)} {s d a i : Nat} {q : List Nat} (h : BfJ E C F q d s a i) (he : E s (C.getD i 0) = false) : BfJ E C F q d s a (i + 1) :=
  ⟨h.toBfB, h.at_, h.don, fun j hj => by
    by_cases e : j = i
    · subst e; intro g; rw [he] at g; cases g
    · exact h.cur j (by omega)⟩
theorem dnP.dvd {F : List (Nat × Nat)} {d d' a s k : Nat} (h : dnP E F d a s k) (hd : d' ∣ d) : dnP E F d' a s k := fun he => by
  obtain ⟨b, h1, h2⟩ := h he
  exact ⟨b, h1, Int.dvd_trans (Int.natCast_dvd_natCast.2 hd) h2⟩
theorem BfJ.seen {F : List (Nat × Nat)} {s d a b i : Nat} {q : List Nat} (h : BfJ E C F q d s a i) (hi : i < C.length) (he : E s (C.getD i 0) = true) (hb : farO F (C.getD i 0) = some b) : BfJ E C F q (Nat.gcd d ((a : Int) + 1 - (b : Int)).natAbs) s a (i + 1) := by
  obtain ⟨s1, s2, s3⟩ := h.sub _ _ h.at_
  obtain ⟨k1, k2, k3⟩ := h.sub _ _ hb
  have hl := Nat.gcd_dvd_left d ((a : Int) + 1 - (b : Int)).natAbs
  have hr := Nat.gcd_dvd_right d ((a : Int) + 1 - (b : Int)).natAbs
  refine ⟨⟨h.root, h.sub, h.que, fun g hg => Nat.dvd_gcd (h.low g hg) ?_⟩, h.at_, fun s' a' h1 h2 h3 k hk => (h.don s' a' h1 h2 h3 k hk).dvd hl, fun j hj => ?_⟩
  · exact Int.ofNat_dvd_left.1 (hg s _ a b s1 k1 s2 k2 (by omega) (by omega) he)
  · by_cases e : j = i
    · subst e
      exact fun _ => ⟨b, hb, Int.ofNat_dvd_left.2 hr⟩
    · exact (h.cur j (by omega)).dvd hl
theorem BfJ.push {F : List (Nat × Nat)} {s d a i : Nat} {q : List Nat} (h : BfJ E C F q d s a i) (hi : i < C.length) (he : E s (C.getD i 0) = true) (hb : farO F (C.getD i 0) = none) :
    BfJ E C (F ++ [(C.getD i 0, a + 1)]) (q ++ [C.getD i 0]) d s a (i + 1) ∧ cntC (domB (F ++ [(C.getD i 0, a + 1)])) C + 1 ≤ cntC (domB F) C := by
  obtain ⟨k, hk⟩ : ∃ k, k = C.getD i 0 := ⟨_, rfl⟩
  have hm : k ∈ C := by rw [hk, List.getD_eq_getElem?_getD, List.getElem?_eq_getElem hi]; exact List.getElem_mem hi
  have hcur := h.cur
  rw [← hk] at he hb ⊢
  have hF : ∀ j, farO (F ++ [(k, a + 1)]) j = if k = j then some (a + 1) else farO F j := fun j => farO_snoc F hb
  have hold : ∀ j b, farO F j = some b → farO (F ++ [(k, a + 1)]) j = some b := fun j b hj => by
    rw [hF, if_neg (fun e => by rw [e, hj] at hb; cases hb)]; exact hj
  have hdm : ∀ j, domB F j = true → domB (F ++ [(k, a + 1)]) j = true := fun j hj => by
    obtain ⟨b, hb'⟩ := Option.isSome_iff_exists.1 hj
    unfold domB; rw [hold j b hb']; rfl
  have hcnt := cntC_lt hdm (k := k) (by unfold domB; rw [hb]; rfl) (by unfold domB; rw [hF, if_pos rfl]; rfl) C hm
  have hdn : ∀ a' s' k', dnP E F d a' s' k' → dnP E (F ++ [(k, a + 1)]) d a' s' k' := fun a' s' k' g e => by
    obtain ⟨b, h1, h2⟩ := g e
    exact ⟨b, hold _ _ h1, h2⟩
  obtain ⟨s1, s2, s3⟩ := h.sub _ _ h.at_
  refine ⟨⟨⟨hold _ _ h.root, fun j b hj => ?_, fun s' hs' => ?_, h.low⟩, hold _ _ h.at_, fun s' a' h1 h2 h3 k' hk' => ?_, fun j hj => ?_⟩, hcnt⟩
  · rw [hF] at hj
    split at hj
    · rename_i e
      cases hj
      subst e
      exact ⟨hm, .step s2 hm he, by omega⟩
    · obtain ⟨x1, x2, x3⟩ := h.sub j b hj
      exact ⟨x1, x2, by omega⟩
  · rcases List.mem_append.1 hs' with g | g
    · exact hdm _ (h.que _ g)
    · rw [List.mem_singleton.1 g]; unfold domB; rw [hF, if_pos rfl]; rfl
  · rw [hF] at h1
    split at h1
    · rename_i e
      subst e
      exact absurd (List.mem_append.2 (.inr (List.mem_singleton.2 rfl))) h2
    · exact hdn _ _ _ (h.don s' a' h1 (fun g => h2 (List.mem_append.2 (.inl g))) h3 k' hk')
  · by_cases e : j = i
    · subst e
      rw [← hk]
      intro _
      refine ⟨a + 1, by rw [hF, if_pos rfl], ⟨0, by omega⟩⟩
    · exact hdn _ _ _ (hcur j (by omega))
/-- the search's answer is the greatest common divisor of the lengths of the walks home -/
theorem BfI.period (hC : ConC E C) (h1 : 1 ≤ C.length) {F : List (Nat × Nat)} {d : Nat} (h : BfI E C F [] d) {m : Nat} (hm : 2 * C.length ≤ m) : d = pG (fun l => Wk E C (C.getD 0 0) l (C.getD 0 0)) m := by
  have hr : C.getD 0 0 ∈ C := by rw [List.getD_eq_getElem?_getD, List.getElem?_eq_getElem (by omega)]; exact List.getElem_mem (by omega)
  have tel : ∀ l k, Wk E C (C.getD 0 0) l k → ∃ b, farO F k = some b ∧ (d : Int) ∣ (l : Int) - (b : Int) := by
    intro l k hw
    induction hw with
    | nil => exact ⟨0, h.root, ⟨0, by omega⟩⟩
    | step hw hb he ih =>
      obtain ⟨b, g1, x, g2⟩ := ih
      obtain ⟨b', g3, y, g4⟩ := h.don _ _ g1 (by simp) _ hb he
      refine ⟨b', g3, x + y, ?_⟩
      rw [Int.mul_add, ← g2, ← g4]
      omega
  refine Nat.dvd_antisymm (pG_dvd m fun l _ _ hw => ?_) (h.low _ fun s k a b hs hk ha hb la lb he => ?_)
  · obtain ⟨b, g1, g2⟩ := tel _ _ hw
    rw [h.root] at g1
    cases g1
    have := Int.ofNat_dvd_left.1 g2
    simpa using this
  · obtain ⟨r, g1, g2⟩ := hC.short hk hr
    obtain ⟨x, hx⟩ := Int.natCast_dvd_natCast.2 (dvd_pG (P := fun l => Wk E C (C.getD 0 0) l (C.getD 0 0)) (by omega) ((Wk.step ha hk he).trans g2) m (by omega))
    rcases Nat.eq_zero_or_pos (b + r) with z | z
    · exact ⟨x, by rw [← hx]; omega⟩
    · obtain ⟨y, hy⟩ := Int.natCast_dvd_natCast.2 (dvd_pG (P := fun l => Wk E C (C.getD 0 0) l (C.getD 0 0)) z (hb.trans g2) m (by omega))
      exact ⟨x - y, by rw [Int.mul_sub, ← hx, ← hy]; omega⟩
end Go.Proofs.YtkgmicakfmllmaaGreat
end
section
namespace Go.Proofs.YtkgmicakfmllmaaGreat
open Go Go.RowKit
set_option linter.unusedSimpArgs false
set_option linter.unusedVariables false
attribute [local irreducible] XWP Spec SpecO XPub XCall seqX clX apX stX ldX iaX slX
theorem bat_c (V : View) (s : Value) (r : Int) (n i k : Nat) (l : List Rat) (h : Rats V s l) (hk : i * n + k < l.length) (hn : n ≤ 60) (hi : i ≤ 60) (ll : l.length ≤ 1000000) :
    Spec Tryz.prog 85 [.agg #[.int .i64 r, .int .i64 (n : Int), s], .int .i64 (i : Int), .int .i64 (k : Int)] V fun v' V' => RatC V' v' (cf l (i * n + k)) := by
  obtain ⟨A, cp, rfl, hc, hm⟩ := h.form
  obtain ⟨b, o, rfl⟩ := SlAt.addr h (by omega)
  obtain ⟨m3, n3, d3, hx, ⟨p1, p2, p3⟩, hld⟩ := Rats.get h (i * n + k) hk
  have w1 := wr_mul (i := i) (C := n) (by omega) (by omega)
  have w2 := wr_add (p := i * n) (k := k) (by omega) (by omega)
  obtain ⟨xx, yy, ev, o1, o2⟩ := hx.form
  cases ev
  refine (Spec.enter Tryz.func85 rfl fun Γ => ?_)
  simp only [Tryz.ntmps85, List.map_cons, List.map_nil, List.length_cons, List.length_nil, Nat.reduceAdd, Nat.reduceSub, List.replicate_succ, List.replicate_zero, List.cons_append, List.nil_append]
  refine Gx.a (by kernel_rfl) fun K hK => ?_
  simp only [XA, XB]
  refine hK _ ?_
  refine Gx.a (by kernel_rfl) fun K hK => ?_
  simp only [XM, XA, XB, w1, w2]
  refine ⟨by omega, by omega, ld_mem (hld _) ?_⟩
  simp only [XA]
  refine st_rat rfl rfl p1 o1 o2 ?_
  simp only [XA]
  refine hK _ (XWP.ret ?_)
  try simp only [thenX_ret, inBlockX_ret]
  exact ret_rat1 rfl rfl rfl hx
/-- the closed classes of a matrix -/
noncomputable def clsL (l : List Rat) (n : Nat) : List (List Nat) := shutL (wR (eM l n) n) (fun _ => false) n
theorem none_open (V : View) (n : Nat) : R1At booE V (bvs n fun _ => false) ((List.range n).map fun _ => false) := R1At.bvs V n _
theorem bclasses_c (V : View) (s : Value) (n : Nat) (l : List Rat) (h : Rats V s l) (ll : l.length = n * n) (hn : n ≤ 60) :
    Spec Tryz.prog 55 [.agg #[.int .i64 (n : Int), .int .i64 (n : Int), s]] V fun v' V' => Sl1 (Sl1 natE) V' v' (clsL l n) := by
  obtain ⟨A, c, rfl, hc, hm⟩ := h.form
  refine (Spec.enter Tryz.func55 rfl fun Γ => ?_)
  simp only [Tryz.ntmps55, List.map_cons, List.map_nil, List.length_cons, List.length_nil, Nat.reduceAdd, Nat.reduceSub, List.replicate_succ, List.replicate_zero, List.cons_append, List.nil_append]
  refine Gx.a (by kernel_rfl) fun K hK => ?_
  simp only [XA]
  refine hK _ ?_
  refine XWP.cut (fun s => ∃ (V2 : View) (w : Value), StIs (fun Z => [Z 0,Z 1, .v w, Z 3,Z 4,Z 5,Z 6,Z 7,Z 8]) [[.int .i64 (n : Int), .int .i64 (n : Int), .slice A l.length c]] s.H V2 s ∧ Sl1 (Sl1 natE) V2 w (clsL l n)) ?_ ?_
  · (refine XWP.drwT1 (.lin [0, 2, 3] (.two (.lin [1, 4, 5, 6] .nil) (.lin [4, 1, 5, 6] .nil))) (by kernel_rfl) (by kernel_rfl) (by kernel_rfl) fun K hK => ?_)
    simp only [XM, XA, XB, Nat.reduceAdd, Nat.reduceLeDiff, ↓reduceIte]
    refine And.intro ?_ ?_
    · refine call_go (by kernel_rfl) rfl (cways_c _ _ n l h ll hn) fun v1 V1 hV1 h1 => ?_
      simp only [XA]
      refine mk_go rfl rfl elemT_117 zeroT_4 (by omega) (by omega) (by omega) (by omega) rfl (by omega) fun b hb1 hb2 => ?_
      simp only [XA, bvs_none]
      refine call_pub b ⟨4, bvs n fun _ => false, n⟩ (by simp only [upd_at]) (fun o ho hle => ?_) (by kernel_rfl) (by simp [SV.isV])
      have hop := (none_open V1 n).pub booE_ok ho hle (n := n) (c := n) (by simp) (Nat.le_refl _) (by omega)
      refine call_go (by kernel_rfl) (by simp [SV.isV]) (cshut_c _ _ _ n (wR (eM l n) n) (fun _ => false) (h1.mono (Sl1_ok booE_ok) hle) hop hn) fun v2 V2 hV2 h2 => ?_
      simp only [XA]
      exact hK _ ⟨V2, v2, StIs.of (by exact rfl), h2⟩
    · refine mk_go rfl rfl elemT_117 zeroT_4 (by omega) (by omega) (by omega) (by omega) rfl (by omega) fun b hb1 hb2 => ?_
      simp only [XA, bvs_none]
      refine call_go (by kernel_rfl) rfl (cways_c _ _ n l h ll hn) fun v1 V1 hV1 h1 => ?_
      simp only [XA]
      refine call_pub b ⟨4, bvs n fun _ => false, n⟩ (by simp only [upd_at]) (fun o ho hle => ?_) (by kernel_rfl) (by simp [SV.isV])
      have hop := (none_open V1 n).pub booE_ok ho hle (n := n) (c := n) (by simp) (Nat.le_refl _) (by omega)
      refine call_go (by kernel_rfl) (by simp [SV.isV]) (cshut_c _ _ _ n (wR (eM l n) n) (fun _ => false) (h1.mono (Sl1_ok booE_ok) hle) hop hn) fun v2 V2 hV2 h2 => ?_
      simp only [XA]
      exact hK _ ⟨V2, v2, StIs.of (by exact rfl), h2⟩
  rintro s ⟨V2, w, hs, hw⟩
  obtain ⟨t, bx, H, V3⟩ := s
  obtain ⟨z, e⟩ := hs.out
  cases e
  try dsimp only
  refine XWP.ret ?_
  try simp only [thenX_ret, inBlockX_ret]
  exact ret_go _ rfl hw
theorem stoB_parts {r c : Int} {L : List Raw} (h : stoB r c L = true) : ∃ n : Nat, r = n ∧ c = n ∧ n ≤ 60 ∧ L.length = n * n ∧ okR L = true ∧ StoG (gridL (qs L) n) n := by
  unfold stoB at h
  rw [Bool.and_eq_true, Bool.and_eq_true, decide_eq_true_eq] at h
  obtain ⟨⟨h1, rfl⟩, h2⟩ := h
  unfold matR at h1
  rw [Bool.and_eq_true, decide_eq_true_eq] at h1
  obtain ⟨⟨k1, k2, _, _, k5⟩, ok⟩ := h1
  obtain ⟨n, rfl⟩ : ∃ n : Nat, r = n := ⟨r.toNat, by omega⟩
  have kl : L.length = n * n := by rw [← Int.natCast_mul] at k5; omega
  rw [Int.toNat_natCast] at h2
  have hrow : ∀ i, i < n → (∀ k, k < n → 0 ≤ cf (qs L) (i * n + k)) ∧ Sm (fun k => cf (qs L) (i * n + k)) n = 1 := fun i hi => by
    have := List.all_eq_true.1 h2 i (List.mem_range.2 hi)
    unfold rowOk at this
    rw [Bool.and_eq_true, decide_eq_true_eq] at this
    refine ⟨fun k hk => ?_, this.2⟩
    have h3 := List.all_eq_true.1 this.1 k (List.mem_range.2 hk)
    rw [Bool.not_eq_true'] at h3
    exact (ng_iff _).1 h3
  exact ⟨n, rfl, rfl, by omega, kl, ok, ⟨fun i k hi hk => (hrow i hi).1 k hk, fun i hi => (hrow i hi).2⟩⟩
theorem bClasses_c (V : View) (s : Value) (r c : Int) (L : List Raw) (B : Nat) (h : Raws V s L) (f : fitR L) (ll : L.length ≤ 100000) (hq : okR L = true → ∀ x ∈ qs L, QB B x) (hB : 1001 * (B + 1) ≤ 17592186044416) :
    Spec Tryz.prog 13 [.agg #[.int .i64 r, .int .i64 c, s]] V fun v' V' => (stoB r c L = false → v' = .tuple #[.slice none 0 0, .int .i64 1]) ∧ (stoB r c L = true → ∃ w, v' = .tuple #[w, .int .i64 0] ∧ Sl1 (Sl1 natE) V' w (clsL (qs L) r.toNat)) := by
  obtain ⟨A, cp, rfl, hc, hm⟩ := h.form
  refine (Spec.enter Tryz.func13 rfl fun Γ => ?_)
  simp only [Tryz.ntmps13, List.map_cons, List.map_nil, List.length_cons, List.length_nil, Nat.reduceAdd, Nat.reduceSub, List.replicate_succ, List.replicate_zero, List.cons_append, List.nil_append]
  refine Gx.a (by kernel_rfl) fun K hK => ?_
  simp only [XA]
  refine hK _ ?_
  refine XWP.seq ?_
  refine Gx.a (by kernel_rfl) fun K hK => ?_
  simp only [XM, XA, Nat.reduceAdd, Nat.reduceLeDiff, ↓reduceIte]
  refine call_go (by kernel_rfl) rfl (csto_c _ _ r c L B h f ll hq hB) fun v1 V1 hV1 h1 => ?_
  subst h1
  cases e : stoB r c L
  · simp only [XA]
    refine hK _ ?_
    refine Gx.t rfl ?_
    refine Gx.a (by kernel_rfl) fun K hK => ?_
    simp only [XA]
    refine hK _ (XWP.ret ?_)
    try simp only [thenX_ret, inBlockX_ret]
    refine ret_go _ rfl ?_
    exact ⟨fun _ => rfl, fun h => by rw [e] at h; cases h⟩
  obtain ⟨n, rfl, rfl, hn, kl, ok, _⟩ := stoB_parts e
  have hr := (Raws.rats h ok).up hV1
  have hlen := qs_len L
  simp only [XA]
  refine hK _ ?_
  refine Gx.f rfl ?_
  refine XWP.skip ?_
  refine Gx.a (by kernel_rfl) fun K hK => ?_
  simp only [XM, XA, Nat.reduceAdd, Nat.reduceLeDiff, ↓reduceIte]
  rw [← hlen] at hr
  have hr' : Rats V1 (.slice A L.length cp) (qs L) := by rw [hlen] at hr; exact hr
  refine call_go (by kernel_rfl) rfl (bclasses_c _ _ n (qs L) hr' (by omega) hn) fun v2 V2 hV2 h2 => ?_
  simp only [XA]
  refine hK _ (XWP.ret ?_)
  try simp only [thenX_ret, inBlockX_ret]
  refine ret_go _ rfl ?_
  exact ⟨fun h => (by rw [e] at h; cases h), fun _ => ⟨_, rfl, by rw [Int.toNat_natCast]; exact h2⟩⟩
end Go.Proofs.YtkgmicakfmllmaaGreat
end
section
namespace Go.Proofs.YtkgmicakfmllmaaGreat
open Go Go.RowKit
set_option linter.unusedSimpArgs false
set_option linter.unusedVariables false
attribute [local irreducible] XWP Spec SpecO XPub XCall seqX clX apX stX ldX iaX slX
theorem matR_rats {n m : Nat} {l : List Rat} (hl : l.length = n * m) (hn : n ≤ 60) (hm : m ≤ 60) : matR (n : Int) (m : Int) (l.map toRaw) = true := by
  unfold matR
  rw [okR_toRaw, Bool.and_true, decide_eq_true_eq, List.length_map]
  refine ⟨by omega, by omega, by omega, by omega, ?_⟩
  rw [hl]; exact Int.natCast_mul n m
/-- what solving gives: the x of the equations, where there is just one -/
def SolR (V' : View) (n m B : Nat) (la lb : List Rat) (v' : Value) : Prop :=
  (¬ UniG (gridL la n) n n → v' = .tuple #[.agg #[.int .i64 0, .int .i64 0, .slice none 0 0], .int .i64 31]) ∧
  (UniG (gridL la n) n n → ∃ w X, v' = .tuple #[.agg #[.int .i64 (n : Int), .int .i64 (m : Int), w], .int .i64 0] ∧ Rats V' w (flatG X n m) ∧ (∀ c, c < m → LinG (gridL la n) n n (fun i => gridL lb m i c) (fun j => X j c)) ∧ ∀ i k, i < n → k < m → QB (2 * ge B (2 * n)) (X i k))
theorem mSolve_c (V : View) (sa sb : Value) (n m B : Nat) (la lb : List Rat) (ha : Rats V sa la) (hb : Rats V sb lb) (lla : la.length = n * n) (llb : lb.length = n * m) (h1 : 1 ≤ n) (hn : n ≤ 60) (hm : m ≤ 60) (hqa : ∀ x ∈ la, QB B x) (hqb : ∀ x ∈ lb, QB B x) (hB : ge B (2 * n + 1) ≤ 17592186044416) :
    Spec Tryz.prog 124 [.agg #[.int .i64 (n : Int), .int .i64 (n : Int), sa], .agg #[.int .i64 (n : Int), .int .i64 (m : Int), sb]] V fun v' V' => SolR V' n m B la lb v' := by
  have hB0 : B ≤ 17592186044416 := Nat.le_trans (ge_le B _) hB
  have l1 := matR_rats lla hn hn
  have l2 := matR_rats llb hn hm
  have hnn : n * n ≤ 3600 := Nat.le_trans (Nat.mul_le_mul hn hn) (by decide)
  have hnm : n * m ≤ 3600 := Nat.le_trans (Nat.mul_le_mul hn hm) (by decide)
  have f1 : fitR (la.map toRaw) := fitR_toRaw fun x hx => (hqa x hx).qf hB0
  have f2 : fitR (lb.map toRaw) := fitR_toRaw fun x hx => (hqb x hx).qf hB0
  obtain ⟨A1, c1, rfl, hc1, hm1⟩ := ha.form
  obtain ⟨A2, c2, rfl, hc2, hm2⟩ := hb.form
  refine (Spec.enter Tryz.func124 rfl fun Γ => ?_)
  simp only [Tryz.ntmps124, List.map_cons, List.map_nil, List.length_cons, List.length_nil, Nat.reduceAdd, Nat.reduceSub, List.replicate_succ, List.replicate_zero, List.cons_append, List.nil_append]
  refine Gx.a (by kernel_rfl) fun K hK => ?_
  simp only [XM, XA, Nat.reduceAdd]
  refine hK _ ?_
  refine XWP.seq ?_
  refine Gx.a (by kernel_rfl) fun K hK => ?_
  simp only [XM, XA, Nat.reduceAdd, Nat.reduceLeDiff, ↓reduceIte]
  refine call_go (by kernel_rfl) rfl (cmright_c _ _ _ _ (la.map toRaw) (Rats.raws ha) f1 (by rw [List.length_map]; omega)) fun v1 V1 hV1 g1 => ?_
  rw [l1] at g1
  subst g1
  simp only [XM, XA, gateX, Nat.reduceAdd, Nat.reduceLeDiff, ↓reduceIte, beq_self_eq_true]
  refine call_go (by kernel_rfl) rfl (cmright_c _ _ _ _ (lb.map toRaw) (Rats.raws (hb.up hV1)) f2 (by rw [List.length_map]; omega)) fun v2 V2 hV2 g2 => ?_
  rw [l2] at g2
  subst g2
  simp only [XA, gateX, ↓reduceIte, beq_self_eq_true]
  refine hK _ ?_
  refine Gx.f rfl ?_
  refine XWP.skip ?_
  refine XWP.seq ?_
  refine Gx.a (by kernel_rfl) fun K hK => ?_
  simp only [XM, XA, XB, gateX, ↓reduceIte, beq_self_eq_true, decide_true]
  refine hK _ ?_
  refine Gx.f rfl ?_
  refine XWP.skip ?_
  have hle := View.le_trans hV1 hV2
  refine Gx.a (by kernel_rfl) fun K hK => ?_
  simp only [XM, XA, Nat.reduceAdd, Nat.reduceLeDiff, ↓reduceIte]
  refine call_go (by kernel_rfl) rfl (mSolved_c _ _ _ n m B la lb (ha.up hle) (hb.up hle) lla llb h1 (by omega) (by omega) hqa hqb hB) fun v3 V3 hV3 g3 => ?_
  by_cases hu : UniG (gridL la n) n n
  · obtain ⟨w, X, rfl, hw, hl, hq⟩ := g3.2 hu
    obtain ⟨A3, c3, rfl, _, _⟩ := hw.form
    simp only [XM, XA, Nat.reduceAdd]
    refine st_mat shapeT_24 rfl rfl rfl rfl rfl ?_
    simp only [XA]
    refine hK _ ?_
    refine XWP.seq ?_
    refine Gx.a (by kernel_rfl) fun K hK => ?_
    simp only [XA]
    refine hK _ ?_
    refine Gx.f rfl ?_
    refine XWP.skip ?_
    refine Gx.a (by kernel_rfl) fun K hK => ?_
    simp only [XM, XA, Nat.reduceAdd, Nat.reduceLeDiff, ↓reduceIte]
    refine st_mat shapeT_24 rfl rfl rfl rfl rfl ?_
    simp only [XA]
    refine hK _ (XWP.ret ?_)
    try simp only [thenX_ret, inBlockX_ret]
    exact ret_go _ (by simp [resAll, resV, cellsV, shapeT_24]; rfl) ⟨fun h => absurd hu h, fun _ => ⟨_, X, rfl, hw, hl, hq⟩⟩
  · have e3 := g3.1 hu
    subst e3
    simp only [XM, XA, Nat.reduceAdd]
    refine st_mat shapeT_24 rfl rfl rfl rfl rfl ?_
    simp only [XA]
    refine hK _ ?_
    refine XWP.seq ?_
    refine Gx.a (by kernel_rfl) fun K hK => ?_
    simp only [XA]
    refine hK _ ?_
    refine Gx.t rfl ?_
    refine Gx.a (by kernel_rfl) fun K hK => ?_
    simp only []
    refine bd_go (by kernel_rfl) #[] (by simp) bd_mtx0 ?_
    simp only [XA]
    refine st_mat shapeT_24 rfl rfl rfl rfl rfl ?_
    simp only [XA]
    refine hK _ (XWP.ret ?_)
    try simp only [thenX_ret, inBlockX_ret]
    exact ret_go _ (by simp [resAll, resV, cellsV, shapeT_24]; rfl) ⟨fun _ => rfl, fun h => absurd h hu⟩
end Go.Proofs.YtkgmicakfmllmaaGreat
end
