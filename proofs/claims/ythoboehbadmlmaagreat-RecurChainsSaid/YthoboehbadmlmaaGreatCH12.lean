/- the exits of a chain step by step satisfy a recurrence no longer than its states, whose generating function at 1 is the chance of the exit (part 12 of 13) -/
import Derived.OrdersHeld
import Derived.Below
import Derived.Tactics
import Derived.KernelRfl
import Derived.RangeFuncCalls
import Derived.RangeFuncFrom
import Derived.RangeFuncLeaves
import Derived.OrdersIn
import Derived.Laws.AppendOwn
import Derived.Laws.MakeOwn
import Derived.Laws.CopyRow
import Derived.Laws.Cells
import Derived.Laws.World
import Derived.Laws.Alloc2
import Derived.Laws.NewBlocks
import Derived.Maps.AppendAt
import Derived.Test.YthoboehbadmlmaaGreatProg
import Init.Data.List.Lemmas
import Init.Omega
import Derived.WalkKit
import Derived.ProofKit
import Derived.OpenShut
import Derived.ChangeOld
import Derived.SizedLaws
import Derived.ChangeSlices
import Derived.ChangeArms
import Derived.Deep.Slices
import Derived.Test.YthoboehbadmlmaaGreatCH11
set_option linter.unusedVariables false
set_option linter.unusedSimpArgs false
section
namespace Go.Proofs.YthoboehbadmlmaaGreat
open Go Go.RowKit
attribute [local irreducible] XWP Spec SpecO XPub XCall seqX clX apX stX ldX iaX slX
theorem ge_add (B i : Nat) : ∀ k, ge (ge B i) k = ge B (i + k)
 | 0 => rfl
 | k + 1 => by rw [ge, ge_add B i k]; rfl
theorem ge_le (B k : Nat) : B ≤ ge B k := ge_mono B (Nat.zero_le k)
theorem aug_ker {A B : Grid} {n : Nat} : UniG (augG A B n) n n ↔ UniG A n n := by
 have e : ∀ i (x : Nat → Rat), Sm (fun j => augG A B n i j * x j) n = Sm (fun j => A i j * x j) n := fun i x => Sm_congr _ fun j hj => by unfold augG; rw [if_pos hj]
 constructor
 ·intro h x hx; exact h x fun i hi => by rw [e]; exact hx i hi
 ·intro h x hx; exact h x fun i hi => by rw [← e]; exact hx i hi
theorem aug_lin {A B : Grid} {n c : Nat} {x : Nat → Rat} (h : LinG (augG A B n) n n (fun i => augG A B n i (n + c)) x) : LinG A n n (fun i => B i c) x := fun i hi => by
 have e : Sm (fun j => augG A B n i j * x j) n = Sm (fun j => A i j * x j) n := Sm_congr _ fun j hj => by unfold augG; rw [if_pos hj]
 rw [← e, h i hi]
 show augG A B n i (n + c) = B i c
 unfold augG
 rw [if_neg (by omega), Nat.add_sub_cancel_left]
theorem own_rw {H : Heap} {o : Option (Nat × Row)} {e n : Nat} {v : Value} {cells : List Value} (h : Own (addRow (fun _ => none) o) e 3 v n cells) (hn : 1 ≤ n) : ∃ g cap, v = .slice (some ⟨g, 0, none⟩) n cap ∧ o = some (g, ⟨e, cells, cap * 3⟩) ∧ addRow H o g = some ⟨e, cells, cap * 3⟩ ∧ n ≤ cap ∧ cap ≤ maxLen := by
 rcases own_parts h with ⟨_, h0, _⟩ | ⟨g, cap, rfl, hg, hle, hcap, _⟩
 ·omega
 ·cases o with
  | none => cases hg
  | some q =>
   obtain ⟨g', r⟩ := q
   simp only [addRow, upd] at hg
   split at hg
   ·rename_i e'
    subst e'
    cases hg
    exact ⟨g, cap, rfl, rfl, upd_at _ _ _, hle, hcap⟩
   ·cases hg
theorem own_any {H : Heap} {o : Option (Nat × Row)} {e n : Nat} {v : Value} {cells : List Value} (h : Own (addRow (fun _ => none) o) e 3 v n cells) : Own (addRow H o) e 3 v n cells := by
 rcases Nat.eq_zero_or_pos n with h0 | h0
 ·rcases own_parts h with ⟨rfl, _, rfl⟩ | ⟨g, cap, rfl, hg, hle, hcap, hl⟩
  ·rw [h0]; exact own_nil
  ·cases o with
   | none => cases hg
   | some q =>
    obtain ⟨g', r⟩ := q
    simp only [addRow, upd] at hg
    split at hg
    ·rename_i e'
     subst e'
     cases hg
     exact ⟨hl, .inr ⟨g, cap, rfl, upd_at _ _ _, hle, hcap⟩⟩
    ·cases hg
 ·obtain ⟨g, cap, rfl, _, h2, h3, h4⟩ := own_rw (H := H) h h0
  exact ⟨h.1, .inr ⟨g, cap, rfl, h2, h3, h4⟩⟩
theorem addRow_only {o : Option (Nat × Row)} {g : Nat} {r : Row} (h : addRow (fun _ => none) o g = some r) : o = some (g, r) := by
 cases o with
 | none => cases h
 | some q =>
  obtain ⟨g', r'⟩ := q
  simp only [addRow, upd] at h
  split at h
  ·rename_i e'
   subst e'; cases h; rfl
  ·cases h
theorem addRow_off {H : Heap} {o : Option (Nat × Row)} {b : Nat} {r : Row} (hb : H b = some r) (hs : ∀ g q, o = some (g, q) → H g = none) : addRow H o b = some r := by
 cases o with
 | none => exact hb
 | some q =>
  obtain ⟨g, q⟩ := q
  have := hs g q rfl
  simp only [addRow, upd]
  rw [if_neg fun e => by rw [e, this] at hb; cases hb]; exact hb
theorem splice_all {a b c x y z : Value} : splice [a, b, c] 0 [x, y, z] = [x, y, z] := by unfold splice; simp
set_option maxHeartbeats 4000000 in
theorem mSolved_c (V : View) (sa sb : Value) (n m B : Nat) (la lb : List Rat) (ha : Rats V sa la) (hb : Rats V sb lb) (lla : la.length = n * n) (llb : lb.length = n * m) (h1 : 1 ≤ n) (hn : n ≤ 500) (hm : m ≤ 500) (hqa : ∀ x ∈ la, QB B x) (hqb : ∀ x ∈ lb, QB B x) (hB : ge B (2 * n + 1) ≤ 17592186044416) :
  Spec Tryz.prog 159 [.agg #[.int .i64 (n : Int), .int .i64 (n : Int), sa], .agg #[.int .i64 (n : Int), .int .i64 (m : Int), sb]] V fun v' V' =>
   (¬ UniG (gridL la n) n n → v' = .tuple #[.agg #[.int .i64 0, .int .i64 0, .slice none 0 0], .bool false]) ∧
   (UniG (gridL la n) n n → ∃ w X, v' = .tuple #[.agg #[.int .i64 (n : Int), .int .i64 (m : Int), w], .bool true] ∧ Rats V' w (flatG X n m) ∧ (∀ c, c < m → LinG (gridL la n) n n (fun i => gridL lb m i c) (fun j => X j c)) ∧ ∀ i k, i < n → k < m → QB (2 * ge B (2 * n)) (X i k)) := by
 obtain ⟨A1, c1, rfl, hc1, hm1⟩ := ha.form
 obtain ⟨A2, c2, rfl, hc2, hm2⟩ := hb.form
 have hB1 : ge B (2 * n) * 4 + 2 ≤ 17592186044416 := by rw [ge] at hB; omega
 have hBn : ge B (n + 1) ≤ 17592186044416 := Nat.le_trans (ge_mono B (by omega)) hB
 have hB0 : B ≤ 17592186044416 := Nat.le_trans (ge_le B _) hB
 have hnm : n * (n + m) ≤ 500000 := Nat.le_trans (Nat.mul_le_mul hn (show n + m ≤ 1000 by omega)) (by decide)
 have hpos : 1 ≤ n * (n + m) := Nat.mul_pos (by omega) (by omega)
 have hqA : ∀ i k, i < n → k < n → QB B (gridL la n i k) := fun i k hi hk => hqa _ (cf_mem (by rw [lla]; exact pos_lt hi hk))
 have hqB : ∀ i k, i < n → k < m → QB B (gridL lb m i k) := fun i k hi hk => hqb _ (cf_mem (by rw [llb]; exact pos_lt hi hk))
 have hqG : ∀ i k, i < n → k < n + m → QB B (augG (gridL la n) (gridL lb m) n i k) := fun i k hi hk => by
  unfold augG
  split
  ·exact hqA i k hi (by assumption)
  ·exact hqB i _ hi (by omega)
 obtain ⟨G0, hG0⟩ : ∃ G0, G0 = augG (gridL la n) (gridL lb m) n := ⟨_, rfl⟩
 rw [← hG0] at hqG
 refine (Spec.enterR Tryz.func159 rfl fun Γ hΓ => ?_)
 simp only [Tryz.ntmps159, List.map_cons, List.map_nil, List.length_cons, List.length_nil, Nat.reduceAdd, Nat.reduceSub, List.replicate_succ, List.replicate_zero, List.cons_append, List.nil_append]
 refine Gx.a (by kernel_rfl) fun K hK => ?_
 simp only [XM, XA, Nat.reduceAdd]
 refine hK _ ?_
 refine Gx.a (by kernel_rfl) fun K hK => ?_
 simp only [XM, XA, XB, Nat.reduceAdd]
 refine st_one shapeT_3 rfl rfl (by simp) ?_
 simp only [XA]
 refine hK _ ?_
 refine XWP.row1 (bx := [_, _, _]) fun b6 e6 hb6 _ => ?_
 simp only [List.map_cons, List.map_nil, rowS_v, rowS_p, List.length_nil, List.length_cons, Nat.reduceAdd, Nat.reduceEqDiff, ↓reduceIte]
 refine XWP.pub b6 _ (upd_at _ _ _) fun o6 ho6 hle6 => ?_
 have eo6 := row_obj ho6
 subst eo6
 have h6 := addV_at V b6 (.cells ([.int .i64 (n : Int)] : List Value).toArray e6 (0, 0))
 generalize upd (upd (fun _ => none) b6 _) b6 none = H1 at *
 generalize addV V b6 _ = V1 at *
 refine XWP.row1 (bx := [_, _]) fun b4 e4 hb4 _ => ?_
 simp only [List.map_cons, List.map_nil, rowS_v, rowS_p, List.length_nil, List.length_cons, Nat.reduceAdd, Nat.reduceEqDiff, ↓reduceIte]
 have f2 : upd H1 b4 (some ⟨e4, [.int .i64 0, .int .i64 0, .slice none 0 0], 3⟩) b4 = some ⟨e4, [.int .i64 0, .int .i64 0, .slice none 0 0], 3⟩ := upd_at _ _ _
 generalize upd H1 b4 (some ⟨e4, [.int .i64 0, .int .i64 0, .slice none 0 0], 3⟩) = H2 at *
 refine XWP.row1 (bx := [_]) fun b3 e3 hb3 _ => ?_
 simp only [List.map_cons, List.map_nil, rowS_v, rowS_p, List.length_nil, List.length_cons, Nat.reduceAdd, Nat.reduceEqDiff, ↓reduceIte]
 refine XWP.pub b3 _ (upd_at _ _ _) fun o3 ho3 hle3 => ?_
 have eo3 := row_obj ho3
 subst eo3
 have n43 := new_ne hb3 f2
 have f3 : upd (upd H2 b3 (some ⟨e3, [.int .i64 (n : Int), .int .i64 (m : Int), .slice A2 lb.length c2], 3⟩)) b3 none b4 = some ⟨e4, [.int .i64 0, .int .i64 0, .slice none 0 0], 3⟩ := (upd_off n43).trans ((upd_off n43).trans f2)
 have h3 := addV_at V1 b3 (.cells ([.int .i64 (n : Int), .int .i64 (m : Int), .slice A2 lb.length c2] : List Value).toArray e3 (0, 0))
 generalize upd (upd H2 b3 _) b3 none = H3 at *
 generalize addV V1 b3 _ = V3 at *
 refine XWP.row1 (bx := []) fun b2 e2 hb2 _ => ?_
 simp only [List.map_cons, List.map_nil, rowS_v, rowS_p, List.length_nil, List.length_cons, Nat.reduceAdd, ↓reduceIte]
 refine XWP.pub b2 _ (upd_at _ _ _) fun o2 ho2 hle2 => ?_
 have eo2 := row_obj ho2
 subst eo2
 have n42 := new_ne hb2 f3
 have f4 : upd (upd H3 b2 (some ⟨e2, [.int .i64 (n : Int), .int .i64 (n : Int), .slice A1 la.length c1], 3⟩)) b2 none b4 = some ⟨e4, [.int .i64 0, .int .i64 0, .slice none 0 0], 3⟩ := (upd_off n42).trans ((upd_off n42).trans f3)
 have h2 := addV_at V3 b2 (.cells ([.int .i64 (n : Int), .int .i64 (n : Int), .slice A1 la.length c1] : List Value).toArray e2 (0, 0))
 generalize upd (upd H3 b2 _) b2 none = H4 at *
 generalize addV V3 b2 _ = V4 at *
 have hle14 := View.le_trans hle3 hle2
 have h6 := hle14 _ _ h6
 have h3 := hle2 _ _ h3
 have ha4 := (ha.up hle6).up hle14
 have hb4 := (hb.up hle6).up hle14
 have w0 := wr_add (p := n) (k := m) (by omega) (by omega)
 refine Gx.a (by kernel_rfl) fun K hK => ?_
 simp only [XA]
 refine ld_mem (ldV1 h6 (off := 0) rfl shapeT_3 _) ?_
 simp only [XA]
 refine ld_mem (ldV1 h6 (off := 0) rfl shapeT_3 _) ?_
 simp only [XM, XA]
 refine ld_mem (ldV1 h3 (off := 1) rfl shapeT_3 _) ?_
 simp only [XA, XB, w0]
 refine mkf_go [.pointer (some ⟨b6, 0, none⟩), .pointer (some ⟨b2, 0, none⟩), .pointer (some ⟨b3, 0, none⟩)] rfl ?_
 simp only [XA]
 refine call_own (by kernel_rfl) rfl (filled_o V4 (lb := [.pointer (some ⟨b6, 0, none⟩), .pointer (some ⟨b2, 0, none⟩), .pointer (some ⟨b3, 0, none⟩)]) n (n + m) G0 (by kernel_rfl) (by omega) (by omega) fun V' i k hV hi hk => ?_) fun v7 V7 o7 hV7 hs7 hR7 => ?_
 ·rw [hG0]
  exact solved1_c V' b6 b2 b3 e6 e2 e3 n m i k _ _ la lb (hV _ _ h6) (hV _ _ h2) (hV _ _ h3) (ha4.up hV) (hb4.up hV) lla llb hn hm hi hk (fun x hx => (hqa x hx).qf hB0) (fun x hx => (hqb x hx).qf hB0)
 obtain ⟨sl, cells, rfl, hown, hrow⟩ := hR7
 obtain ⟨g, cap, rfl, ho7, hg, hgc, hgm⟩ := own_rw (H := H4) hown hpos
 have f5 : addRow H4 o7 b4 = some _ := addRow_off f4 fun g' q e => (hs7 g' q e).1
 have hgb4 : g ≠ b4 := Ne.symm (new_ne (hs7 g _ ho7).1 f4)
 clear hs7 hown ho7
 simp only [XM, XA]
 refine st_mat shapeT_24 rfl rfl rfl rfl rfl ?_
 simp only [XA]
 refine hK _ ?_
 clear hK
 generalize addRow H4 o7 = H5 at *
 refine XWP.row1 (bx := []) fun b7 e7 hb7 _ => ?_
 simp only [List.map_cons, List.map_nil, rowS_v, rowS_p, List.length_nil, List.length_cons, Nat.reduceAdd, ↓reduceIte]
 refine XWP.pub b7 _ (upd_at _ _ _) fun o7' ho7' hle7 => ?_
 have eo7 := row_obj ho7'
 subst eo7
 have n47 := new_ne hb7 f5
 have n57 := new_ne hb7 hg
 have f6 : upd (upd H5 b7 (some ⟨e7, [.int .i64 (n : Int), .int .i64 ((n + m : Nat) : Int), .slice (some ⟨g, 0, none⟩) (n * (n + m)) cap], 3⟩)) b7 none b4 = some ⟨e4, [.int .i64 0, .int .i64 0, .slice none 0 0], 3⟩ := (upd_off n47).trans ((upd_off n47).trans f5)
 have hM0 : MatH (upd (upd H5 b7 (some ⟨e7, [.int .i64 (n : Int), .int .i64 ((n + m : Nat) : Int), .slice (some ⟨g, 0, none⟩) (n * (n + m)) cap], 3⟩)) b7 none) (addV V7 b7 (.cells ([.int .i64 (n : Int), .int .i64 ((n + m : Nat) : Int), .slice (some ⟨g, 0, none⟩) (n * (n + m)) cap] : List Value).toArray e7 (0, 0))) g cap n (n + m) G0 := ⟨cells, (upd_off n57).trans ((upd_off n57).trans hg), hrow.mono ratE_ok hle7⟩
 have h7 := addV_at V7 b7 (.cells ([.int .i64 (n : Int), .int .i64 ((n + m : Nat) : Int), .slice (some ⟨g, 0, none⟩) (n * (n + m)) cap] : List Value).toArray e7 (0, 0))
 have h6 := hle7 _ _ (hV7 _ _ h6)
 have h3 := hle7 _ _ (hV7 _ _ h3)
 generalize upd (upd H5 b7 _) b7 none = H6 at *
 generalize addV V7 b7 _ = V8 at *
 clear hrow hg f5 f4 f3 f2 hb7 hb6 hb2 hb3 ho7' ho2 ho3 ho6 h2 ha4 hb4 hle7 hV7
 refine XWP.seq ?_
 refine Gx.ma 2 hΓ rfl (by kernel_rfl) (by kernel_rfl) fun K hK => ?_
 simp only [XA, Nat.reduceAdd]
 refine ld_mem (ldV3 h7 shapeT_24 _) ?_
 simp only [XA]
 refine ld_mem (ldV1 h6 (off := 0) rfl shapeT_3 _) ?_
 simp only [XA]
 refine mcall_go rfl rfl (steps_m H6 V8 g cap n (n + m) n B G0 hM0 (by omega) (by omega) (by omega) hqG hBn) fun v9 H9 V9 h9 => ?_
 obtain ⟨rank, odd, G, rfl, hV9, hoff, hM, hS⟩ := h9
 simp only [XA]
 refine hK _ ?_
 have f9 := hoff b4 _ (Ne.symm hgb4) f6
 have h7 := hV9 _ _ h7
 have h6 := hV9 _ _ h6
 have h3 := hV9 _ _ h3
 have huni : UniG (gridL la n) n n ↔ UniG G n n := by
  rw [UniG.req hS.eqv, hG0]; exact aug_ker.symm
 obtain ⟨col, hcol, hst, hor⟩ := hS.stp
 by_cases hr : rank < n
 ·have hnu : ¬ UniG (gridL la n) n n := fun h => by
   have hc : col = n := by omega
   refine low_not_uni (G := G) (R := n) (n := n) hr (fun i j a b c => hst.low i j a b (by omega)) (huni.1 h)
  have b1 : decide ((rank : Int) < (n : Int)) = true := decide_eq_true (by omega)
  refine Gx.a (by kernel_rfl) fun K hK => ?_
  simp only [XA]
  refine ld_mem (ldV1 h6 (off := 0) rfl shapeT_3 _) ?_
  simp only [XA, XB, b1]
  refine hK _ ?_
  refine Gx.t rfl ?_
  refine Gx.a (by kernel_rfl) fun K hK => ?_
  simp only []
  refine bd_go (by kernel_rfl) #[] (by simp) bd_mtx0 ?_
  simp only [XA]
  refine st_rowA shapeT_24 (all3 rfl rfl rfl) rfl f9 (by simp) ?_
  simp only [XA]
  refine hK _ (XWP.ret ?_)
  try simp only [thenX_ret, inBlockX_ret]
  refine ret_go _ (by simp [resAll, resV, cellsV, shapeT_24, upd_at, splice_all]; rfl) ⟨fun _ => rfl, fun h => absurd h hnu⟩
 have hrn : rank = n := by have := hst.le; omega
 subst hrn
 have htri : TriG G rank := hst.tri_of hcol
 have hu : UniG (gridL la rank) rank rank := huni.2 htri.uni
 have b1 : decide ((rank : Int) < (rank : Int)) = false := decide_eq_false (by omega)
 refine Gx.a (by kernel_rfl) fun K hK => ?_
 simp only [XA]
 refine ld_mem (ldV1 h6 (off := 0) rfl shapeT_3 _) ?_
 simp only [XA, XB, b1]
 refine hK _ ?_
 refine Gx.f rfl ?_
 refine XWP.skip ?_
 have hQ := hS.qb
 have hE := hS.eqv
 obtain ⟨B', hB'⟩ : ∃ B', B' = ge B rank := ⟨_, rfl⟩
 rw [← hB'] at hQ
 have hBB : ∀ k, k ≤ rank → 4 * ge B' k + 2 ≤ 17592186044416 := fun k hk => by
  rw [hB', ge_add]
  have := ge_mono B (show rank + k ≤ 2 * rank by omega)
  omega
 refine XWP.cutD 0 (fun s => ∃ (V10 : View) (H10 : Heap) (G10 : Grid), StIs (fun Z => [Z 0,Z 1, .v (.pointer (some ⟨b2, 0, none⟩)), .v (.pointer (some ⟨b3, 0, none⟩)), .v (.pointer (some ⟨b4, 0, none⟩)), Z 5, .v (.pointer (some ⟨b6, 0, none⟩)), .v (.pointer (some ⟨b7, 0, none⟩)), Z 8,Z 9,Z 10,Z 11,Z 12,Z 13,Z 14,Z 15,Z 16,Z 17,Z 18,Z 19,Z 20,Z 21,Z 22,Z 23,Z 24,Z 25,Z 26,Z 27,Z 28,Z 29,Z 30,Z 31,Z 32,Z 33,Z 34,Z 35,Z 36,Z 37,Z 38,Z 39,Z 40,Z 41,Z 42,Z 43,Z 44,Z 45,Z 46,Z 47,Z 48,Z 49,Z 50,Z 51]) [] H10 V10 s ∧ V9.le V10 ∧ (∀ k r, k ≠ g → H9 k = some r → H10 k = some r) ∧ MatH H10 V10 g cap rank (rank + m) G10 ∧ REq G0 G10 rank rank ∧ DiaG G10 rank 0 ∧ ∀ i k, i < rank → k < rank + m → QB (ge B' rank) (G10 i k)) ?_ ?_
 ·have wn := i64_sub rank 1 (by omega) (by omega)
  have hw : (((rank - 1 : Nat) : Int)) = (rank : Int) - 1 := by omega
  have wn' : IntKind.i64.wrap ((rank : Int) - 1) = (rank : Int) - 1 := wrap_id (by omega) (by omega)
  refine Gx.a (by kernel_rfl) fun K hK => ?_
  simp only [XA]
  refine ld_mem (ldV1 h6 (off := 0) rfl shapeT_3 _) ?_
  simp only [XA, XB, wn']
  refine hK _ ?_
  clear hK
  refine XWP.block ?_
  refine XWP.loopD 0 (fun q s => ∃ (V10 : View) (H10 : Heap) (G10 : Grid), StIs (fun Z => [Z 0,Z 1, .v (.pointer (some ⟨b2, 0, none⟩)), .v (.pointer (some ⟨b3, 0, none⟩)), .v (.pointer (some ⟨b4, 0, none⟩)), Z 5, .v (.pointer (some ⟨b6, 0, none⟩)), .v (.pointer (some ⟨b7, 0, none⟩)), Z 8,Z 9, .v (.int .i64 ((q : Int) - 1)), Z 11,Z 12,Z 13,Z 14,Z 15,Z 16,Z 17,Z 18,Z 19,Z 20,Z 21,Z 22,Z 23,Z 24,Z 25,Z 26,Z 27,Z 28,Z 29,Z 30,Z 31,Z 32,Z 33,Z 34,Z 35,Z 36,Z 37,Z 38,Z 39,Z 40,Z 41,Z 42,Z 43,Z 44,Z 45,Z 46,Z 47,Z 48,Z 49,Z 50,Z 51]) [] H10 V10 s ∧ q ≤ rank ∧ V9.le V10 ∧ (∀ k r, k ≠ g → H9 k = some r → H10 k = some r) ∧ MatH H10 V10 g cap rank (rank + m) G10 ∧ REq G0 G10 rank rank ∧ DiaG G10 rank q ∧ ∀ i k, i < rank → k < rank + m → QB (ge B' (rank - q)) (G10 i k)) rank ⟨V9, H9, G, StIs.of (by exact rfl), Nat.le_refl _, View.le_refl _, fun _ _ _ h => h, hM, hE, htri.dia, fun i k a b => by rw [Nat.sub_self]; exact hQ i k a b⟩ ?_
  rintro q s ⟨V10, H10, G10, hs, hq, hV10, hoff10, hM10, hE10, hD10, hQ10⟩
  obtain ⟨z, rfl⟩ := hs.out
  try dsimp only
  clear hs
  have h7' := hV10 _ _ h7
  refine XWP.seq ?_
  by_cases hq0 : q = 0
  ·subst hq0
   have bq : decide ((0 : Int) ≤ ((0 : Nat) : Int) - 1) = false := rfl
   refine Gx.a (by kernel_rfl) fun K hK => ?_
   simp only [XA, XB, bq]
   refine hK _ ?_
   refine Gx.f rfl ?_
   refine XWP.exit ?_
   exact fun f => ⟨V10, H10, G10, StIs.of (by exact rfl), hV10, hoff10, hM10, hE10, hD10, fun i k a b => hQ10 i k a b⟩
  have bq : decide ((0 : Int) ≤ (q : Int) - 1) = true := decide_eq_true (by omega)
  refine Gx.a (by kernel_rfl) fun K hK => ?_
  simp only [XA, XB, bq]
  refine hK _ ?_
  refine Gx.t rfl ?_
  refine XWP.skip ?_
  obtain ⟨i, rfl⟩ : ∃ i, q = i + 1 := ⟨q - 1, by omega⟩
  have ei : ((i + 1 : Nat) : Int) - 1 = (i : Int) := by omega
  rw [ei]
  refine XWP.cutD 0 (fun s => ∃ (V11 : View) (H11 : Heap) (G11 : Grid), StIs (fun Z => [Z 0,Z 1, .v (.pointer (some ⟨b2, 0, none⟩)), .v (.pointer (some ⟨b3, 0, none⟩)), .v (.pointer (some ⟨b4, 0, none⟩)), Z 5, .v (.pointer (some ⟨b6, 0, none⟩)), .v (.pointer (some ⟨b7, 0, none⟩)), Z 8,Z 9, .v (.int .i64 (i : Int)), Z 11,Z 12,Z 13,Z 14,Z 15,Z 16,Z 17,Z 18,Z 19,Z 20,Z 21,Z 22,Z 23,Z 24,Z 25,Z 26,Z 27,Z 28,Z 29,Z 30,Z 31,Z 32,Z 33,Z 34,Z 35,Z 36,Z 37,Z 38,Z 39,Z 40,Z 41,Z 42,Z 43,Z 44,Z 45,Z 46,Z 47,Z 48,Z 49,Z 50,Z 51]) [] H11 V11 s ∧ V10.le V11 ∧ (∀ k r, k ≠ g → H10 k = some r → H11 k = some r) ∧ MatH H11 V11 g cap rank (rank + m) G11 ∧ REq G10 G11 rank rank ∧ DiaG G11 rank i ∧ ∀ a k, a < rank → k < rank + m → QB (ge B' (rank - i)) (G11 a k)) ?_ ?_
  ·refine XWP.block ?_
   refine Gx.a (by kernel_rfl) fun K hK => ?_
   simp only [XA]
   refine hK _ ?_
   clear hK
   have hsub : rank - i = rank - (i + 1) + 1 := by omega
   refine XWP.block ?_
   refine XWP.loopD 0 (fun p s => ∃ (j : Nat) (V11 : View) (H11 : Heap) (G11 : Grid), StIs (fun Z => [Z 0,Z 1, .v (.pointer (some ⟨b2, 0, none⟩)), .v (.pointer (some ⟨b3, 0, none⟩)), .v (.pointer (some ⟨b4, 0, none⟩)), Z 5, .v (.pointer (some ⟨b6, 0, none⟩)), .v (.pointer (some ⟨b7, 0, none⟩)), Z 8,Z 9, .v (.int .i64 (i : Int)), Z 11,Z 12,Z 13,Z 14,Z 15,Z 16,Z 17,Z 18,Z 19,Z 20,Z 21,Z 22,Z 23,Z 24,Z 25,Z 26,Z 27,Z 28,Z 29,Z 30,Z 31,Z 32,Z 33,Z 34,Z 35,Z 36, .v (.int .i64 (i : Int)), .v (.int .i64 (j : Int)), Z 39,Z 40,Z 41,Z 42,Z 43,Z 44,Z 45,Z 46,Z 47,Z 48,Z 49,Z 50,Z 51]) [] H11 V11 s ∧ p + j = i ∧ V10.le V11 ∧ (∀ k r, k ≠ g → H10 k = some r → H11 k = some r) ∧ MatH H11 V11 g cap rank (rank + m) G11 ∧ REq G10 G11 rank rank ∧ DiaJ G11 rank i j ∧ (∀ a k, a < rank → k < rank + m → QB (ge B' (rank - i)) (G11 a k)) ∧ ∀ a k, a < rank → k < rank + m → j ≤ a → QB (ge B' (rank - (i + 1))) (G11 a k)) i ⟨0, V10, H10, G10, StIs.of (by exact rfl), by omega, View.le_refl _, fun _ _ _ h => h, hM10, REq.refl _ _ _, DiaJ.zero hD10, fun a k h1 h2 => (hQ10 a k h1 h2).mono (ge_mono B' (by omega)), fun a k h1 h2 _ => hQ10 a k h1 h2⟩ ?_
   rintro p s ⟨j, V11, H11, G11, hs, hp, hV11, hoff11, hM11, hE11, hD11, hQ11, hQ12⟩
   obtain ⟨z, rfl⟩ := hs.out
   try dsimp only
   clear hs
   have h7'' := hV11 _ _ h7'
   by_cases hj : j < i
   rotate_left
   ·obtain rfl : j = i := by omega
    have b3 : decide ((j : Int) < (j : Int)) = false := decide_eq_false (by omega)
    refine Gx.a (by kernel_rfl) fun K hK => ?_
    simp only [XA, XB, b3]
    refine hK _ ?_
    refine XWP.seq (Gx.f rfl ?_)
    refine XWP.exit ?_
    exact fun f => ⟨V11, H11, G11, StIs.of (by exact rfl), hV11, hoff11, hM11, hE11, hD11.done, hQ11⟩
   have b3 : decide ((j : Int) < (i : Int)) = true := decide_eq_true (by omega)
   refine Gx.a (by kernel_rfl) fun K hK => ?_
   simp only [XA, XB, b3]
   refine hK _ ?_
   refine XWP.seq (Gx.t rfl ?_)
   refine XWP.skip ?_
   refine XWP.seq ?_
   refine XWP.block ?_
   refine Gx.a (by kernel_rfl) fun K hK => ?_
   simp only [XA]
   refine hK _ ?_
   refine Gx.mc 4 hΓ rfl (by kernel_rfl) (by kernel_rfl) fun K hK => ?_
   simp only [XA, Nat.reduceAdd]
   refine ld_mem (ldV3 h7'' shapeT_24 _) ?_
   simp only [XA]
   have hbb := hBB (rank - (i + 1)) (by omega)
   refine mcall_go rfl rfl (clear_m H11 V11 g cap rank (rank + m) i j i (ge B' (rank - (i + 1))) G11 hM11 (by omega) (by omega) (by omega) (by omega) (by omega) (by omega) (hD11.diag i (by omega)) (fun k hk => hQ12 j k (by omega) hk (Nat.le_refl _)) (fun k hk => hQ12 i k (by omega) hk (by omega)) hbb) fun v12 H12 V12 h12 => ?_
   obtain ⟨hV12, hoff12, hM12⟩ := h12
   simp only [XA]
   refine hK _ ?_
   refine Gx.c (by kernel_rfl) fun K hK => ?_
   simp only [XA, XB, i64_succ j (by omega)]
   have hnew : ∀ a k, a < rank → k < rank + m → QB (ge B' (rank - i)) (gsub G11 j i (G11 j i / G11 i i) a k) := fun a k h1 h2 => by
    unfold gsub
    split
    ·have d1 := (hQ12 j i (by omega) (by omega) (Nat.le_refl _)).div (hQ12 i i (by omega) (by omega) (by omega))
     exact ((hQ12 j k (by omega) h2 (Nat.le_refl _)).sub (d1.mul (hQ12 i k (by omega) h2 (by omega)))).mono (by rw [hsub]; simp only [ge]; omega)
    ·exact hQ11 a k h1 h2
   exact hK _ ⟨p - 1, by omega, fun f => ⟨j + 1, V12, H12, _, StIs.of (by exact rfl), by omega, View.le_trans hV11 hV12, fun k r hk hr' => by rw [hoff12 k hk]; exact hoff11 k r hk hr', hM12, hE11.trans (REq.sub G11 _ (by omega) (by omega) (by omega)), hD11.step hj (by omega), hnew, fun a k h1 h2 h3 => by
    unfold gsub
    rw [if_neg (by omega)]; exact hQ12 a k h1 h2 (by omega)⟩⟩
  rintro s ⟨V11, H11, G11, hs, hV11, hoff11, hM11, hE11, hD11, hQ11⟩
  obtain ⟨z, rfl⟩ := hs.out
  try dsimp only
  clear hs
  have wi : IntKind.i64.wrap ((i : Int) - 1) = (i : Int) - 1 := wrap_id (by omega) (by omega)
  refine Gx.c (by kernel_rfl) fun K hK => ?_
  simp only [XA, XB, wi]
  exact hK _ ⟨i, by omega, fun f => ⟨V11, H11, G11, StIs.of (by exact rfl), by omega, View.le_trans hV10 hV11, fun k r hk hr' => hoff11 k r hk (hoff10 k r hk hr'), hM11, hE10.trans hE11, hD11, hQ11⟩⟩
 rintro s ⟨V10, H10, G10, hs, hV10, hoff10, hM10, hE10, hD10, hQ10⟩
 obtain ⟨z, rfl⟩ := hs.out
 try dsimp only
 clear hs
 have f10 := hoff10 b4 _ (Ne.symm hgb4) f9
 have hgB : ge B' rank = ge B (2 * rank) := by rw [hB', ge_add]; congr 1; omega
 rw [hgB] at hQ10
 have h7 := hV10 _ _ h7
 have h6 := hV10 _ _ h6
 have h3 := hV10 _ _ h3
 obtain ⟨cells', hg', hrow'⟩ := hM10
 refine XWP.pub g _ hg' fun og hog hleg => ?_
 have hRs : Rats _ _ _ := hrow'.pub ratE_ok hog hleg (n := rank * (rank + m)) (c := cap) (flatG_len _ _ _) hgc (by unfold maxLen at hgm; omega)
 have f11 : upd H10 g none b4 = some _ := (upd_off (Ne.symm hgb4)).trans f10
 have h7 := hleg _ _ h7
 have h6 := hleg _ _ h6
 have h3 := hleg _ _ h3
 generalize upd H10 g none = H11 at *
 generalize addV V10 g og = V11 at *
 refine Gx.a (by kernel_rfl) fun K hK => ?_
 simp only [XA]
 refine ld_mem (ldV1 h6 (off := 0) rfl shapeT_3 _) ?_
 simp only [XM, XA]
 refine ld_mem (ldV1 h3 (off := 1) rfl shapeT_3 _) ?_
 simp only [XA]
 refine mkf_go [.pointer (some ⟨b7, 0, none⟩), .pointer (some ⟨b6, 0, none⟩)] rfl ?_
 simp only [XA]
 refine call_own (by kernel_rfl) rfl (filled_o V11 (lb := [.pointer (some ⟨b7, 0, none⟩), .pointer (some ⟨b6, 0, none⟩)]) rank m (fun i k => G10 i (rank + k) / G10 i i) (by kernel_rfl) (by omega) (by omega) fun V' i k hV hi hk => solved2_c V' b7 b6 e7 e6 rank m i k _ G10 (hV _ _ h7) (hV _ _ h6) (hRs.up hV) hn hm hi hk (hD10.diag i hi) fun i k a b => (hQ10 i k a b).qf (by omega)) fun v12 V12 o12 hV12 hs12 hR12 => ?_
 obtain ⟨sl, cells, rfl, hown, hrow⟩ := hR12
 have f12 : addRow H11 o12 b4 = some _ := addRow_off f11 fun g' q e => (hs12 g' q e).1
 have hown2 := own_any (H := H11) hown
 have osl := own_isOne hown2
 have hne : sl.ownBlock ≠ some b4 := fun e => by
  rcases own_parts hown with ⟨rfl, _, _⟩ | ⟨g2, cap2, rfl, hg2, _⟩
  ·cases e
  ·have : g2 = b4 := by simpa [Value.ownBlock] using e
   exact new_ne (hs12 g2 _ (addRow_only hg2)).1 f11 this.symm
 generalize addRow H11 o12 = H12 at *
 simp only [XA]
 refine st_rowA shapeT_24 (all3 rfl rfl osl) rfl f12 (by simp) ?_
 simp only [XA]
 refine hK _ ?_
 have hown3 : Own (upd H12 b4 (some ⟨e4, splice [.int .i64 0, .int .i64 0, .slice none 0 0] 0 [.int .i64 (rank : Int), .int .i64 (m : Int), sl], 3⟩)) 48 3 sl (rank * m) cells := by
  refine ⟨hown2.1, ?_⟩
  rcases hown2.2 with h | ⟨g2, cap2, rfl, hg2, h⟩
  ·exact .inl h
  ·exact .inr ⟨g2, cap2, rfl, by rw [upd_off fun e => hne (by rw [e]; rfl)]; exact hg2, h⟩
 refine XWP.pubR ratE_ok hown3 hrow fun H13 V13 hV13 hRw hk13 => ?_
 have f13 := (hk13 b4 hne).trans (upd_at _ _ _)
 refine XWP.ret ?_
 try simp only [thenX_ret, inBlockX_ret]
 refine ret_go _ (by simp [resAll, resV, cellsV, shapeT_24, f13, splice_all]; rfl) ⟨fun h => absurd hu h, fun _ => ⟨sl, _, rfl, hRw, fun c hc => ?_, fun i k hi hk => ?_⟩⟩
 ·have h1 := (hE10.col (rank + c) _).1 (hD10.sol fun i => G10 i (rank + c))
  rw [hG0] at h1
  exact aug_lin h1
 ·exact ((hQ10 i (rank + k) hi (by omega)).div (hQ10 i i hi (by omega))).mono (by omega)
theorem csized_c (V : View) (r c : Nat) (hr : r ≤ 60) (hc : c ≤ 60) : Spec Tryz.prog 86 [.int .i64 (r : Int), .int .i64 (c : Int)] V fun v' V' => v' = .int .i64 0 := by
 have b1 : decide ((r : Int) < 0) = false := decide_eq_false (by omega)
 have b2 : decide ((c : Int) < 0) = false := decide_eq_false (by omega)
 have b3 : decide ((60 : Int) < (r : Int)) = false := decide_eq_false (by omega)
 have b4 : decide ((60 : Int) < (c : Int)) = false := decide_eq_false (by omega)
 refine (Spec.enter Tryz.func86 rfl fun Γ => ?_)
 simp only [Tryz.ntmps86, List.map_cons, List.map_nil, List.length_cons, List.length_nil, Nat.reduceAdd, Nat.reduceSub, List.replicate_succ, List.replicate_zero, List.cons_append, List.nil_append]
 refine Gx.a (by kernel_rfl) fun K hK => ?_
 simp only [XA]
 refine hK _ ?_
 refine XWP.cut (fun s => StIs (fun Z => [Z 0,Z 1,Z 2,Z 3,Z 4,Z 5,Z 6,Z 7,Z 8,Z 9,Z 10,Z 11,Z 12,Z 13,Z 14,Z 15,Z 16,Z 17,Z 18]) [] (fun _ => none) V s ∧ True) ?_ ?_
 ·refine XWP.block ?_
  refine Gx.a (by kernel_rfl) fun K hK => ?_
  simp only [XA, XB, gateX, ↓reduceIte, beq_self_eq_true, b1, b2]
  refine hK _ ?_
  refine Gx.f rfl ?_
  refine Gx.a (by kernel_rfl) fun K hK => ?_
  simp only [XA, XB, gateX, ↓reduceIte, beq_self_eq_true, b3, b4]
  refine hK _ ?_
  refine Gx.f rfl ?_
  refine XWP.skip ?_
  exact ⟨StIs.of (by exact rfl), trivial⟩
 rintro s ⟨hs, _⟩
 obtain ⟨z, rfl⟩ := hs.out
 try dsimp only
 refine Gx.a (by kernel_rfl) fun K hK => ?_
 simp only [XA]
 refine hK _ (XWP.ret ?_)
 try simp only [thenX_ret, inBlockX_ret]
 refine ret_go _ rfl ?_
 rfl
theorem czero1_c (V : View) (i k : Nat) : Spec Tryz.prog 88 [.int .i64 (i : Int), .int .i64 (k : Int)] V fun v' V' => RatC V' v' 0 := by
 refine (Spec.enter Tryz.func88 rfl fun Γ => ?_)
 simp only [Tryz.ntmps88, List.map_cons, List.map_nil, List.length_cons, List.length_nil, Nat.reduceAdd, Nat.reduceSub, List.replicate_succ, List.replicate_zero, List.cons_append, List.nil_append]
 refine Gx.a (by kernel_rfl) fun K hK => ?_
 simp only [XA, XB]
 refine hK _ ?_
 refine Gx.a (by kernel_rfl) fun K hK => ?_
 simp only [XA]
 refine call_go (by kernel_rfl) rfl (qzero_c _) fun v1 V1 hV1 h1 => ?_
 obtain ⟨x1, y1, rfl, p1, p2⟩ := h1.form
 simp only [XA]
 refine st_rat rfl rfl rfl p1 p2 ?_
 simp only [XA]
 refine hK _ (XWP.ret ?_)
 try simp only [thenX_ret, inBlockX_ret]
 exact ret_rat1 rfl rfl rfl h1
theorem flatG_mem {G : Grid} {R C : Nat} {x : Rat} (h : x ∈ flatG G R C) : ∃ i k, i < R ∧ k < C ∧ x = G i k := by
 unfold flatG mk at h
 obtain ⟨p, hp, rfl⟩ := List.mem_map.1 h
 have hp := List.mem_range.1 hp
 have hC : 0 < C := by
  rcases Nat.eq_zero_or_pos C with e | e
  ·rw [e, Nat.mul_zero] at hp; omega
  ·exact e
 exact ⟨p / C, p % C, by rw [Nat.div_lt_iff_lt_mul hC]; exact hp, Nat.mod_lt _ hC, rfl⟩
end Go.Proofs.YthoboehbadmlmaaGreat
end
section
namespace Go.Proofs.YthoboehbadmlmaaGreat
theorem gid_QB (i k : Nat) : QB 0 (gid i k) := by
 unfold gid; split
 ·exact QB_one 0
 ·exact QB_zero 0
def fb : Nat → Nat × Nat
 | 0 => (0, 0)
 | k + 1 =>
  let a := 5 * (97 + ((fb k).1 + (fb k).2 + 1) + 1)
  (a, 5 * (a + 1) + 3)
def hb (C : Nat) : Nat → Nat
 | 0 => 0
 | r + 1 => 5 * (97 + hb C r + 1) + C + 1
def nb : Nat → Nat × Nat
 | 0 => (1, 0)
 | i + 1 => (6 * ((nb i).1 + 6 + 1), (nb i).2 + (nb i).1 + (2200000 + 6 * ((nb i).2 + 22) + 1 + 6 * ((nb i).1 + 22)) + 1)
end Go.Proofs.YthoboehbadmlmaaGreat
end
section
namespace Go.Proofs.YthoboehbadmlmaaGreat
open Go Go.RowKit
attribute [local irreducible] XWP Spec SpecO XPub XCall seqX clX apX stX ldX iaX slX

theorem rat_len {q : Rat} (h : q ≠ 0) : decide ((0 : Int) < ((dg q.num.natAbs).length : Int)) = true := by
 have hlen : 0 < (dg q.num.natAbs).length := by
  rcases Nat.eq_zero_or_pos (dg q.num.natAbs).length with e | e
  ·exact absurd ((rat_zero_iff _).2 (dg_nil e)) h
  ·exact e
 exact decide_eq_true (by omega)
theorem RatC.form2 {V : View} {v : Value} {q : Rat} (h : RatC V v q) : ∃ A c e, v = .agg #[.bool (ng q), .slice A (dg q.num.natAbs).length c, e] ∧ isOne e = true := by
 obtain ⟨n, d, e, h1, h2⟩ := h
 obtain ⟨A, c, rfl, _, _⟩ := NatAt.form h1
 exact ⟨A, c, d, e, h2.one⟩
def bC (n : Nat) (R : Nat → Bool) : List Value := (List.range n).map fun i => Value.bool (R i)
theorem bC_len (n : Nat) (R : Nat → Bool) : (bC n R).length = n := by simp [bC]
theorem bC_get {n i : Nat} (R : Nat → Bool) (h : i < n) : (bC n R)[i]? = some (.bool (R i)) := by simp [bC, h]
theorem bC_set (n k : Nat) (R : Nat → Bool) (x : Bool) : (bC n R).set k (.bool x) = bC n fun i => if i = k then x else R i := by
 unfold bC
 rw [mk_set]
 refine List.map_congr_left fun i _ => ?_
 show _ = Value.bool (if i = k then x else R i)
 by_cases e : i = k
 ·rw [if_pos e, if_pos e]
 ·rw [if_neg e, if_neg e]
theorem bC_none (n : Nat) : (List.replicate n [Value.bool false]).flatten = bC n fun _ => false := by
 have e : (List.replicate n [Value.bool false]).flatten = List.replicate n (Value.bool false) := by simp
 rw [e]
 refine List.ext_getElem? fun i => ?_
 by_cases h : i < n
 ·rw [bC_get _ h]; simp [h]
 ·rw [List.getElem?_eq_none (by simp; omega), List.getElem?_eq_none (by rw [bC_len]; omega)]
theorem bC_at {H : Heap} {V : View} {g e tot n i : Nat} {R : Nat → Bool} (h : H g = some ⟨e, bC n R, tot⟩) (hi : i < n) : Loads Tryz.prog H V 4 g i (.bool (R i)) := ⟨false, 1, shapeT_4, .inr ⟨rfl, .inl ⟨_, h, bC_get R hi⟩⟩⟩
theorem bC_pub {V : View} {b n tot e : Nat} {o : Obj} {R : Nat → Bool} (ho : RowObj ⟨e, bC n R, tot⟩ o) (hn : n ≤ 60) : Sl1 booE (addV V b o) (.slice (some ⟨b, 0, none⟩) n n) ((List.range n).map R) := by
 obtain ⟨ex, rfl, _⟩ := ho
 refine ⟨some ⟨b, 0, none⟩, n, by simp, by simp, by omega, .inr ⟨b, 0, _, e, (0, 0), rfl, by simp [addV]; rfl, fun i x hi => ?_⟩⟩
 have hlt : i < n := by
  have := (List.getElem?_eq_some_iff.1 hi).1
  simpa using this
 have hx : x = R i := by
  simp [hlt] at hi
  exact hi.symm
 subst hx
 refine ⟨.bool (R i), ?_, rfl, rfl⟩
 simp only [Nat.zero_add, List.getElem?_toArray]
 rw [List.getElem?_append_left (by rw [bC_len]; exact hlt)]
 exact bC_get R hlt
set_option maxHeartbeats 8000000 in
theorem creaches_c (V : View) (s1 s2 : Value) (n m : Nat) (l1 l2 : List Rat) (h1 : Rats V s1 l1) (h2 : Rats V s2 l2) (e1 : l1.length = n * n) (e2 : l2.length = n * m) (hn : n ≤ 60) (hm : m ≤ 60) :
  Spec Tryz.prog 131 [.agg #[.int .i64 (n : Int), .int .i64 (n : Int), s1, .int .i64 (n : Int), .int .i64 (m : Int), s2]] V fun v' V' => ∃ R, Reach (gridL l1 n) (gridL l2 m) n m R ∧ Sl1 booE V' v' ((List.range n).map R) := by
 obtain ⟨A1, q1, rfl, _, _⟩ := h1.form
 obtain ⟨A2, q2, rfl, _, _⟩ := h2.form
 have hnn : n * n ≤ 3600 := Nat.le_trans (Nat.mul_le_mul hn hn) (by decide)
 have hnm : n * m ≤ 3600 := Nat.le_trans (Nat.mul_le_mul hn hm) (by decide)
 refine (Spec.enter Tryz.func131 rfl fun Γ => ?_)
 simp only [Tryz.ntmps131, List.map_cons, List.map_nil, List.length_cons, List.length_nil, Nat.reduceAdd, Nat.reduceSub, List.replicate_succ, List.replicate_zero, List.cons_append, List.nil_append]
 refine Gx.a (by kernel_rfl) fun K hK => ?_
 simp only [XA]
 refine hK _ ?_
 refine Gx.a (by kernel_rfl) fun K hK => ?_
 simp only [XM, XA, XB]
 refine mk_go rfl rfl elemT_155 zeroT_4 (by omega) (by omega) (by omega) (by omega) rfl (by omega) fun g hg1 hg2 => ?_
 simp only [XA]
 refine hK _ ?_
 have hH0 : upd (fun _ => none) g (some ⟨4, (List.replicate n [Value.bool false]).flatten, n⟩) g = some ⟨4, bC n (fun _ => false), n⟩ := by rw [upd_at, bC_none]
 generalize upd (fun _ => none) g _ = H0 at *
 refine XWP.cut (fun s => ∃ (V2 : View) (H2 : Heap) (R : Nat → Bool), StIs (fun Z => [Z 0, .p 0 0, Z 2, .v (.slice (some ⟨g, 0, none⟩) n n), Z 4,Z 5,Z 6,Z 7,Z 8,Z 9,Z 10,Z 11,Z 12,Z 13,Z 14,Z 15,Z 16,Z 17,Z 18,Z 19,Z 20,Z 21,Z 22,Z 23,Z 24,Z 25,Z 26,Z 27,Z 28,Z 29,Z 30,Z 31,Z 32,Z 33,Z 34,Z 35,Z 36,Z 37,Z 38,Z 39,Z 40,Z 41,Z 42,Z 43,Z 44,Z 45,Z 46,Z 47,Z 48,Z 49,Z 50,Z 51,Z 52,Z 53,Z 54,Z 55,Z 56,Z 57,Z 58,Z 59,Z 60,Z 61,Z 62,Z 63,Z 64,Z 65,Z 66,Z 67,Z 68,Z 69,Z 70,Z 71,Z 72,Z 73,Z 74,Z 75,Z 76,Z 77,Z 78,Z 79,Z 80]) [[.int .i64 (n : Int), .int .i64 (n : Int), .slice A1 l1.length q1, .int .i64 (n : Int), .int .i64 (m : Int), .slice A2 l2.length q2]] H2 V2 s ∧ V.le V2 ∧ H2 g = some ⟨4, bC n R, n⟩ ∧ OutI (gridL l1 n) (gridL l2 m) n m R n 0) ?_ ?_
 ·refine Gx.a (by kernel_rfl) fun K hK => ?_
  simp only [XN, XA]
  refine hK _ ?_
  clear hK
  refine XWP.block ?_
  refine XWP.loop (fun q s => ∃ (i : Nat) (V2 : View) (H2 : Heap) (R : Nat → Bool), StIs (fun Z => [Z 0, .p 0 0, Z 2, .v (.slice (some ⟨g, 0, none⟩) n n), Z 4,Z 5,Z 6,Z 7,Z 8,Z 9,Z 10,Z 11,Z 12,Z 13, .v (.int .i64 (n : Int)), .v (.int .i64 (i : Int)), Z 16,Z 17,Z 18,Z 19,Z 20,Z 21,Z 22,Z 23,Z 24,Z 25,Z 26,Z 27,Z 28,Z 29,Z 30,Z 31,Z 32,Z 33,Z 34,Z 35,Z 36,Z 37,Z 38,Z 39,Z 40,Z 41,Z 42,Z 43,Z 44,Z 45,Z 46,Z 47,Z 48,Z 49,Z 50,Z 51,Z 52,Z 53,Z 54,Z 55,Z 56,Z 57,Z 58,Z 59,Z 60,Z 61,Z 62,Z 63,Z 64,Z 65,Z 66,Z 67,Z 68,Z 69,Z 70,Z 71,Z 72,Z 73,Z 74,Z 75,Z 76,Z 77,Z 78,Z 79,Z 80]) [[.int .i64 (n : Int), .int .i64 (n : Int), .slice A1 l1.length q1, .int .i64 (n : Int), .int .i64 (m : Int), .slice A2 l2.length q2]] H2 V2 s ∧ q + i = n ∧ V.le V2 ∧ H2 g = some ⟨4, bC n R, n⟩ ∧ OutI (gridL l1 n) (gridL l2 m) n m R i 0) n ⟨0, V, H0, _, StIs.of (by exact rfl), by omega, View.le_refl _, hH0, OutI.start _ _ _ _⟩ ?_
  rintro q s ⟨i, V2, H2, R, hs, hq, hV2, hH2, hO⟩
  obtain ⟨z, rfl⟩ := hs.out
  try dsimp only
  clear hs
  by_cases hi : i < n
  rotate_left
  ·obtain rfl : i = n := by omega
   have b1 : decide ((i : Int) < (i : Int)) = false := decide_eq_false (by omega)
   refine Gx.a (by kernel_rfl) fun K hK => ?_
   simp only [XA, XB, b1]
   refine hK _ ?_
   refine XWP.seq (Gx.f rfl ?_)
   refine XWP.exit ?_
   exact ⟨V2, H2, R, StIs.of (by exact rfl), hV2, hH2, hO⟩
  have b1 : decide ((i : Int) < (n : Int)) = true := decide_eq_true (by omega)
  refine Gx.a (by kernel_rfl) fun K hK => ?_
  simp only [XA, XB, b1]
  refine hK _ ?_
  refine XWP.seq (Gx.t rfl ?_)
  refine XWP.skip ?_
  refine XWP.cut (fun s => ∃ (V3 : View) (H3 : Heap) (R : Nat → Bool), StIs (fun Z => [Z 0, .p 0 0, Z 2, .v (.slice (some ⟨g, 0, none⟩) n n), Z 4,Z 5,Z 6,Z 7,Z 8,Z 9,Z 10,Z 11,Z 12,Z 13, .v (.int .i64 (n : Int)), .v (.int .i64 (i : Int)), Z 16,Z 17,Z 18,Z 19,Z 20,Z 21,Z 22,Z 23,Z 24,Z 25,Z 26,Z 27,Z 28,Z 29,Z 30,Z 31,Z 32,Z 33,Z 34,Z 35,Z 36,Z 37,Z 38,Z 39,Z 40,Z 41,Z 42,Z 43,Z 44,Z 45,Z 46,Z 47,Z 48,Z 49,Z 50,Z 51,Z 52,Z 53,Z 54,Z 55,Z 56,Z 57,Z 58,Z 59,Z 60,Z 61,Z 62,Z 63,Z 64,Z 65,Z 66,Z 67,Z 68,Z 69,Z 70,Z 71,Z 72,Z 73,Z 74,Z 75,Z 76,Z 77,Z 78,Z 79,Z 80]) [[.int .i64 (n : Int), .int .i64 (n : Int), .slice A1 l1.length q1, .int .i64 (n : Int), .int .i64 (m : Int), .slice A2 l2.length q2]] H3 V3 s ∧ V2.le V3 ∧ H3 g = some ⟨4, bC n R, n⟩ ∧ OutI (gridL l1 n) (gridL l2 m) n m R i m) ?_ ?_
  ·clear hK
   refine XWP.block ?_
   refine Gx.a (by kernel_rfl) fun K hK => ?_
   simp only [XA]
   refine hK _ ?_
   refine Gx.a (by kernel_rfl) fun K hK => ?_
   simp only [XM, XA, XB, Nat.reduceAdd]
   refine hK _ ?_
   clear hK
   refine XWP.block ?_
   refine XWP.loop (fun d s => ∃ (k : Nat) (V3 : View) (H3 : Heap) (R : Nat → Bool), StIs (fun Z => [Z 0, .p 0 0, Z 2, .v (.slice (some ⟨g, 0, none⟩) n n), .v (.int .i64 (i : Int)), Z 5,Z 6,Z 7,Z 8,Z 9,Z 10,Z 11,Z 12,Z 13, .v (.int .i64 (n : Int)), .v (.int .i64 (i : Int)), Z 16,Z 17,Z 18,Z 19, .v (.int .i64 (m : Int)), .v (.int .i64 (k : Int)), Z 22,Z 23,Z 24,Z 25,Z 26,Z 27,Z 28,Z 29,Z 30,Z 31,Z 32,Z 33,Z 34,Z 35,Z 36,Z 37,Z 38,Z 39,Z 40,Z 41,Z 42,Z 43,Z 44,Z 45,Z 46,Z 47,Z 48,Z 49,Z 50,Z 51,Z 52,Z 53,Z 54,Z 55,Z 56,Z 57,Z 58,Z 59,Z 60,Z 61,Z 62,Z 63,Z 64,Z 65,Z 66,Z 67,Z 68,Z 69,Z 70,Z 71,Z 72,Z 73,Z 74,Z 75,Z 76,Z 77,Z 78,Z 79,Z 80]) [[.int .i64 (n : Int), .int .i64 (n : Int), .slice A1 l1.length q1, .int .i64 (n : Int), .int .i64 (m : Int), .slice A2 l2.length q2]] H3 V3 s ∧ d + k = m ∧ V2.le V3 ∧ H3 g = some ⟨4, bC n R, n⟩ ∧ OutI (gridL l1 n) (gridL l2 m) n m R i k) m ⟨0, V2, H2, R, StIs.of (by exact rfl), by omega, View.le_refl _, hH2, hO⟩ ?_
   clear hH2 hO
   rintro d s ⟨k, V3, H3, R, hs, hd, hV3, hH3, hO⟩
   obtain ⟨z, rfl⟩ := hs.out
   try dsimp only
   clear hs
   by_cases hk : k < m
   rotate_left
   ·obtain rfl : k = m := by omega
    have b2 : decide ((k : Int) < (k : Int)) = false := decide_eq_false (by omega)
    refine Gx.a (by kernel_rfl) fun K hK => ?_
    simp only [XA, XB, b2]
    refine hK _ ?_
    refine XWP.seq (Gx.f rfl ?_)
    refine XWP.exit ?_
    exact ⟨V3, H3, R, StIs.of (by exact rfl), hV3, hH3, hO⟩
   have b2 : decide ((k : Int) < (m : Int)) = true := decide_eq_true (by omega)
   refine Gx.a (by kernel_rfl) fun K hK => ?_
   simp only [XA, XB, b2]
   refine hK _ ?_
   refine XWP.seq (Gx.t rfl ?_)
   refine XWP.skip ?_
   refine XWP.cut (fun s => ∃ (V4 : View) (H4 : Heap) (R : Nat → Bool), StIs (fun Z => [Z 0, .p 0 0, Z 2, .v (.slice (some ⟨g, 0, none⟩) n n), .v (.int .i64 (i : Int)), Z 5,Z 6,Z 7,Z 8,Z 9,Z 10,Z 11,Z 12,Z 13, .v (.int .i64 (n : Int)), .v (.int .i64 (i : Int)), Z 16,Z 17,Z 18,Z 19, .v (.int .i64 (m : Int)), .v (.int .i64 (k : Int)), Z 22,Z 23,Z 24,Z 25,Z 26,Z 27,Z 28,Z 29,Z 30,Z 31,Z 32,Z 33,Z 34,Z 35,Z 36,Z 37,Z 38,Z 39,Z 40,Z 41,Z 42,Z 43,Z 44,Z 45,Z 46,Z 47,Z 48,Z 49,Z 50,Z 51,Z 52,Z 53,Z 54,Z 55,Z 56,Z 57,Z 58,Z 59,Z 60,Z 61,Z 62,Z 63,Z 64,Z 65,Z 66,Z 67,Z 68,Z 69,Z 70,Z 71,Z 72,Z 73,Z 74,Z 75,Z 76,Z 77,Z 78,Z 79,Z 80]) [[.int .i64 (n : Int), .int .i64 (n : Int), .slice A1 l1.length q1, .int .i64 (n : Int), .int .i64 (m : Int), .slice A2 l2.length q2]] H4 V4 s ∧ V3.le V4 ∧ H4 g = some ⟨4, bC n R, n⟩ ∧ OutI (gridL l1 n) (gridL l2 m) n m R i (k + 1)) ?_ ?_
   ·clear hK
    refine XWP.block ?_
    refine Gx.a (by kernel_rfl) fun K hK => ?_
    simp only [XA]
    refine hK _ ?_
    have hp := pos_lt hi hk
    have hO' := hO.step hi hk
    have hlen := bC_len n R
    cases hR : R i
    ·rw [hR] at hO'
     refine Gx.c (by kernel_rfl) fun K hK => ?_
     simp only [XN, XA, XB]
     refine ⟨by omega, by omega, ld_mem (bC_at hH3 hi) ?_⟩
     simp only [XM, XA, gateX, Nat.reduceAdd, Nat.reduceLeDiff, ↓reduceIte, beq_self_eq_true, hR]
     refine call_go (by kernel_rfl) rfl (ccell_c _ _ _ m i k l2 (h2.up (View.le_trans hV2 hV3)) (by omega) (by omega) (by omega) (by omega)) fun v4 V4 hV4 h4 => ?_
     obtain ⟨A5, c5, z5, rfl, o5⟩ := h4.form2
     have hx : (decide ((0 : Int) < ((dg (cf l2 (i * m + k)).num.natAbs).length : Int))) = decide (gridL l2 m i k ≠ 0) := by
      by_cases e : cf l2 (i * m + k) = 0
      ·rw [dg_of_zero e]; exact (decide_eq_false (fun h => h e)).symm
      ·rw [rat_len e]; exact (decide_eq_true e).symm
     simp only [XN, XA, XB, gateX, ↓reduceIte, beq_self_eq_true, hx]
     refine ⟨by omega, by omega, ?_⟩
     refine st_row shapeT_4 rfl rfl hH3 (by dsimp only; omega) ?_
     simp only [XA, bC_set]
     exact hK _ ⟨V4, _, _, StIs.of (by exact rfl), hV4, upd_at _ _ _, by simpa using hO'⟩
    ·rw [hR] at hO'
     refine Gx.c (by kernel_rfl) fun K hK => ?_
     simp only [XN, XA, XB]
     refine ⟨by omega, by omega, ld_mem (bC_at hH3 hi) ?_⟩
     simp only [XN, XA, XB, gateX, ↓reduceIte, hR]
     refine ⟨by omega, by omega, ?_⟩
     refine st_row shapeT_4 rfl rfl hH3 (by dsimp only; omega) ?_
     simp only [XA, bC_set]
     exact hK _ ⟨V3, _, _, StIs.of (by exact rfl), View.le_refl _, upd_at _ _ _, by simpa using hO'⟩
   clear hH3 hO
   rintro s ⟨V4, H4, R', hs, hV4, hH4, hO⟩
   obtain ⟨z, rfl⟩ := hs.out
   try dsimp only
   clear hs
   refine Gx.c (by kernel_rfl) fun K hK => ?_
   simp only [XA, XB, i64_succ k (by omega)]
   exact hK _ ⟨d - 1, by omega, k + 1, V4, H4, R', StIs.of (by exact rfl), by omega, View.le_trans hV3 hV4, hH4, hO⟩
  clear hH2 hO
  rintro s ⟨V3, H3, R', hs, hV3, hH3, hO⟩
  obtain ⟨z, rfl⟩ := hs.out
  try dsimp only
  clear hs
  refine Gx.c (by kernel_rfl) fun K hK => ?_
  simp only [XA, XB, i64_succ i (by omega)]
  exact hK _ ⟨q - 1, by omega, i + 1, V3, H3, R', StIs.of (by exact rfl), by omega, View.le_trans hV2 hV3, hH3, hO.row⟩
 rintro s ⟨V2, H2, R, hs, hV2, hH2, hO⟩
 obtain ⟨z, rfl⟩ := hs.out
 try dsimp only
 clear hs hH0
 refine XWP.cut (fun s => ∃ (V3 : View) (H3 : Heap) (R : Nat → Bool), StIs (fun Z => [Z 0, .p 0 0, Z 2, .v (.slice (some ⟨g, 0, none⟩) n n), Z 4,Z 5,Z 6,Z 7,Z 8,Z 9,Z 10,Z 11,Z 12,Z 13,Z 14,Z 15,Z 16,Z 17,Z 18,Z 19,Z 20,Z 21,Z 22,Z 23,Z 24,Z 25,Z 26,Z 27,Z 28,Z 29,Z 30,Z 31,Z 32,Z 33,Z 34,Z 35,Z 36,Z 37,Z 38,Z 39,Z 40,Z 41,Z 42,Z 43,Z 44,Z 45,Z 46,Z 47,Z 48,Z 49,Z 50,Z 51,Z 52,Z 53,Z 54,Z 55,Z 56,Z 57,Z 58,Z 59,Z 60,Z 61,Z 62,Z 63,Z 64,Z 65,Z 66,Z 67,Z 68,Z 69,Z 70,Z 71,Z 72,Z 73,Z 74,Z 75,Z 76,Z 77,Z 78,Z 79,Z 80]) [[.int .i64 (n : Int), .int .i64 (n : Int), .slice A1 l1.length q1, .int .i64 (n : Int), .int .i64 (m : Int), .slice A2 l2.length q2]] H3 V3 s ∧ H3 g = some ⟨4, bC n R, n⟩ ∧ Reach (gridL l1 n) (gridL l2 m) n m R) ?_ ?_
 ·refine Gx.a (by kernel_rfl) fun K hK => ?_
  simp only [XA]
  refine hK _ ?_
  clear hK
  refine XWP.block ?_
  refine XWP.loop (fun q s => ∃ (V3 : View) (H3 : Heap) (R : Nat → Bool) (more : Bool), StIs (fun Z => [Z 0, .p 0 0, Z 2, .v (.slice (some ⟨g, 0, none⟩) n n), Z 4,Z 5, .v (.bool more), Z 7,Z 8,Z 9,Z 10,Z 11,Z 12,Z 13,Z 14,Z 15,Z 16,Z 17,Z 18,Z 19,Z 20,Z 21,Z 22,Z 23,Z 24,Z 25,Z 26,Z 27,Z 28,Z 29,Z 30,Z 31,Z 32,Z 33,Z 34,Z 35,Z 36,Z 37,Z 38,Z 39,Z 40,Z 41,Z 42,Z 43,Z 44,Z 45,Z 46,Z 47,Z 48,Z 49,Z 50,Z 51,Z 52,Z 53,Z 54,Z 55,Z 56,Z 57,Z 58,Z 59,Z 60,Z 61,Z 62,Z 63,Z 64,Z 65,Z 66,Z 67,Z 68,Z 69,Z 70,Z 71,Z 72,Z 73,Z 74,Z 75,Z 76,Z 77,Z 78,Z 79,Z 80]) [[.int .i64 (n : Int), .int .i64 (n : Int), .slice A1 l1.length q1, .int .i64 (n : Int), .int .i64 (m : Int), .slice A2 l2.length q2]] H3 V3 s ∧ V.le V3 ∧ H3 g = some ⟨4, bC n R, n⟩ ∧ (more = true → PasI (gridL l1 n) (gridL l2 m) n m (cntF R n) R false 0 0 ∧ cntF R n + 1 ≤ q) ∧ (more = false → Reach (gridL l1 n) (gridL l2 m) n m R)) (n + 1) ⟨V2, H2, R, true, StIs.of (by exact rfl), hV2, hH2, fun _ => ⟨hO.pass, by have := cntF_le R n; omega⟩, fun h => (by cases h)⟩ ?_
  clear hH2 hO hV2
  rintro q s ⟨V3, H3, R, more, hs, hV3, hH3, hmt, hmf⟩
  obtain ⟨z, rfl⟩ := hs.out
  try dsimp only
  clear hs
  cases more
  ·refine XWP.seq ?_
   refine Gx.a (by kernel_rfl) fun K hK => ?_
   simp only [XA]
   refine hK _ ?_
   refine Gx.f rfl ?_
   refine XWP.exit ?_
   exact ⟨V3, H3, R, StIs.of (by exact rfl), hH3, hmf rfl⟩
  obtain ⟨hP0, hq⟩ := hmt rfl
  clear hmt hmf
  refine XWP.seq ?_
  refine Gx.a (by kernel_rfl) fun K hK => ?_
  simp only [XA]
  refine hK _ ?_
  refine Gx.t rfl ?_
  refine XWP.skip ?_
  refine XWP.block ?_
  refine Gx.a (by kernel_rfl) fun K hK => ?_
  simp only [XA]
  refine hK _ ?_
  refine Gx.a (by kernel_rfl) fun K hK => ?_
  simp only [XN, XA]
  refine hK _ ?_
  refine XWP.block ?_
  refine XWP.loop (fun d s => ∃ (i : Nat) (V4 : View) (H4 : Heap) (R' : Nat → Bool) (more : Bool), StIs (fun Z => [Z 0, .p 0 0, Z 2, .v (.slice (some ⟨g, 0, none⟩) n n), Z 4,Z 5, .v (.bool more), Z 7,Z 8,Z 9,Z 10,Z 11,Z 12,Z 13,Z 14,Z 15,Z 16,Z 17,Z 18,Z 19,Z 20,Z 21,Z 22,Z 23,Z 24,Z 25,Z 26,Z 27,Z 28,Z 29,Z 30,Z 31,Z 32,Z 33,Z 34,Z 35,Z 36,Z 37,Z 38,Z 39,Z 40,Z 41,Z 42,Z 43,Z 44, .v (.int .i64 (n : Int)), .v (.int .i64 (i : Int)), Z 47,Z 48,Z 49,Z 50,Z 51,Z 52,Z 53,Z 54,Z 55,Z 56,Z 57,Z 58,Z 59,Z 60,Z 61,Z 62,Z 63,Z 64,Z 65,Z 66,Z 67,Z 68,Z 69,Z 70,Z 71,Z 72,Z 73,Z 74,Z 75,Z 76,Z 77,Z 78,Z 79,Z 80]) [[.int .i64 (n : Int), .int .i64 (n : Int), .slice A1 l1.length q1, .int .i64 (n : Int), .int .i64 (m : Int), .slice A2 l2.length q2]] H4 V4 s ∧ d + i = n ∧ V3.le V4 ∧ H4 g = some ⟨4, bC n R', n⟩ ∧ PasI (gridL l1 n) (gridL l2 m) n m (cntF R n) R' more i 0) n ⟨0, V3, H3, R, false, StIs.of (by exact rfl), by omega, View.le_refl _, hH3, hP0⟩ ?_
  clear hH3 hP0
  rintro d s ⟨i, V4, H4, R1, more, hs, hd, hV4, hH4, hP⟩
  obtain ⟨z, rfl⟩ := hs.out
  try dsimp only
  clear hs
  by_cases hi : i < n
  rotate_left
  ·obtain rfl : i = n := by omega
   have b1 : decide ((i : Int) < (i : Int)) = false := decide_eq_false (by omega)
   refine Gx.a (by kernel_rfl) fun K hK => ?_
   simp only [XA, XB, b1]
   refine hK _ ?_
   refine XWP.seq (Gx.f rfl ?_)
   refine XWP.exit ?_
   try simp only [thenX_exit, inBlockX_exit, thenX_normal, inBlockX_normal, ↓reduceIte]
   refine ⟨cntF R i, by omega, V4, H4, R1, more, StIs.of (by exact rfl), View.le_trans hV3 hV4, hH4, fun h => ?_, fun h => ?_⟩
   ·subst h
    exact ⟨hP.again, by have := hP.cnt; simpa using this⟩
   ·subst h
    exact hP.all
  have b1 : decide ((i : Int) < (n : Int)) = true := decide_eq_true (by omega)
  refine Gx.a (by kernel_rfl) fun K hK => ?_
  simp only [XA, XB, b1]
  refine hK _ ?_
  refine XWP.seq (Gx.t rfl ?_)
  refine XWP.skip ?_
  refine XWP.cut (fun s => ∃ (V5 : View) (H5 : Heap) (R' : Nat → Bool) (more : Bool), StIs (fun Z => [Z 0, .p 0 0, Z 2, .v (.slice (some ⟨g, 0, none⟩) n n), Z 4,Z 5, .v (.bool more), Z 7,Z 8,Z 9,Z 10,Z 11,Z 12,Z 13,Z 14,Z 15,Z 16,Z 17,Z 18,Z 19,Z 20,Z 21,Z 22,Z 23,Z 24,Z 25,Z 26,Z 27,Z 28,Z 29,Z 30,Z 31,Z 32,Z 33,Z 34,Z 35,Z 36,Z 37,Z 38,Z 39,Z 40,Z 41,Z 42,Z 43,Z 44, .v (.int .i64 (n : Int)), .v (.int .i64 (i : Int)), Z 47,Z 48,Z 49,Z 50,Z 51,Z 52,Z 53,Z 54,Z 55,Z 56,Z 57,Z 58,Z 59,Z 60,Z 61,Z 62,Z 63,Z 64,Z 65,Z 66,Z 67,Z 68,Z 69,Z 70,Z 71,Z 72,Z 73,Z 74,Z 75,Z 76,Z 77,Z 78,Z 79,Z 80]) [[.int .i64 (n : Int), .int .i64 (n : Int), .slice A1 l1.length q1, .int .i64 (n : Int), .int .i64 (m : Int), .slice A2 l2.length q2]] H5 V5 s ∧ V4.le V5 ∧ H5 g = some ⟨4, bC n R', n⟩ ∧ PasI (gridL l1 n) (gridL l2 m) n m (cntF R n) R' more i n) ?_ ?_
  rotate_left
  ·rintro s ⟨V5, H5, R2, more2, hs, hV5, hH5, hP2⟩
   obtain ⟨z, rfl⟩ := hs.out
   try dsimp only
   clear hs
   refine Gx.c (by kernel_rfl) fun K hK => ?_
   simp only [XA, XB, i64_succ i (by omega)]
   exact hK _ ⟨d - 1, by omega, i + 1, V5, H5, R2, more2, StIs.of (by exact rfl), by omega, View.le_trans hV4 hV5, hH5, hP2.row⟩
  clear hK
  refine XWP.block ?_
  refine Gx.a (by kernel_rfl) fun K hK => ?_
  simp only [XA]
  refine hK _ ?_
  refine Gx.a (by kernel_rfl) fun K hK => ?_
  simp only [XN, XA]
  refine hK _ ?_
  clear hK
  refine XWP.block ?_
  refine XWP.loop (fun x s => ∃ (k : Nat) (V5 : View) (H5 : Heap) (R' : Nat → Bool) (more : Bool), StIs (fun Z => [Z 0, .p 0 0, Z 2, .v (.slice (some ⟨g, 0, none⟩) n n), Z 4,Z 5, .v (.bool more), .v (.int .i64 (i : Int)), Z 8,Z 9,Z 10,Z 11,Z 12,Z 13,Z 14,Z 15,Z 16,Z 17,Z 18,Z 19,Z 20,Z 21,Z 22,Z 23,Z 24,Z 25,Z 26,Z 27,Z 28,Z 29,Z 30,Z 31,Z 32,Z 33,Z 34,Z 35,Z 36,Z 37,Z 38,Z 39,Z 40,Z 41,Z 42,Z 43,Z 44, .v (.int .i64 (n : Int)), .v (.int .i64 (i : Int)), Z 47,Z 48,Z 49, .v (.int .i64 (n : Int)), .v (.int .i64 (k : Int)), Z 52,Z 53,Z 54,Z 55,Z 56,Z 57,Z 58,Z 59,Z 60,Z 61,Z 62,Z 63,Z 64,Z 65,Z 66,Z 67,Z 68,Z 69,Z 70,Z 71,Z 72,Z 73,Z 74,Z 75,Z 76,Z 77,Z 78,Z 79,Z 80]) [[.int .i64 (n : Int), .int .i64 (n : Int), .slice A1 l1.length q1, .int .i64 (n : Int), .int .i64 (m : Int), .slice A2 l2.length q2]] H5 V5 s ∧ x + k = n ∧ V4.le V5 ∧ H5 g = some ⟨4, bC n R', n⟩ ∧ PasI (gridL l1 n) (gridL l2 m) n m (cntF R n) R' more i k) n ⟨0, V4, H4, R1, more, StIs.of (by exact rfl), by omega, View.le_refl _, hH4, hP⟩ ?_
  clear hH4 hP
  rintro x s ⟨k, V5, H5, R2, more2, hs, hx, hV5, hH5, hP⟩
  obtain ⟨z, rfl⟩ := hs.out
  try dsimp only
  clear hs
  by_cases hk : k < n
  rotate_left
  ·obtain rfl : k = n := by omega
   have b2 : decide ((k : Int) < (k : Int)) = false := decide_eq_false (by omega)
   refine Gx.a (by kernel_rfl) fun K hK => ?_
   simp only [XA, XB, b2]
   refine hK _ ?_
   refine XWP.seq (Gx.f rfl ?_)
   refine XWP.exit ?_
   exact ⟨V5, H5, R2, more2, StIs.of (by exact rfl), hV5, hH5, hP⟩
  have b2 : decide ((k : Int) < (n : Int)) = true := decide_eq_true (by omega)
  refine Gx.a (by kernel_rfl) fun K hK => ?_
  simp only [XA, XB, b2]
  refine hK _ ?_
  refine XWP.seq (Gx.t rfl ?_)
  refine XWP.skip ?_
  refine XWP.cut (fun s => ∃ (V6 : View) (H6 : Heap) (R' : Nat → Bool) (more : Bool), StIs (fun Z => [Z 0, .p 0 0, Z 2, .v (.slice (some ⟨g, 0, none⟩) n n), Z 4,Z 5, .v (.bool more), .v (.int .i64 (i : Int)), Z 8,Z 9,Z 10,Z 11,Z 12,Z 13,Z 14,Z 15,Z 16,Z 17,Z 18,Z 19,Z 20,Z 21,Z 22,Z 23,Z 24,Z 25,Z 26,Z 27,Z 28,Z 29,Z 30,Z 31,Z 32,Z 33,Z 34,Z 35,Z 36,Z 37,Z 38,Z 39,Z 40,Z 41,Z 42,Z 43,Z 44, .v (.int .i64 (n : Int)), .v (.int .i64 (i : Int)), Z 47,Z 48,Z 49, .v (.int .i64 (n : Int)), .v (.int .i64 (k : Int)), Z 52,Z 53,Z 54,Z 55,Z 56,Z 57,Z 58,Z 59,Z 60,Z 61,Z 62,Z 63,Z 64,Z 65,Z 66,Z 67,Z 68,Z 69,Z 70,Z 71,Z 72,Z 73,Z 74,Z 75,Z 76,Z 77,Z 78,Z 79,Z 80]) [[.int .i64 (n : Int), .int .i64 (n : Int), .slice A1 l1.length q1, .int .i64 (n : Int), .int .i64 (m : Int), .slice A2 l2.length q2]] H6 V6 s ∧ V5.le V6 ∧ H6 g = some ⟨4, bC n R', n⟩ ∧ PasI (gridL l1 n) (gridL l2 m) n m (cntF R n) R' more i (k + 1)) ?_ ?_
  rotate_left
  ·rintro s ⟨V6, H6, R3, more3, hs, hV6, hH6, hP3⟩
   obtain ⟨z, rfl⟩ := hs.out
   try dsimp only
   clear hs
   refine Gx.c (by kernel_rfl) fun K hK => ?_
   simp only [XA, XB, i64_succ k (by omega)]
   exact hK _ ⟨x - 1, by omega, k + 1, V6, H6, R3, more3, StIs.of (by exact rfl), by omega, View.le_trans hV5 hV6, hH6, hP3⟩
  clear hK
  refine XWP.block ?_
  refine Gx.a (by kernel_rfl) fun K hK => ?_
  simp only [XA]
  refine hK _ ?_
  have hlen := bC_len n R2
  cases hR : R2 i
  rotate_left
  ·refine Gx.a (by kernel_rfl) fun K hK => ?_
   simp only [XN, XA, XB]
   refine ⟨by omega, by omega, ld_mem (bC_at hH5 hi) ?_⟩
   simp only [XA, gateX, ↓reduceIte, hR]
   refine hK _ ?_
   refine Gx.f rfl ?_
   refine XWP.skip ?_
   exact ⟨V5, H5, R2, more2, StIs.of (by exact rfl), View.le_refl _, hH5, hP.skip fun h => by rw [hR] at h; cases h⟩
  cases hR' : R2 k
  ·refine Gx.a (by kernel_rfl) fun K hK => ?_
   simp only [XN, XA, XB]
   refine ⟨by omega, by omega, ld_mem (bC_at hH5 hi) ?_⟩
   simp only [XN, XA, XB, gateX, ↓reduceIte, beq_self_eq_true, hR]
   refine ⟨by omega, by omega, ld_mem (bC_at hH5 hk) ?_⟩
   simp only [XA, gateX, ↓reduceIte, hR']
   refine hK _ ?_
   refine Gx.f rfl ?_
   refine XWP.skip ?_
   exact ⟨V5, H5, R2, more2, StIs.of (by exact rfl), View.le_refl _, hH5, hP.skip fun _ h => by rw [hR'] at h; cases h⟩
  have hp := pos_lt hi hk
  refine Gx.a (by kernel_rfl) fun K hK => ?_
  simp only [XN, XA, XB]
  refine ⟨by omega, by omega, ld_mem (bC_at hH5 hi) ?_⟩
  simp only [XN, XA, XB, gateX, ↓reduceIte, beq_self_eq_true, hR]
  refine ⟨by omega, by omega, ld_mem (bC_at hH5 hk) ?_⟩
  simp only [XM, XA, gateX, Nat.reduceAdd, Nat.reduceLeDiff, ↓reduceIte, beq_self_eq_true, hR']
  refine call_go (by kernel_rfl) rfl (ccell_c _ _ _ n i k l1 (h1.up (View.le_trans hV3 (View.le_trans hV4 hV5))) (by omega) (by omega) (by omega) (by omega)) fun v6 V6 hV6 h6 => ?_
  obtain ⟨A5, c5, z5, rfl, o5⟩ := h6.form2
  by_cases hz : cf l1 (i * n + k) = 0
  ·have b5 := dg_of_zero hz
   simp only [XA, XB, gateX, ↓reduceIte, beq_self_eq_true, b5]
   refine hK _ ?_
   refine Gx.f rfl ?_
   refine XWP.skip ?_
   exact ⟨V6, H5, R2, more2, StIs.of (by exact rfl), hV6, hH5, hP.skip fun _ _ => hz⟩
  ·have b5 := rat_len hz
   simp only [XA, XB, gateX, ↓reduceIte, beq_self_eq_true, b5]
   refine hK _ ?_
   refine Gx.t rfl ?_
   refine Gx.c (by kernel_rfl) fun K hK => ?_
   simp only [XN, XA, XB]
   refine ⟨by omega, by omega, ?_⟩
   refine st_row shapeT_4 rfl rfl hH5 (by dsimp only; omega) ?_
   simp only [XA, bC_set]
   exact hK _ ⟨V6, _, _, true, StIs.of (by exact rfl), hV6, upd_at _ _ _, hP.put hi hk hR hR' hz⟩
 rintro s ⟨V3, H3, R3, hs, hH3, hRe⟩
 obtain ⟨z, rfl⟩ := hs.out
 try dsimp only
 refine Gx.a (by kernel_rfl) fun K hK => ?_
 simp only [XA]
 refine hK _ (XWP.ret ?_)
 try simp only [thenX_ret, inBlockX_ret]
 refine ret_pub g _ hH3 fun o ho hle' => ret_go _ (by simp [resAll, resV]; rfl) ⟨R3, hRe, bC_pub ho hn⟩
end Go.Proofs.YthoboehbadmlmaaGreat
end
section
namespace Go.Proofs.YthoboehbadmlmaaGreat
def pkL (R : Nat → Bool) (n : Nat) : List Nat := (List.range n).filter R
theorem pkL_succ (R : Nat → Bool) (n : Nat) : pkL R (n + 1) = if R n = true then pkL R n ++ [n] else pkL R n := by
 unfold pkL
 rw [List.range_succ, List.filter_append]
 cases h : R n <;> simp [h]
theorem pkL_len (R : Nat → Bool) : ∀ n, (pkL R n).length ≤ n
 | 0 => Nat.le_refl _
 | n + 1 => by
  have := pkL_len R n
  rw [pkL_succ]
  split
  ·rw [List.length_append]; simp; omega
  ·omega
def pk (R : Nat → Bool) (n k : Nat) : Nat := (pkL R n).getD k 0
theorem pk_ok (R : Nat → Bool) : ∀ n k, k < (pkL R n).length → pk R n k < n ∧ R (pk R n k) = true ∧ (pkL R (pk R n k)).length = k
 | 0, k, h => by simp [pkL] at h
 | n + 1, k, h => by
  unfold pk
  rw [pkL_succ] at h ⊢
  cases hR : R n
  ·rw [hR] at h
   simp only [Bool.false_eq_true, if_false] at h ⊢
   obtain ⟨h1, h2, h3⟩ := pk_ok R n k h
   exact ⟨Nat.lt_succ_of_lt h1, h2, h3⟩
  ·rw [hR] at h
   simp only [if_true] at h ⊢
   rw [List.length_append] at h
   by_cases hk : k < (pkL R n).length
   ·obtain ⟨h1, h2, h3⟩ := pk_ok R n k hk
    have e : (pkL R n ++ [n]).getD k 0 = pk R n k := by unfold pk; simp only [List.getD_eq_getElem?_getD]; rw [List.getElem?_append_left hk]
    rw [e]
    exact ⟨Nat.lt_succ_of_lt h1, h2, h3⟩
   ·have hk' : k = (pkL R n).length := by simp at h; omega
    subst hk'
    have e : (pkL R n ++ [n]).getD (pkL R n).length 0 = n := by simp [List.getD_eq_getElem?_getD]
    rw [e]
    exact ⟨by omega, hR, rfl⟩
theorem pk_of (R : Nat → Bool) : ∀ n j, j < n → R j = true → (pkL R j).length < (pkL R n).length ∧ pk R n (pkL R j).length = j
 | 0, j, h, _ => by omega
 | n + 1, j, h, hR => by
  by_cases e : j = n
  ·subst e
   unfold pk
   rw [pkL_succ, if_pos hR, List.length_append]
   refine ⟨by simp, by simp [List.getD_eq_getElem?_getD]⟩
  ·obtain ⟨h1, h2⟩ := pk_of R n j (by omega) hR
   unfold pk at h2 ⊢
   rw [pkL_succ]
   split
   ·refine ⟨by rw [List.length_append]; omega, ?_⟩
    simp only [List.getD_eq_getElem?_getD] at h2 ⊢
    rw [List.getElem?_append_left h1]; exact h2
   ·exact ⟨h1, h2⟩
theorem pk_sum (R : Nat → Bool) (g : Nat → Rat) : ∀ n, Sm (fun j => if R j = true then g j else 0) n = Sm (fun k => g (pk R n k)) (pkL R n).length
 | 0 => rfl
 | n + 1 => by
  show Sm (fun j => if R j = true then g j else 0) n + (if R n = true then g n else 0) = _
  rw [pk_sum R g n]
  have h1 : ∀ k, k < (pkL R n).length → pk R (n + 1) k = pk R n k := fun k hk => by
   unfold pk
   rw [pkL_succ]
   split
   ·simp only [List.getD_eq_getElem?_getD]; rw [List.getElem?_append_left hk]
   ·rfl
  have e : Sm (fun k => g (pk R n k)) (pkL R n).length = Sm (fun k => g (pk R (n + 1) k)) (pkL R n).length := Sm_congr _ fun k hk => by rw [h1 k hk]
  rw [e]
  cases hR : R n
  ·rw [pkL_succ, hR]; simp
   have : pk R (n + 1) = pk R (n + 1) := rfl
   grind
  ·have el : (pkL R (n + 1)).length = (pkL R n).length + 1 := by rw [pkL_succ, if_pos hR, List.length_append]; rfl
   have ek : pk R (n + 1) (pkL R n).length = n := (pk_of R (n + 1) n (by omega) hR).2
   rw [el]
   show _ = Sm (fun k => g (pk R (n + 1) k)) (pkL R n).length + g (pk R (n + 1) (pkL R n).length)
   rw [ek]; simp
def inA (M : Grid) (R : Nat → Bool) (n : Nat) : Grid := fun i k => gid i k - M (pk R n i) (pk R n k)
def upC (R : Nat → Bool) (y : Nat → Rat) : Nat → Rat := fun j => if R j = true then y (pkL R j).length else 0
theorem up_sum (M : Grid) (R : Nat → Bool) (y : Nat → Rat) (n i : Nat) : Sm (fun j => M i j * upC R y j) n = Sm (fun k => M i (pk R n k) * y k) (pkL R n).length := by
 have e1 : Sm (fun j => M i j * upC R y j) n = Sm (fun j => if R j = true then M i j * y (pkL R j).length else 0) n := Sm_congr _ fun j _ => by
  unfold upC
  split
  ·rfl
  ·grind
 rw [e1, pk_sum R (fun j => M i j * y (pkL R j).length) n]
 exact Sm_congr _ fun k hk => by rw [(pk_ok R n k hk).2.2]
theorem gid_sum {N a : Nat} (y : Nat → Rat) (ha : a < N) : Sm (fun k => gid a k * y k) N = y a := by
 rw [Sm_one ha fun k _ hne => by unfold gid; rw [if_neg (Ne.symm hne)]; grind]
 unfold gid; rw [if_pos rfl]; grind
theorem inA_sum (M : Grid) (R : Nat → Bool) (n a : Nat) (y : Nat → Rat) (ha : a < (pkL R n).length) : Sm (fun k => inA M R n a k * y k) (pkL R n).length = y a - Sm (fun k => M (pk R n a) (pk R n k) * y k) (pkL R n).length := by
 rw [← gid_sum y ha, ← Sm_sub]
 exact Sm_congr _ fun k _ => by unfold inA; grind
theorem inA_uni {M : Grid} {R : Nat → Bool} {n : Nat} (h : UniG (fun i k => gid i k - inR M R i k) n n) : UniG (inA M R n) (pkL R n).length (pkL R n).length := fun y hy a ha => by
 obtain ⟨p1, p2, p3⟩ := pk_ok R n a ha
 have hx := h (upC R y) (fun i hi => by
  show Sm (fun j => (gid i j - inR M R i j) * upC R y j) n = 0
  have e : Sm (fun j => (gid i j - inR M R i j) * upC R y j) n = upC R y i - Sm (fun j => inR M R i j * upC R y j) n := by
   rw [← gid_sum (upC R y) hi, ← Sm_sub]
   exact Sm_congr _ fun j _ => by grind
  rw [e]
  cases hR : R i
  ·rw [Sm_zero n fun j _ => by
    have : inR M R i j = 0 := by unfold inR; rw [hR]; simp
    rw [this]; grind]
   unfold upC; rw [hR]; simp; grind
  ·have e2 : Sm (fun j => inR M R i j * upC R y j) n = Sm (fun j => M i j * upC R y j) n := Sm_congr _ fun j _ => by
    unfold inR
    rw [hR]
    cases hj : R j
    ·unfold upC; rw [hj]; simp
    ·simp
   rw [e2, up_sum]
   obtain ⟨q1, q2⟩ := pk_of R n i hi hR
   have := hy (pkL R i).length q1
   rw [inA_sum M R n _ y q1, q2] at this
   unfold upC
   rw [if_pos hR]
   exact this) (pk R n a) p1
 unfold upC at hx
 rw [if_pos p2, p3] at hx
 exact hx
theorem inA_sol {M E : Grid} {R : Nat → Bool} {n m c : Nat} {X : Nat → Rat} (hc : c < m) (hcl : ∀ i k, i < n → k < n → R i = false → R k = true → M i k = 0) (hz : ∀ i c, i < n → c < m → R i = false → E i c = 0)
  (h : LinG (inA M R n) (pkL R n).length (pkL R n).length (fun i => E (pk R n i) c) X) : ∀ i, i < n → upC R X i = E i c + Sm (fun k => M i k * upC R X k) n := fun i hi => by
 cases hR : R i
 ·rw [hz i c hi hc hR, Sm_zero n fun k hk => by
   cases hk' : R k
   ·unfold upC; rw [hk']; simp
   ·rw [hcl i k hi hk hR hk']; grind]
  unfold upC; rw [hR]; simp; grind
 ·obtain ⟨q1, q2⟩ := pk_of R n i hi hR
  have := h (pkL R i).length q1
  rw [inA_sum M R n _ X q1, q2] at this
  rw [up_sum]
  unfold upC
  rw [if_pos hR]
  grind
end Go.Proofs.YthoboehbadmlmaaGreat
end
section
namespace Go.Proofs.YthoboehbadmlmaaGreat
open Go Go.RowKit
attribute [local irreducible] XWP Spec SpecO XPub XCall seqX clX apX stX ldX iaX slX

def sumL (l : List Rat) (k : Nat) : Rat := Sm (cf l) k
theorem sumL_QB {l : List Rat} {B : Nat} (h : ∀ x ∈ l, QB B x) : ∀ k, k ≤ l.length → QB (k * (B + 1)) (sumL l k)
 | 0, _ => QB_zero _
 | k + 1, hk => by
  have ih := sumL_QB h k (by omega)
  have h2 := h _ (cf_mem (l := l) (i := k) (by omega))
  exact (ih.add h2).mono (by rw [Nat.add_mul]; omega)
theorem qsum_c (V : View) (v : Value) (l : List Rat) (B : Nat) (h : Rats V v l) (hq : ∀ x ∈ l, QB B x) (ll : l.length ≤ 1000) (hB : 1001 * (B + 1) ≤ 17592186044416) : Spec Tryz.prog 82 [v] V fun v' V' => RatC V' v' (sumL l l.length) := by
 obtain ⟨A, c, rfl, hc, hm⟩ := h.form
 have hS : ∀ k, k ≤ l.length → QB (1000 * (B + 1)) (sumL l k) := fun k hk => (sumL_QB hq k hk).mono (Nat.mul_le_mul_right _ (by omega))
 have hf : 1000 * (B + 1) ≤ 17592186044416 := by omega
 refine (Spec.enter Tryz.func82 rfl fun Γ => ?_)
 simp only [Tryz.ntmps82, List.map_cons, List.map_nil, List.length_cons, List.length_nil, Nat.reduceAdd, Nat.reduceSub, List.replicate_succ, List.replicate_zero, List.cons_append, List.nil_append]
 refine Gx.a (by kernel_rfl) fun K hK => ?_
 simp only [XA, XB]
 refine hK _ ?_
 refine Gx.a (by kernel_rfl) fun K hK => ?_
 simp only [XA]
 refine call_go (by kernel_rfl) rfl (qzero_c _) fun v1 V1 hV1 h1 => ?_
 obtain ⟨x1, y1, rfl, o1, o2⟩ := h1.form
 simp only [XA, XB]
 refine st_rat rfl rfl rfl o1 o2 ?_
 simp only [XA]
 refine hK _ ?_
 refine XWP.cutD 2 (fun s => ∃ (V2 : View) (m : Bool) (x y : Value), StIs (fun Z => [Z 0,Z 1, .p 0 0, .p 1 0, Z 4,Z 5,Z 6,Z 7,Z 8,Z 9,Z 10,Z 11,Z 12,Z 13,Z 14,Z 15,Z 16,Z 17]) [[.bool false, .slice none 0 0, .slice none 0 0], [.bool m, x, y]] (fun _ => none) V2 s ∧ RatC V2 (.agg #[.bool m, x, y]) (sumL l l.length) ∧ isOne x = true ∧ isOne y = true) ?_ ?_
 ·refine Gx.a (by kernel_rfl) fun K hK => ?_
  simp only [XA, XB]
  refine hK _ ?_
  clear hK
  refine XWP.block ?_
  refine XWP.loopD 2 (fun n s => ∃ (k : Nat) (V2 : View) (m : Bool) (x y : Value), StIs (fun Z => [Z 0,Z 1, .p 0 0, .p 1 0, Z 4,Z 5,Z 6, .v (.slice A l.length c), .v (.int .i64 (l.length : Int)), .v (.int .i64 (k : Int)), Z 10,Z 11,Z 12,Z 13,Z 14,Z 15,Z 16,Z 17]) [[.bool false, .slice none 0 0, .slice none 0 0], [.bool m, x, y]] (fun _ => none) V2 s ∧ n + k = l.length ∧ V.le V2 ∧ RatC V2 (.agg #[.bool m, x, y]) (sumL l k) ∧ isOne x = true ∧ isOne y = true) l.length ⟨0, V1, _, _, _, StIs.of (by exact rfl), by omega, hV1, h1, o1, o2⟩ ?_
  clear h1 o1 o2
  rintro n s ⟨k, V2, m, x, y, hs, hn, hV2, h2, o1, o2⟩
  obtain ⟨z, rfl⟩ := hs.out
  try dsimp only
  clear hs
  by_cases hk : k < l.length
  rotate_left
  ·obtain rfl : k = l.length := by omega
   have b1 : decide ((l.length : Int) < (l.length : Int)) = false := decide_eq_false (by omega)
   refine Gx.a (by kernel_rfl) fun K hK => ?_
   simp only [XA, XB, b1]
   refine hK _ ?_
   refine XWP.seq (Gx.f rfl ?_)
   refine XWP.exit ?_
   exact fun f => ⟨V2, m, x, y, StIs.of (by exact rfl), h2, o1, o2⟩
  have b1 : decide ((k : Int) < (l.length : Int)) = true := decide_eq_true (by omega)
  have hv2 := h.up hV2
  obtain ⟨b, o, rfl⟩ := SlAt.addr hv2 (by omega)
  obtain ⟨m3, n3, d3, hx, ⟨p1, p2, p3⟩, hld⟩ := Rats.get hv2 k hk
  refine Gx.a (by kernel_rfl) fun K hK => ?_
  simp only [XA, XB, b1]
  refine hK _ ?_
  refine XWP.seq (Gx.t rfl ?_)
  refine XWP.skip ?_
  refine XWP.seq ?_
  refine XWP.block ?_
  refine Gx.a (by kernel_rfl) fun K hK => ?_
  simp only [XA, XB]
  refine ⟨by omega, by omega, ld_mem (hld _) ?_⟩
  simp only [XA, XB, Nat.reduceAdd]
  refine st_rat rfl rfl p1 p2 p3 ?_
  simp only [XA]
  refine hK _ ?_
  refine Gx.c (by kernel_rfl) fun K hK => ?_
  simp only [XA, XB, Nat.reduceAdd, Nat.reduceLeDiff, ↓reduceIte]
  refine call_go (by kernel_rfl) rfl (qadd_c _ _ _ _ _ h2 hx ((hS k (by omega)).qf hf) ((hq _ (cf_mem hk)).qf (by omega))) fun v3 V3 hV3 h3 => ?_
  obtain ⟨x3, y3, rfl, o3, o4⟩ := h3.form
  simp only [XA]
  refine st_rat rfl rfl rfl o3 o4 ?_
  simp only [XA]
  refine hK _ ?_
  refine Gx.c (by kernel_rfl) fun K hK => ?_
  simp only [XA, XB, i64_succ k (by omega)]
  exact hK _ ⟨n - 1, by omega, fun f => ⟨k + 1, V3, _, x3, y3, StIs.of (by exact rfl), by omega, View.le_trans hV2 hV3, h3, o3, o4⟩⟩
 rintro s ⟨V2, m, x, y, hs, h2, o1, o2⟩
 obtain ⟨z, rfl⟩ := hs.out
 try dsimp only
 refine Gx.a (by kernel_rfl) fun K hK => ?_
 simp only [XA, XB, Nat.reduceAdd, Nat.reduceLeDiff, ↓reduceIte]
 refine st_rat rfl rfl rfl o1 o2 ?_
 simp only [XA]
 refine hK _ (XWP.ret ?_)
 try simp only [thenX_ret, inBlockX_ret]
 exact ret_rat1 rfl rfl rfl h2
end Go.Proofs.YthoboehbadmlmaaGreat
end
section
namespace Go.Proofs.YthoboehbadmlmaaGreat
open Go Go.RowKit
attribute [local irreducible] XWP Spec SpecO XPub XCall seqX clX apX stX ldX iaX slX
attribute [local irreducible] YW

end Go.Proofs.YthoboehbadmlmaaGreat
end
section
namespace Go.Proofs.YthoboehbadmlmaaGreat
open Go Go.RowKit
section
variable {P : Program} {b : Frame} {a : Act} {k : List Item} {cs : List Frame} {w : World}
end
end Go.Proofs.YthoboehbadmlmaaGreat
end
section
namespace Go.Proofs.YthoboehbadmlmaaGreat
open Go Go.RowKit
attribute [local irreducible] XWP Spec SpecO XPub XCall seqX clX apX stX ldX iaX slX
def eM (l : List Rat) (n : Nat) : Nat → Nat → Bool := fun a b => decide (cf l (a * n + b) ≠ 0)
def ivs (l : List Nat) : List Value := l.map fun (k : Nat) => Value.int .i64 (k : Int)
theorem ivs_len (l : List Nat) : (ivs l).length = l.length := by simp [ivs]
def natE : El Nat := fun _ u x => u = .int .i64 (x : Int)
theorem natE_ok : ElOk natE := fun _ _ _ _ _ h => h
theorem R1At.ivs (V : View) (l : List Nat) : R1At natE V (ivs l) l := by
 refine ⟨ivs_len l, fun i x hi => ⟨.int .i64 (x : Int), ?_, rfl, rfl⟩⟩
 have hlt := (List.getElem?_eq_some_iff.1 hi).1
 simp [Go.Proofs.YthoboehbadmlmaaGreat.ivs, hi]
theorem XWP.pub1 {Γ : Cx} {P : Program} {Q : Exit → XS → Prop} {t : List SV} {bx : List (List Value)} {H : Heap} {V : View} {α : Type} {E : El α} (hE : ElOk E) {c : Code} {e n : Nat} {v : Value} {cells : List Value} {l : List α} (hown : Own H e 1 v n cells) (hrow : R1At E V cells l) (h : ∀ H' V', V.le V' → Sl1 E V' v l → (∀ k, v.ownBlock ≠ some k → H' k = H k) → XWP Γ P c Q ⟨t, bx, H', V'⟩) : XWP Γ P c Q ⟨t, bx, H, V⟩ := by
 have h1 := hown.1
 have h2 := hrow.1
 have hl : l.length = n := by omega
 rcases own_parts hown with ⟨rfl, h0, _⟩ | ⟨g, cap, rfl, hg, hle, hcap, _⟩
 ·refine h H V (View.le_refl _) ?_ fun _ _ => rfl
  rw [List.length_eq_zero_iff.1 (show l.length = 0 by omega)]; exact Sl1.nil V
 ·refine XWP.pub g _ hg fun o ho hle' => h _ _ hle' (hrow.pub hE ho hle' hl hle (by unfold maxLen at hcap; omega)) fun k hk => ?_
  exact upd_off fun e => hk (by rw [e]; rfl)
theorem cpicked_c (V : View) (v : Value) (n : Nat) (R : Nat → Bool) (h : Sl1 booE V v ((List.range n).map R)) (hn : n ≤ 60) : Spec Tryz.prog 130 [v] V fun v' V' => Sl1 natE V' v' (pkL R n) := by
 obtain ⟨A, c, rfl, hc, hm⟩ := h.form
 have hl : ((List.range n).map R).length = n := by simp
 rw [hl] at h ⊢
 refine (Spec.enter Tryz.func130 rfl fun Γ => ?_)
 simp only [Tryz.ntmps130, List.map_cons, List.map_nil, List.length_cons, List.length_nil, Nat.reduceAdd, Nat.reduceSub, List.replicate_succ, List.replicate_zero, List.cons_append, List.nil_append]
 refine Gx.a (by kernel_rfl) fun K hK => ?_
 simp only [XA]
 refine hK _ ?_
 refine Gx.a (by kernel_rfl) fun K hK => ?_
 simp only [XA]
 refine hK _ ?_
 refine XWP.cut (fun s => ∃ (H2 : Heap) (so : Value), StIs (fun Z => [Z 0,Z 1,Z 2, .v so, Z 4,Z 5,Z 6,Z 7,Z 8,Z 9,Z 10,Z 11,Z 12,Z 13,Z 14,Z 15,Z 16,Z 17,Z 18,Z 19]) [] H2 V s ∧ Own H2 3 1 so (pkL R n).length (ivs (pkL R n))) ?_ ?_
 ·refine Gx.a (by kernel_rfl) fun K hK => ?_
  simp only [XN, XA]
  refine hK _ ?_
  clear hK
  refine XWP.block ?_
  refine XWP.loop (fun q s => ∃ (i : Nat) (H2 : Heap) (so : Value), StIs (fun Z => [Z 0,Z 1,Z 2, .v so, Z 4,Z 5, .v (.slice A n c), .v (.int .i64 (n : Int)), .v (.int .i64 (i : Int)), Z 9,Z 10,Z 11,Z 12,Z 13,Z 14,Z 15,Z 16,Z 17,Z 18,Z 19]) [] H2 V s ∧ q + i = n ∧ Own H2 3 1 so (pkL R i).length (ivs (pkL R i))) n ⟨0, fun _ => none, _, StIs.of (by exact rfl), by omega, own_nil⟩ ?_
  rintro q s ⟨i, H2, so, hs, hq, hown⟩
  obtain ⟨z, rfl⟩ := hs.out
  try dsimp only
  clear hs
  by_cases hi : i < n
  rotate_left
  ·obtain rfl : i = n := by omega
   have b1 : decide ((i : Int) < (i : Int)) = false := decide_eq_false (by omega)
   refine Gx.a (by kernel_rfl) fun K hK => ?_
   simp only [XA, XB, b1]
   refine hK _ ?_
   refine XWP.seq (Gx.f rfl ?_)
   refine XWP.exit ?_
   exact ⟨H2, so, StIs.of (by exact rfl), hown⟩
  have b1 : decide ((i : Int) < (n : Int)) = true := decide_eq_true (by omega)
  refine Gx.a (by kernel_rfl) fun K hK => ?_
  simp only [XA, XB, b1]
  refine hK _ ?_
  refine XWP.seq (Gx.t rfl ?_)
  refine XWP.skip ?_
  obtain ⟨b, o, rfl⟩ := Sl1.addr h (by omega)
  obtain ⟨u, hu, _, hld⟩ := h.load i (by omega)
  have hu' : u = .bool (R i) := by have : booE V u (((List.range n).map R)[i]'(by omega)) := hu; simpa [booE] using this
  subst hu'
  have hpl := pkL_len R i
  have own_so : ∃ Ao co, so = .slice Ao (pkL R i).length co := by
   rcases own_parts hown with ⟨rfl, h0, _⟩ | ⟨g, cap, rfl, _⟩
   ·exact ⟨none, 0, by rw [h0]⟩
   ·exact ⟨_, cap, rfl⟩
  obtain ⟨Ao, co, rfl⟩ := own_so
  refine XWP.cut (fun s => ∃ (H3 : Heap) (so : Value), StIs (fun Z => [Z 0,Z 1,Z 2, .v so, Z 4,Z 5, .v (.slice (some ⟨b, o, none⟩) n c), .v (.int .i64 (n : Int)), .v (.int .i64 (i : Int)), Z 9,Z 10,Z 11,Z 12,Z 13,Z 14,Z 15,Z 16,Z 17,Z 18,Z 19]) [] H3 V s ∧ Own H3 3 1 so (pkL R (i + 1)).length (ivs (pkL R (i + 1)))) ?_ ?_
  ·clear hK
   refine XWP.block ?_
   refine Gx.a (by kernel_rfl) fun K hK => ?_
   simp only [XN, XA, XB]
   refine ⟨by omega, by omega, ld_mem (hld _ _ _ shapeT_4) ?_⟩
   simp only [XA]
   refine hK _ ?_
   cases hR : R i
   ·have e : pkL R (i + 1) = pkL R i := by rw [pkL_succ, hR]; rfl
    refine Gx.a (by kernel_rfl) fun K hK => ?_
    simp only [XA]
    refine hK _ ?_
    refine Gx.f rfl ?_
    refine XWP.skip ?_
    rw [e]
    exact ⟨H2, _, StIs.of (by exact rfl), hown⟩
   ·have e : pkL R (i + 1) = pkL R i ++ [i] := by rw [pkL_succ, hR]; rfl
    refine Gx.a (by kernel_rfl) fun K hK => ?_
    simp only [XA]
    refine hK _ ?_
    refine Gx.t rfl ?_
    refine Gx.c (by kernel_rfl) fun K hK => ?_
    simp only [XA]
    refine bs_go (by kernel_rfl) #[(0, .int .i64 (i : Int))] (by simp [ev_tmp, SV.val]) (bs_one elemT_94 zeroT_3 rfl) fun bq hbq1 hbq2 => ?_
    simp only [XA]
    refine ap_go elemT_94 (by kernel_rfl) zeroT_3 rfl (by omega) (own_upd hown hbq1) (src_one (upd_at _ _ _) rfl) (by omega) (by omega) fun v' H' hres => ?_
    simp only [XA]
    have eiv : ivs (pkL R i) ++ [Value.int .i64 (i : Int)] = ivs (pkL R (i + 1)) := by rw [e]; simp [ivs]
    have el : (pkL R (i + 1)).length = (pkL R i).length + 1 := by rw [e]; simp
    have hown8 := hres.1
    rw [eiv, ← el] at hown8
    exact hK _ ⟨H', v', StIs.of (by exact rfl), hown8⟩
  rintro s ⟨H3, so, hs, hown3⟩
  obtain ⟨z, rfl⟩ := hs.out
  try dsimp only
  clear hs
  refine Gx.c (by kernel_rfl) fun K hK => ?_
  simp only [XA, XB, i64_succ i (by omega)]
  exact hK _ ⟨q - 1, by omega, i + 1, H3, so, StIs.of (by exact rfl), by omega, hown3⟩
 rintro s ⟨H2, so, hs, hown⟩
 obtain ⟨z, rfl⟩ := hs.out
 try dsimp only
 have oso := own_isOne hown
 refine Gx.a (by kernel_rfl) fun K hK => ?_
 simp only [XA]
 refine hK _ ?_
 refine XWP.pub1 natE_ok hown (R1At.ivs V (pkL R n)) fun H7 V7 hV7 hR7 _ => ?_
 refine XWP.ret ?_
 try simp only [thenX_ret, inBlockX_ret]
 exact ret_go _ rfl hR7
theorem matR_rats {n m : Nat} {l : List Rat} (hl : l.length = n * m) (hn : n ≤ 60) (hm : m ≤ 60) : matR (n : Int) (m : Int) (l.map toRaw) = true := by
 unfold matR
 rw [okR_toRaw, Bool.and_true, decide_eq_true_eq, List.length_map]
 refine ⟨by omega, by omega, by omega, by omega, ?_⟩
 rw [hl]; exact Int.natCast_mul n m
def SolR (V' : View) (n m B : Nat) (la lb : List Rat) (v' : Value) : Prop :=
 (¬ UniG (gridL la n) n n → v' = .tuple #[.agg #[.int .i64 0, .int .i64 0, .slice none 0 0], .int .i64 31]) ∧
 (UniG (gridL la n) n n → ∃ w X, v' = .tuple #[.agg #[.int .i64 (n : Int), .int .i64 (m : Int), w], .int .i64 0] ∧ Rats V' w (flatG X n m) ∧ (∀ c, c < m → LinG (gridL la n) n n (fun i => gridL lb m i c) (fun j => X j c)) ∧ ∀ i k, i < n → k < m → QB (2 * ge B (2 * n)) (X i k))
theorem mSolve_c (V : View) (sa sb : Value) (n m B : Nat) (la lb : List Rat) (ha : Rats V sa la) (hb : Rats V sb lb) (lla : la.length = n * n) (llb : lb.length = n * m) (h1 : 1 ≤ n) (hn : n ≤ 60) (hm : m ≤ 60) (hqa : ∀ x ∈ la, QB B x) (hqb : ∀ x ∈ lb, QB B x) (hB : ge B (2 * n + 1) ≤ 17592186044416) :
  Spec Tryz.prog 152 [.agg #[.int .i64 (n : Int), .int .i64 (n : Int), sa], .agg #[.int .i64 (n : Int), .int .i64 (m : Int), sb]] V fun v' V' => SolR V' n m B la lb v' := by
 have hB0 : B ≤ 17592186044416 := Nat.le_trans (ge_le B _) hB
 have l1 := matR_rats lla hn hn
 have l2 := matR_rats llb hn hm
 have hnn : n * n ≤ 3600 := Nat.le_trans (Nat.mul_le_mul hn hn) (by decide)
 have hnm : n * m ≤ 3600 := Nat.le_trans (Nat.mul_le_mul hn hm) (by decide)
 have f1 : fitR (la.map toRaw) := fitR_toRaw fun x hx => (hqa x hx).qf hB0
 have f2 : fitR (lb.map toRaw) := fitR_toRaw fun x hx => (hqb x hx).qf hB0
 obtain ⟨A1, c1, rfl, hc1, hm1⟩ := ha.form
 obtain ⟨A2, c2, rfl, hc2, hm2⟩ := hb.form
 refine (Spec.enter Tryz.func152 rfl fun Γ => ?_)
 simp only [Tryz.ntmps152, List.map_cons, List.map_nil, List.length_cons, List.length_nil, Nat.reduceAdd, Nat.reduceSub, List.replicate_succ, List.replicate_zero, List.cons_append, List.nil_append]
 refine Gx.a (by kernel_rfl) fun K hK => ?_
 simp only [XM, XA, Nat.reduceAdd]
 refine hK _ ?_
 refine XWP.seq ?_
 refine Gx.a (by kernel_rfl) fun K hK => ?_
 simp only [XM, XA, Nat.reduceAdd, Nat.reduceLeDiff, ↓reduceIte]
 refine call_go (by kernel_rfl) rfl (cmright_c _ _ _ _ (la.map toRaw) (Rats.raws ha) f1 (by rw [List.length_map]; omega)) fun v1 V1 hV1 g1 => ?_
 rw [l1] at g1
 subst g1
 simp only [XM, XA, gateX, Nat.reduceAdd, Nat.reduceLeDiff, ↓reduceIte, beq_self_eq_true]
 refine call_go (by kernel_rfl) rfl (cmright_c _ _ _ _ (lb.map toRaw) (Rats.raws (hb.up hV1)) f2 (by rw [List.length_map]; omega)) fun v2 V2 hV2 g2 => ?_
 rw [l2] at g2
 subst g2
 simp only [XA, gateX, ↓reduceIte, beq_self_eq_true]
 refine hK _ ?_
 refine Gx.f rfl ?_
 refine XWP.skip ?_
 refine XWP.seq ?_
 refine Gx.a (by kernel_rfl) fun K hK => ?_
 simp only [XM, XA, XB, gateX, ↓reduceIte, beq_self_eq_true, decide_true]
 refine hK _ ?_
 refine Gx.f rfl ?_
 refine XWP.skip ?_
 have hle := View.le_trans hV1 hV2
 refine Gx.a (by kernel_rfl) fun K hK => ?_
 simp only [XM, XA, Nat.reduceAdd, Nat.reduceLeDiff, ↓reduceIte]
 refine call_go (by kernel_rfl) rfl (mSolved_c _ _ _ n m B la lb (ha.up hle) (hb.up hle) lla llb h1 (by omega) (by omega) hqa hqb hB) fun v3 V3 hV3 g3 => ?_
 by_cases hu : UniG (gridL la n) n n
 ·obtain ⟨w, X, rfl, hw, hl, hq⟩ := g3.2 hu
  obtain ⟨A3, c3, rfl, _, _⟩ := hw.form
  simp only [XM, XA, Nat.reduceAdd]
  refine st_mat shapeT_24 rfl rfl rfl rfl rfl ?_
  simp only [XA]
  refine hK _ ?_
  refine XWP.seq ?_
  refine Gx.a (by kernel_rfl) fun K hK => ?_
  simp only [XA]
  refine hK _ ?_
  refine Gx.f rfl ?_
  refine XWP.skip ?_
  refine Gx.a (by kernel_rfl) fun K hK => ?_
  simp only [XM, XA, Nat.reduceAdd, Nat.reduceLeDiff, ↓reduceIte]
  refine st_mat shapeT_24 rfl rfl rfl rfl rfl ?_
  simp only [XA]
  refine hK _ (XWP.ret ?_)
  try simp only [thenX_ret, inBlockX_ret]
  exact ret_go _ (by simp [resAll, resV, cellsV, shapeT_24]; rfl) ⟨fun h => absurd hu h, fun _ => ⟨_, X, rfl, hw, hl, hq⟩⟩
 ·have e3 := g3.1 hu
  subst e3
  simp only [XM, XA, Nat.reduceAdd]
  refine st_mat shapeT_24 rfl rfl rfl rfl rfl ?_
  simp only [XA]
  refine hK _ ?_
  refine XWP.seq ?_
  refine Gx.a (by kernel_rfl) fun K hK => ?_
  simp only [XA]
  refine hK _ ?_
  refine Gx.t rfl ?_
  refine Gx.a (by kernel_rfl) fun K hK => ?_
  simp only []
  refine bd_go (by kernel_rfl) #[] (by simp) bd_mtx0 ?_
  simp only [XA]
  refine st_mat shapeT_24 rfl rfl rfl rfl rfl ?_
  simp only [XA]
  refine hK _ (XWP.ret ?_)
  try simp only [thenX_ret, inBlockX_ret]
  exact ret_go _ (by simp [resAll, resV, cellsV, shapeT_24]; rfl) ⟨fun _ => rfl, fun h => absurd h hu⟩
theorem csteps0_c (V : View) (n c : Nat) (h0 : n = 0) (s : Value) (os : isOne s = true) : Spec Tryz.prog 163 [.agg #[.int .i64 (n : Int), .int .i64 (c : Int), s], .int .i64 (n : Int)] V fun v' V' => v' = .tuple #[.int .i64 0, .bool false] := by
 have b1 : decide ((0 : Int) < (n : Int)) = false := decide_eq_false (by omega)
 refine (Spec.enter Tryz.func163 rfl fun Γ => ?_)
 simp only [Tryz.ntmps163, List.map_cons, List.map_nil, List.length_cons, List.length_nil, Nat.reduceAdd, Nat.reduceSub, List.replicate_succ, List.replicate_zero, List.cons_append, List.nil_append]
 refine Gx.a (by kernel_rfl) fun K hK => ?_
 simp only [XA]
 refine hK _ ?_
 refine Gx.a (by kernel_rfl) fun K hK => ?_
 simp only [XA]
 refine hK _ ?_
 refine XWP.cut (fun s' => StIs (fun Z => [Z 0,Z 1,Z 2,Z 3,Z 4,Z 5, .v (.int .i64 0), .v (.bool false), Z 8,Z 9,Z 10,Z 11,Z 12,Z 13,Z 14,Z 15,Z 16,Z 17,Z 18,Z 19,Z 20,Z 21,Z 22,Z 23,Z 24,Z 25,Z 26,Z 27,Z 28,Z 29,Z 30,Z 31,Z 32,Z 33,Z 34,Z 35,Z 36,Z 37,Z 38,Z 39,Z 40,Z 41,Z 42,Z 43,Z 44,Z 45,Z 46,Z 47,Z 48,Z 49,Z 50,Z 51,Z 52,Z 53]) [[.int .i64 (n : Int), .int .i64 (c : Int), s]] (fun _ => none) V s' ∧ True) ?_ ?_
 ·refine Gx.a (by kernel_rfl) fun K hK => ?_
  simp only [XA]
  refine hK _ ?_
  clear hK
  refine XWP.block ?_
  refine XWP.loop (fun q s' => StIs (fun Z => [Z 0, .v (.int .i64 (n : Int)), .p 0 0, Z 3,Z 4,Z 5, .v (.int .i64 0), .v (.bool false), .v (.int .i64 0), Z 9,Z 10,Z 11,Z 12,Z 13,Z 14,Z 15,Z 16,Z 17,Z 18,Z 19,Z 20,Z 21,Z 22,Z 23,Z 24,Z 25,Z 26,Z 27,Z 28,Z 29,Z 30,Z 31,Z 32,Z 33,Z 34,Z 35,Z 36,Z 37,Z 38,Z 39,Z 40,Z 41,Z 42,Z 43,Z 44,Z 45,Z 46,Z 47,Z 48,Z 49,Z 50,Z 51,Z 52,Z 53]) [[.int .i64 (n : Int), .int .i64 (c : Int), s]] (fun _ => none) V s' ∧ True) 0 ⟨StIs.of (by exact rfl), trivial⟩ ?_
  rintro q s' ⟨hs, _⟩
  obtain ⟨z, rfl⟩ := hs.out
  try dsimp only
  clear hs
  refine XWP.seq ?_
  refine Gx.a (by kernel_rfl) fun K hK => ?_
  simp only [XA, XB, gateX, ↓reduceIte, b1]
  refine hK _ ?_
  refine Gx.f rfl ?_
  refine XWP.exit ?_
  exact ⟨StIs.of (by exact rfl), trivial⟩
 rintro s' ⟨hs, _⟩
 obtain ⟨z, rfl⟩ := hs.out
 try dsimp only
 refine Gx.a (by kernel_rfl) fun K hK => ?_
 simp only [XA]
 refine hK _ (XWP.ret ?_)
 try simp only [thenX_ret, inBlockX_ret]
 refine ret_go _ rfl ?_
 rfl
theorem csolved0_c (V : View) (n m : Nat) (h0 : n = 0) (hm : m ≤ 60) (A1 A2 : Option Addr) (la lb c1 c2 : Nat) :
  Spec Tryz.prog 159 [.agg #[.int .i64 (n : Int), .int .i64 (n : Int), .slice A1 la c1], .agg #[.int .i64 (n : Int), .int .i64 (m : Int), .slice A2 lb c2]] V fun v' V' => ∃ x y w, v' = .tuple #[.agg #[x, y, w], .bool true] ∧ isOne x = true ∧ isOne y = true ∧ isOne w = true := by
 refine (Spec.enter Tryz.func159 rfl fun Γ => ?_)
 simp only [Tryz.ntmps159, List.map_cons, List.map_nil, List.length_cons, List.length_nil, Nat.reduceAdd, Nat.reduceSub, List.replicate_succ, List.replicate_zero, List.cons_append, List.nil_append]
 refine Gx.a (by kernel_rfl) fun K hK => ?_
 simp only [XM, XA, Nat.reduceAdd]
 refine hK _ ?_
 refine Gx.a (by kernel_rfl) fun K hK => ?_
 simp only [XM, XA, XB, Nat.reduceAdd]
 refine st_one shapeT_3 rfl rfl (by simp) ?_
 simp only [XA]
 refine hK _ ?_
 refine XWP.row1 (bx := [_, _, _]) fun b6 e6 hb6 _ => ?_
 simp only [List.map_cons, List.map_nil, rowS_v, rowS_p, List.length_nil, List.length_cons, Nat.reduceAdd, Nat.reduceEqDiff, ↓reduceIte]
 refine XWP.pub b6 _ (upd_at _ _ _) fun o6 ho6 hle6 => ?_
 have eo6 := row_obj ho6
 subst eo6
 have h6 := addV_at V b6 (.cells ([.int .i64 (n : Int)] : List Value).toArray e6 (0, 0))
 generalize upd (upd (fun _ => none) b6 _) b6 none = H1 at *
 generalize addV V b6 _ = V1 at *
 refine XWP.row1 (bx := [_, _]) fun b4 e4 hb4 _ => ?_
 simp only [List.map_cons, List.map_nil, rowS_v, rowS_p, List.length_nil, List.length_cons, Nat.reduceAdd, Nat.reduceEqDiff, ↓reduceIte]
 have f2 : upd H1 b4 (some ⟨e4, [.int .i64 0, .int .i64 0, .slice none 0 0], 3⟩) b4 = some ⟨e4, [.int .i64 0, .int .i64 0, .slice none 0 0], 3⟩ := upd_at _ _ _
 generalize upd H1 b4 (some ⟨e4, [.int .i64 0, .int .i64 0, .slice none 0 0], 3⟩) = H2 at *
 refine XWP.row1 (bx := [_]) fun b3 e3 hb3 _ => ?_
 simp only [List.map_cons, List.map_nil, rowS_v, rowS_p, List.length_nil, List.length_cons, Nat.reduceAdd, Nat.reduceEqDiff, ↓reduceIte]
 refine XWP.pub b3 _ (upd_at _ _ _) fun o3 ho3 hle3 => ?_
 have eo3 := row_obj ho3
 subst eo3
 have n43 := new_ne hb3 f2
 have f3 : upd (upd H2 b3 (some ⟨e3, [.int .i64 (n : Int), .int .i64 (m : Int), .slice A2 lb c2], 3⟩)) b3 none b4 = some ⟨e4, [.int .i64 0, .int .i64 0, .slice none 0 0], 3⟩ := (upd_off n43).trans ((upd_off n43).trans f2)
 have h3 := addV_at V1 b3 (.cells ([.int .i64 (n : Int), .int .i64 (m : Int), .slice A2 lb c2] : List Value).toArray e3 (0, 0))
 generalize upd (upd H2 b3 _) b3 none = H3 at *
 generalize addV V1 b3 _ = V3 at *
 refine XWP.row1 (bx := []) fun b2 e2 hb2 _ => ?_
 simp only [List.map_cons, List.map_nil, rowS_v, rowS_p, List.length_nil, List.length_cons, Nat.reduceAdd, ↓reduceIte]
 refine XWP.pub b2 _ (upd_at _ _ _) fun o2 ho2 hle2 => ?_
 have eo2 := row_obj ho2
 subst eo2
 have n42 := new_ne hb2 f3
 have f4 : upd (upd H3 b2 (some ⟨e2, [.int .i64 (n : Int), .int .i64 (n : Int), .slice A1 la c1], 3⟩)) b2 none b4 = some ⟨e4, [.int .i64 0, .int .i64 0, .slice none 0 0], 3⟩ := (upd_off n42).trans ((upd_off n42).trans f3)
 have h2 := addV_at V3 b2 (.cells ([.int .i64 (n : Int), .int .i64 (n : Int), .slice A1 la c1] : List Value).toArray e2 (0, 0))
 generalize upd (upd H3 b2 _) b2 none = H4 at *
 generalize addV V3 b2 _ = V4 at *
 have hle14 := View.le_trans hle3 hle2
 have h6 := hle14 _ _ h6
 have h3 := hle2 _ _ h3
 have w0 := wr_add (p := n) (k := m) (by omega) (by omega)
 have w0 := wr_add (p := n) (k := m) (by omega) (by omega)
 refine Gx.a (by kernel_rfl) fun K hK => ?_
 simp only [XA]
 refine ld_mem (ldV1 h6 (off := 0) rfl shapeT_3 _) ?_
 simp only [XA]
 refine ld_mem (ldV1 h6 (off := 0) rfl shapeT_3 _) ?_
 simp only [XM, XA]
 refine ld_mem (ldV1 h3 (off := 1) rfl shapeT_3 _) ?_
 simp only [XA, XB, w0]
 refine mkf_go [.pointer (some ⟨b6, 0, none⟩), .pointer (some ⟨b2, 0, none⟩), .pointer (some ⟨b3, 0, none⟩)] rfl ?_
 simp only [XA]
 refine call_own (by kernel_rfl) rfl (filled_o V4 (lb := [.pointer (some ⟨b6, 0, none⟩), .pointer (some ⟨b2, 0, none⟩), .pointer (some ⟨b3, 0, none⟩)]) n (n + m) (fun _ _ => 0) (by kernel_rfl) (by omega) (by omega) fun V' i k hV hi hk => absurd hi (by omega)) fun v7 V7 o7 hV7 hs7 hR7 => ?_
 obtain ⟨sl, cells, rfl, hown, hrow⟩ := hR7
 have osl := own_isOne hown
 have f5 : addRow H4 o7 b4 = some _ := addRow_off f4 fun g' q e => (hs7 g' q e).1
 generalize addRow H4 o7 = H5 at *
 simp only [XM, XA]
 refine st_mat shapeT_24 rfl rfl rfl rfl osl ?_
 simp only [XA]
 refine hK _ ?_
 have h6 := hV7 _ _ h6
 have h3 := hV7 _ _ h3
 refine XWP.row1 (bx := []) fun b7 e7 hb7 _ => ?_
 simp only [List.map_cons, List.map_nil, rowS_v, rowS_p, List.length_nil, List.length_cons, Nat.reduceAdd, ↓reduceIte]
 refine XWP.pub b7 _ (upd_at _ _ _) fun o7' ho7' hle7 => ?_
 have eo7 := row_obj ho7'
 subst eo7
 have n47 := new_ne hb7 f5
 have f6 : upd (upd H5 b7 (some ⟨e7, [.int .i64 (n : Int), .int .i64 ((n + m : Nat) : Int), sl], 3⟩)) b7 none b4 = some ⟨e4, [.int .i64 0, .int .i64 0, .slice none 0 0], 3⟩ := (upd_off n47).trans ((upd_off n47).trans f5)
 have h7 := addV_at V7 b7 (.cells ([.int .i64 (n : Int), .int .i64 ((n + m : Nat) : Int), sl] : List Value).toArray e7 (0, 0))
 generalize upd (upd H5 b7 _) b7 none = H6 at *
 generalize addV V7 b7 _ = V8 at *
 have h6 := hle7 _ _ h6
 have h3 := hle7 _ _ h3
 refine XWP.seq ?_
 refine Gx.a (by kernel_rfl) fun K hK => ?_
 simp only [XA]
 refine ld_mem (ldV3 h7 shapeT_24 _) ?_
 simp only [XA]
 refine ld_mem (ldV1 h6 (off := 0) rfl shapeT_3 _) ?_
 simp only [XA]
 refine call_go (by kernel_rfl) rfl (csteps0_c _ n (n + m) h0 sl osl) fun v9 V9 hV9 h9 => ?_
 subst h9
 simp only [XA]
 refine hK _ ?_
 have h6 := hV9 _ _ h6
 have h3 := hV9 _ _ h3
 have b1 : decide ((0 : Int) < (n : Int)) = false := decide_eq_false (by omega)
 refine Gx.a (by kernel_rfl) fun K hK => ?_
 simp only [XA]
 refine ld_mem (ldV1 h6 (off := 0) rfl shapeT_3 _) ?_
 simp only [XA, XB, b1]
 refine hK _ ?_
 refine Gx.f rfl ?_
 refine XWP.skip ?_
 have wn : IntKind.i64.wrap ((n : Int) - 1) = (n : Int) - 1 := wrap_id (by omega) (by omega)
 have bq : decide ((0 : Int) ≤ (n : Int) - 1) = false := decide_eq_false (by omega)
 refine XWP.cut (fun s => StIs (fun Z => [Z 0,Z 1, .v (.pointer (some ⟨b2, 0, none⟩)), .v (.pointer (some ⟨b3, 0, none⟩)), .v (.pointer (some ⟨b4, 0, none⟩)), Z 5, .v (.pointer (some ⟨b6, 0, none⟩)), .v (.pointer (some ⟨b7, 0, none⟩)), Z 8,Z 9,Z 10,Z 11,Z 12,Z 13,Z 14,Z 15,Z 16,Z 17,Z 18,Z 19,Z 20,Z 21,Z 22,Z 23,Z 24,Z 25,Z 26,Z 27,Z 28,Z 29,Z 30,Z 31,Z 32,Z 33,Z 34,Z 35,Z 36,Z 37,Z 38,Z 39,Z 40,Z 41,Z 42,Z 43,Z 44,Z 45,Z 46,Z 47,Z 48,Z 49,Z 50,Z 51]) [] H6 V9 s ∧ True) ?_ ?_
 ·refine Gx.a (by kernel_rfl) fun K hK => ?_
  simp only [XA]
  refine ld_mem (ldV1 h6 (off := 0) rfl shapeT_3 _) ?_
  simp only [XA, XB, wn]
  refine hK _ ?_
  clear hK
  refine XWP.block ?_
  refine XWP.loop (fun q s => StIs (fun Z => [Z 0,Z 1, .v (.pointer (some ⟨b2, 0, none⟩)), .v (.pointer (some ⟨b3, 0, none⟩)), .v (.pointer (some ⟨b4, 0, none⟩)), Z 5, .v (.pointer (some ⟨b6, 0, none⟩)), .v (.pointer (some ⟨b7, 0, none⟩)), Z 8,Z 9, .v (.int .i64 ((n : Int) - 1)), Z 11,Z 12,Z 13,Z 14,Z 15,Z 16,Z 17,Z 18,Z 19,Z 20,Z 21,Z 22,Z 23,Z 24,Z 25,Z 26,Z 27,Z 28,Z 29,Z 30,Z 31,Z 32,Z 33,Z 34,Z 35,Z 36,Z 37,Z 38,Z 39,Z 40,Z 41,Z 42,Z 43,Z 44,Z 45,Z 46,Z 47,Z 48,Z 49,Z 50,Z 51]) [] H6 V9 s ∧ True) 0 ⟨StIs.of (by exact rfl), trivial⟩ ?_
  rintro q s' ⟨hs, _⟩
  obtain ⟨z, rfl⟩ := hs.out
  try dsimp only
  clear hs
  refine XWP.seq ?_
  refine Gx.a (by kernel_rfl) fun K hK => ?_
  simp only [XA, XB, bq]
  refine hK _ ?_
  refine Gx.f rfl ?_
  refine XWP.exit ?_
  exact ⟨StIs.of (by exact rfl), trivial⟩
 rintro s' ⟨hs, _⟩
 obtain ⟨z, rfl⟩ := hs.out
 try dsimp only
 clear hs
 refine Gx.a (by kernel_rfl) fun K hK => ?_
 simp only [XA]
 refine ld_mem (ldV1 h6 (off := 0) rfl shapeT_3 _) ?_
 simp only [XM, XA]
 refine ld_mem (ldV1 h3 (off := 1) rfl shapeT_3 _) ?_
 simp only [XA]
 refine mkf_go [.pointer (some ⟨b7, 0, none⟩), .pointer (some ⟨b6, 0, none⟩)] rfl ?_
 simp only [XA]
 refine call_own (by kernel_rfl) rfl (filled_o V9 (lb := [.pointer (some ⟨b7, 0, none⟩), .pointer (some ⟨b6, 0, none⟩)]) n m (fun _ _ => 0) (by kernel_rfl) (by omega) (by omega) fun V' i k hV hi hk => absurd hi (by omega)) fun v12 V12 o12 hV12 hs12 hR12 => ?_
 obtain ⟨sl2, cells2, rfl, hown2, hrow2⟩ := hR12
 have osl2 := own_isOne hown2
 have f12 := addRow_off f6 fun g' q e => (hs12 g' q e).1
 simp only [XA]
 refine st_rowA shapeT_24 (all3 rfl rfl osl2) rfl f12 (by simp) ?_
 simp only [XA]
 refine hK _ (XWP.ret ?_)
 try simp only [thenX_ret, inBlockX_ret]
 exact ret_go _ (by simp [resAll, resV, cellsV, shapeT_24, upd_at, splice_all]; rfl) ⟨_, _, _, rfl, rfl, rfl, osl2⟩
theorem cSolve0_c (V : View) (n m : Nat) (h0 : n = 0) (hm : m ≤ 60) (sa sb : Value) (ha : Rats V sa []) (hb : Rats V sb []) :
  Spec Tryz.prog 152 [.agg #[.int .i64 (n : Int), .int .i64 (n : Int), sa], .agg #[.int .i64 (n : Int), .int .i64 (m : Int), sb]] V fun v' V' => ∃ x y w e, v' = .tuple #[.agg #[x, y, w], e] ∧ isOne x = true ∧ isOne y = true ∧ isOne w = true ∧ isOne e = true := by
 have l1 := matR_rats (n := n) (m := n) (l := []) (by subst h0; rfl) (by omega) (by omega)
 have l2 := matR_rats (n := n) (m := m) (l := []) (by subst h0; simp) (by omega) hm
 have f1 : fitR (([] : List Rat).map toRaw) := fitR_toRaw fun x hx => (by cases hx)
 obtain ⟨A1, c1, rfl, hc1, hm1⟩ := ha.form
 obtain ⟨A2, c2, rfl, hc2, hm2⟩ := hb.form
 refine (Spec.enter Tryz.func152 rfl fun Γ => ?_)
 simp only [Tryz.ntmps152, List.map_cons, List.map_nil, List.length_cons, List.length_nil, Nat.reduceAdd, Nat.reduceSub, List.replicate_succ, List.replicate_zero, List.cons_append, List.nil_append]
 refine Gx.a (by kernel_rfl) fun K hK => ?_
 simp only [XM, XA, Nat.reduceAdd]
 refine hK _ ?_
 refine XWP.seq ?_
 refine Gx.a (by kernel_rfl) fun K hK => ?_
 simp only [XM, XA, Nat.reduceAdd, Nat.reduceLeDiff, ↓reduceIte]
 refine call_go (by kernel_rfl) rfl (cmright_c _ _ _ _ (([] : List Rat).map toRaw) (Rats.raws ha) f1 (by simp)) fun v1 V1 hV1 g1 => ?_
 rw [l1] at g1
 subst g1
 simp only [XM, XA, gateX, Nat.reduceAdd, Nat.reduceLeDiff, ↓reduceIte, beq_self_eq_true]
 refine call_go (by kernel_rfl) rfl (cmright_c _ _ _ _ (([] : List Rat).map toRaw) (Rats.raws (hb.up hV1)) f1 (by simp)) fun v2 V2 hV2 g2 => ?_
 rw [l2] at g2
 subst g2
 simp only [XA, gateX, ↓reduceIte, beq_self_eq_true]
 refine hK _ ?_
 refine Gx.f rfl ?_
 refine XWP.skip ?_
 refine XWP.seq ?_
 refine Gx.a (by kernel_rfl) fun K hK => ?_
 simp only [XM, XA, XB, gateX, ↓reduceIte, beq_self_eq_true, decide_true]
 refine hK _ ?_
 refine Gx.f rfl ?_
 refine XWP.skip ?_
 refine Gx.a (by kernel_rfl) fun K hK => ?_
 simp only [XM, XA, Nat.reduceAdd, Nat.reduceLeDiff, ↓reduceIte]
 refine call_go (by kernel_rfl) rfl (csolved0_c _ n m h0 hm _ _ _ _ _ _) fun v3 V3 hV3 g3 => ?_
 obtain ⟨x, y, w, rfl, ox, oy, ow⟩ := g3
 simp only [XM, XA, Nat.reduceAdd]
 refine st_mat shapeT_24 rfl rfl ox oy ow ?_
 simp only [XA]
 refine hK _ ?_
 refine XWP.seq ?_
 refine Gx.a (by kernel_rfl) fun K hK => ?_
 simp only [XA]
 refine hK _ ?_
 refine Gx.f rfl ?_
 refine XWP.skip ?_
 refine Gx.a (by kernel_rfl) fun K hK => ?_
 simp only [XM, XA, Nat.reduceAdd, Nat.reduceLeDiff, ↓reduceIte]
 refine st_mat shapeT_24 rfl rfl ox oy ow ?_
 simp only [XA]
 refine hK _ (XWP.ret ?_)
 try simp only [thenX_ret, inBlockX_ret]
 exact ret_go _ (by simp [resAll, resV, cellsV, shapeT_24]; rfl) ⟨x, y, w, _, rfl, ox, oy, ow, rfl⟩
def Dis (v u : Value) : Prop := ∀ g, v.ownBlock = some g → u.ownBlock ≠ some g
theorem Dis.symm {v u : Value} (h : Dis v u) : Dis u v := fun g h1 h2 => h g h2 h1
theorem own_keep {H H' : Heap} {V : View} {e e2 sz sz2 n nb : Nat} {v v' sb : Value} {xs cb : List Value} (hb : Own H e2 sz2 sb nb cb) (hd : Dis v sb) (hres : AppRes H V e sz v n xs v' H') : Own H' e2 sz2 sb nb cb ∧ Dis v' sb := by
 rcases own_parts hb with ⟨rfl, rfl, rfl⟩ | ⟨g, cap, rfl, hg, hle, hcap, hl⟩
 ·exact ⟨own_nil, fun g h1 h2 => by cases h2⟩
 ·have hne : v'.ownBlock ≠ some g := fun e => by
   rcases hres.2.2 g e with h | ⟨h, _⟩
   ·exact hd g h rfl
   ·rw [hg] at h; cases h
  refine ⟨⟨hl, .inr ⟨g, cap, rfl, by rw [hres.2.1 g hne]; exact hg, hle, hcap⟩⟩, fun g' h1 h2 => ?_⟩
  have : g = g' := by simpa [Value.ownBlock] using h2
  subst this
  exact hne h1
theorem own_slice {H : Heap} {e n : Nat} {v : Value} {cells : List Value} (h : Own H e 3 v n cells) : ∃ A c, v = .slice A n c := by
 rcases own_parts h with ⟨rfl, h0, _⟩ | ⟨g, cap, rfl, _⟩
 ·exact ⟨none, 0, by rw [h0]⟩
 ·exact ⟨_, cap, rfl⟩
theorem own_move {H H' : Heap} {e sz n : Nat} {v : Value} {xs : List Value} (h : Own H e sz v n xs) (hk : ∀ g, v.ownBlock = some g → H' g = H g) : Own H' e sz v n xs := by
 refine ⟨h.1, ?_⟩
 rcases h.2 with h2 | ⟨g, cap, rfl, hg, h3⟩
 ·exact .inl h2
 ·exact .inr ⟨g, cap, rfl, by rw [hk g rfl]; exact hg, h3⟩
def WI (H : Heap) (V : View) (sa sb : Value) (na nb : Nat) (Fa Fb : Nat → Rat) : Prop :=
 ∃ ca cb, Own H 48 3 sa na ca ∧ RowAt ratE V ca (mk na Fa) ∧ Own H 48 3 sb nb cb ∧ RowAt ratE V cb (mk nb Fb) ∧ Dis sa sb
theorem nat_load {V : View} {A0 : Option Addr} {q0 N n : Nat} {R : Nat → Bool} (h : Sl1 natE V (.slice A0 N q0) (pkL R n)) (hN : N = (pkL R n).length) (h0 : 0 < N) : ∃ b0 o0, A0 = some ⟨b0, o0, none⟩ ∧ ∀ (V' : View) (H : Heap) (i : Nat), V.le V' → i < N → Loads Tryz.prog H V' 3 b0 (o0 + i) (.int .i64 (pk R n i : Int)) := by
 obtain ⟨b0, o0, rfl⟩ := h.addr (by omega)
 refine ⟨b0, o0, rfl, fun V' H i hV hi => ?_⟩
 obtain ⟨u, hu, _, hld⟩ := (h.mono natE_ok hV).load i (by omega)
 have e : (pkL R n)[i]'(by omega) = pk R n i := by unfold pk; simp [List.getD_eq_getElem?_getD, List.getElem?_eq_getElem (show i < (pkL R n).length by omega)]
 rw [e] at hu
 have hu' : u = .int .i64 (pk R n i : Int) := hu
 subst hu'
 exact hld H _ _ shapeT_3
set_option maxHeartbeats 8000000 in
theorem cwithin_c (V : View) (s1 s2 vof : Value) (n m cols B : Nat) (l1 : List Rat) (R : Nat → Bool) (E : Grid) {g : FuncId} {lb : List Value} (h1 : Rats V s1 l1) (e1 : l1.length = n * n) (os2 : isOne s2 = true) (hof : Sl1 natE V vof (pkL R n)) (hn : n ≤ 60) (hc : cols ≤ 60) (hcl : callable Tryz.prog g = true)
  (hf : ∀ V' i k, V.le V' → i < n → k < cols → Spec Tryz.prog g ([.int .i64 (i : Int), .int .i64 (k : Int)] ++ lb) V' fun v' V'' => RatC V'' v' (E i k)) (hq1 : ∀ x ∈ l1, QB B x) (hq2 : ∀ i k, i < n → k < cols → QB B (E i k)) (hB : ge (B + 1) (2 * (pkL R n).length + 1) ≤ 17592186044416) (hu : UniG (inA (gridL l1 n) R n) (pkL R n).length (pkL R n).length) :
  Spec Tryz.prog 132 [.agg #[.int .i64 (n : Int), .int .i64 (n : Int), s1, .int .i64 (n : Int), .int .i64 (m : Int), s2], vof, .int .i64 (cols : Int), .func (.func g) #[] lb.toArray, .bool false] V fun v' V' => ∃ x y w, v' = .agg #[x, y, w] ∧ isOne x = true ∧ isOne y = true ∧ isOne w = true ∧
   (0 < (pkL R n).length → x = .int .i64 ((pkL R n).length : Int) ∧ y = .int .i64 (cols : Int) ∧ ∃ X, Rats V' w (flatG X (pkL R n).length cols) ∧ (∀ c, c < cols → LinG (inA (gridL l1 n) R n) (pkL R n).length (pkL R n).length (fun i => E (pk R n i) c) (fun j => X j c)) ∧ ∀ i k, i < (pkL R n).length → k < cols → QB (2 * ge (B + 1) (2 * (pkL R n).length)) (X i k)) := by
 obtain ⟨A1, q1, rfl, _, _⟩ := h1.form
 obtain ⟨A0, q0, rfl, hq0, hm0⟩ := hof.form
 have hNn := pkL_len R n
 have hpk := pk_ok R n
 obtain ⟨N, hN⟩ : ∃ N, N = (pkL R n).length := ⟨_, rfl⟩
 rw [← hN] at hof hNn hpk hB hu ⊢
 have hofl := nat_load (q0 := q0) (A0 := A0) hof hN
 have hnn : n * n ≤ 3600 := Nat.le_trans (Nat.mul_le_mul hn hn) (by decide)
 have hNN : N * N ≤ 3600 := Nat.le_trans (Nat.mul_le_mul (show N ≤ 60 by omega) (show N ≤ 60 by omega)) (by decide)
 have hNc : N * cols ≤ 3600 := Nat.le_trans (Nat.mul_le_mul (show N ≤ 60 by omega) hc) (by decide)
 have hB0 : B + 1 ≤ 17592186044416 := Nat.le_trans (ge_le (B + 1) _) hB
 have hqM : ∀ i k, i < n → k < n → QB B (gridL l1 n i k) := fun i k hi hk => hq1 _ (cf_mem (by rw [e1]; exact pos_lt hi hk))
 obtain ⟨Ga, hGa⟩ : ∃ Ga, Ga = inA (gridL l1 n) R n := ⟨_, rfl⟩
 obtain ⟨Gb, hGb⟩ : ∃ Gb : Grid, Gb = fun i k => E (pk R n i) k := ⟨_, rfl⟩
 have hqA : ∀ i k, i < N → k < N → QB (B + 1) (Ga i k) := fun i k hi hk => by
  rw [hGa]
  exact ((gid_QB i k).sub (hqM _ _ (hpk i hi).1 (hpk k hk).1)).mono (by omega)
 have hqB : ∀ i k, i < N → k < cols → QB (B + 1) (Gb i k) := fun i k hi hk => by
  rw [hGb]
  exact (hq2 _ _ (hpk i hi).1 hk).mono (by omega)
 rw [← hGa] at hu
 refine (Spec.enter Tryz.func132 rfl fun Γ => ?_)
 simp only [Tryz.ntmps132, List.map_cons, List.map_nil, List.length_cons, List.length_nil, Nat.reduceAdd, Nat.reduceSub, List.replicate_succ, List.replicate_zero, List.cons_append, List.nil_append]
 refine Gx.a (by kernel_rfl) fun K hK => ?_
 simp only [XM, XA]
 refine hK _ ?_
 refine Gx.a (by kernel_rfl) fun K hK => ?_
 simp only [XN, XA]
 refine bd_go (by kernel_rfl) #[(0, .int .i64 (N : Int)), (1, .int .i64 (N : Int))] (by simp [ev_tmp, SV.val]) (bd_mtx2 rfl rfl) ?_
 simp only [XM, XA, Nat.reduceAdd]
 refine st_mat shapeT_24 rfl rfl rfl rfl rfl ?_
 simp only [XA]
 refine hK _ ?_
 refine Gx.a (by kernel_rfl) fun K hK => ?_
 simp only [XN, XA]
 refine bd_go (by kernel_rfl) #[(0, .int .i64 (N : Int)), (1, .int .i64 (cols : Int))] (by simp [ev_tmp, SV.val]) (bd_mtx2 rfl rfl) ?_
 simp only [XM, XA, Nat.reduceAdd]
 refine st_mat shapeT_24 rfl rfl rfl rfl rfl ?_
 simp only [XA]
 refine hK _ ?_
 refine XWP.cutD 4 (fun s => ∃ (V2 : View) (H2 : Heap) (sa sb : Value), StIs (fun Z => [Z 0, .v (.slice A0 N q0), .v (.int .i64 (cols : Int)), .v (.func (.func g) #[] lb.toArray), .v (.bool false), .p 0 0, Z 6,Z 7,Z 8,Z 9, .p 1 0, .p 2 0, .p 3 0, Z 13,Z 14,Z 15,Z 16,Z 17,Z 18,Z 19,Z 20,Z 21,Z 22,Z 23,Z 24,Z 25,Z 26,Z 27,Z 28,Z 29,Z 30,Z 31,Z 32,Z 33,Z 34,Z 35,Z 36,Z 37,Z 38,Z 39,Z 40,Z 41,Z 42,Z 43,Z 44,Z 45,Z 46,Z 47,Z 48,Z 49,Z 50,Z 51,Z 52,Z 53,Z 54,Z 55,Z 56,Z 57,Z 58,Z 59,Z 60,Z 61,Z 62,Z 63,Z 64,Z 65,Z 66,Z 67,Z 68,Z 69,Z 70,Z 71,Z 72,Z 73,Z 74,Z 75,Z 76,Z 77,Z 78,Z 79,Z 80,Z 81,Z 82,Z 83,Z 84,Z 85,Z 86,Z 87,Z 88,Z 89,Z 90,Z 91,Z 92]) [[.int .i64 (n : Int), .int .i64 (n : Int), .slice A1 l1.length q1, .int .i64 (n : Int), .int .i64 (m : Int), s2], [.int .i64 0, .int .i64 0, .slice none 0 0], [.int .i64 (N : Int), .int .i64 (N : Int), sa], [.int .i64 (N : Int), .int .i64 (cols : Int), sb]] H2 V2 s ∧ V.le V2 ∧ WI H2 V2 sa sb (N * N) (N * cols) (flatF Ga N) (flatF Gb cols)) ?_ ?_
 ·refine Gx.a (by kernel_rfl) fun K hK => ?_
  simp only [XN, XA]
  refine hK _ ?_
  clear hK
  refine XWP.block ?_
  refine XWP.loopD 4 (fun q s => ∃ (i : Nat) (V2 : View) (H2 : Heap) (sa sb : Value), StIs (fun Z => [Z 0, .v (.slice A0 N q0), .v (.int .i64 (cols : Int)), .v (.func (.func g) #[] lb.toArray), .v (.bool false), .p 0 0, Z 6,Z 7,Z 8,Z 9, .p 1 0, .p 2 0, .p 3 0, Z 13,Z 14,Z 15,Z 16,Z 17,Z 18,Z 19,Z 20,Z 21,Z 22,Z 23,Z 24,Z 25,Z 26,Z 27,Z 28,Z 29,Z 30, .v (.slice A0 N q0), .v (.int .i64 (N : Int)), .v (.int .i64 (i : Int)), Z 34,Z 35,Z 36,Z 37,Z 38,Z 39,Z 40,Z 41,Z 42,Z 43,Z 44,Z 45,Z 46,Z 47,Z 48,Z 49,Z 50,Z 51,Z 52,Z 53,Z 54,Z 55,Z 56,Z 57,Z 58,Z 59,Z 60,Z 61,Z 62,Z 63,Z 64,Z 65,Z 66,Z 67,Z 68,Z 69,Z 70,Z 71,Z 72,Z 73,Z 74,Z 75,Z 76,Z 77,Z 78,Z 79,Z 80,Z 81,Z 82,Z 83,Z 84,Z 85,Z 86,Z 87,Z 88,Z 89,Z 90,Z 91,Z 92]) [[.int .i64 (n : Int), .int .i64 (n : Int), .slice A1 l1.length q1, .int .i64 (n : Int), .int .i64 (m : Int), s2], [.int .i64 0, .int .i64 0, .slice none 0 0], [.int .i64 (N : Int), .int .i64 (N : Int), sa], [.int .i64 (N : Int), .int .i64 (cols : Int), sb]] H2 V2 s ∧ q + i = N ∧ V.le V2 ∧ WI H2 V2 sa sb (i * N) (i * cols) (flatF Ga N) (flatF Gb cols)) N ⟨0, V, fun _ => none, _, _, StIs.of (by exact rfl), by omega, View.le_refl _, [], [], by rw [Nat.zero_mul]; exact own_nil, by rw [Nat.zero_mul]; exact RowAt.nil V, by rw [Nat.zero_mul]; exact own_nil, by rw [Nat.zero_mul]; exact RowAt.nil V, fun g h => by cases h⟩ ?_
  rintro q s ⟨i, V2, H2, sa, sb, hs, hq, hV2, hW⟩
  obtain ⟨z, rfl⟩ := hs.out
  try dsimp only
  clear hs
  by_cases hi : i < N
  rotate_left
  ·obtain rfl : i = N := by omega
   have b1 : decide ((i : Int) < (i : Int)) = false := decide_eq_false (by omega)
   refine Gx.a (by kernel_rfl) fun K hK => ?_
   simp only [XA, XB, b1]
   refine hK _ ?_
   refine XWP.seq (Gx.f rfl ?_)
   refine XWP.exit ?_
   exact fun f => ⟨V2, H2, sa, sb, StIs.of (by exact rfl), hV2, hW⟩
  have b1 : decide ((i : Int) < (N : Int)) = true := decide_eq_true (by omega)
  refine Gx.a (by kernel_rfl) fun K hK => ?_
  simp only [XA, XB, b1]
  refine hK _ ?_
  refine XWP.seq (Gx.t rfl ?_)
  refine XWP.skip ?_
  obtain ⟨b0, o0, rfl, hld⟩ := hofl (by omega)
  obtain ⟨px, hpx⟩ : ∃ px, px = pk R n i := ⟨_, rfl⟩
  have hpxn : px < n := by rw [hpx]; exact (hpk i hi).1
  refine XWP.cutD 4 (fun s => ∃ (V3 : View) (H3 : Heap) (sa sb : Value), StIs (fun Z => [Z 0, .v (.slice (some ⟨b0, o0, none⟩) N q0), .v (.int .i64 (cols : Int)), .v (.func (.func g) #[] lb.toArray), .v (.bool false), .p 0 0, Z 6,Z 7,Z 8,Z 9, .p 1 0, .p 2 0, .p 3 0, Z 13,Z 14,Z 15,Z 16,Z 17,Z 18,Z 19,Z 20,Z 21,Z 22,Z 23,Z 24,Z 25,Z 26,Z 27,Z 28,Z 29,Z 30, .v (.slice (some ⟨b0, o0, none⟩) N q0), .v (.int .i64 (N : Int)), .v (.int .i64 (i : Int)), Z 34,Z 35,Z 36,Z 37,Z 38,Z 39,Z 40,Z 41,Z 42,Z 43,Z 44,Z 45,Z 46,Z 47,Z 48,Z 49,Z 50,Z 51,Z 52,Z 53,Z 54,Z 55,Z 56,Z 57,Z 58,Z 59,Z 60,Z 61,Z 62,Z 63,Z 64,Z 65,Z 66,Z 67,Z 68,Z 69,Z 70,Z 71,Z 72,Z 73,Z 74,Z 75,Z 76,Z 77,Z 78,Z 79,Z 80,Z 81,Z 82,Z 83,Z 84,Z 85,Z 86,Z 87,Z 88,Z 89,Z 90,Z 91,Z 92]) [[.int .i64 (n : Int), .int .i64 (n : Int), .slice A1 l1.length q1, .int .i64 (n : Int), .int .i64 (m : Int), s2], [.int .i64 0, .int .i64 0, .slice none 0 0], [.int .i64 (N : Int), .int .i64 (N : Int), sa], [.int .i64 (N : Int), .int .i64 (cols : Int), sb]] H3 V3 s ∧ V2.le V3 ∧ WI H3 V3 sa sb (i * N + N) (i * cols + cols) (flatF Ga N) (flatF Gb cols)) ?_ ?_
  rotate_left
  ·rintro s ⟨V3, H3, sa3, sb3, hs, hV3, hW3⟩
   obtain ⟨z, rfl⟩ := hs.out
   try dsimp only
   clear hs
   refine Gx.c (by kernel_rfl) fun K hK => ?_
   simp only [XA, XB, i64_succ i (by omega)]
   exact hK _ ⟨q - 1, by omega, fun f => ⟨i + 1, V3, H3, sa3, sb3, StIs.of (by exact rfl), by omega, View.le_trans hV2 hV3, by rw [Nat.add_mul, Nat.one_mul, Nat.add_mul, Nat.one_mul]; exact hW3⟩⟩
  clear hK
  refine XWP.block ?_
  refine Gx.a (by kernel_rfl) fun K hK => ?_
  simp only [XN, XA, XB]
  refine ⟨by omega, by omega, ld_mem (hld _ _ i hV2 hi) ?_⟩
  rw [← hpx]
  simp only [XA]
  refine hK _ ?_
  have hp1 := Nat.mul_le_mul_right N (show i + 1 ≤ N by omega)
  have hp2 := Nat.mul_le_mul_right cols (show i + 1 ≤ N by omega)
  rw [Nat.add_mul, Nat.one_mul] at hp1 hp2
  refine XWP.cutD 4 (fun s => ∃ (V3 : View) (H3 : Heap) (sa sb : Value), StIs (fun Z => [Z 0, .v (.slice (some ⟨b0, o0, none⟩) N q0), .v (.int .i64 (cols : Int)), .v (.func (.func g) #[] lb.toArray), .v (.bool false), .p 0 0, Z 6,Z 7,Z 8,Z 9, .p 1 0, .p 2 0, .p 3 0, .v (.int .i64 (i : Int)), .v (.int .i64 (px : Int)), Z 15,Z 16,Z 17,Z 18,Z 19,Z 20,Z 21,Z 22,Z 23,Z 24,Z 25,Z 26,Z 27,Z 28,Z 29,Z 30, .v (.slice (some ⟨b0, o0, none⟩) N q0), .v (.int .i64 (N : Int)), .v (.int .i64 (i : Int)), Z 34,Z 35,Z 36,Z 37,Z 38,Z 39,Z 40,Z 41,Z 42,Z 43,Z 44,Z 45,Z 46,Z 47,Z 48,Z 49,Z 50,Z 51,Z 52,Z 53,Z 54,Z 55,Z 56,Z 57,Z 58,Z 59,Z 60,Z 61,Z 62,Z 63,Z 64,Z 65,Z 66,Z 67,Z 68,Z 69,Z 70,Z 71,Z 72,Z 73,Z 74,Z 75,Z 76,Z 77,Z 78,Z 79,Z 80,Z 81,Z 82,Z 83,Z 84,Z 85,Z 86,Z 87,Z 88,Z 89,Z 90,Z 91,Z 92]) [[.int .i64 (n : Int), .int .i64 (n : Int), .slice A1 l1.length q1, .int .i64 (n : Int), .int .i64 (m : Int), s2], [.int .i64 0, .int .i64 0, .slice none 0 0], [.int .i64 (N : Int), .int .i64 (N : Int), sa], [.int .i64 (N : Int), .int .i64 (cols : Int), sb]] H3 V3 s ∧ V2.le V3 ∧ WI H3 V3 sa sb (i * N + N) (i * cols) (flatF Ga N) (flatF Gb cols)) ?_ ?_
  ·refine Gx.a (by kernel_rfl) fun K hK => ?_
   simp only [XN, XA]
   refine hK _ ?_
   clear hK
   refine XWP.block ?_
   refine XWP.loopD 4 (fun d s => ∃ (k : Nat) (V3 : View) (H3 : Heap) (sa sb : Value), StIs (fun Z => [Z 0, .v (.slice (some ⟨b0, o0, none⟩) N q0), .v (.int .i64 (cols : Int)), .v (.func (.func g) #[] lb.toArray), .v (.bool false), .p 0 0, Z 6,Z 7,Z 8,Z 9, .p 1 0, .p 2 0, .p 3 0, .v (.int .i64 (i : Int)), .v (.int .i64 (px : Int)), Z 15,Z 16,Z 17,Z 18,Z 19,Z 20,Z 21,Z 22,Z 23,Z 24,Z 25,Z 26,Z 27,Z 28,Z 29,Z 30, .v (.slice (some ⟨b0, o0, none⟩) N q0), .v (.int .i64 (N : Int)), .v (.int .i64 (i : Int)), Z 34,Z 35,Z 36,Z 37, .v (.slice (some ⟨b0, o0, none⟩) N q0), .v (.int .i64 (N : Int)), .v (.int .i64 (k : Int)), Z 41,Z 42,Z 43,Z 44,Z 45,Z 46,Z 47,Z 48,Z 49,Z 50,Z 51,Z 52,Z 53,Z 54,Z 55,Z 56,Z 57,Z 58,Z 59,Z 60,Z 61,Z 62,Z 63,Z 64,Z 65,Z 66,Z 67,Z 68,Z 69,Z 70,Z 71,Z 72,Z 73,Z 74,Z 75,Z 76,Z 77,Z 78,Z 79,Z 80,Z 81,Z 82,Z 83,Z 84,Z 85,Z 86,Z 87,Z 88,Z 89,Z 90,Z 91,Z 92]) [[.int .i64 (n : Int), .int .i64 (n : Int), .slice A1 l1.length q1, .int .i64 (n : Int), .int .i64 (m : Int), s2], [.int .i64 0, .int .i64 0, .slice none 0 0], [.int .i64 (N : Int), .int .i64 (N : Int), sa], [.int .i64 (N : Int), .int .i64 (cols : Int), sb]] H3 V3 s ∧ d + k = N ∧ V2.le V3 ∧ WI H3 V3 sa sb (i * N + k) (i * cols) (flatF Ga N) (flatF Gb cols)) N ⟨0, V2, H2, sa, sb, StIs.of (by exact rfl), by omega, View.le_refl _, hW⟩ ?_
   clear hW
   rintro d s ⟨k, V3, H3, sa, sb, hs, hd, hV3, hW⟩
   obtain ⟨z, rfl⟩ := hs.out
   try dsimp only
   clear hs
   by_cases hk : k < N
   rotate_left
   ·obtain rfl : k = N := by omega
    have b2 : decide ((k : Int) < (k : Int)) = false := decide_eq_false (by omega)
    refine Gx.a (by kernel_rfl) fun K hK => ?_
    simp only [XA, XB, b2]
    refine hK _ ?_
    refine XWP.seq (Gx.f rfl ?_)
    refine XWP.exit ?_
    exact fun f => ⟨V3, H3, sa, sb, StIs.of (by exact rfl), hV3, hW⟩
   have b2 : decide ((k : Int) < (N : Int)) = true := decide_eq_true (by omega)
   refine Gx.a (by kernel_rfl) fun K hK => ?_
   simp only [XA, XB, b2]
   refine hK _ ?_
   refine XWP.seq (Gx.t rfl ?_)
   refine XWP.skip ?_
   obtain ⟨py, hpy⟩ : ∃ py, py = pk R n k := ⟨_, rfl⟩
   have hpyn : py < n := by rw [hpy]; exact (hpk k hk).1
   have hVV := View.le_trans hV2 hV3
   have hpp := pos_lt hpxn hpyn
   refine XWP.seq ?_
   refine XWP.block ?_
   refine Gx.a (by kernel_rfl) fun K hK => ?_
   simp only [XN, XA, XB]
   refine ⟨by omega, by omega, ld_mem (hld _ _ k hVV hk) ?_⟩
   rw [← hpy]
   simp only [XA]
   refine hK _ ?_
   refine Gx.a (by kernel_rfl) fun K hK => ?_
   simp only [XM, XA, Nat.reduceAdd, Nat.reduceLeDiff, ↓reduceIte]
   refine call_go (by kernel_rfl) rfl (ccell_c _ _ _ n px py l1 (h1.up hVV) (by omega) (by omega) (by omega) (by omega)) fun v5 V5 hV5 h5 => ?_
   have qm : QB B (cf l1 (px * n + py)) := hqM px py hpxn hpyn
   obtain ⟨x5, y5, rfl, p1, p2⟩ := h5.form
   simp only [XA, XB, Nat.reduceAdd]
   refine st_rat rfl rfl rfl p1 p2 ?_
   simp only [XA]
   refine hK _ ?_
   refine Gx.b (by kernel_rfl) fun K hK => ?_
   simp only [XA]
   refine hK _ ?_
   refine Gx.f rfl ?_
   refine XWP.skip ?_
   refine Gx.a (by kernel_rfl) fun K hK => ?_
   simp only [XA, XB, Nat.reduceAdd, Nat.reduceLeDiff, ↓reduceIte]
   refine call_go (by kernel_rfl) rfl (qneg_c _ _ _ h5 (qm.qf (by omega))) fun v6 V6 hV6 h6 => ?_
   obtain ⟨x6, y6, rfl, p3, p4⟩ := h6.form
   simp only [XA, XB, Nat.reduceAdd]
   refine st_rat rfl rfl rfl p3 p4 ?_
   simp only [XA]
   refine hK _ ?_
   have eG : Ga i k = gid i k - cf l1 (px * n + py) := by rw [hGa, hpx, hpy]; rfl
   refine XWP.cut (fun s => ∃ (V7 : View) (x y : Value), StIs (fun Z => [Z 0, .v (.slice (some ⟨b0, o0, none⟩) N q0), .v (.int .i64 (cols : Int)), .v (.func (.func g) #[] lb.toArray), .v (.bool false), .p 0 0, Z 6,Z 7,Z 8,Z 9, .p 1 0, .p 2 0, .p 3 0, .v (.int .i64 (i : Int)), .v (.int .i64 (px : Int)), .v (.int .i64 (k : Int)), .v (.int .i64 (py : Int)), .p 4 0, .p 5 0, Z 19,Z 20,Z 21,Z 22,Z 23,Z 24,Z 25,Z 26,Z 27,Z 28,Z 29,Z 30, .v (.slice (some ⟨b0, o0, none⟩) N q0), .v (.int .i64 (N : Int)), .v (.int .i64 (i : Int)), Z 34,Z 35,Z 36,Z 37, .v (.slice (some ⟨b0, o0, none⟩) N q0), .v (.int .i64 (N : Int)), .v (.int .i64 (k : Int)), Z 41,Z 42,Z 43,Z 44,Z 45,Z 46,Z 47,Z 48,Z 49,Z 50,Z 51,Z 52,Z 53,Z 54,Z 55,Z 56,Z 57,Z 58,Z 59,Z 60,Z 61,Z 62,Z 63,Z 64,Z 65,Z 66,Z 67,Z 68,Z 69,Z 70,Z 71,Z 72,Z 73,Z 74,Z 75,Z 76,Z 77,Z 78,Z 79,Z 80,Z 81,Z 82,Z 83,Z 84,Z 85,Z 86,Z 87,Z 88,Z 89,Z 90,Z 91,Z 92]) [[.int .i64 (n : Int), .int .i64 (n : Int), .slice A1 l1.length q1, .int .i64 (n : Int), .int .i64 (m : Int), s2], [.int .i64 0, .int .i64 0, .slice none 0 0], [.int .i64 (N : Int), .int .i64 (N : Int), sa], [.int .i64 (N : Int), .int .i64 (cols : Int), sb], [.bool (ng (cf l1 (px * n + py))), x5, y5], [.bool (ng (Ga i k)), x, y]] H3 V7 s ∧ V3.le V7 ∧ RatC V7 (.agg #[.bool (ng (Ga i k)), x, y]) (Ga i k) ∧ isOne x = true ∧ isOne y = true) ?_ ?_
   ·by_cases hik : i = k
    ·have b3 : decide ((i : Int) = (k : Int)) = true := decide_eq_true (by omega)
     refine Gx.a (by kernel_rfl) fun K hK => ?_
     simp only [XA, XB, b3]
     refine hK _ ?_
     refine Gx.t rfl ?_
     (refine XWP.drw1 [1, 0, 2, 3] (by kernel_rfl) (by kernel_rfl) (by kernel_rfl) fun K hK => ?_) <;> dsimp only [pickOps, List.getElem?_cons_zero, List.getElem?_cons_succ]
     simp only [XA, XB, Nat.reduceAdd, Nat.reduceLeDiff, ↓reduceIte]
     refine call_go (by kernel_rfl) rfl (qone_c _) fun v7 V7 hV7 h7 => ?_
     simp only [XA]
     refine call_go (by kernel_rfl) rfl (qadd_c _ _ _ _ _ h7 (h6.mono hV7) QF_one (qm.neg.qf (by omega))) fun v8 V8 hV8 h8 => ?_
     have eg : 1 + -cf l1 (px * n + py) = Ga i k := by rw [eG]; unfold gid; rw [if_pos hik]; grind
     rw [eg] at h8
     obtain ⟨x8, y8, rfl, p5, p6⟩ := h8.form
     simp only [XA]
     refine st_rat rfl rfl rfl p5 p6 ?_
     simp only [XA]
     exact hK _ ⟨V8, x8, y8, StIs.of (by exact rfl), View.le_trans hV5 (View.le_trans hV6 (View.le_trans hV7 hV8)), h8, p5, p6⟩
    ·have b3 : decide ((i : Int) = (k : Int)) = false := decide_eq_false (by omega)
     have eg : -cf l1 (px * n + py) = Ga i k := by rw [eG]; unfold gid; rw [if_neg hik]; grind
     refine Gx.a (by kernel_rfl) fun K hK => ?_
     simp only [XA, XB, b3]
     refine hK _ ?_
     refine Gx.f rfl ?_
     refine XWP.skip ?_
     rw [eg] at h6 ⊢
     exact ⟨V6, x6, y6, StIs.of (by exact rfl), View.le_trans hV5 hV6, h6, p3, p4⟩
   clear h6 p3 p4
   rintro s ⟨V7, x7, y7, hs, hV7, h7, p3, p4⟩
   obtain ⟨z, rfl⟩ := hs.out
   try dsimp only
   clear hs
   obtain ⟨ca, cb, oa, ra, ob, rb, dis⟩ := hW
   obtain ⟨As, cs, rfl⟩ := own_slice oa
   refine Gx.c (by kernel_rfl) fun K hK => ?_
   simp only [XM, XA, XB, Nat.reduceAdd, Nat.reduceLeDiff, ↓reduceIte]
   refine bs_go (by kernel_rfl) #[(0, .agg #[.bool (ng (Ga i k)), x7, y7])] (by simp [ev_tmp, SV.val]) (bs_rat elemT_22) fun b3 hb3 hb4 => ?_
   simp only [XA, Nat.reduceAdd]
   refine ap_go elemT_22 (by kernel_rfl) zeroT_48 rfl (by omega) (own_upd oa hb3) (src3 (upd_at _ _ _) rfl p3 p4) (by omega) (by omega) fun v' H' hres => ?_
   simp only [XM, XA]
   refine st_one shapeT_22 rfl (own_isOne hres.1) (by simp) ?_
   simp only [XA]
   refine hK _ ?_
   obtain ⟨ob', dis'⟩ := own_keep (own_upd ob hb3) dis hres
   have ra' := (ra.mono ratE_ok hV7).snoc (show isOne (.bool (ng (Ga i k))) = true from rfl) p3 p4 h7
   rw [← flatF_at Ga hk, ← mk_succ (i * N + k) (flatF Ga N)] at ra'
   rw [← flatF_at Ga hk] at hres
   refine Gx.c (by kernel_rfl) fun K hK => ?_
   simp only [XA, XB, i64_succ k (by omega)]
   exact hK _ ⟨d - 1, by omega, fun f => ⟨k + 1, V7, H', v', sb, StIs.of (by exact rfl), by omega, View.le_trans hV3 hV7, _, _, hres.1, ra', ob', rb.mono ratE_ok hV7, dis'⟩⟩
  clear hW
  rintro s ⟨V3, H3, sa, sb, hs, hV3, hW⟩
  obtain ⟨z, rfl⟩ := hs.out
  try dsimp only
  clear hs
  refine Gx.a (by kernel_rfl) fun K hK => ?_
  simp only [XA]
  refine hK _ ?_
  clear hK
  refine XWP.block ?_
  refine XWP.loopD 4 (fun d s => ∃ (k : Nat) (V4 : View) (H4 : Heap) (sa sb : Value), StIs (fun Z => [Z 0, .v (.slice (some ⟨b0, o0, none⟩) N q0), .v (.int .i64 (cols : Int)), .v (.func (.func g) #[] lb.toArray), .v (.bool false), .p 0 0, Z 6,Z 7,Z 8,Z 9, .p 1 0, .p 2 0, .p 3 0, .v (.int .i64 (i : Int)), .v (.int .i64 (px : Int)), Z 15,Z 16,Z 17,Z 18,Z 19,Z 20,Z 21,Z 22,Z 23,Z 24,Z 25,Z 26,Z 27,Z 28,Z 29,Z 30, .v (.slice (some ⟨b0, o0, none⟩) N q0), .v (.int .i64 (N : Int)), .v (.int .i64 (i : Int)), Z 34,Z 35,Z 36,Z 37,Z 38,Z 39,Z 40,Z 41,Z 42,Z 43,Z 44,Z 45,Z 46,Z 47,Z 48,Z 49,Z 50,Z 51,Z 52,Z 53,Z 54,Z 55,Z 56,Z 57,Z 58,Z 59,Z 60,Z 61,Z 62,Z 63,Z 64,Z 65,Z 66,Z 67,Z 68,Z 69,Z 70, .v (.int .i64 (cols : Int)), .v (.int .i64 (k : Int)), Z 73,Z 74,Z 75,Z 76,Z 77,Z 78,Z 79,Z 80,Z 81,Z 82,Z 83,Z 84,Z 85,Z 86,Z 87,Z 88,Z 89,Z 90,Z 91,Z 92]) [[.int .i64 (n : Int), .int .i64 (n : Int), .slice A1 l1.length q1, .int .i64 (n : Int), .int .i64 (m : Int), s2], [.int .i64 0, .int .i64 0, .slice none 0 0], [.int .i64 (N : Int), .int .i64 (N : Int), sa], [.int .i64 (N : Int), .int .i64 (cols : Int), sb]] H4 V4 s ∧ d + k = cols ∧ V3.le V4 ∧ WI H4 V4 sa sb (i * N + N) (i * cols + k) (flatF Ga N) (flatF Gb cols)) cols ⟨0, V3, H3, sa, sb, StIs.of (by exact rfl), by omega, View.le_refl _, hW⟩ ?_
  clear hW
  rintro d s ⟨k, V4, H4, sa, sb, hs, hd, hV4, hW⟩
  obtain ⟨z, rfl⟩ := hs.out
  try dsimp only
  clear hs
  by_cases hk : k < cols
  rotate_left
  ·obtain rfl : k = cols := by omega
   have b2 : decide ((k : Int) < (k : Int)) = false := decide_eq_false (by omega)
   refine Gx.a (by kernel_rfl) fun K hK => ?_
   simp only [XA, XB, b2]
   refine hK _ ?_
   refine XWP.seq (Gx.f rfl ?_)
   refine XWP.exit ?_
   exact fun f => ⟨V4, H4, sa, sb, StIs.of (by exact rfl), View.le_trans hV3 hV4, hW⟩
  have b2 : decide ((k : Int) < (cols : Int)) = true := decide_eq_true (by omega)
  refine Gx.a (by kernel_rfl) fun K hK => ?_
  simp only [XA, XB, b2]
  refine hK _ ?_
  refine XWP.seq (Gx.t rfl ?_)
  refine XWP.skip ?_
  have hVV := View.le_trans hV2 (View.le_trans hV3 hV4)
  obtain ⟨ca, cb, oa, ra, ob, rb, dis⟩ := hW
  obtain ⟨As, cs, rfl⟩ := own_slice ob
  have eG : Gb i k = E px k := by rw [hGb, hpx]
  refine XWP.seq ?_
  refine XWP.block ?_
  refine Gx.a (by kernel_rfl) fun K hK => ?_
  simp only [XA]
  refine hK _ ?_
  (refine XWP.drw1 [0, 1, 2, 3, 4, 5, 6, 7, 8, 9] (by kernel_rfl) (by kernel_rfl) (by kernel_rfl) fun K hK => ?_) <;> dsimp only [pickOps, List.getElem?_cons_zero, List.getElem?_cons_succ]
  simp only [XM, XA, XB, cv_gob]
  refine call_gob (ys := [.int .i64 (px : Int), .int .i64 (k : Int)]) hcl (hf _ px k hVV hpxn hk) fun v5 V5 hV5 h5 => ?_
  rw [← eG] at h5
  obtain ⟨x7, y7, rfl, p3, p4⟩ := h5.form
  simp only [XA]
  refine bs_go (by kernel_rfl) #[(0, .agg #[.bool (ng (Gb i k)), x7, y7])] (by simp [ev_tmp, SV.val]) (bs_rat elemT_22) fun b3 hb3 hb4 => ?_
  simp only [XA, Nat.reduceAdd]
  refine ap_go elemT_22 (by kernel_rfl) zeroT_48 rfl (by omega) (own_upd ob hb3) (src3 (upd_at _ _ _) rfl p3 p4) (by omega) (by omega) fun v' H' hres => ?_
  simp only [XM, XA]
  refine st_one shapeT_22 rfl (own_isOne hres.1) (by simp) ?_
  simp only [XA]
  refine hK _ ?_
  obtain ⟨oa', dis'⟩ := own_keep (own_upd oa hb3) dis.symm hres
  have rb' := (rb.mono ratE_ok hV5).snoc (show isOne (.bool (ng (Gb i k))) = true from rfl) p3 p4 h5
  rw [← flatF_at Gb hk, ← mk_succ (i * cols + k) (flatF Gb cols)] at rb'
  rw [← flatF_at Gb hk] at hres
  refine Gx.c (by kernel_rfl) fun K hK => ?_
  simp only [XA, XB, i64_succ k (by omega)]
  exact hK _ ⟨d - 1, by omega, fun f => ⟨k + 1, V5, H', sa, v', StIs.of (by exact rfl), by omega, View.le_trans hV4 hV5, _, _, oa', ra.mono ratE_ok hV5, hres.1, rb', dis'.symm⟩⟩
 rintro s ⟨V2, H2, sa, sb, hs, hV2, hW⟩
 obtain ⟨z, rfl⟩ := hs.out
 try dsimp only
 clear hs
 obtain ⟨ca, cb, oa, ra, ob, rb, dis⟩ := hW
 have osa := own_isOne oa
 have osb := own_isOne ob
 refine XWP.pubR ratE_ok oa ra fun H3 V3 hV3 hA hk3 => ?_
 have ob3 : Own H3 48 3 sb (N * cols) cb := own_move ob fun g hg => hk3 g fun h => dis g h hg
 refine XWP.pubR ratE_ok ob3 (rb.mono ratE_ok hV3) fun H4 V4 hV4 hBb _ => ?_
 have hA : Rats V4 sa (flatG Ga N N) := Rats.up hA hV4
 have hBb : Rats V4 sb (flatG Gb N cols) := hBb
 have lA := flatG_len Ga N N
 have lB := flatG_len Gb N cols
 by_cases h0 : N = 0
 ·have eA : flatG Ga N N = [] := List.length_eq_zero_iff.1 (by rw [lA, h0])
  have eB : flatG Gb N cols = [] := List.length_eq_zero_iff.1 (by rw [lB, h0, Nat.zero_mul])
  rw [eA] at hA
  rw [eB] at hBb
  refine Gx.a (by kernel_rfl) fun K hK => ?_
  simp only [XM, XA, Nat.reduceAdd, Nat.reduceLeDiff, ↓reduceIte]
  refine call_go (by kernel_rfl) rfl (cSolve0_c _ N cols h0 hc _ _ hA hBb) fun v5 V5 hV5 h5 => ?_
  obtain ⟨x, y, w, e, rfl, ox, oy, ow, oe⟩ := h5
  simp only [XM, XA, Nat.reduceAdd]
  refine st_mat shapeT_24 rfl rfl ox oy ow ?_
  simp only [XA]
  refine hK _ ?_
  refine Gx.a (by kernel_rfl) fun K hK => ?_
  simp only [XM, XA, Nat.reduceAdd, Nat.reduceLeDiff, ↓reduceIte]
  refine st_mat shapeT_24 rfl rfl ox oy ow ?_
  simp only [XA]
  refine hK _ (XWP.ret ?_)
  try simp only [thenX_ret, inBlockX_ret]
  exact ret_go _ (by simp [resAll, resV, cellsV, shapeT_24]; rfl) ⟨x, y, w, rfl, ox, oy, ow, fun h => by omega⟩
 have hAq : ∀ x ∈ flatG Ga N N, QB (B + 1) x := fun x hx => by
  obtain ⟨i, k, hi, hk, rfl⟩ := flatG_mem hx
  exact hqA i k hi hk
 have hBq : ∀ x ∈ flatG Gb N cols, QB (B + 1) x := fun x hx => by
  obtain ⟨i, k, hi, hk, rfl⟩ := flatG_mem hx
  exact hqB i k hi hk
 have hlin : ∀ (r x : Nat → Rat), LinG (gridL (flatG Ga N N) N) N N r x ↔ LinG Ga N N r x := fun r x => by
  have e : ∀ i, i < N → Sm (fun j => gridL (flatG Ga N N) N i j * x j) N = Sm (fun j => Ga i j * x j) N := fun i hi => Sm_congr _ fun j hj => by
   show cf (flatG Ga N N) (i * N + j) * x j = _
   rw [flatG_at Ga hi hj]
  exact ⟨fun h i hi => by rw [← e i hi]; exact h i hi, fun h i hi => by rw [e i hi]; exact h i hi⟩
 have hu' : UniG (gridL (flatG Ga N N) N) N N := fun x hx => hu x ((hlin _ _).1 hx)
 refine Gx.a (by kernel_rfl) fun K hK => ?_
 simp only [XM, XA, Nat.reduceAdd, Nat.reduceLeDiff, ↓reduceIte]
 refine call_go (by kernel_rfl) rfl (mSolve_c _ _ _ N cols (B + 1) _ _ hA hBb lA lB (by omega) (by omega) hc hAq hBq hB) fun v5 V5 hV5 h5 => ?_
 obtain ⟨w, X, rfl, hw, hX, hXq⟩ := h5.2 hu'
 have ow := SlAt.one hw
 simp only [XM, XA, Nat.reduceAdd]
 refine st_mat shapeT_24 rfl rfl rfl rfl ow ?_
 simp only [XA]
 refine hK _ ?_
 refine Gx.a (by kernel_rfl) fun K hK => ?_
 simp only [XM, XA, Nat.reduceAdd, Nat.reduceLeDiff, ↓reduceIte]
 refine st_mat shapeT_24 rfl rfl rfl rfl ow ?_
 simp only [XA]
 refine hK _ (XWP.ret ?_)
 try simp only [thenX_ret, inBlockX_ret]
 refine ret_go _ (by simp [resAll, resV, cellsV, shapeT_24]; rfl) ⟨_, _, w, rfl, rfl, rfl, ow, fun _ => ⟨rfl, rfl, X, hw, fun c hc' => ?_, hXq⟩⟩
 have h6 := (hlin _ _).1 (hX c hc')
 rw [← hGa]
 intro i hi
 rw [h6 i hi]
 show cf (flatG Gb N cols) (i * cols + c) = _
 rw [flatG_at Gb hi hc', hGb]
end Go.Proofs.YthoboehbadmlmaaGreat
end
section
namespace Go.Proofs.YthoboehbadmlmaaGreat
def hf : Rat := 1 / 2
theorem nnB_all {l : List Rat} {off : Nat} : ∀ {m : Nat}, nnB l off m = true → ∀ k, k < m → 0 ≤ cf l (off + k)
 | 0, _, k, hk => by omega
 | m + 1, h, k, hk => by
  unfold nnB at h
  rw [Bool.and_eq_true] at h
  by_cases e : k = m
  ·subst e
   have h2 := h.2
   rw [Bool.not_eq_true'] at h2
   exact (ng_iff _).1 h2
  ·exact nnB_all h.1 k (by omega)
theorem rS_Sm (l : List Rat) (off : Nat) (b : Rat) : ∀ k, rS l off b k = b + Sm (fun j => cf l (off + j)) k
 | 0 => by simp only [rS, Sm]; grind
 | k + 1 => by
  show rS l off b k + cf l (off + k) = b + (Sm (fun j => cf l (off + j)) k + cf l (off + k))
  rw [rS_Sm l off b k]; grind
theorem rowsB_all {n m : Nat} {M E : List Rat} : ∀ {k : Nat}, rowsB n m M E k = true → ∀ i, i < k → rowB n m M E i = true
 | 0, _, i, hi => by omega
 | k + 1, h, i, hi => by
  unfold rowsB at h
  rw [Bool.and_eq_true] at h
  by_cases e : i = k
  ·subst e; exact h.2
  ·exact rowsB_all h.1 i (by omega)
theorem chn_nums {n m : Nat} {M E : List Rat} (h : rowsB n m M E n = true) : (∀ i k, i < n → k < n → 0 ≤ gridL M n i k) ∧ (∀ i c, i < n → c < m → 0 ≤ gridL E m i c) ∧ ∀ i, i < n → Sm (gridL M n i) n + Sm (gridL E m i) m = 1 := by
 have hr := rowsB_all h
 refine ⟨fun i k hi hk => ?_, fun i c hi hc => ?_, fun i hi => ?_⟩
 ·have := hr i hi
  unfold rowB at this
  rw [Bool.and_eq_true, Bool.and_eq_true] at this
  exact nnB_all this.1.1 k hk
 ·have := hr i hi
  unfold rowB at this
  rw [Bool.and_eq_true, Bool.and_eq_true] at this
  exact nnB_all this.1.2 c hc
 ·have := hr i hi
  unfold rowB at this
  rw [Bool.and_eq_true, decide_eq_true_eq, rS_Sm, rS_Sm] at this
  have e := this.2
  show Sm (fun j => cf M (i * n + j)) n + Sm (fun j => cf E (i * m + j)) m = 1
  grind
theorem tS_Sm (a M : List Rat) (c k : Nat) : ∀ i, tS a M c k i = Sm (fun j => cf a j * cf M (j * c + k)) i
 | 0 => rfl
 | i + 1 => by
  show tS a M c k i + cf a i * cf M (i * c + k) = _
  rw [tS_Sm a M c k i]; rfl
theorem stepv_itr {a p : List Rat} {n : Nat} (h : a.length = n) : ∀ k j, j < n → cf (stepv a p n k) j = itr (gridL p n) (cf a) n k j
 | 0, _, _ => rfl
 | k + 1, j, hj => by
  show cf (thr (stepv a p n k) p n) j = _
  unfold thr
  rw [cf_mk, if_pos hj, tS_Sm, stepv_len h k]
  exact Sm_congr _ fun t ht => by rw [stepv_itr h k t ht]; rfl
def outW (S L1 L2 : List Rat) (n m x : Nat) : Nat → Rat := fun k => Sm (fun i => cf S i * itv (gridL L1 n) (fun i => gridL L2 m i x) n k i) n
theorem endsL_out {S L1 L2 : List Rat} {n m x : Nat} (h : S.length = n) (hx : x < m) (N : Nat) : endsL S L1 L2 n m x N = mk N (outW S L1 L2 n m x) := by
 unfold endsL
 refine mk_eq fun k _ => ?_
 unfold thr outW
 rw [cf_mk, if_pos hx, tS_Sm, stepv_len h k, ← row_col]
 exact Sm_congr _ fun i hi => by rw [stepv_itr h k i hi]; rfl
end Go.Proofs.YthoboehbadmlmaaGreat
end
