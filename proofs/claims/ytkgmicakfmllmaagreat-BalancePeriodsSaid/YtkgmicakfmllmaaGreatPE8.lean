/- The program's period of a class is that of its reference. (part 8 of 11) -/
import Derived.OrdersHeld
import Derived.Below
import Derived.Tactics
import Derived.KernelRfl
import Derived.RangeFuncCalls
import Derived.RangeFuncFrom
import Derived.RangeFuncLeaves
import Derived.OrdersIn
import Derived.Laws.AppendOwn
import Derived.Laws.MakeOwn
import Derived.Laws.CopyRow
import Derived.Laws.Cells
import Derived.Laws.World
import Derived.Laws.Alloc2
import Derived.Laws.NewBlocks
import Derived.Maps.AppendAt
import Derived.Test.YtkgmicakfmllmaaGreatProg
import Init.Data.List.Lemmas
import Init.Omega
import Derived.WalkKit
import Derived.ProofKit
import Derived.OpenShut
import Derived.ChangeOld
import Derived.SizedLaws
import Derived.ChangeSlices
import Derived.ChangeArms
import Derived.Deep.Slices
import Derived.MapKept
import Derived.Test.YtkgmicakfmllmaaGreatPE7
section
namespace Go.Proofs.YtkgmicakfmllmaaGreat
open Go Go.RowKit
set_option linter.unusedSimpArgs false
set_option linter.unusedVariables false
attribute [local irreducible] XWP Spec SpecO XPub XCall seqX clX apX stX ldX iaX slX
/-- a grid, row by row -/
def flatF (G : Grid) (C : Nat) (p : Nat) : Rat := G (p / C) (p % C)
def flatG (G : Grid) (R C : Nat) : List Rat := mk (R * C) (flatF G C)
theorem flatF_at (G : Grid) {C i k : Nat} (hk : k < C) : flatF G C (i * C + k) = G i k := by
  unfold flatF
  have e1 : (i * C + k) / C = i := by rw [Nat.mul_comm, Nat.mul_add_div (by omega), Nat.div_eq_of_lt hk, Nat.add_zero]
  have e2 : (i * C + k) % C = k := by rw [Nat.mul_comm, Nat.mul_add_mod, Nat.mod_eq_of_lt hk]
  rw [e1, e2]
theorem flatG_len (G : Grid) (R C : Nat) : (flatG G R C).length = R * C := mk_len _ _
theorem pos_lt {R C i k : Nat} (hi : i < R) (hk : k < C) : i * C + k < R * C := by
  have := Nat.mul_le_mul_right C (show i + 1 ≤ R by omega)
  rw [Nat.add_mul, Nat.one_mul] at this; omega
theorem flatG_at (G : Grid) {R C i k : Nat} (hi : i < R) (hk : k < C) : cf (flatG G R C) (i * C + k) = G i k := by
  unfold flatG
  rw [cf_mk, if_pos (pos_lt hi hk), flatF_at G hk]
theorem flatG_congr {G G' : Grid} {R C : Nat} (h : ∀ i k, i < R → k < C → G i k = G' i k) : flatG G R C = flatG G' R C := by
  unfold flatG
  refine mk_eq fun p hp => ?_
  have hC : 0 < C := by
    rcases Nat.eq_zero_or_pos C with e | e
    · rw [e, Nat.mul_zero] at hp; omega
    · exact e
  exact h _ _ (by rw [Nat.div_lt_iff_lt_mul hC]; exact hp) (Nat.mod_lt _ hC)
/-- a list, read as a grid -/
def gridL (l : List Rat) (C : Nat) : Grid := fun i k => cf l (i * C + k)
section
variable {Γ : Cx} {P : Program} {Q : Exit → XS → Prop} {t : List SV} {bx : List (List Value)} {H : Heap} {V : View}
/-- an own list of digits is published -/
theorem XWP.pubN {c : Code} {e n : Nat} {v : Value} {ds : List Nat} (hown : Own H e 1 v n (u32s ds)) (hd : Dig ds) (h : ∀ H' V', V.le V' → NatAt V' v ds → (∀ k, v.ownBlock ≠ some k → H' k = H k) → XWP Γ P c Q ⟨t, bx, H', V'⟩) : XWP Γ P c Q ⟨t, bx, H, V⟩ := by
  have hl : ds.length = n := by have := hown.1; simpa [u32s] using this
  rcases own_parts hown with ⟨rfl, h0, _⟩ | ⟨g, cap, rfl, hg, hle, hcap, _⟩
  · refine h H V (View.le_refl _) ?_ fun _ _ => rfl
    rw [List.length_eq_zero_iff.1 (show ds.length = 0 by omega)]; exact NatAt.nil V
  · refine XWP.pub g _ hg fun o ho hle' => h _ _ hle' (NatAt.pub ho hd hl hle (by unfold maxLen at hcap; omega)) fun k hk => ?_
    unfold upd
    rw [if_neg fun e => hk (by rw [e]; rfl)]
/-- an own list of fractions is published -/
theorem XWP.pubR {α : Type} {E : El α} (hE : ElOk E) {c : Code} {e n : Nat} {v : Value} {cells : List Value} {l : List α} (hown : Own H e 3 v n cells) (hrow : RowAt E V cells l) (h : ∀ H' V', V.le V' → SlAt E V' v l → (∀ k, v.ownBlock ≠ some k → H' k = H k) → XWP Γ P c Q ⟨t, bx, H', V'⟩) : XWP Γ P c Q ⟨t, bx, H, V⟩ := by
  have h1 := hown.1
  have h2 := hrow.1
  have hl : l.length = n := by omega
  rcases own_parts hown with ⟨rfl, h0, _⟩ | ⟨g, cap, rfl, hg, hle, hcap, _⟩
  · refine h H V (View.le_refl _) ?_ fun _ _ => rfl
    rw [List.length_eq_zero_iff.1 (show l.length = 0 by omega)]; exact SlAt.nil V
  · refine XWP.pub g _ hg fun o ho hle' => h _ _ hle' (hrow.pub hE ho hle' hl hle (by unfold maxLen at hcap; omega)) fun k hk => ?_
    unfold upd
    rw [if_neg fun e => hk (by rw [e]; rfl)]
variable {ops : Array Oper} {rest : List Oper} {K : XS → Prop} {s : XS} {d : Option Tmp}
/-- a call of a function value with captures -/
theorem call_gob {f : FuncId} {ys lb : List Value} {R : Value → View → Prop} (hc : callable P f = true) (hs : Spec P f (ys ++ lb) s.V R)
    (h : ∀ v V', s.V.le V' → R v V' → seqX P ops rest K (XS.put ⟨s.t, s.bx, s.H, V'⟩ d (.v v))) : clX P ops rest K s d f (ys.map .v ++ lb.map .v) := by
  have e1 : ((ys.map SV.v ++ lb.map SV.v).all SV.isV) = true := by
    rw [← List.map_append, List.all_map]; exact List.all_eq_true.2 fun _ _ => rfl
  have e2 : (ys.map SV.v ++ lb.map SV.v).map SV.val = ys ++ lb := by
    rw [← List.map_append, List.map_map]; exact List.map_id' _
  exact call_go hc e1 (by rw [e2]; exact hs) h
end
theorem copied_c (V : View) (v : Value) (q : Rat) (h : RatC V v q) (f : QF q) : Spec Tryz.prog 183 [v] V fun v' V' => RatC V' v' q := by
  obtain ⟨n, d, rfl, hn, hd⟩ := h
  obtain ⟨A1, c1, rfl, hc1, hm1⟩ := NatAt.form hn
  obtain ⟨A2, c2, rfl, hc2, hm2⟩ := NatAt.form hd
  have l1 := f.fits.1.len
  have l2 := f.fits.2.len
  refine (Spec.enter Tryz.func183 rfl fun Γ => ?_)
  simp only [Tryz.ntmps183, List.map_cons, List.map_nil, List.length_cons, List.length_nil, Nat.reduceAdd, Nat.reduceSub, List.replicate_succ, List.replicate_zero, List.cons_append, List.nil_append]
  refine Gx.a (by kernel_rfl) fun K hK => ?_
  simp only [XA, XB]
  refine hK _ ?_
  (refine XWP.drw [0, 1, 2, 3, 5, 6, 4, 7, 8, 9] (by kernel_rfl) (by kernel_rfl) (by kernel_rfl) fun K hK => ?_) <;> dsimp only [pickOps, List.getElem?_cons_zero, List.getElem?_cons_succ]
  simp only [XA, XB]
  refine ap_go elemT_47 (by kernel_rfl) zeroT_147 rfl (by omega) (n := 0) (xs := []) own_nil (src_nat hn _) (by omega) (by omega) fun v1 H1 r1 => ?_
  simp only [XA]
  refine ap_go elemT_47 (by kernel_rfl) zeroT_147 rfl (by omega) (n := 0) (xs := []) own_nil (src_nat hd _) (by omega) (by omega) fun v2 H2 r2 => ?_
  obtain ⟨o1, k1, f1⟩ := r1
  obtain ⟨o2, k2, f2⟩ := r2
  simp only [List.nil_append, Nat.zero_add] at o1 o2
  try dsimp only at k1 f1 k2 f2
  have i1 := own_one o1
  have i2 := own_one o2
  have o1' : Own H2 147 1 v1 (dg q.num.natAbs).length (u32s (dg q.num.natAbs)) := by
    refine ⟨o1.1, ?_⟩
    rcases o1.2 with h | ⟨b, cap, rfl, hb, h3⟩
    · exact .inl h
    · refine .inr ⟨b, cap, rfl, ?_, h3⟩
      rw [k2 b fun e => ?_]
      · exact hb
      · rcases f2 b e with h | ⟨h, _⟩
        · cases h
        · rw [hb] at h; cases h
  have dj : ∀ k, v1.ownBlock = some k → v2.ownBlock ≠ some k := fun k e1 e2 => by
    rcases f2 k e2 with h | ⟨h, _⟩
    · cases h
    · rcases o1.2 with ⟨rfl, _⟩ | ⟨b, cap, rfl, hb, _⟩
      · cases e1
      · have : b = k := by simpa [Value.ownBlock] using e1
        subst this; rw [hb] at h; cases h
  simp only [XA]
  refine bd_go (by kernel_rfl) #[(0, .bool (ng q)), (1, v1), (2, v2)] (by simp [ev_tmp, SV.val]) (bd_rat3 rfl i1 i2) ?_
  simp only [XA]
  refine st_rat rfl rfl rfl i1 i2 ?_
  simp only [XA]
  refine hK _ ?_
  refine XWP.pubN o1' (Dig_dg _) fun H3 V3 hV3 g1 hk3 => ?_
  have o2' : Own H3 147 1 v2 (dg q.den).length (u32s (dg q.den)) := by
    refine ⟨o2.1, ?_⟩
    rcases o2.2 with h | ⟨b, cap, rfl, hb, h3⟩
    · exact .inl h
    · exact .inr ⟨b, cap, rfl, by rw [hk3 b fun e => dj b e rfl]; exact hb, h3⟩
  refine XWP.pubN o2' (Dig_dg _) fun H4 V4 hV4 g2 hk4 => ?_
  refine XWP.ret ?_
  try simp only [thenX_ret, inBlockX_ret]
  exact ret_rat1 rfl rfl rfl ⟨_, _, rfl, NatAt.mono g1 hV4, g2⟩
/-- a filled matrix: its row is the caller's -/
theorem filled_o (V : View) {g : FuncId} {lb : List Value} (R C : Nat) (G : Grid) (hcl : callable Tryz.prog g = true) (hR : R ≤ 1000) (hC : C ≤ 1000)
    (hf : ∀ V' i k, V.le V' → i < R → k < C → Spec Tryz.prog g ([.int .i64 (i : Int), .int .i64 (k : Int)] ++ lb) V' fun v' V'' => RatC V'' v' (G i k)) :
    SpecO Tryz.prog 181 [.int .i64 (R : Int), .int .i64 (C : Int), .func (.func g) #[] lb.toArray] V fun v' V' o => ∃ sl cells, v' = .agg #[.int .i64 (R : Int), .int .i64 (C : Int), sl] ∧ Own (addRow (fun _ => none) o) 49 3 sl (R * C) cells ∧ RowAt ratE V' cells (flatG G R C) := by
  have hRC : R * C ≤ 1000000 := Nat.le_trans (Nat.mul_le_mul hR hC) (by decide)
  refine (SpecO.enter Tryz.func181 rfl fun Γ => ?_)
  simp only [Tryz.ntmps181, List.map_cons, List.map_nil, List.length_cons, List.length_nil, Nat.reduceAdd, Nat.reduceSub, List.replicate_succ, List.replicate_zero, List.cons_append, List.nil_append]
  refine Gx.a (by kernel_rfl) fun K hK => ?_
  simp only [XM, XA]
  refine hK _ ?_
  refine Gx.a (by kernel_rfl) fun K hK => ?_
  simp only [XA]
  refine bd_go (by kernel_rfl) #[(0, .int .i64 (R : Int)), (1, .int .i64 (C : Int))] (by simp [ev_tmp, SV.val]) (bd_mtx2 rfl rfl) ?_
  simp only [XM, XA]
  refine st_mat shapeT_24 rfl rfl rfl rfl rfl ?_
  simp only [XA]
  refine hK _ ?_
  clear hK
  refine XWP.cut (fun s => ∃ (V2 : View) (H5 : Heap) (sl : Value) (cells : List Value), StIs (fun Z => [Z 0,Z 1,Z 2,Z 3,Z 4,Z 5, .p 0 0, .p 1 0, Z 8,Z 9,Z 10,Z 11,Z 12,Z 13,Z 14,Z 15,Z 16,Z 17,Z 18,Z 19,Z 20,Z 21,Z 22,Z 23,Z 24,Z 25,Z 26,Z 27,Z 28,Z 29,Z 30,Z 31,Z 32]) [[.int .i64 0, .int .i64 0, .slice none 0 0], [.int .i64 (R : Int), .int .i64 (C : Int), sl]] H5 V2 s ∧ Own H5 49 3 sl (R * C) cells ∧ RowAt ratE V2 cells (flatG G R C)) ?_ ?_
  · refine Gx.a (by kernel_rfl) fun K hK => ?_
    simp only [XA]
    refine hK _ ?_
    clear hK
    refine XWP.block ?_
    refine XWP.loop (fun q s => ∃ (i : Nat) (V2 : View) (H5 : Heap) (sl : Value) (cells : List Value), StIs (fun Z => [.v (.int .i64 (R : Int)), .v (.int .i64 (C : Int)), .v (.func (.func g) #[] lb.toArray), Z 3,Z 4,Z 5, .p 0 0, .p 1 0, Z 8,Z 9,Z 10,Z 11,Z 12, .v (.int .i64 (R : Int)), .v (.int .i64 (i : Int)), Z 15,Z 16,Z 17,Z 18,Z 19,Z 20,Z 21,Z 22,Z 23,Z 24,Z 25,Z 26,Z 27,Z 28,Z 29,Z 30,Z 31,Z 32]) [[.int .i64 0, .int .i64 0, .slice none 0 0], [.int .i64 (R : Int), .int .i64 (C : Int), sl]] H5 V2 s ∧ q + i = R ∧ V.le V2 ∧ Own H5 49 3 sl (i * C) cells ∧ RowAt ratE V2 cells (mk (i * C) (flatF G C))) R ⟨0, V, _, _, [], StIs.of (by exact rfl), by omega, View.le_refl _, by rw [Nat.zero_mul]; exact own_nil, by rw [Nat.zero_mul]; exact RowAt.nil _⟩ ?_
    rintro q s ⟨i, V2, H5, sl, cells, hs, hq, hV2, hown, hrow⟩
    obtain ⟨z, rfl⟩ := hs.out
    try dsimp only
    clear hs
    by_cases hi : i < R
    rotate_left
    · obtain rfl : i = R := by omega
      have b1 : decide ((i : Int) < (i : Int)) = false := decide_eq_false (by omega)
      refine Gx.a (by kernel_rfl) fun K hK => ?_
      simp only [XA, XB, b1]
      refine hK _ ?_
      refine XWP.seq (Gx.f rfl ?_)
      refine XWP.exit ?_
      exact ⟨V2, H5, sl, cells, StIs.of (by exact rfl), hown, hrow⟩
    have b1 : decide ((i : Int) < (R : Int)) = true := decide_eq_true (by omega)
    refine Gx.a (by kernel_rfl) fun K hK => ?_
    simp only [XA, XB, b1]
    refine hK _ ?_
    refine XWP.seq (Gx.t rfl ?_)
    refine XWP.skip ?_
    refine XWP.cut (fun s => ∃ (V3 : View) (H6 : Heap) (sl : Value) (cells : List Value), StIs (fun Z => [.v (.int .i64 (R : Int)), .v (.int .i64 (C : Int)), .v (.func (.func g) #[] lb.toArray), Z 3,Z 4,Z 5, .p 0 0, .p 1 0, Z 8,Z 9,Z 10,Z 11,Z 12, .v (.int .i64 (R : Int)), .v (.int .i64 (i : Int)), Z 15,Z 16,Z 17,Z 18,Z 19,Z 20,Z 21,Z 22,Z 23,Z 24,Z 25,Z 26,Z 27,Z 28,Z 29,Z 30,Z 31,Z 32]) [[.int .i64 0, .int .i64 0, .slice none 0 0], [.int .i64 (R : Int), .int .i64 (C : Int), sl]] H6 V3 s ∧ V2.le V3 ∧ Own H6 49 3 sl ((i + 1) * C) cells ∧ RowAt ratE V3 cells (mk ((i + 1) * C) (flatF G C))) ?_ ?_
    · refine XWP.block ?_
      refine Gx.a (by kernel_rfl) fun K hK => ?_
      simp only [XA]
      refine hK _ ?_
      refine Gx.a (by kernel_rfl) fun K hK => ?_
      simp only [XA]
      refine hK _ ?_
      clear hK
      refine XWP.block ?_
      refine XWP.loop (fun r s => ∃ (k : Nat) (V3 : View) (H6 : Heap) (sl : Value) (cells : List Value), StIs (fun Z => [.v (.int .i64 (R : Int)), .v (.int .i64 (C : Int)), .v (.func (.func g) #[] lb.toArray), Z 3,Z 4,Z 5, .p 0 0, .p 1 0, .v (.int .i64 (i : Int)), Z 9,Z 10,Z 11,Z 12, .v (.int .i64 (R : Int)), .v (.int .i64 (i : Int)), Z 15,Z 16, .v (.int .i64 (C : Int)), .v (.int .i64 (k : Int)), Z 19,Z 20,Z 21,Z 22,Z 23,Z 24,Z 25,Z 26,Z 27,Z 28,Z 29,Z 30,Z 31,Z 32]) [[.int .i64 0, .int .i64 0, .slice none 0 0], [.int .i64 (R : Int), .int .i64 (C : Int), sl]] H6 V3 s ∧ r + k = C ∧ V2.le V3 ∧ Own H6 49 3 sl (i * C + k) cells ∧ RowAt ratE V3 cells (mk (i * C + k) (flatF G C))) C ⟨0, V2, _, _, _, StIs.of (by exact rfl), by omega, View.le_refl _, hown, hrow⟩ ?_
      clear hown hrow
      rintro r s ⟨k, V3, H6, sl, cells, hs, hr, hV3, hown, hrow⟩
      obtain ⟨z, rfl⟩ := hs.out
      try dsimp only
      clear hs
      by_cases hk : k < C
      rotate_left
      · obtain rfl : k = C := by omega
        have b2 : decide ((k : Int) < (k : Int)) = false := decide_eq_false (by omega)
        refine Gx.a (by kernel_rfl) fun K hK => ?_
        simp only [XA, XB, b2]
        refine hK _ ?_
        refine XWP.seq (Gx.f rfl ?_)
        refine XWP.exit ?_
        have e : (i + 1) * k = i * k + k := by rw [Nat.add_mul, Nat.one_mul]
        exact ⟨V3, H6, sl, cells, StIs.of (by exact rfl), hV3, by rw [e]; exact hown, by rw [e]; exact hrow⟩
      have b2 : decide ((k : Int) < (C : Int)) = true := decide_eq_true (by omega)
      have hp := pos_lt hi hk
      refine Gx.a (by kernel_rfl) fun K hK => ?_
      simp only [XA, XB, b2]
      refine hK _ ?_
      refine XWP.seq (Gx.t rfl ?_)
      refine XWP.skip ?_
      refine XWP.seq ?_
      refine XWP.block ?_
      refine Gx.a (by kernel_rfl) fun K hK => ?_
      simp only [XA]
      refine hK _ ?_
      (refine XWP.drw1 [0, 1, 2, 3, 4, 5, 6, 7, 8, 9] (by kernel_rfl) (by kernel_rfl) (by kernel_rfl) fun K hK => ?_) <;> dsimp only [pickOps, List.getElem?_cons_zero, List.getElem?_cons_succ]
      simp only [XM, XA, XB, cv_gob]
      refine call_gob (ys := [.int .i64 (i : Int), .int .i64 (k : Int)]) hcl (hf _ i k (View.le_trans hV2 hV3) hi hk) fun v4 V4 hV4 h4 => ?_
      obtain ⟨x4, y4, rfl, o1, o2⟩ := h4.form
      simp only [XA]
      refine bs_go (by kernel_rfl) #[(0, .agg #[.bool (ng (G i k)), x4, y4])] (by simp [ev_tmp, SV.val]) (bs_rat elemT_22) fun b3 hb3 hb4 => ?_
      simp only [XA, Nat.reduceAdd]
      refine ap_go elemT_22 (by kernel_rfl) zeroT_49 rfl (by omega) (own_upd hown hb3) (src3 (upd_at _ _ _) rfl o1 o2) (by omega) (by omega) fun v' H' hres => ?_
      simp only [XM, XA]
      refine st_one shapeT_22 rfl (own_isOne hres.1) (by simp) ?_
      simp only [XA]
      refine hK _ ?_
      have hrow' := (hrow.mono ratE_ok hV4).snoc (show isOne (.bool (ng (G i k))) = true from rfl) o1 o2 h4
      rw [← flatF_at G hk, ← mk_succ (i * C + k) (flatF G C)] at hrow'
      rw [← flatF_at G hk] at hres
      refine Gx.c (by kernel_rfl) fun K hK => ?_
      simp only [XA, XB, i64_succ k (by omega)]
      exact hK _ ⟨r - 1, by omega, k + 1, V4, _, _, _, StIs.of (by exact rfl), by omega, View.le_trans hV3 hV4, by rw [← Nat.add_assoc]; exact hres.1, by rw [← Nat.add_assoc]; exact hrow'⟩
    clear hown hrow
    rintro s ⟨V3, H6, sl, cells, hs, hV3, hown, hrow⟩
    obtain ⟨z, rfl⟩ := hs.out
    try dsimp only
    refine Gx.c (by kernel_rfl) fun K hK => ?_
    simp only [XA, XB, i64_succ i (by omega)]
    exact hK _ ⟨q - 1, by omega, i + 1, V3, _, _, _, StIs.of (by exact rfl), by omega, View.le_trans hV2 hV3, hown, hrow⟩
  rintro s ⟨V2, H5, sl, cells, hs, hown, hrow⟩
  obtain ⟨z, rfl⟩ := hs.out
  try dsimp only
  have osl := own_isOne hown
  refine Gx.a (by kernel_rfl) fun K hK => ?_
  simp only [XM, XA, Nat.reduceAdd, Nat.reduceLeDiff, ↓reduceIte]
  refine st_mat shapeT_24 rfl rfl rfl rfl osl ?_
  simp only [XA]
  refine hK _ (XWP.ret ?_)
  try simp only [thenX_ret, inBlockX_ret]
  rcases own_parts hown with ⟨rfl, h0, rfl⟩ | ⟨g, cap, rfl, hg, hle, hcap, hcl⟩
  · refine ret_own _ none (by simp [resAll, resV, cellsV, shapeT_24]; rfl) (fun g' q e => by cases e) ⟨_, [], rfl, ⟨by rw [h0]; rfl, .inl ⟨rfl, h0⟩⟩, hrow⟩
  · refine ret_own _ (some (g, _)) (by simp [resAll, resV, cellsV, shapeT_24]; rfl) (fun g' q e => by cases e; exact hg) ⟨_, cells, rfl, own3 (show upd (fun _ => none) g (some _) g = some _ from upd_at _ _ _) hcl hle (by unfold maxLen at hcap; omega), hrow⟩
end Go.Proofs.YtkgmicakfmllmaaGreat
end
section
namespace Go.Proofs.YtkgmicakfmllmaaGreat
open Go Go.RowKit
set_option linter.unusedSimpArgs false
set_option linter.unusedVariables false
attribute [local irreducible] XWP Spec SpecO XPub XCall seqX clX apX stX ldX iaX slX
/-- a matrix in an own row -/
def MatH (H : Heap) (V : View) (g cap R C : Nat) (G : Grid) : Prop := ∃ cells, H g = some ⟨49, cells, cap * 3⟩ ∧ RowAt ratE V cells (flatG G R C)
theorem MatH.mono {H : Heap} {V V' : View} {g cap R C : Nat} {G : Grid} (h : MatH H V g cap R C G) (hV : V.le V') : MatH H V' g cap R C G := by
  obtain ⟨cells, h1, h2⟩ := h; exact ⟨cells, h1, h2.mono ratE_ok hV⟩
theorem MatH.congr {H : Heap} {V : View} {g cap R C : Nat} {G G' : Grid} (h : MatH H V g cap R C G) (e : ∀ i k, i < R → k < C → G i k = G' i k) : MatH H V g cap R C G' := by
  obtain ⟨cells, h1, h2⟩ := h; exact ⟨cells, h1, by rw [← flatG_congr e]; exact h2⟩
theorem MatH.off {H H' : Heap} {V : View} {g cap R C : Nat} {G : Grid} (h : MatH H V g cap R C G) (e : H' g = H g) : MatH H' V g cap R C G := by
  obtain ⟨cells, h1, h2⟩ := h; exact ⟨cells, by rw [e]; exact h1, h2⟩
theorem MatH.load {H : Heap} {V : View} {g cap R C : Nat} {G : Grid} (h : MatH H V g cap R C G) {i k : Nat} (hi : i < R) (hk : k < C) : ∃ x y z, RatC V (.agg #[x, y, z]) (G i k) ∧ (isOne x = true ∧ isOne y = true ∧ isOne z = true) ∧ Loads Tryz.prog H V 49 g ((i * C + k) * 3) (.agg #[x, y, z]) := by
  obtain ⟨cells, h1, h2⟩ := h
  obtain ⟨x, y, z, a1, a2, a3⟩ := rowQ_load h1 h2 (i * C + k) (by rw [flatG_len]; exact pos_lt hi hk)
  rw [flatG_at G hi hk] at a1
  exact ⟨x, y, z, a1, a2, a3⟩
def gput (G : Grid) (i k : Nat) (x : Rat) : Grid := fun i' k' => if i' = i ∧ k' = k then x else G i' k'
theorem flatG_set (G : Grid) {R C i k : Nat} (hi : i < R) (hk : k < C) (x : Rat) : (flatG G R C).set (i * C + k) x = flatG (gput G i k x) R C := by
  unfold flatG
  rw [mk_put (pos_lt hi hk)]
  refine mk_eq fun p hp => ?_
  unfold flatF gput
  by_cases e : p = i * C + k
  · subst e
    have e1 : (i * C + k) / C = i := by rw [Nat.mul_comm, Nat.mul_add_div (by omega), Nat.div_eq_of_lt hk, Nat.add_zero]
    have e2 : (i * C + k) % C = k := by rw [Nat.mul_comm, Nat.mul_add_mod, Nat.mod_eq_of_lt hk]
    rw [if_pos rfl, if_pos ⟨e1, e2⟩]
  · rw [if_neg e, if_neg]
    rintro ⟨e1, e2⟩
    refine e ?_
    have := Nat.div_add_mod p C
    rw [e1, e2, Nat.mul_comm] at this
    exact this.symm
theorem MatH.set {H : Heap} {V : View} {g cap R C : Nat} {G : Grid} (h : MatH H V g cap R C G) {i k : Nat} (hi : i < R) (hk : k < C) : ∃ cells, H g = some ⟨49, cells, cap * 3⟩ ∧ (i * C + k) * 3 + 3 ≤ cells.length ∧
    ∀ V' x y z q, V.le V' → RatC V' (.agg #[x, y, z]) q → isOne x = true → isOne y = true → isOne z = true → ∀ H', H' g = some ⟨49, splice cells ((i * C + k) * 3) [x, y, z], cap * 3⟩ → MatH H' V' g cap R C (gput G i k q) := by
  obtain ⟨cells, h1, h2⟩ := h
  have hl := h2.1
  rw [flatG_len] at hl
  have := pos_lt hi hk
  refine ⟨cells, h1, by omega, fun V' x y z q hV hx o1 o2 o3 H' hH => ⟨_, hH, ?_⟩⟩
  have := (h2.mono ratE_ok hV).set (i * C + k) (by rw [flatG_len]; exact pos_lt hi hk) o1 o2 o3 hx
  rw [flatG_set G hi hk] at this; exact this
theorem dg_nil {a : Nat} (h : (dg a).length = 0) : a = 0 := by
  have := len_zero a
  rw [decide_eq_true (by omega)] at this
  exact of_decide_eq_true this.symm
theorem dg_of_zero {q : Rat} (h : q = 0) : decide ((0 : Int) < ((dg q.num.natAbs).length : Int)) = false := by
  subst h
  show decide ((0 : Int) < ((dg 0).length : Int)) = false
  rw [dg_zero]; rfl
theorem nbits_c (V : View) (v : Value) (n : Nat) (h : NatC V v n) (f : Fit n) : Spec Tryz.prog 199 [v] V fun v' V' => ∃ r : Int, v' = .int .i64 r := by
  refine (Spec.enter Tryz.func199 rfl fun Γ => ?_)
  simp only [Tryz.ntmps199, List.map_cons, List.map_nil, List.length_cons, List.length_nil, Nat.reduceAdd, Nat.reduceSub, List.replicate_succ, List.replicate_zero, List.cons_append, List.nil_append]
  refine Gx.a (by kernel_rfl) fun K hK => ?_
  simp only [XA]
  refine hK _ ?_
  refine Gx.a (by kernel_rfl) fun K hK => ?_
  simp only [XA]
  refine call_go (by kernel_rfl) rfl (trim_c _ _ _ h) fun v1 V1 hV1 h1 => ?_
  obtain ⟨A, c, rfl, hc, hm⟩ := NatAt.form h1
  have hl := f.len
  simp only [XA]
  refine hK _ ?_
  refine XWP.seq ?_
  by_cases h0 : (dg n).length = 0
  · have b1 : decide (((dg n).length : Int) = 0) = true := decide_eq_true (by omega)
    refine Gx.a (by kernel_rfl) fun K hK => ?_
    simp only [XA, XB, b1]
    refine hK _ ?_
    refine Gx.t rfl ?_
    refine Gx.a (by kernel_rfl) fun K hK => ?_
    simp only [XA]
    refine hK _ (XWP.ret ?_)
    try simp only [thenX_ret, inBlockX_ret]
    refine ret_go _ rfl ?_
    exact ⟨_, rfl⟩
  · have b1 : decide (((dg n).length : Int) = 0) = false := decide_eq_false (by omega)
    refine Gx.a (by kernel_rfl) fun K hK => ?_
    simp only [XA, XB, b1]
    refine hK _ ?_
    refine Gx.f rfl ?_
    refine XWP.skip ?_
    obtain ⟨b, o, rfl⟩ := NatAt.addr h1 (by omega)
    have w1 : IntKind.i64.wrap (((dg n).length : Int) - 1) = (((dg n).length - 1 : Nat) : Int) := by rw [wrap_id (by omega) (by omega)]; omega
    have hcell := NatAt.cells h1 ((dg n).length - 1) (by omega)
    have hd := Dig_dg n _ (List.getElem_mem (show (dg n).length - 1 < (dg n).length by omega))
    refine Gx.a (by kernel_rfl) fun K hK => ?_
    simp only [XA, XB, w1]
    refine ⟨by omega, by omega, ?_⟩
    simp only [Nat.mul_one] at *
    refine ld_mem (loads_cell shapeT_147 (hcell _)) ?_
    simp only [XA]
    refine call_go (by kernel_rfl) rfl (len32_c _ _ hd) fun v2 V2 hV2 h2 => ?_
    obtain ⟨r, rfl, _⟩ := h2
    simp only [XA, XB]
    refine hK _ (XWP.ret ?_)
    try simp only [thenX_ret, inBlockX_ret]
    refine ret_go _ rfl ?_
    exact ⟨_, rfl⟩
theorem mweight_c (V : View) (v : Value) (q : Rat) (h : RatC V v q) (f : QF q) : Spec Tryz.prog 198 [v] V fun v' V' => ∃ r : Int, v' = .int .i64 r := by
  obtain ⟨n, d, rfl, hn, hd⟩ := h
  refine (Spec.enter Tryz.func198 rfl fun Γ => ?_)
  simp only [Tryz.ntmps198, List.map_cons, List.map_nil, List.length_cons, List.length_nil, Nat.reduceAdd, Nat.reduceSub, List.replicate_succ, List.replicate_zero, List.cons_append, List.nil_append]
  refine Gx.a (by kernel_rfl) fun K hK => ?_
  simp only [XA]
  refine hK _ ?_
  (refine XWP.drw [0, 1, 3, 4, 2, 5, 6, 7] (by kernel_rfl) (by kernel_rfl) (by kernel_rfl) fun K hK => ?_) <;> dsimp only [pickOps, List.getElem?_cons_zero, List.getElem?_cons_succ]
  simp only [XA, XB]
  refine call_go (by kernel_rfl) rfl (nbits_c _ _ _ hn f.fits.1) fun v1 V1 hV1 h1 => ?_
  obtain ⟨r1, rfl⟩ := h1
  simp only [XA]
  refine call_go (by kernel_rfl) rfl (nbits_c _ _ _ (NatC.mono hd hV1) f.fits.2) fun v2 V2 hV2 h2 => ?_
  obtain ⟨r2, rfl⟩ := h2
  simp only [XA, XB]
  refine hK _ (XWP.ret ?_)
  try simp only [thenX_ret, inBlockX_ret]
  refine ret_go _ rfl ?_
  exact ⟨_, rfl⟩
theorem wr_mul {i C : Nat} (hi : i ≤ 1000) (hC : C ≤ 1000) : IntKind.i64.wrap ((i : Int) * (C : Int)) = ((i * C : Nat) : Int) := by
  have := Nat.mul_le_mul hi hC
  rw [← Int.natCast_mul, wrap_id (by omega) (by omega)]
theorem wr_add {p k : Nat} (hp : p ≤ 1000000) (hk : k ≤ 1000000) : IntKind.i64.wrap ((p : Int) + (k : Int)) = ((p + k : Nat) : Int) := by rw [wrap_id (by omega) (by omega)]; omega
def pivR (G : Grid) (R at_ col : Nat) (b : Int) : Prop := (b = -1 ∧ ∀ i, at_ ≤ i → i < R → G i col = 0) ∨ ∃ p : Nat, b = p ∧ at_ ≤ p ∧ p < R ∧ G p col ≠ 0
theorem pivot_m (H : Heap) (V : View) (g cap R C a col : Nat) (G : Grid) (h : MatH H V g cap R C G) (hR : R ≤ 1000) (hC : C ≤ 1000) (ha : a ≤ 1000) (hcol : col < C) (hq : ∀ i k, i < R → k < C → QF (G i k)) :
    MSpec Tryz.prog 195 [.agg #[.int .i64 (R : Int), .int .i64 (C : Int), .slice (some ⟨g, 0, none⟩) (R * C) cap], .int .i64 (a : Int), .int .i64 (col : Int)] H V fun v' H' V' => ∃ b, v' = .int .i64 b ∧ pivR G R a col b ∧ V.le V' ∧ H' = H := by
  refine (MSpec.enter Tryz.func195 rfl fun Γ hΓ => ?_)
  simp only [Tryz.ntmps195, List.map_cons, List.map_nil, List.length_cons, List.length_nil, Nat.reduceAdd, Nat.reduceSub, List.replicate_succ, List.replicate_zero, List.cons_append, List.nil_append]
  refine Gx.a (by kernel_rfl) fun K hK => ?_
  simp only [XA]
  refine hK _ ?_
  refine Gx.a (by kernel_rfl) fun K hK => ?_
  simp only [XA]
  refine hK _ ?_
  refine XWP.cutD 1 (fun s => ∃ (V2 : View) (b : Int), StIs (fun Z => [Z 0,Z 1,Z 2,Z 3,Z 4,Z 5,Z 6, .v (.int .i64 b), Z 8,Z 9,Z 10,Z 11,Z 12,Z 13,Z 14,Z 15,Z 16,Z 17,Z 18,Z 19,Z 20,Z 21,Z 22,Z 23,Z 24,Z 25,Z 26,Z 27,Z 28,Z 29,Z 30,Z 31,Z 32,Z 33,Z 34,Z 35,Z 36,Z 37,Z 38,Z 39,Z 40,Z 41,Z 42,Z 43,Z 44,Z 45,Z 46,Z 47,Z 48,Z 49,Z 50,Z 51,Z 52]) [[.int .i64 (R : Int), .int .i64 (C : Int), .slice (some ⟨g, 0, none⟩) (R * C) cap]] H V2 s ∧ pivR G R a col b ∧ V.le V2) ?_ ?_
  · refine Gx.a (by kernel_rfl) fun K hK => ?_
    simp only [XA]
    refine hK _ ?_
    clear hK
    refine XWP.block ?_
    refine XWP.loopD 1 (fun n s => ∃ (i : Nat) (V2 : View) (b : Int), StIs (fun Z => [Z 0, .v (.int .i64 (a : Int)), .v (.int .i64 (col : Int)), .p 0 0, Z 4,Z 5,Z 6, .v (.int .i64 b), .v (.int .i64 (i : Int)), Z 9,Z 10,Z 11,Z 12,Z 13,Z 14,Z 15,Z 16,Z 17,Z 18,Z 19,Z 20,Z 21,Z 22,Z 23,Z 24,Z 25,Z 26,Z 27,Z 28,Z 29,Z 30,Z 31,Z 32,Z 33,Z 34,Z 35,Z 36,Z 37,Z 38,Z 39,Z 40,Z 41,Z 42,Z 43,Z 44,Z 45,Z 46,Z 47,Z 48,Z 49,Z 50,Z 51,Z 52]) [[.int .i64 (R : Int), .int .i64 (C : Int), .slice (some ⟨g, 0, none⟩) (R * C) cap]] H V2 s ∧ n + i = R + a ∧ a ≤ i ∧ V.le V2 ∧ pivR G (min i R) a col b) R ⟨a, V, -1, StIs.of (by exact rfl), by omega, Nat.le_refl _, View.le_refl _, .inl ⟨rfl, fun i h1 h2 => by omega⟩⟩ ?_
    rintro n s ⟨i, V2, b, hs, hn, hai, hV2, hp⟩
    obtain ⟨z, rfl⟩ := hs.out
    try dsimp only
    clear hs
    refine XWP.seq ?_
    by_cases hi : i < R
    rotate_left
    · have b1 : decide ((i : Int) < (R : Int)) = false := decide_eq_false (by omega)
      refine Gx.a (by kernel_rfl) fun K hK => ?_
      simp only [XM, XA, XB, b1]
      refine hK _ ?_
      refine Gx.f rfl ?_
      refine XWP.exit ?_
      rw [Nat.min_eq_right (by omega)] at hp
      exact fun f => ⟨V2, b, StIs.of (by exact rfl), hp, hV2⟩
    have b1 : decide ((i : Int) < (R : Int)) = true := decide_eq_true (by omega)
    refine Gx.a (by kernel_rfl) fun K hK => ?_
    simp only [XM, XA, XB, b1]
    refine hK _ ?_
    refine Gx.t rfl ?_
    refine XWP.skip ?_
    rw [Nat.min_eq_left (by omega)] at hp
    have h2 := h.mono hV2
    obtain ⟨x, y, e, hx, ⟨o1, o2, o3⟩, hld⟩ := h2.load hi hcol
    have w1 := wr_mul (i := i) (C := C) (by omega) hC
    have hpos := pos_lt hi hcol
    have hRC : R * C ≤ 1000000 := Nat.le_trans (Nat.mul_le_mul hR hC) (by decide)
    have w2 := wr_add (p := i * C) (k := col) (by omega) (by omega)
    obtain ⟨n1, d1, ev, hn1, hd1⟩ := hx
    cases ev
    obtain ⟨A1, c1, rfl, hc1, hm1⟩ := NatAt.form hn1
    have hx : RatC V2 (.agg #[.bool (ng (G i col)), .slice A1 (dg (G i col).num.natAbs).length c1, e]) (G i col) := ⟨_, _, rfl, hn1, hd1⟩
    refine XWP.cutD 1 (fun s => ∃ (V3 : View) (b : Int), StIs (fun Z => [Z 0, .v (.int .i64 (a : Int)), .v (.int .i64 (col : Int)), .p 0 0, Z 4,Z 5,Z 6, .v (.int .i64 b), .v (.int .i64 (i : Int)), Z 9,Z 10,Z 11,Z 12,Z 13,Z 14,Z 15,Z 16,Z 17,Z 18,Z 19,Z 20,Z 21,Z 22,Z 23,Z 24,Z 25,Z 26,Z 27,Z 28,Z 29,Z 30,Z 31,Z 32,Z 33,Z 34,Z 35,Z 36,Z 37,Z 38,Z 39,Z 40,Z 41,Z 42,Z 43,Z 44,Z 45,Z 46,Z 47,Z 48,Z 49,Z 50,Z 51,Z 52]) [[.int .i64 (R : Int), .int .i64 (C : Int), .slice (some ⟨g, 0, none⟩) (R * C) cap]] H V3 s ∧ V2.le V3 ∧ pivR G (i + 1) a col b) ?_ ?_
    · refine XWP.block ?_
      refine Gx.a (by kernel_rfl) fun K hK => ?_
      simp only [XM, XA, XB, w1, w2]
      refine ⟨by omega, by omega, ?_⟩
      simp only [Nat.zero_add] at *
      refine ld_mem hld ?_
      simp only [XA, XB]
      refine st_rat rfl rfl o1 o2 o3 ?_
      simp only [XA]
      refine hK _ ?_
      refine XWP.seq ?_
      by_cases hz : G i col = 0
      · have b3 : decide ((0 : Int) < ((dg (G i col).num.natAbs).length : Int)) = false := dg_of_zero hz
        (refine XWP.drw1 [0, 1, 2, 3, 4, 5, 6, 7, 8, 10, 11, 12, 13, 14, 15, 16, 17, 18, 19, 9, 20, 21, 22, 23] (by kernel_rfl) (by kernel_rfl) (by kernel_rfl) fun K hK => ?_) <;> dsimp only [pickOps, List.getElem?_cons_zero, List.getElem?_cons_succ]
        simp only [XM, XA, XB, gateX, Nat.reduceAdd, Nat.reduceLeDiff, ↓reduceIte, b3]
        refine hK _ ?_
        refine Gx.f rfl ?_
        refine XWP.skip ?_
        refine fun f => ⟨V2, b, StIs.of (by exact rfl), View.le_refl _, ?_⟩
        rcases hp with ⟨h1, h2⟩ | ⟨p, h1, h2, h3, h4⟩
        · refine .inl ⟨h1, fun k k1 k2 => ?_⟩
          by_cases e : k = i
          · rw [e]; exact hz
          · exact h2 k k1 (by omega)
        · exact .inr ⟨p, h1, h2, by omega, h4⟩
      have hlen : 0 < (dg (G i col).num.natAbs).length := by
        rcases Nat.eq_zero_or_pos (dg (G i col).num.natAbs).length with e | e
        · exact absurd ((rat_zero_iff _).2 (dg_nil e)) hz
        · exact e
      have b3 : decide ((0 : Int) < ((dg (G i col).num.natAbs).length : Int)) = true := decide_eq_true (by omega)
      have here : ∀ V3, V2.le V3 → pivR G (i + 1) a col i := fun V3 _ => .inr ⟨i, rfl, hai, by omega, hz⟩
      rcases hp with ⟨rfl, h0⟩ | ⟨p, rfl, p1, p2, p3⟩
      · have b4 : decide ((-1 : Int) < 0) = true := rfl
        (refine XWP.drw1 [0, 1, 2, 3, 4, 5, 6, 7, 8, 10, 11, 12, 13, 14, 15, 16, 17, 18, 19, 9, 20, 21, 22, 23] (by kernel_rfl) (by kernel_rfl) (by kernel_rfl) fun K hK => ?_) <;> dsimp only [pickOps, List.getElem?_cons_zero, List.getElem?_cons_succ]
        simp only [XA, XB, gateX, ↓reduceIte, beq_self_eq_true, b3, b4]
        refine hK _ ?_
        refine Gx.t rfl ?_
        refine Gx.c (by kernel_rfl) fun K hK => ?_
        simp only [XA]
        exact hK _ fun f => ⟨V2, _, StIs.of (by exact rfl), View.le_refl _, here V2 (View.le_refl _)⟩
      · have b4 : decide ((p : Int) < 0) = false := decide_eq_false (by omega)
        obtain ⟨x', y', e', hx', ⟨o1', o2', o3'⟩, hld'⟩ := h2.load (show p < R by omega) hcol
        have w3 := wr_mul (i := p) (C := C) (by omega) hC
        have hpos' := pos_lt (show p < R by omega) hcol
        have w4 := wr_add (p := p * C) (k := col) (by omega) (by omega)
        (refine XWP.drw1 [0, 1, 2, 3, 4, 5, 6, 7, 8, 10, 11, 12, 13, 14, 15, 16, 17, 18, 19, 9, 20, 21, 22, 23] (by kernel_rfl) (by kernel_rfl) (by kernel_rfl) fun K hK => ?_) <;> dsimp only [pickOps, List.getElem?_cons_zero, List.getElem?_cons_succ]
        simp only [XM, XA, XB, gateX, Nat.reduceAdd, Nat.reduceLeDiff, ↓reduceIte, beq_self_eq_true, b3, b4, w3, w4]
        refine ⟨by omega, by omega, ?_⟩
        try simp only [Nat.zero_add] at *
        refine ld_mem hld' ?_
        simp only [XA, gateX, ↓reduceIte, beq_self_eq_true]
        refine call_go (by kernel_rfl) rfl (mweight_c _ _ _ hx (hq i col hi hcol)) fun v3 V3 hV3 g3 => ?_
        obtain ⟨r3, rfl⟩ := g3
        simp only [XA, gateX, ↓reduceIte, beq_self_eq_true]
        refine call_go (by kernel_rfl) rfl (mweight_c _ _ _ (hx'.mono hV3) (hq p col (by omega) hcol)) fun v4 V4 hV4 g4 => ?_
        obtain ⟨r4, rfl⟩ := g4
        cases b5 : decide (r3 < r4)
        · simp only [XA, XB, gateX, ↓reduceIte, beq_self_eq_true, b5]
          refine hK _ ?_
          refine Gx.f rfl ?_
          refine XWP.skip ?_
          exact fun f => ⟨V4, _, StIs.of (by exact rfl), View.le_trans hV3 hV4, .inr ⟨p, rfl, p1, by omega, p3⟩⟩
        · simp only [XA, XB, gateX, ↓reduceIte, beq_self_eq_true, b5]
          refine hK _ ?_
          refine Gx.t rfl ?_
          refine Gx.c (by kernel_rfl) fun K hK => ?_
          simp only [XA]
          exact hK _ fun f => ⟨V4, _, StIs.of (by exact rfl), View.le_trans hV3 hV4, here V4 (View.le_trans hV3 hV4)⟩
    rintro s ⟨V3, b', hs, hV3, hp'⟩
    obtain ⟨z, rfl⟩ := hs.out
    try dsimp only
    refine Gx.c (by kernel_rfl) fun K hK => ?_
    simp only [XA, XB, i64_succ i (by omega)]
    exact hK _ ⟨n - 1, by omega, fun f => ⟨i + 1, V3, b', StIs.of (by exact rfl), by omega, by omega, View.le_trans hV2 hV3, by rw [Nat.min_eq_left (by omega)]; exact hp'⟩⟩
  rintro s ⟨V2, b, hs, hp, hV2⟩
  obtain ⟨z, rfl⟩ := hs.out
  try dsimp only
  refine Gx.a (by kernel_rfl) fun K hK => ?_
  simp only [XA]
  refine hK _ (XWP.ret ?_)
  try simp only [thenX_ret, inBlockX_ret]
  exact retM_go _ rfl ⟨b, rfl, hp, hV2, rfl⟩
end Go.Proofs.YtkgmicakfmllmaaGreat
end
section
namespace Go.Proofs.YtkgmicakfmllmaaGreat
open Go Go.RowKit
set_option linter.unusedSimpArgs false
set_option linter.unusedVariables false
attribute [local irreducible] XWP Spec SpecO XPub XCall seqX clX apX stX ldX iaX slX
/-- rows changed up to a column -/
def swG (G : Grid) (p t j : Nat) : Grid := fun i' j' => if j' < j then G (swp p t i') j' else G i' j'
theorem sw_step {G : Grid} {R C p t j : Nat} (hj : j < C) : ∀ i k, i < R → k < C → gput (gput (swG G p t j) p j (G t j)) t j (G p j) i k = swG G p t (j + 1) i k := fun i k _ _ => by
  unfold gput swG swp
  by_cases e1 : k = j
  · subst e1
    by_cases e2 : i = t
    · subst e2
      rw [if_pos ⟨rfl, rfl⟩, if_pos (by omega)]
      split
      · rename_i e; rw [e]
      · rw [if_pos rfl]
    · rw [if_neg (fun h => e2 h.1)]
      by_cases e3 : i = p
      · subst e3; rw [if_pos ⟨rfl, rfl⟩, if_pos (by omega), if_pos rfl]
      · rw [if_neg (fun h => e3 h.1), if_neg (by omega), if_pos (by omega), if_neg e3, if_neg e2]
  · rw [if_neg (fun h => e1 h.2), if_neg (fun h => e1 h.2)]
    by_cases e : k < j
    · rw [if_pos e, if_pos (show k < j + 1 by omega)]
    · rw [if_neg e, if_neg (show ¬ k < j + 1 by omega)]
theorem swap_m (H : Heap) (V : View) (g cap R C p t : Nat) (G : Grid) (h : MatH H V g cap R C G) (hR : R ≤ 1000) (hC : C ≤ 1000) (hp : p < R) (ht : t < R) :
    MSpec Tryz.prog 196 [.agg #[.int .i64 (R : Int), .int .i64 (C : Int), .slice (some ⟨g, 0, none⟩) (R * C) cap], .int .i64 (p : Int), .int .i64 (t : Int)] H V fun v' H' V' => V.le V' ∧ (∀ k, k ≠ g → H' k = H k) ∧ MatH H' V' g cap R C (gsw G p t) := by
  refine (MSpec.enter Tryz.func196 rfl fun Γ hΓ => ?_)
  simp only [Tryz.ntmps196, List.map_cons, List.map_nil, List.length_cons, List.length_nil, Nat.reduceAdd, Nat.reduceSub, List.replicate_succ, List.replicate_zero, List.cons_append, List.nil_append]
  have hRC : R * C ≤ 1000000 := Nat.le_trans (Nat.mul_le_mul hR hC) (by decide)
  refine Gx.a (by kernel_rfl) fun K hK => ?_
  simp only [XA]
  refine hK _ ?_
  refine Gx.a (by kernel_rfl) fun K hK => ?_
  simp only [XM, XA, XB]
  refine hK _ ?_
  clear hK
  refine XWP.block ?_
  refine XWP.loop (fun n s => ∃ (j : Nat) (H2 : Heap), StIs (fun Z => [Z 0, .v (.int .i64 (p : Int)), .v (.int .i64 (t : Int)), .p 0 0, Z 4,Z 5,Z 6,Z 7, .v (.int .i64 (C : Int)), .v (.int .i64 (j : Int)), Z 10,Z 11,Z 12,Z 13,Z 14,Z 15,Z 16,Z 17,Z 18,Z 19,Z 20,Z 21,Z 22,Z 23,Z 24,Z 25,Z 26,Z 27,Z 28,Z 29,Z 30,Z 31,Z 32,Z 33,Z 34,Z 35,Z 36,Z 37,Z 38,Z 39,Z 40,Z 41,Z 42,Z 43,Z 44,Z 45,Z 46,Z 47,Z 48,Z 49,Z 50]) [[.int .i64 (R : Int), .int .i64 (C : Int), .slice (some ⟨g, 0, none⟩) (R * C) cap]] H2 V s ∧ n + j = C ∧ (∀ k, k ≠ g → H2 k = H k) ∧ MatH H2 V g cap R C (swG G p t j)) C ⟨0, H, StIs.of (by exact rfl), by omega, fun _ _ => rfl, h⟩ ?_
  rintro n s ⟨j, H2, hs, hn, hoff, hM⟩
  obtain ⟨z, rfl⟩ := hs.out
  try dsimp only
  clear hs
  by_cases hj : j < C
  rotate_left
  · obtain rfl : j = C := by omega
    have b1 : decide ((j : Int) < (j : Int)) = false := decide_eq_false (by omega)
    refine Gx.a (by kernel_rfl) fun K hK => ?_
    simp only [XA, XB, b1]
    refine hK _ ?_
    refine XWP.seq (Gx.f rfl ?_)
    refine XWP.exit ?_
    simp only [thenX_exit, inBlockX_exit, ↓reduceIte]
    refine endM_go [] rfl ⟨View.le_refl _, hoff, hM.congr fun i k hi hk => ?_⟩
    unfold swG gsw
    rw [if_pos hk]
  have b1 : decide ((j : Int) < (C : Int)) = true := decide_eq_true (by omega)
  refine Gx.a (by kernel_rfl) fun K hK => ?_
  simp only [XA, XB, b1]
  refine hK _ ?_
  refine XWP.seq (Gx.t rfl ?_)
  refine XWP.skip ?_
  refine XWP.seq ?_
  refine XWP.block ?_
  refine Gx.a (by kernel_rfl) fun K hK => ?_
  simp only [XA]
  refine hK _ ?_
  have w1 := wr_mul (i := p) (C := C) (by omega) hC
  have q1 := pos_lt hp hj
  have w2 := wr_add (p := p * C) (k := j) (by omega) (by omega)
  have w3 := wr_mul (i := t) (C := C) (by omega) hC
  have q2 := pos_lt ht hj
  have w4 := wr_add (p := t * C) (k := j) (by omega) (by omega)
  obtain ⟨x1, y1, e1, hx1, ⟨o1, o2, o3⟩, hld1⟩ := hM.load ht hj
  obtain ⟨x2, y2, e2, hx2, ⟨s1, s2, s3⟩, hld2⟩ := hM.load hp hj
  have g1 : swG G p t j t j = G t j := by unfold swG; rw [if_neg (by omega)]
  have g2 : swG G p t j p j = G p j := by unfold swG; rw [if_neg (by omega)]
  rw [g1] at hx1
  rw [g2] at hx2
  obtain ⟨cells, hc, hcl, hset⟩ := hM.set hp hj
  have hM2 := hset V x1 y1 e1 _ (View.le_refl _) hx1 o1 o2 o3 _ (upd_at H2 g _)
  obtain ⟨cells2, hc2, hcl2, hset2⟩ := hM2.set ht hj
  rw [upd_at] at hc2
  cases hc2
  have hM3 := hset2 V x2 y2 e2 _ (View.le_refl _) hx2 s1 s2 s3 _ (upd_at (upd H2 g (some ⟨49, splice cells ((p * C + j) * 3) [x1, y1, e1], cap * 3⟩)) g _)
  have fin : ∀ (z : List SV) (F : (Nat → SV) → List SV), True := fun _ _ => trivial
  (refine XWP.drwT1 (.lin [0, 1, 2, 3, 4, 5, 6, 7, 8, 10, 11, 14, 16, 17, 18, 19, 20, 21, 22, 23, 24, 25, 26, 27, 28, 29, 30, 31, 32, 33, 34, 35, 36] (.two (.lin [9] (.two (.lin [12, 13, 15, 37, 38, 39] .nil) (.lin [37, 12, 13, 15, 38, 39] .nil))) (.two (.lin [12, 13, 15] (.two (.lin [9, 37, 38, 39] .nil) (.lin [37, 9, 38, 39] .nil))) (.lin [37, 9, 12, 13, 15, 38, 39] .nil)))) (by kernel_rfl) (by kernel_rfl) (by kernel_rfl) fun K hK => ?_)
  simp only [XM, XA, XB, w1, w2, w3, w4]
  refine ⟨by omega, by omega, ?_⟩
  try simp only [Nat.zero_add] at *
  refine ld_mem hld1 ?_
  simp only [XM, XA, XB, w1, w2]
  refine ⟨by omega, by omega, ?_⟩
  try simp only [Nat.zero_add]
  refine ld_mem hld2 ?_
  simp only [XA, XB, w3, w4]
  refine ⟨by omega, by omega, ?_⟩
  try simp only [Nat.zero_add]
  refine ⟨⟨?_, ?_⟩, ⟨?_, ?_⟩, ?_⟩
  all_goals refine st_rowA shapeT_49 (all3 o1 o2 o3) rfl hc hcl ?_
  all_goals simp only [XA, XB, w3, w4]
  all_goals refine ⟨by omega, by omega, ?_⟩
  all_goals try simp only [Nat.zero_add]
  all_goals refine st_rowA shapeT_49 (all3 s1 s2 s3) rfl (upd_at _ _ _) hcl2 ?_
  all_goals simp only [XA]
  all_goals refine hK _ ?_
  all_goals refine Gx.c (by kernel_rfl) fun K hK => ?_
  all_goals simp only [XA, XB, i64_succ j (by omega)]
  all_goals exact hK _ ⟨n - 1, by omega, j + 1, _, StIs.of (by exact rfl), by omega, fun k hk => (upd_off hk).trans ((upd_off hk).trans (hoff k hk)), hM3.congr (sw_step hj)⟩
/-- row i less f times row t, up to a column -/
def clG (G : Grid) (i t : Nat) (f : Rat) (j : Nat) : Grid := fun i' j' => if i' = i ∧ j' < j then G i j' - f * G t j' else G i' j'
theorem cl_step {G : Grid} {R C i t j : Nat} {f : Rat} : ∀ a b, a < R → b < C → gput (clG G i t f j) i j (G i j - f * G t j) a b = clG G i t f (j + 1) a b := fun a b _ _ => by
  unfold gput clG
  by_cases e1 : a = i ∧ b = j
  · obtain ⟨rfl, rfl⟩ := e1
    rw [if_pos ⟨rfl, rfl⟩, if_pos ⟨rfl, by omega⟩]
  · rw [if_neg e1]
    by_cases e2 : a = i ∧ b < j
    · rw [if_pos e2, if_pos ⟨e2.1, by omega⟩]
    · rw [if_neg e2, if_neg fun h => by
        rcases Nat.lt_or_ge b j with h1 | h1
        · exact e2 ⟨h.1, h1⟩
        · exact e1 ⟨h.1, by omega⟩]
theorem clear_m (H : Heap) (V : View) (g cap R C t i col B : Nat) (G : Grid) (h : MatH H V g cap R C G) (hR : R ≤ 1000) (hC : C ≤ 1000) (ht : t < R) (hi : i < R) (hit : i ≠ t) (hcol : col < C) (hd : G t col ≠ 0) (hqi : ∀ k, k < C → QB B (G i k)) (hqt : ∀ k, k < C → QB B (G t k)) (hB : 4 * B + 2 ≤ 17592186044416) :
    MSpec Tryz.prog 185 [.agg #[.int .i64 (R : Int), .int .i64 (C : Int), .slice (some ⟨g, 0, none⟩) (R * C) cap], .int .i64 (t : Int), .int .i64 (i : Int), .int .i64 (col : Int)] H V fun v' H' V' => V.le V' ∧ (∀ k, k ≠ g → H' k = H k) ∧ MatH H' V' g cap R C (gsub G i t (G i col / G t col)) := by
  refine (MSpec.enter Tryz.func185 rfl fun Γ hΓ => ?_)
  simp only [Tryz.ntmps185, List.map_cons, List.map_nil, List.length_cons, List.length_nil, Nat.reduceAdd, Nat.reduceSub, List.replicate_succ, List.replicate_zero, List.cons_append, List.nil_append]
  have hRC : R * C ≤ 1000000 := Nat.le_trans (Nat.mul_le_mul hR hC) (by decide)
  have qfi : ∀ k, k < C → QF (G i k) := fun k a => (hqi k a).qf (by omega)
  have qft : ∀ k, k < C → QF (G t k) := fun k a => (hqt k a).qf (by omega)
  refine Gx.a (by kernel_rfl) fun K hK => ?_
  simp only [XA]
  refine hK _ ?_
  obtain ⟨f, hf⟩ : ∃ f, f = G i col / G t col := ⟨_, rfl⟩
  rw [← hf]
  have qbf : QB (2 * B) f := by rw [hf]; exact ((hqi col hcol).div (hqt col hcol)).mono (by omega)
  refine XWP.cutD 2 (fun s => ∃ (V2 : View) (A1 : Option Addr) (n1 c1 : Nat) (e1 : Value), StIs (fun Z => [Z 0, .v (.int .i64 (t : Int)), .v (.int .i64 (i : Int)), .v (.int .i64 (col : Int)), .p 0 0, Z 5,Z 6,Z 7, .p 1 0, Z 9,Z 10,Z 11,Z 12,Z 13,Z 14,Z 15,Z 16,Z 17,Z 18,Z 19,Z 20,Z 21,Z 22,Z 23,Z 24,Z 25,Z 26,Z 27,Z 28,Z 29,Z 30,Z 31,Z 32,Z 33,Z 34,Z 35,Z 36,Z 37,Z 38,Z 39,Z 40,Z 41,Z 42,Z 43,Z 44,Z 45,Z 46,Z 47,Z 48,Z 49,Z 50,Z 51,Z 52,Z 53,Z 54,Z 55,Z 56,Z 57,Z 58,Z 59,Z 60,Z 61,Z 62,Z 63,Z 64,Z 65,Z 66,Z 67,Z 68,Z 69,Z 70,Z 71,Z 72,Z 73,Z 74,Z 75,Z 76,Z 77,Z 78,Z 79,Z 80,Z 81,Z 82]) [[.int .i64 (R : Int), .int .i64 (C : Int), .slice (some ⟨g, 0, none⟩) (R * C) cap], [.bool (ng f), .slice A1 (dg f.num.natAbs).length c1, e1]] H V2 s ∧ V.le V2 ∧ RatC V2 (.agg #[.bool (ng f), .slice A1 (dg f.num.natAbs).length c1, e1]) f ∧ isOne e1 = true) ?_ ?_
  · have w1 := wr_mul (i := i) (C := C) (by omega) hC
    have q1 := pos_lt hi hcol
    have w2 := wr_add (p := i * C) (k := col) (by omega) (by omega)
    have w3 := wr_mul (i := t) (C := C) (by omega) hC
    have q2 := pos_lt ht hcol
    have w4 := wr_add (p := t * C) (k := col) (by omega) (by omega)
    obtain ⟨x1, y1, e1, hx1, ⟨o1, o2, o3⟩, hld1⟩ := h.load hi hcol
    obtain ⟨x2, y2, e2, hx2, ⟨s1, s2, s3⟩, hld2⟩ := h.load ht hcol
    (refine XWP.drwT1 (.lin [0, 1, 2, 3, 4, 5, 6, 7, 8, 9, 10, 11, 12, 13, 14, 15, 16, 17, 18, 19] (.two (.lin [20, 21, 22, 23, 24, 25, 26] .nil) (.lin [24, 20, 21, 22, 23, 25, 26] .nil))) (by kernel_rfl) (by kernel_rfl) (by kernel_rfl) fun K hK => ?_)
    simp only [XM, XA, XB, w1, w2]
    refine ⟨by omega, by omega, ?_⟩
    try simp only [Nat.zero_add] at *
    refine ld_mem hld1 ?_
    simp only [XM, XA, XB, w3, w4]
    refine ⟨by omega, by omega, ?_⟩
    try simp only [Nat.zero_add]
    refine ld_mem hld2 ?_
    simp only [XA, XB]
    refine And.intro ?_ ?_
    all_goals refine call_go (by kernel_rfl) rfl (qdiv_c _ _ _ _ _ hx1 hx2 (qfi _ hcol) (qft _ hcol)) fun v9 V9 hV9 h9 => ?_
    all_goals obtain ⟨x7, rfl, hx7⟩ := h9.2 hd
    all_goals rw [← hf] at hx7
    all_goals obtain ⟨n7, d7, rfl, hn7, hd7⟩ := hx7
    all_goals obtain ⟨A7, c7, rfl, _, _⟩ := NatAt.form hn7
    all_goals have od := NatC.one hd7
    all_goals simp only [XA, XB]
    all_goals refine st_rat rfl rfl rfl rfl od ?_
    all_goals simp only [XA]
    all_goals exact hK _ fun f' => ⟨V9, A7, 0, c7, d7, StIs.of (by exact rfl), hV9, ⟨_, _, rfl, hn7, hd7⟩, od⟩
  rintro s ⟨V2, A1, n1, c1, e1, hs, hV2, hx, oe⟩
  obtain ⟨z, rfl⟩ := hs.out
  try dsimp only
  clear hs
  have h2 := h.mono hV2
  refine XWP.seq ?_
  by_cases hz : f = 0
  · have b1 : decide (((dg f.num.natAbs).length : Int) = 0) = true := by rw [len_zero, hz]; rfl
    refine Gx.a (by kernel_rfl) fun K hK => ?_
    simp only [XA, XB, b1]
    refine hK _ ?_
    refine Gx.t rfl ?_
    refine XWP.ret ?_
    try simp only [thenX_ret, inBlockX_ret]
    refine retM_go [] rfl ⟨hV2, fun _ _ => rfl, h2.congr fun a b _ _ => ?_⟩
    unfold gsub
    split
    · rename_i e; subst e; rw [hz]; grind
    · rfl
  have b1 : decide (((dg f.num.natAbs).length : Int) = 0) = false := by
    rw [len_zero]
    exact decide_eq_false fun e => hz ((rat_zero_iff _).2 e)
  refine Gx.a (by kernel_rfl) fun K hK => ?_
  simp only [XA, XB, b1]
  refine hK _ ?_
  refine Gx.f rfl ?_
  refine XWP.skip ?_
  refine Gx.a (by kernel_rfl) fun K hK => ?_
  simp only [XM, XA, XB]
  refine hK _ ?_
  clear hK
  refine XWP.block ?_
  refine XWP.loopD 2 (fun n s => ∃ (j : Nat) (H3 : Heap) (V3 : View), StIs (fun Z => [Z 0, .v (.int .i64 (t : Int)), .v (.int .i64 (i : Int)), .v (.int .i64 (col : Int)), .p 0 0, Z 5,Z 6,Z 7, .p 1 0, Z 9,Z 10,Z 11,Z 12,Z 13,Z 14,Z 15,Z 16,Z 17,Z 18,Z 19,Z 20,Z 21,Z 22,Z 23,Z 24,Z 25,Z 26,Z 27,Z 28,Z 29,Z 30,Z 31,Z 32,Z 33,Z 34,Z 35,Z 36,Z 37,Z 38,Z 39,Z 40, .v (.int .i64 (C : Int)), .v (.int .i64 (j : Int)), Z 43,Z 44,Z 45,Z 46,Z 47,Z 48,Z 49,Z 50,Z 51,Z 52,Z 53,Z 54,Z 55,Z 56,Z 57,Z 58,Z 59,Z 60,Z 61,Z 62,Z 63,Z 64,Z 65,Z 66,Z 67,Z 68,Z 69,Z 70,Z 71,Z 72,Z 73,Z 74,Z 75,Z 76,Z 77,Z 78,Z 79,Z 80,Z 81,Z 82]) [[.int .i64 (R : Int), .int .i64 (C : Int), .slice (some ⟨g, 0, none⟩) (R * C) cap], [.bool (ng f), .slice A1 (dg f.num.natAbs).length c1, e1]] H3 V3 s ∧ n + j = C ∧ V2.le V3 ∧ (∀ k, k ≠ g → H3 k = H k) ∧ MatH H3 V3 g cap R C (clG G i t f j)) C ⟨0, H, V2, StIs.of (by exact rfl), by omega, View.le_refl _, fun _ _ => rfl, h2.congr fun a b _ _ => by unfold clG; rw [if_neg (by omega)]⟩ ?_
  rintro n s ⟨j, H3, V3, hs, hn, hV3, hoff, hM⟩
  obtain ⟨z, rfl⟩ := hs.out
  try dsimp only
  clear hs
  by_cases hj : j < C
  rotate_left
  · obtain rfl : j = C := by omega
    have b2 : decide ((j : Int) < (j : Int)) = false := decide_eq_false (by omega)
    refine Gx.a (by kernel_rfl) fun K hK => ?_
    simp only [XA, XB, b2]
    refine hK _ ?_
    refine XWP.seq (Gx.f rfl ?_)
    refine XWP.exit ?_
    simp only [thenX_exit, inBlockX_exit, ↓reduceIte]
    refine endM_go [] rfl ⟨View.le_trans hV2 hV3, hoff, hM.congr fun a b ha hb => ?_⟩
    unfold clG gsub
    by_cases e : a = i
    · subst e; rw [if_pos ⟨rfl, hb⟩, if_pos rfl]
    · rw [if_neg (fun h => e h.1), if_neg e]
  have b2 : decide ((j : Int) < (C : Int)) = true := decide_eq_true (by omega)
  refine Gx.a (by kernel_rfl) fun K hK => ?_
  simp only [XA, XB, b2]
  refine hK _ ?_
  refine XWP.seq (Gx.t rfl ?_)
  refine XWP.skip ?_
  have w1 := wr_mul (i := i) (C := C) (by omega) hC
  have q1 := pos_lt hi hj
  have w2 := wr_add (p := i * C) (k := j) (by omega) (by omega)
  have w3 := wr_mul (i := t) (C := C) (by omega) hC
  have q2 := pos_lt ht hj
  have w4 := wr_add (p := t * C) (k := j) (by omega) (by omega)
  obtain ⟨x1, y1, z1, hx1, ⟨o1, o2, o3⟩, hld1⟩ := hM.load ht hj
  obtain ⟨x2, y2, z2, hx2, ⟨s1, s2, s3⟩, hld2⟩ := hM.load hi hj
  have g1 : clG G i t f j t j = G t j := by unfold clG; rw [if_neg (by omega)]
  have g2 : clG G i t f j i j = G i j := by unfold clG; rw [if_neg (by omega)]
  rw [g1] at hx1
  rw [g2] at hx2
  obtain ⟨n1', d1', ev, hn1, hd1⟩ := hx1
  cases ev
  obtain ⟨A5, c5, rfl, _, _⟩ := NatAt.form hn1
  have hx1 : RatC V3 (.agg #[.bool (ng (G t j)), .slice A5 (dg (G t j).num.natAbs).length c5, z1]) (G t j) := ⟨_, _, rfl, hn1, hd1⟩
  refine XWP.cutD 2 (fun s => ∃ (H4 : Heap) (V4 : View), StIs (fun Z => [Z 0, .v (.int .i64 (t : Int)), .v (.int .i64 (i : Int)), .v (.int .i64 (col : Int)), .p 0 0, Z 5,Z 6,Z 7, .p 1 0, Z 9,Z 10,Z 11,Z 12,Z 13,Z 14,Z 15,Z 16,Z 17,Z 18,Z 19,Z 20,Z 21,Z 22,Z 23,Z 24,Z 25,Z 26,Z 27,Z 28,Z 29,Z 30,Z 31,Z 32,Z 33,Z 34,Z 35,Z 36,Z 37,Z 38,Z 39,Z 40, .v (.int .i64 (C : Int)), .v (.int .i64 (j : Int)), Z 43,Z 44,Z 45,Z 46,Z 47,Z 48,Z 49,Z 50,Z 51,Z 52,Z 53,Z 54,Z 55,Z 56,Z 57,Z 58,Z 59,Z 60,Z 61,Z 62,Z 63,Z 64,Z 65,Z 66,Z 67,Z 68,Z 69,Z 70,Z 71,Z 72,Z 73,Z 74,Z 75,Z 76,Z 77,Z 78,Z 79,Z 80,Z 81,Z 82]) [[.int .i64 (R : Int), .int .i64 (C : Int), .slice (some ⟨g, 0, none⟩) (R * C) cap], [.bool (ng f), .slice A1 (dg f.num.natAbs).length c1, e1]] H4 V4 s ∧ V3.le V4 ∧ (∀ k, k ≠ g → H4 k = H k) ∧ MatH H4 V4 g cap R C (clG G i t f (j + 1))) ?_ ?_
  · refine XWP.block ?_
    refine Gx.a (by kernel_rfl) fun K hK => ?_
    simp only [XA]
    refine hK _ ?_
    refine Gx.a (by kernel_rfl) fun K hK => ?_
    simp only [XM, XA, XB, w3, w4]
    refine ⟨by omega, by omega, ?_⟩
    try simp only [Nat.zero_add] at *
    refine ld_mem hld1 ?_
    simp only [XA, XB, Nat.reduceAdd]
    refine st_rat rfl rfl o1 o2 o3 ?_
    simp only [XA]
    refine hK _ ?_
    by_cases hz2 : G t j = 0
    · have b3 : decide ((0 : Int) < ((dg (G t j).num.natAbs).length : Int)) = false := dg_of_zero hz2
      refine Gx.a (by kernel_rfl) fun K hK => ?_
      simp only [XA, XB, b3]
      refine hK _ ?_
      refine Gx.f rfl ?_
      refine XWP.skip ?_
      refine fun f' => ⟨H3, V3, StIs.of (by exact rfl), View.le_refl _, hoff, hM.congr fun a b ha hb => ?_⟩
      unfold clG
      by_cases e : a = i ∧ b < j
      · rw [if_pos e, if_pos ⟨e.1, by omega⟩]
      · rw [if_neg e]
        by_cases e2 : a = i ∧ b < j + 1
        · rw [if_pos e2]
          have : b = j := by
            rcases Nat.lt_or_ge b j with h1 | h1
            · exact absurd ⟨e2.1, h1⟩ e
            · omega
          rw [this, e2.1, hz2]; grind
        · rw [if_neg e2]
    have hlen : 0 < (dg (G t j).num.natAbs).length := by
      rcases Nat.eq_zero_or_pos (dg (G t j).num.natAbs).length with e | e
      · exact absurd ((rat_zero_iff _).2 (dg_nil e)) hz2
      · exact e
    have b3 : decide ((0 : Int) < ((dg (G t j).num.natAbs).length : Int)) = true := decide_eq_true (by omega)
    refine Gx.a (by kernel_rfl) fun K hK => ?_
    simp only [XA, XB, b3]
    refine hK _ ?_
    refine Gx.t rfl ?_
    (refine XWP.drw1 [0, 1, 2, 3, 4, 5, 6, 7, 8, 9, 10, 11, 12, 13, 14, 15, 16, 17, 18, 19, 20, 21, 22, 23] (by kernel_rfl) (by kernel_rfl) (by kernel_rfl) fun K hK => ?_) <;> dsimp only [pickOps, List.getElem?_cons_zero, List.getElem?_cons_succ]
    simp only [XM, XA, XB, w1, w2]
    refine ⟨by omega, by omega, ?_⟩
    try simp only [Nat.zero_add] at *
    refine ld_mem hld2 ?_
    simp only [XA, XB, Nat.reduceAdd, Nat.reduceLeDiff, ↓reduceIte]
    refine call_go (by kernel_rfl) rfl (qmul_c _ _ _ _ _ (hx.mono hV3) hx1 (qbf.qf (by omega)) (qft _ hj)) fun v9 V9 hV9 h9 => ?_
    simp only [XA]
    have qm : QB (3 * B) (f * G t j) := (qbf.mul (hqt j hj)).mono (by omega)
    refine call_go (by kernel_rfl) rfl (qsub_c _ _ _ _ _ (hx2.mono hV9) h9 (qfi _ hj) (qm.qf (by omega))) fun v10 V10 hV10 h10 => ?_
    obtain ⟨x10, y10, rfl, p1, p2⟩ := h10.form
    obtain ⟨cells, hc, hcl, hset⟩ := hM.set hi hj
    simp only [XA, XB]
    refine ⟨by omega, by omega, ?_⟩
    try simp only [Nat.zero_add]
    refine st_rowA shapeT_49 (all3 rfl p1 p2) rfl hc hcl ?_
    simp only [XA]
    refine hK _ ?_
    exact fun f' => ⟨_, V10, StIs.of (by exact rfl), View.le_trans hV9 hV10, fun k hk => (upd_off hk).trans (hoff k hk), (hset V10 _ _ _ _ (View.le_trans hV9 hV10) h10 rfl p1 p2 _ (upd_at _ _ _)).congr cl_step⟩
  rintro s ⟨H4, V4, hs, hV4, hoff4, hM4⟩
  obtain ⟨z, rfl⟩ := hs.out
  try dsimp only
  refine Gx.c (by kernel_rfl) fun K hK => ?_
  simp only [XA, XB, i64_succ j (by omega)]
  exact hK _ ⟨n - 1, by omega, fun f' => ⟨j + 1, H4, V4, StIs.of (by exact rfl), by omega, View.le_trans hV3 hV4, hoff4, hM4⟩⟩
end Go.Proofs.YtkgmicakfmllmaaGreat
end
section
namespace Go.Proofs.YtkgmicakfmllmaaGreat
open Go Go.RowKit
set_option linter.unusedSimpArgs false
set_option linter.unusedVariables false
attribute [local irreducible] XWP Spec SpecO XPub XCall seqX clX apX stX ldX iaX slX
theorem row_obj {e : TypeId} {vs : List Value} {o : Obj} (h : RowObj ⟨e, vs, vs.length⟩ o) : o = .cells vs.toArray e (0, 0) := by
  obtain ⟨ex, rfl, hl⟩ := h
  have : ex = [] := List.length_eq_zero_iff.1 (by simpa using hl)
  rw [this, List.append_nil]
theorem ldV1 {V : View} {b e : Nat} {vs : List Value} {fr} (h : V b = some (.cells vs.toArray e fr)) {off t m : Nat} {u : Value} (hu : vs[off]? = some u) (ht : shapeT Tryz.prog t = some (false, m)) (H : Heap) : Loads Tryz.prog H V t b off u :=
  ⟨false, m, ht, .inr ⟨rfl, .inr ⟨_, e, fr, h, by rw [List.getElem?_toArray]; exact hu⟩⟩⟩
theorem ldV3 {V : View} {b e : Nat} {x y z : Value} {fr} (h : V b = some (.cells [x, y, z].toArray e fr)) {t : Nat} (ht : shapeT Tryz.prog t = some (true, 3)) (H : Heap) : Loads Tryz.prog H V t b 0 (.agg #[x, y, z]) := by
  refine ⟨true, 3, ht, .inl ⟨rfl, [x, y, z], rfl, fun j u hj => ?_, rfl⟩⟩
  exact .inr ⟨_, e, fr, h, by rw [List.getElem?_toArray, Nat.zero_add]; exact hj⟩
theorem addV_at (V : View) (b : Nat) (o : Obj) : addV V b o b = some o := by unfold addV; rw [if_pos rfl]
/-- what steps leaves -/
structure StepsR (G0 : Grid) (R C n B : Nat) (G : Grid) (rank : Nat) : Prop where
  eqv : REq G0 G R n
  stp : ∃ col, col ≤ n ∧ StepG G R rank col ∧ (rank = R ∨ col = n)
  qb : ∀ i k, i < R → k < C → QB (ge B n) (G i k)
theorem steps_m (H : Heap) (V : View) (g cap R C n B : Nat) (G0 : Grid) (h : MatH H V g cap R C G0) (hR : R ≤ 1000) (hC : C ≤ 1000) (hn : n ≤ C) (hq : ∀ i k, i < R → k < C → QB B (G0 i k)) (hB : ge B (n + 1) ≤ 17592186044416) :
    MSpec Tryz.prog 184 [.agg #[.int .i64 (R : Int), .int .i64 (C : Int), .slice (some ⟨g, 0, none⟩) (R * C) cap], .int .i64 (n : Int)] H V fun v' H' V' => ∃ (rank : Nat) (odd : Bool) (G : Grid), v' = .tuple #[.int .i64 (rank : Int), .bool odd] ∧ V.le V' ∧ (∀ k r, k ≠ g → H k = some r → H' k = some r) ∧ MatH H' V' g cap R C G ∧ StepsR G0 R C n B G rank := by
  have hB' : 4 * ge B n + 2 ≤ 17592186044416 := hB
  refine (MSpec.enter Tryz.func184 rfl fun Γ hΓ => ?_)
  simp only [Tryz.ntmps184, List.map_cons, List.map_nil, List.length_cons, List.length_nil, Nat.reduceAdd, Nat.reduceSub, List.replicate_succ, List.replicate_zero, List.cons_append, List.nil_append]
  refine Gx.a (by kernel_rfl) fun K hK => ?_
  simp only [XA]
  refine hK _ ?_
  refine Gx.a (by kernel_rfl) fun K hK => ?_
  simp only [XA]
  refine hK _ ?_
  refine XWP.row1 (bx := []) fun b e hb1 hb2 => ?_
  simp only [List.map_cons, List.map_nil, rowS_v, rowS_p, List.length_nil, List.length_cons, Nat.reduceAdd, ↓reduceIte]
  refine XWP.pub b _ (upd_at _ _ _) fun ob hob hle => ?_
  have eob := row_obj hob
  subst eob
  have hVb := addV_at V b (.cells (([.int .i64 (R : Int), .int .i64 (C : Int), .slice (some ⟨g, 0, none⟩) (R * C) cap] : List Value)).toArray e (0, 0))
  have hgb : g ≠ b := fun e => by
    obtain ⟨cells, h1, _⟩ := h
    rw [e, hb1] at h1; cases h1
  have h := h.mono hle
  have hoff0 : ∀ k r, H k = some r → upd (upd H b (some ⟨e, ([.int .i64 (R : Int), .int .i64 (C : Int), .slice (some ⟨g, 0, none⟩) (R * C) cap] : List Value), (([.int .i64 (R : Int), .int .i64 (C : Int), .slice (some ⟨g, 0, none⟩) (R * C) cap] : List Value)).length⟩)) b none k = some r := fun k r hk => by
    have hkb : k ≠ b := fun e => by rw [e, hb1] at hk; cases hk
    rw [upd_off hkb, upd_off hkb]; exact hk
  have h : MatH (upd (upd H b (some ⟨e, ([.int .i64 (R : Int), .int .i64 (C : Int), .slice (some ⟨g, 0, none⟩) (R * C) cap] : List Value), (([.int .i64 (R : Int), .int .i64 (C : Int), .slice (some ⟨g, 0, none⟩) (R * C) cap] : List Value)).length⟩)) b none) _ g cap R C G0 := h.off (by rw [upd_off hgb, upd_off hgb])
  generalize upd (upd H b (some ⟨e, ([.int .i64 (R : Int), .int .i64 (C : Int), .slice (some ⟨g, 0, none⟩) (R * C) cap] : List Value), (([.int .i64 (R : Int), .int .i64 (C : Int), .slice (some ⟨g, 0, none⟩) (R * C) cap] : List Value)).length⟩)) b none = H1 at *
  generalize addV V b (.cells (([.int .i64 (R : Int), .int .i64 (C : Int), .slice (some ⟨g, 0, none⟩) (R * C) cap] : List Value)).toArray e (0, 0)) = V1 at *
  clear hob
  refine XWP.cutD 0 (fun s => ∃ (V2 : View) (H2 : Heap) (G : Grid) (rank : Nat) (odd : Bool), StIs (fun Z => [Z 0,Z 1,Z 2,Z 3,Z 4,Z 5, .v (.int .i64 (rank : Int)), .v (.bool odd), Z 8,Z 9,Z 10,Z 11,Z 12,Z 13,Z 14,Z 15,Z 16,Z 17,Z 18,Z 19,Z 20,Z 21,Z 22,Z 23,Z 24,Z 25,Z 26,Z 27,Z 28,Z 29,Z 30,Z 31,Z 32,Z 33,Z 34,Z 35,Z 36,Z 37,Z 38,Z 39,Z 40,Z 41,Z 42,Z 43,Z 44,Z 45,Z 46,Z 47,Z 48,Z 49,Z 50,Z 51,Z 52,Z 53]) [] H2 V2 s ∧ V1.le V2 ∧ (∀ k r, k ≠ g → H1 k = some r → H2 k = some r) ∧ MatH H2 V2 g cap R C G ∧ StepsR G0 R C n B G rank) ?_ ?_
  · refine Gx.a (by kernel_rfl) fun K hK => ?_
    simp only [XA]
    refine hK _ ?_
    clear hK
    refine XWP.block ?_
    refine XWP.loopD 0 (fun m s => ∃ (col : Nat) (V2 : View) (H2 : Heap) (G : Grid) (rank : Nat) (odd : Bool), StIs (fun Z => [Z 0, .v (.int .i64 (n : Int)), .v (.pointer (some ⟨b, 0, none⟩)), Z 3,Z 4,Z 5, .v (.int .i64 (rank : Int)), .v (.bool odd), .v (.int .i64 (col : Int)), Z 9,Z 10,Z 11,Z 12,Z 13,Z 14,Z 15,Z 16,Z 17,Z 18,Z 19,Z 20,Z 21,Z 22,Z 23,Z 24,Z 25,Z 26,Z 27,Z 28,Z 29,Z 30,Z 31,Z 32,Z 33,Z 34,Z 35,Z 36,Z 37,Z 38,Z 39,Z 40,Z 41,Z 42,Z 43,Z 44,Z 45,Z 46,Z 47,Z 48,Z 49,Z 50,Z 51,Z 52,Z 53]) [] H2 V2 s ∧ m + col = n ∧ V1.le V2 ∧ (∀ k r, k ≠ g → H1 k = some r → H2 k = some r) ∧ MatH H2 V2 g cap R C G ∧ REq G0 G R n ∧ StepG G R rank col ∧ ∀ i k, i < R → k < C → QB (ge B col) (G i k)) n ⟨0, V1, H1, G0, 0, false, StIs.of (by exact rfl), by omega, View.le_refl _, fun _ _ _ h => h, h, REq.refl _ _ _, StepG.zero _ _, hq⟩ ?_
    rintro m s ⟨col, V2, H2, G, rank, odd, hs, hm, hV2, hoff, hM, hE, hS, hQ⟩
    obtain ⟨z, rfl⟩ := hs.out
    try dsimp only
    clear hs
    have hVb2 := hV2 _ _ hVb
    have hgm : ge B col ≤ ge B n := ge_mono B (by omega)
    refine XWP.seq ?_
    by_cases hc : col < n
    rotate_left
    · obtain rfl : col = n := by omega
      have b1 : decide ((col : Int) < (col : Int)) = false := decide_eq_false (by omega)
      refine Gx.a (by kernel_rfl) fun K hK => ?_
      simp only [XA, XB, gateX, ↓reduceIte, b1]
      refine hK _ ?_
      refine Gx.f rfl ?_
      refine XWP.exit ?_
      exact fun f => ⟨V2, H2, G, rank, odd, StIs.of (by exact rfl), hV2, hoff, hM, hE, ⟨col, Nat.le_refl _, hS, .inr rfl⟩, hQ⟩
    have b1 : decide ((col : Int) < (n : Int)) = true := decide_eq_true (by omega)
    by_cases hr : rank < R
    rotate_left
    · have b2 : decide ((rank : Int) < (R : Int)) = false := decide_eq_false (by omega)
      refine Gx.a (by kernel_rfl) fun K hK => ?_
      simp only [XM, XA, XB, gateX, ↓reduceIte, beq_self_eq_true, b1]
      refine ld_mem (ldV1 hVb2 (off := 0) rfl shapeT_3 _) ?_
      simp only [XA, XB, gateX, ↓reduceIte, beq_self_eq_true, b2]
      refine hK _ ?_
      refine Gx.f rfl ?_
      refine XWP.exit ?_
      exact fun f => ⟨V2, H2, G, rank, odd, StIs.of (by exact rfl), hV2, hoff, hM, hE, ⟨col, by omega, hS, .inl (by have := hS.le; omega)⟩, fun i k a c => (hQ i k a c).mono hgm⟩
    have b2 : decide ((rank : Int) < (R : Int)) = true := decide_eq_true (by omega)
    refine Gx.a (by kernel_rfl) fun K hK => ?_
    simp only [XM, XA, XB, gateX, ↓reduceIte, beq_self_eq_true, b1]
    refine ld_mem (ldV1 hVb2 (off := 0) rfl shapeT_3 _) ?_
    simp only [XA, XB, gateX, ↓reduceIte, beq_self_eq_true, b2]
    refine hK _ ?_
    refine Gx.t rfl ?_
    refine XWP.skip ?_
    refine XWP.cutD 0 (fun s => ∃ (V3 : View) (H3 : Heap) (G3 : Grid) (rank3 : Nat) (odd3 : Bool), StIs (fun Z => [Z 0, .v (.int .i64 (n : Int)), .v (.pointer (some ⟨b, 0, none⟩)), Z 3,Z 4,Z 5, .v (.int .i64 (rank3 : Int)), .v (.bool odd3), .v (.int .i64 (col : Int)), Z 9,Z 10,Z 11,Z 12,Z 13,Z 14,Z 15,Z 16,Z 17,Z 18,Z 19,Z 20,Z 21,Z 22,Z 23,Z 24,Z 25,Z 26,Z 27,Z 28,Z 29,Z 30,Z 31,Z 32,Z 33,Z 34,Z 35,Z 36,Z 37,Z 38,Z 39,Z 40,Z 41,Z 42,Z 43,Z 44,Z 45,Z 46,Z 47,Z 48,Z 49,Z 50,Z 51,Z 52,Z 53]) [] H3 V3 s ∧ V2.le V3 ∧ (∀ k r, k ≠ g → H2 k = some r → H3 k = some r) ∧ MatH H3 V3 g cap R C G3 ∧ REq G G3 R n ∧ StepG G3 R rank3 (col + 1) ∧ ∀ i k, i < R → k < C → QB (ge B (col + 1)) (G3 i k)) ?_ ?_
    · refine XWP.block ?_
      refine Gx.ma 3 hΓ rfl (by kernel_rfl) (by kernel_rfl) fun K hK => ?_
      simp only [XA, Nat.reduceAdd]
      refine ld_mem (ldV3 hVb2 shapeT_24 _) ?_
      simp only [XA]
      refine mcall_go rfl rfl (pivot_m H2 V2 g cap R C rank col G hM hR hC (by omega) (by omega) fun i k a c => (hQ i k a c).qf (by omega)) fun v3 H3 V3 h3 => ?_
      obtain ⟨p, rfl, hp, hV3, rfl⟩ := h3
      simp only [XA]
      refine hK _ ?_
      refine XWP.seq ?_
      rcases hp with ⟨rfl, hz⟩ | ⟨p, rfl, p1, p2, p3⟩
      · have b3 : decide ((-1 : Int) < 0) = true := rfl
        refine Gx.a (by kernel_rfl) fun K hK => ?_
        simp only [XA, XB, b3]
        refine hK _ ?_
        refine Gx.t rfl ?_
        refine XWP.exit ?_
        exact fun f => ⟨V3, H3, G, rank, odd, StIs.of (by exact rfl), hV3, fun _ _ _ h => h, hM.mono hV3, REq.refl _ _ _, hS.free hz, fun i k a c => (hQ i k a c).mono (ge_mono B (Nat.le_succ _))⟩
      have b3 : decide ((p : Int) < 0) = false := decide_eq_false (by omega)
      refine Gx.a (by kernel_rfl) fun K hK => ?_
      simp only [XA, XB, b3]
      refine hK _ ?_
      refine Gx.f rfl ?_
      refine XWP.skip ?_
      have hM := hM.mono hV3
      refine XWP.cutD 0 (fun s => ∃ (V4 : View) (H4 : Heap) (odd4 : Bool), StIs (fun Z => [Z 0, .v (.int .i64 (n : Int)), .v (.pointer (some ⟨b, 0, none⟩)), Z 3,Z 4,Z 5, .v (.int .i64 (rank : Int)), .v (.bool odd4), .v (.int .i64 (col : Int)), Z 9,Z 10,Z 11,Z 12,Z 13,Z 14,Z 15,Z 16,Z 17,Z 18,Z 19,Z 20,Z 21,Z 22,Z 23,Z 24,Z 25,Z 26,Z 27,Z 28,Z 29,Z 30,Z 31,Z 32,Z 33,Z 34,Z 35,Z 36,Z 37,Z 38,Z 39,Z 40,Z 41,Z 42,Z 43,Z 44,Z 45,Z 46,Z 47,Z 48,Z 49,Z 50,Z 51,Z 52,Z 53]) [] H4 V4 s ∧ V3.le V4 ∧ (∀ k r, k ≠ g → H3 k = some r → H4 k = some r) ∧ MatH H4 V4 g cap R C (gsw G p rank)) ?_ ?_
      · by_cases hpr : p = rank
        · subst hpr
          refine Gx.a (by kernel_rfl) fun K hK => ?_
          simp only [XA, XB, decide_true]
          refine hK _ ?_
          refine Gx.f rfl ?_
          refine XWP.skip ?_
          refine fun f => ⟨V3, H3, odd, StIs.of (by exact rfl), View.le_refl _, fun _ _ _ h => h, hM.congr fun i k _ _ => ?_⟩
          unfold gsw swp
          split
          · rename_i e; rw [e]
          · rfl
        · have b4 : decide ((p : Int) = (rank : Int)) = false := decide_eq_false (by omega)
          refine Gx.a (by kernel_rfl) fun K hK => ?_
          simp only [XA, XB, b4]
          refine hK _ ?_
          refine Gx.t rfl ?_
          refine Gx.ma 3 hΓ rfl (by kernel_rfl) (by kernel_rfl) fun K hK => ?_
          simp only [XA, Nat.reduceAdd]
          refine ld_mem (ldV3 (hV3 _ _ hVb2) shapeT_24 _) ?_
          simp only [XA]
          refine mcall_go rfl rfl (swap_m H3 V3 g cap R C p rank G hM hR hC p2 hr) fun v4 H4 V4 h4 => ?_
          obtain ⟨hV4, hoff4, hM4⟩ := h4
          simp only [XA]
          refine hK _ ?_
          refine Gx.c (by kernel_rfl) fun K hK => ?_
          simp only [XA]
          exact hK _ fun f => ⟨V4, H4, !odd, StIs.of (by exact rfl), hV4, fun k r hk hr => by rw [hoff4 k hk]; exact hr, hM4⟩
      rintro s ⟨V4, H4, odd4, hs, hV4, hoff4, hM4⟩
      obtain ⟨z, rfl⟩ := hs.out
      try dsimp only
      clear hs
      have et : swp p rank rank = p := by unfold swp; split <;> (try split) <;> omega
      have hpiv : gsw G p rank rank col ≠ 0 := by unfold gsw; rw [et]; exact p3
      have hE4 : REq G (gsw G p rank) R n := REq.swap G p2 hr
      have hS4 := (hS.swap p1 p2)
      have hQ4 : ∀ i k, i < R → k < C → QB (ge B col) (gsw G p rank i k) := fun i k a c => hQ _ k (swp_lt p2 hr a) c
      have hVb4 := hV4 _ _ (hV3 _ _ hVb2)
      refine XWP.cutD 0 (fun s => ∃ (V5 : View) (H5 : Heap) (G5 : Grid), StIs (fun Z => [Z 0, .v (.int .i64 (n : Int)), .v (.pointer (some ⟨b, 0, none⟩)), Z 3,Z 4,Z 5, .v (.int .i64 (rank : Int)), .v (.bool odd4), .v (.int .i64 (col : Int)), Z 9,Z 10,Z 11,Z 12,Z 13,Z 14,Z 15,Z 16,Z 17,Z 18,Z 19,Z 20,Z 21,Z 22,Z 23,Z 24,Z 25,Z 26,Z 27,Z 28,Z 29,Z 30,Z 31,Z 32,Z 33,Z 34,Z 35,Z 36,Z 37,Z 38,Z 39,Z 40,Z 41,Z 42,Z 43,Z 44,Z 45,Z 46,Z 47,Z 48,Z 49,Z 50,Z 51,Z 52,Z 53]) [] H5 V5 s ∧ V4.le V5 ∧ (∀ k r, k ≠ g → H4 k = some r → H5 k = some r) ∧ MatH H5 V5 g cap R C G5 ∧ REq (gsw G p rank) G5 R n ∧ StepI G5 R rank col R ∧ ∀ i k, i < R → k < C → QB (ge B (col + 1)) (G5 i k)) ?_ ?_
      · refine Gx.a (by kernel_rfl) fun K hK => ?_
        simp only [XA, XB, i64_succ rank (by omega)]
        refine hK _ ?_
        clear hK
        refine XWP.block ?_
        refine XWP.loopD 0 (fun q s => ∃ (i : Nat) (V5 : View) (H5 : Heap) (G5 : Grid), StIs (fun Z => [Z 0, .v (.int .i64 (n : Int)), .v (.pointer (some ⟨b, 0, none⟩)), Z 3,Z 4,Z 5, .v (.int .i64 (rank : Int)), .v (.bool odd4), .v (.int .i64 (col : Int)), Z 9, .v (.int .i64 (i : Int)), Z 11,Z 12,Z 13,Z 14,Z 15,Z 16,Z 17,Z 18,Z 19,Z 20,Z 21,Z 22,Z 23,Z 24,Z 25,Z 26,Z 27,Z 28,Z 29,Z 30,Z 31,Z 32,Z 33,Z 34,Z 35,Z 36,Z 37,Z 38,Z 39,Z 40,Z 41,Z 42,Z 43,Z 44,Z 45,Z 46,Z 47,Z 48,Z 49,Z 50,Z 51,Z 52,Z 53]) [] H5 V5 s ∧ q + i = R ∧ rank < i ∧ V4.le V5 ∧ (∀ k r, k ≠ g → H4 k = some r → H5 k = some r) ∧ MatH H5 V5 g cap R C G5 ∧ REq (gsw G p rank) G5 R n ∧ StepI G5 R rank col i ∧ (∀ a k, a < R → k < C → QB (ge B (col + 1)) (G5 a k)) ∧ ∀ a k, a < R → k < C → (a = rank ∨ i ≤ a) → QB (ge B col) (G5 a k)) (R - (rank + 1)) ⟨rank + 1, V4, H4, _, StIs.of (by exact rfl), by omega, by omega, View.le_refl _, fun _ _ _ h => h, hM4, REq.refl _ _ _, StepI.start hS4 hpiv, fun a k h1 h2 => (hQ4 a k h1 h2).mono (ge_mono B (Nat.le_succ _)), fun a k h1 h2 _ => hQ4 a k h1 h2⟩ ?_
        rintro q s ⟨i, V5, H5, G5, hs, hq, hri, hV5, hoff5, hM5, hE5, hS5, hQ5, hQ6⟩
        obtain ⟨z, rfl⟩ := hs.out
        try dsimp only
        clear hs
        have hVb5 := hV5 _ _ hVb4
        refine XWP.seq ?_
        by_cases hi : i < R
        rotate_left
        · obtain rfl : i = R := by omega
          have b5 : decide ((i : Int) < (i : Int)) = false := decide_eq_false (by omega)
          refine Gx.a (by kernel_rfl) fun K hK => ?_
          simp only [XM, XA]
          refine ld_mem (ldV1 hVb5 (off := 0) rfl shapeT_3 _) ?_
          simp only [XA, XB, b5]
          refine hK _ ?_
          refine Gx.f rfl ?_
          refine XWP.exit ?_
          exact fun f => ⟨V5, H5, G5, StIs.of (by exact rfl), hV5, hoff5, hM5, hE5, hS5, hQ5⟩
        have b5 : decide ((i : Int) < (R : Int)) = true := decide_eq_true (by omega)
        refine Gx.a (by kernel_rfl) fun K hK => ?_
        simp only [XM, XA]
        refine ld_mem (ldV1 hVb5 (off := 0) rfl shapeT_3 _) ?_
        simp only [XA, XB, b5]
        refine hK _ ?_
        refine Gx.t rfl ?_
        refine XWP.skip ?_
        refine XWP.seq ?_
        refine XWP.block ?_
        refine Gx.mc 4 hΓ rfl (by kernel_rfl) (by kernel_rfl) fun K hK => ?_
        simp only [XA, Nat.reduceAdd]
        refine ld_mem (ldV3 hVb5 shapeT_24 _) ?_
        simp only [XA]
        have hgm2 : 4 * ge B col + 2 ≤ 4 * ge B n + 2 := by omega
        refine mcall_go rfl rfl (clear_m H5 V5 g cap R C rank i col (ge B col) G5 hM5 hR hC hr hi (by omega) (by omega) hS5.piv (fun k hk => hQ6 i k hi hk (.inr (Nat.le_refl _))) (fun k hk => hQ6 rank k hr hk (.inl rfl)) (by omega)) fun v6 H6 V6 h6 => ?_
        obtain ⟨hV6, hoff6, hM6⟩ := h6
        simp only [XA]
        refine hK _ ?_
        refine Gx.c (by kernel_rfl) fun K hK => ?_
        simp only [XA, XB, i64_succ i (by omega)]
        have hnew : ∀ a k, a < R → k < C → QB (ge B (col + 1)) (gsub G5 i rank (G5 i col / G5 rank col) a k) := fun a k h1 h2 => by
          unfold gsub
          split
          · have d1 := (hQ6 i col hi (by omega) (.inr (Nat.le_refl _))).div (hQ6 rank col hr (by omega) (.inl rfl))
            exact ((hQ6 i k hi h2 (.inr (Nat.le_refl _))).sub (d1.mul (hQ6 rank k hr h2 (.inl rfl)))).mono (by simp only [ge]; omega)
          · exact hQ5 a k h1 h2
        exact hK _ ⟨q - 1, by omega, fun f => ⟨i + 1, V6, H6, _, StIs.of (by exact rfl), by omega, by omega, View.le_trans hV5 hV6, fun k r hk hr' => by rw [hoff6 k hk]; exact hoff5 k r hk hr', hM6, hE5.trans (REq.sub G5 _ hi hr (by omega)), hS5.step hri hi, hnew, fun a k h1 h2 h3 => by
          unfold gsub
          rw [if_neg (by omega)]; exact hQ6 a k h1 h2 (by omega)⟩⟩
      rintro s ⟨V5, H5, G5, hs, hV5, hoff5, hM5, hE5, hS5, hQ5⟩
      obtain ⟨z, rfl⟩ := hs.out
      try dsimp only
      clear hs
      refine Gx.c (by kernel_rfl) fun K hK => ?_
      simp only [XA, XB, i64_succ rank (by omega)]
      exact hK _ fun f => ⟨V5, H5, G5, rank + 1, odd4, StIs.of (by exact rfl), View.le_trans hV3 (View.le_trans hV4 hV5), fun k r hk hr' => hoff5 k r hk (hoff4 k r hk hr'), hM5, hE4.trans hE5, hS5.done hr, hQ5⟩
    rintro s ⟨V3, H3, G3, rank3, odd3, hs, hV3, hoff3, hM3, hE3, hS3, hQ3⟩
    obtain ⟨z, rfl⟩ := hs.out
    try dsimp only
    clear hs
    refine Gx.c (by kernel_rfl) fun K hK => ?_
    simp only [XA, XB, i64_succ col (by omega)]
    exact hK _ ⟨m - 1, by omega, fun f => ⟨col + 1, V3, H3, G3, rank3, odd3, StIs.of (by exact rfl), by omega, View.le_trans hV2 hV3, fun k r hk hr' => hoff3 k r hk (hoff k r hk hr'), hM3, hE.trans hE3, hS3, hQ3⟩⟩
  rintro s ⟨V2, H2, G, rank, odd, hs, hV2, hoff, hM, hR'⟩
  obtain ⟨z, rfl⟩ := hs.out
  try dsimp only
  refine Gx.a (by kernel_rfl) fun K hK => ?_
  simp only [XA]
  refine hK _ (XWP.ret ?_)
  try simp only [thenX_ret, inBlockX_ret]
  exact retM_go _ rfl ⟨rank, odd, G, rfl, View.le_trans hle hV2, fun k r hk hkr => hoff k r hk (hoff0 k r hkr), hM, hR'⟩
end Go.Proofs.YtkgmicakfmllmaaGreat
end
section
namespace Go.Proofs.YtkgmicakfmllmaaGreat
open Go Go.RowKit
set_option linter.unusedSimpArgs false
set_option linter.unusedVariables false
attribute [local irreducible] XWP Spec SpecO XPub XCall seqX clX apX stX ldX iaX slX
theorem gindex_c {g : FuncId} {p : Raw → Bool} (hcl : callable Tryz.prog g = true) (hg : ∀ (V : View) (v : Value) (r : Raw), rawE V v r → r.fit → Spec Tryz.prog g [v] V fun v' V' => v' = .bool (p r)) (V : View) (v : Value) (l : List Raw) (h : Raws V v l) (f : fitR l) (ll : l.length ≤ 1000000) : Spec Tryz.prog 142 [v, .func (.func g) #[] #[]] V fun v' V' => ∃ r : Int, v' = .int .i64 r ∧ decide (0 ≤ r) = l.any p := by
  obtain ⟨A, c, rfl, hc, hm⟩ := h.form
  refine (Spec.enter Tryz.func142 rfl fun Γ => ?_)
  simp only [Tryz.ntmps142, List.map_cons, List.map_nil, List.length_cons, List.length_nil, Nat.reduceAdd, Nat.reduceSub, List.replicate_succ, List.replicate_zero, List.cons_append, List.nil_append]
  refine Gx.a (by kernel_rfl) fun K hK => ?_
  simp only [XA]
  refine hK _ ?_
  refine XWP.cut (fun s => StIs (fun Z => [Z 0,Z 1,Z 2,Z 3,Z 4,Z 5,Z 6,Z 7,Z 8,Z 9,Z 10,Z 11,Z 12,Z 13,Z 14,Z 15,Z 16,Z 17,Z 18]) [] (fun _ => none) s.V s ∧ l.any p = false) ?_ ?_
  · refine Gx.a (by kernel_rfl) fun K hK => ?_
    simp only [XA, XB]
    refine hK _ ?_
    clear hK
    refine XWP.block ?_
    refine XWP.loop (fun n s => ∃ (k : Nat) (V2 : View), StIs (fun Z => [.v (.slice A l.length c), .v (.func (.func g) #[] #[]), Z 2,Z 3,Z 4,Z 5,Z 6, .v (.int .i64 (l.length : Int)), .v (.int .i64 (k : Int)), Z 9,Z 10,Z 11,Z 12,Z 13,Z 14,Z 15,Z 16,Z 17,Z 18]) [] (fun _ => none) V2 s ∧ V.le V2 ∧ n + k = l.length ∧ (l.take k).any p = false) l.length ⟨0, V, StIs.of (by exact rfl), View.le_refl _, rfl, by simp⟩ ?_
    rintro n s ⟨k, V2, hs, hV2, hn, hk⟩
    obtain ⟨u, rfl⟩ := hs.out
    try dsimp only
    by_cases hlt : k < l.length
    · have b1 : decide ((k : Int) < (l.length : Int)) = true := decide_eq_true (by omega)
      refine Gx.a (by kernel_rfl) fun K hK => ?_
      simp only [XA, XB, b1]
      refine hK _ ?_
      refine XWP.seq (Gx.t rfl ?_)
      refine XWP.skip ?_
      refine XWP.seq ?_
      refine XWP.block ?_
      refine Gx.a (by kernel_rfl) fun K hK => ?_
      simp only [XA]
      refine hK _ ?_
      refine Gx.a (by kernel_rfl) fun K hK => ?_
      have hv2 := Raws.up h hV2
      obtain ⟨b, o, rfl⟩ := SlAt.addr hv2 (by omega)
      obtain ⟨x, hx, ⟨m3, n3, d3, rfl, p1, p2, p3⟩, hld⟩ := SlAt.load hv2 k hlt
      simp only [XA, XB]
      refine ⟨by omega, by omega, ld_mem (hld _) ?_⟩
      simp only [XA]
      refine call_go hcl rfl (hg _ _ _ hx (f _ (List.getElem_mem hlt))) fun v3 V3 hV3 h3 => ?_
      subst h3
      have et : l.take (k + 1) = l.take k ++ [l[k]] := by rw [List.take_succ_eq_append_getElem hlt]
      cases hr : p l[k]
      rotate_left
      · simp only [XA]
        refine hK _ ?_
        refine Gx.t rfl ?_
        refine Gx.a (by kernel_rfl) fun K hK => ?_
        simp only [XA]
        refine hK _ (XWP.ret ?_)
        try simp only [thenX_ret, inBlockX_ret]
        refine ret_go _ rfl ?_
        refine ⟨k, rfl, ?_⟩
        have : l.any p = true := List.any_eq_true.2 ⟨l[k], List.getElem_mem hlt, hr⟩
        rw [this, decide_eq_true (by omega)]
      · simp only [XA]
        refine hK _ ?_
        refine Gx.f rfl ?_
        refine XWP.skip ?_
        refine Gx.c (by kernel_rfl) fun K hK => ?_
        simp only [XA, XB, i64_succ k (by omega)]
        refine hK _ ⟨n - 1, by omega, k + 1, V3, StIs.of (by exact rfl), View.le_trans hV2 hV3, by omega, ?_⟩
        rw [et, List.any_append, hk]
        simp [hr]
    · have b1 : decide ((k : Int) < (l.length : Int)) = false := decide_eq_false (by omega)
      refine Gx.a (by kernel_rfl) fun K hK => ?_
      simp only [XA, XB, b1]
      refine hK _ ?_
      refine XWP.seq (Gx.f rfl ?_)
      refine XWP.exit ?_
      rw [List.take_of_length_le (by omega)] at hk
      exact ⟨StIs.of (by exact rfl), hk⟩
  rintro s ⟨hs, hk⟩
  obtain ⟨t, bx, H, V2⟩ := s
  obtain ⟨u, e⟩ := hs.out
  cases e
  try dsimp only
  refine Gx.a (by kernel_rfl) fun K hK => ?_
  simp only [XA]
  refine hK _ (XWP.ret ?_)
  try simp only [thenX_ret, inBlockX_ret]
  refine ret_go _ rfl ?_
  exact ⟨-1, rfl, by rw [hk]; rfl⟩
theorem gcontains_c {g : FuncId} {p : Raw → Bool} (hcl : callable Tryz.prog g = true) (hg : ∀ (V : View) (v : Value) (r : Raw), rawE V v r → r.fit → Spec Tryz.prog g [v] V fun v' V' => v' = .bool (p r)) (V : View) (v : Value) (l : List Raw) (h : Raws V v l) (f : fitR l) (ll : l.length ≤ 1000000) : Spec Tryz.prog 92 [v, .func (.func g) #[] #[]] V fun v' V' => v' = .bool (l.any p) := by
  refine (Spec.enter Tryz.func92 rfl fun Γ => ?_)
  simp only [Tryz.ntmps92, List.map_cons, List.map_nil, List.length_cons, List.length_nil, Nat.reduceAdd, Nat.reduceSub, List.replicate_succ, List.replicate_zero, List.cons_append, List.nil_append]
  refine Gx.a (by kernel_rfl) fun K hK => ?_
  simp only [XA]
  refine hK _ ?_
  refine Gx.a (by kernel_rfl) fun K hK => ?_
  simp only [XA]
  refine call_go (by kernel_rfl) rfl (gindex_c hcl hg _ _ _ h f ll) fun v1 V1 hV1 h1 => ?_
  obtain ⟨r, rfl, hr⟩ := h1
  simp only [XA, XB, hr]
  refine hK _ (XWP.ret ?_)
  try simp only [thenX_ret, inBlockX_ret]
  refine ret_go _ rfl ?_
  rfl
end Go.Proofs.YtkgmicakfmllmaaGreat
end
section
namespace Go.Proofs.YtkgmicakfmllmaaGreat
open Go Go.RowKit
set_option linter.unusedSimpArgs false
set_option linter.unusedVariables false
attribute [local irreducible] XWP Spec SpecO XPub XCall seqX clX apX stX ldX iaX slX
/-- the sum of a list, from the first on -/
def sumL (l : List Rat) (k : Nat) : Rat := Sm (cf l) k
theorem sumL_QB {l : List Rat} {B : Nat} (h : ∀ x ∈ l, QB B x) : ∀ k, k ≤ l.length → QB (k * (B + 1)) (sumL l k)
  | 0, _ => QB_zero _
  | k + 1, hk => by
    have ih := sumL_QB h k (by omega)
    have h2 := h _ (cf_mem (l := l) (i := k) (by omega))
    exact (ih.add h2).mono (by rw [Nat.add_mul]; omega)
theorem qsum_c (V : View) (v : Value) (l : List Rat) (B : Nat) (h : Rats V v l) (hq : ∀ x ∈ l, QB B x) (ll : l.length ≤ 1000) (hB : 1001 * (B + 1) ≤ 17592186044416) : Spec Tryz.prog 95 [v] V fun v' V' => RatC V' v' (sumL l l.length) := by
  obtain ⟨A, c, rfl, hc, hm⟩ := h.form
  have hS : ∀ k, k ≤ l.length → QB (1000 * (B + 1)) (sumL l k) := fun k hk => (sumL_QB hq k hk).mono (Nat.mul_le_mul_right _ (by omega))
  have hf : 1000 * (B + 1) ≤ 17592186044416 := by omega
  refine (Spec.enter Tryz.func95 rfl fun Γ => ?_)
  simp only [Tryz.ntmps95, List.map_cons, List.map_nil, List.length_cons, List.length_nil, Nat.reduceAdd, Nat.reduceSub, List.replicate_succ, List.replicate_zero, List.cons_append, List.nil_append]
  refine Gx.a (by kernel_rfl) fun K hK => ?_
  simp only [XA, XB]
  refine hK _ ?_
  refine Gx.a (by kernel_rfl) fun K hK => ?_
  simp only [XA]
  refine call_go (by kernel_rfl) rfl (qzero_c _) fun v1 V1 hV1 h1 => ?_
  obtain ⟨x1, y1, rfl, o1, o2⟩ := h1.form
  simp only [XA, XB]
  refine st_rat rfl rfl rfl o1 o2 ?_
  simp only [XA]
  refine hK _ ?_
  refine XWP.cutD 2 (fun s => ∃ (V2 : View) (m : Bool) (x y : Value), StIs (fun Z => [Z 0,Z 1, .p 0 0, .p 1 0, Z 4,Z 5,Z 6,Z 7,Z 8,Z 9,Z 10,Z 11,Z 12,Z 13,Z 14,Z 15,Z 16,Z 17]) [[.bool false, .slice none 0 0, .slice none 0 0], [.bool m, x, y]] (fun _ => none) V2 s ∧ RatC V2 (.agg #[.bool m, x, y]) (sumL l l.length) ∧ isOne x = true ∧ isOne y = true) ?_ ?_
  · refine Gx.a (by kernel_rfl) fun K hK => ?_
    simp only [XA, XB]
    refine hK _ ?_
    clear hK
    refine XWP.block ?_
    refine XWP.loopD 2 (fun n s => ∃ (k : Nat) (V2 : View) (m : Bool) (x y : Value), StIs (fun Z => [Z 0,Z 1, .p 0 0, .p 1 0, Z 4,Z 5,Z 6, .v (.slice A l.length c), .v (.int .i64 (l.length : Int)), .v (.int .i64 (k : Int)), Z 10,Z 11,Z 12,Z 13,Z 14,Z 15,Z 16,Z 17]) [[.bool false, .slice none 0 0, .slice none 0 0], [.bool m, x, y]] (fun _ => none) V2 s ∧ n + k = l.length ∧ V.le V2 ∧ RatC V2 (.agg #[.bool m, x, y]) (sumL l k) ∧ isOne x = true ∧ isOne y = true) l.length ⟨0, V1, _, _, _, StIs.of (by exact rfl), by omega, hV1, h1, o1, o2⟩ ?_
    clear h1 o1 o2
    rintro n s ⟨k, V2, m, x, y, hs, hn, hV2, h2, o1, o2⟩
    obtain ⟨z, rfl⟩ := hs.out
    try dsimp only
    clear hs
    by_cases hk : k < l.length
    rotate_left
    · obtain rfl : k = l.length := by omega
      have b1 : decide ((l.length : Int) < (l.length : Int)) = false := decide_eq_false (by omega)
      refine Gx.a (by kernel_rfl) fun K hK => ?_
      simp only [XA, XB, b1]
      refine hK _ ?_
      refine XWP.seq (Gx.f rfl ?_)
      refine XWP.exit ?_
      exact fun f => ⟨V2, m, x, y, StIs.of (by exact rfl), h2, o1, o2⟩
    have b1 : decide ((k : Int) < (l.length : Int)) = true := decide_eq_true (by omega)
    have hv2 := h.up hV2
    obtain ⟨b, o, rfl⟩ := SlAt.addr hv2 (by omega)
    obtain ⟨m3, n3, d3, hx, ⟨p1, p2, p3⟩, hld⟩ := Rats.get hv2 k hk
    refine Gx.a (by kernel_rfl) fun K hK => ?_
    simp only [XA, XB, b1]
    refine hK _ ?_
    refine XWP.seq (Gx.t rfl ?_)
    refine XWP.skip ?_
    refine XWP.seq ?_
    refine XWP.block ?_
    refine Gx.a (by kernel_rfl) fun K hK => ?_
    simp only [XA, XB]
    refine ⟨by omega, by omega, ld_mem (hld _) ?_⟩
    simp only [XA, XB, Nat.reduceAdd]
    refine st_rat rfl rfl p1 p2 p3 ?_
    simp only [XA]
    refine hK _ ?_
    refine Gx.c (by kernel_rfl) fun K hK => ?_
    simp only [XA, XB, Nat.reduceAdd, Nat.reduceLeDiff, ↓reduceIte]
    refine call_go (by kernel_rfl) rfl (qadd_c _ _ _ _ _ h2 hx ((hS k (by omega)).qf hf) ((hq _ (cf_mem hk)).qf (by omega))) fun v3 V3 hV3 h3 => ?_
    obtain ⟨x3, y3, rfl, o3, o4⟩ := h3.form
    simp only [XA]
    refine st_rat rfl rfl rfl o3 o4 ?_
    simp only [XA]
    refine hK _ ?_
    refine Gx.c (by kernel_rfl) fun K hK => ?_
    simp only [XA, XB, i64_succ k (by omega)]
    exact hK _ ⟨n - 1, by omega, fun f => ⟨k + 1, V3, _, x3, y3, StIs.of (by exact rfl), by omega, View.le_trans hV2 hV3, h3, o3, o4⟩⟩
  rintro s ⟨V2, m, x, y, hs, h2, o1, o2⟩
  obtain ⟨z, rfl⟩ := hs.out
  try dsimp only
  refine Gx.a (by kernel_rfl) fun K hK => ?_
  simp only [XA, XB, Nat.reduceAdd, Nat.reduceLeDiff, ↓reduceIte]
  refine st_rat rfl rfl rfl o1 o2 ?_
  simp only [XA]
  refine hK _ (XWP.ret ?_)
  try simp only [thenX_ret, inBlockX_ret]
  exact ret_rat1 rfl rfl rfl h2
theorem law1_c (V : View) (v : Value) (r : Raw) (h : rawE V v r) (f : r.fit) : Spec Tryz.prog 93 [v] V fun v' V' => v' = .bool (!wtR r) := by
  have h0 := h
  obtain ⟨n, d, rfl, hn, hd⟩ := h
  refine (Spec.enter Tryz.func93 rfl fun Γ => ?_)
  simp only [Tryz.ntmps93, List.map_cons, List.map_nil, List.length_cons, List.length_nil, Nat.reduceAdd, Nat.reduceSub, List.replicate_succ, List.replicate_zero, List.cons_append, List.nil_append]
  refine Gx.a (by kernel_rfl) fun K hK => ?_
  simp only [XA]
  refine hK _ ?_
  refine Gx.a (by kernel_rfl) fun K hK => ?_
  simp only [XA, XB, Nat.reduceAdd, Nat.reduceLeDiff, ↓reduceIte]
  refine call_go (by kernel_rfl) rfl (qright_c _ _ _ _ _ h0 f.1 f.2) fun v1 V1 hV1 h1 => ?_
  subst h1
  cases e : rawOk r.m r.nd r.dd
  · simp only [XA, gateX, ↓reduceIte]
    refine hK _ (XWP.ret ?_)
    try simp only [thenX_ret, inBlockX_ret]
    refine ret_go _ rfl ?_
    have : wtR r = false := by unfold wtR Raw.ok; rw [e]; rfl
    rw [this]; rfl
  · simp only [XA, XB, gateX, ↓reduceIte, beq_self_eq_true]
    refine hK _ (XWP.ret ?_)
    try simp only [thenX_ret, inBlockX_ret]
    refine ret_go _ rfl ?_
    have h2 : ng r.q = r.m := RawAt.neg h0 e
    have : wtR r = !r.m := by unfold wtR Raw.ok; rw [e, h2]; rfl
    rw [this, Bool.not_not]; rfl
theorem wts_any (l : List Raw) : (l.any fun r => !wtR r) = !wtsR l := by
  unfold wtsR
  induction l with
  | nil => rfl
  | cons r l ih => rw [List.any_cons, List.all_cons, ih, Bool.not_and]
/-- a law: parts that are not negative and sum to 1 -/
def lawB (L : List Raw) : Bool := wtsR L && decide (sumL (qs L) L.length = 1)
theorem blaw_c (V : View) (v : Value) (L : List Raw) (B : Nat) (h : Raws V v L) (f : fitR L) (ll : L.length ≤ 1000) (hq : okR L = true → ∀ x ∈ qs L, QB B x) (hB : 1001 * (B + 1) ≤ 17592186044416) : Spec Tryz.prog 43 [v] V fun v' V' => v' = .bool (lawB L) := by
  obtain ⟨A, c, rfl, hc, hm⟩ := h.form
  refine (Spec.enter Tryz.func43 rfl fun Γ => ?_)
  simp only [Tryz.ntmps43, List.map_cons, List.map_nil, List.length_cons, List.length_nil, Nat.reduceAdd, Nat.reduceSub, List.replicate_succ, List.replicate_zero, List.cons_append, List.nil_append]
  refine Gx.a (by kernel_rfl) fun K hK => ?_
  simp only [XA]
  refine hK _ ?_
  refine Gx.a (by kernel_rfl) fun K hK => ?_
  simp only [XA]
  refine call_go (by kernel_rfl) rfl (gcontains_c (g := 93) (p := fun r => !wtR r) (by kernel_rfl) law1_c _ _ _ h f (by omega)) fun v1 V1 hV1 h1 => ?_
  subst h1
  rw [wts_any]
  cases e : wtsR L
  · simp only [XA, gateX, ↓reduceIte]
    refine hK _ (XWP.ret ?_)
    try simp only [thenX_ret, inBlockX_ret]
    refine ret_go _ rfl ?_
    unfold lawB
    rw [e]; rfl
  have ok := (wtsR_ok e).1
  have hr := (Raws.rats h ok).up hV1
  have hlen := qs_len L
  simp only [XA, gateX, ↓reduceIte, beq_self_eq_true]
  refine call_go (by kernel_rfl) rfl (qsum_c _ _ _ B hr (hq ok) (by omega) hB) fun v2 V2 hV2 h2 => ?_
  rw [hlen] at h2
  simp only [XA, gateX, ↓reduceIte, beq_self_eq_true]
  refine call_go (by kernel_rfl) rfl (qone_c _) fun v3 V3 hV3 h3 => ?_
  simp only [XA, gateX, ↓reduceIte, beq_self_eq_true]
  have qs2 : QF (sumL (qs L) L.length) := by
    have := sumL_QB (hq ok) L.length (by omega)
    refine this.qf (Nat.le_trans (Nat.mul_le_mul_right _ (show L.length ≤ 1001 by omega)) hB)
  refine call_go (by kernel_rfl) rfl (qsame_c _ _ _ _ _ (h2.mono hV3) h3 qs2 QF_one) fun v4 V4 hV4 h4 => ?_
  subst h4
  simp only [XA, ↓reduceIte]
  refine hK _ (XWP.ret ?_)
  try simp only [thenX_ret, inBlockX_ret]
  refine ret_go _ rfl ?_
  unfold lawB
  rw [e]; rfl
end Go.Proofs.YtkgmicakfmllmaaGreat
end
section
namespace Go.Proofs.YtkgmicakfmllmaaGreat
open Go Go.RowKit
abbrev conc0 (t : List SV) : Array Value := (t.map (SV.conc fun _ => 0)).toArray
def YQ (Q : Exit → List SV → World → Prop) : Exit → Act → World → Prop := fun e a W => ∃ t, a.tmps = conc0 t ∧ a.defers = [] ∧ Q e t W
def YW (P : Program) (c : Code) (Q : Exit → List SV → World → Prop) (t : List SV) (W : World) : Prop :=
  ∀ a : Act, a.tmps = conc0 t → a.defers = [] → c.wpIn Fence.wide 0 P (YQ Q) a W
def thenY (K : List SV → World → Prop) (Q : Exit → List SV → World → Prop) : Exit → List SV → World → Prop
  | .normal, t, W => K t W
  | e, t, W => Q e t W
def inBlockY (id : Nat) (Q : Exit → List SV → World → Prop) : Exit → List SV → World → Prop
  | .exit id', t, W => if id' = id then Q .normal t W else Q (.exit id') t W
  | e, t, W => Q e t W
section
variable {P : Program} {Q : Exit → List SV → World → Prop} {t : List SV} {W : World}
theorem YW.apply {c : Code} {t : List SV} {a : Act} (h : YW P c Q t W) (h1 : a.tmps = conc0 t) (h2 : a.defers = []) : c.wpIn Fence.wide 0 P (YQ Q) a W := h a h1 h2
theorem YW.seq {x y : Code} (h : YW P x (thenY (YW P y Q) Q) t W) : YW P (.seq x y) Q t W := fun a h1 h2 =>
  wpIn_seq (wpIn_mono (h a h1 h2) fun e a w hq => by
    obtain ⟨t', h1', h2', q⟩ := hq
    cases e <;> first
      | exact q a h1' h2'
      | exact ⟨t', h1', h2', q⟩)
theorem YW.skip (h : Q .normal t W) : YW P .skip Q t W := fun _ h1 h2 => wpIn_skip ⟨t, h1, h2, h⟩
theorem YW.ret (h : Q .ret t W) : YW P .ret Q t W := fun _ h1 h2 => wpIn_ret ⟨t, h1, h2, h⟩
theorem YW.exit {i : Nat} (h : Q (.exit i) t W) : YW P (.exit i) Q t W := fun _ h1 h2 => wpIn_exit ⟨t, h1, h2, h⟩
theorem YW.block {i : Nat} {c : Code} (h : YW P c (inBlockY i Q) t W) : YW P (.block i c) Q t W := fun a h1 h2 =>
  wpIn_block (wpIn_mono (h a h1 h2) fun e a w hq => by
    obtain ⟨t', h1', h2', q⟩ := hq
    cases e with
    | exit j =>
      simp only [inBlockY] at q
      simp only [Exit.inBlock]
      split <;> rename_i hj
      · exact ⟨t', h1', h2', by simpa [hj] using q⟩
      · exact ⟨t', h1', h2', by simpa [hj] using q⟩
    | _ => exact ⟨t', h1', h2', q⟩)
theorem ev0 {a : Act} (h : a.tmps = conc0 t) (x : Operand) (H : Heap) (V : View) : a.eval x = ((⟨t, [], H, V⟩ : XS).ev x).conc fun _ => 0 := ev_conc (s := ⟨t, [], H, V⟩) h x
theorem YW.cond {c : Operand} {x y : Code} {b : Bool} {V : View} (hc : (⟨t, [], fun _ => none, V⟩ : XS).ev c = .v (.bool b)) (h1 : b = true → YW P x Q t W) (h2 : b = false → YW P y Q t W) : YW P (.cond c x y) Q t W := fun a e1 e2 =>
  wpIn_cond_split (t := b) (by rw [ev0 e1 c (fun _ => none) V, hc]; rfl) (fun e => h1 e a e1 e2) (fun e => h2 e a e1 e2)
theorem YW.loop {c : Code} (I : Nat → List SV → World → Prop) (n : Nat) (h0 : I n t W) (hr : ∀ n t W, I n t W → YW P c (thenY (fun t' W' => ∃ m, m < n ∧ I m t' W') Q) t W) : YW P (.loop c) Q t W := by
  intro a e1 e2
  have key : ∀ n t W a, I n t W → a.tmps = conc0 t → a.defers = [] → ∀ (b : Frame) (k : List Item) (cs : List Frame), b.roundOf = none →
      ∃ e a' w', YQ Q e a' w' ∧ ArrivesIn (Machine.fenced P Fence.wide) P (lone (b.atR a (.code c :: .inLoop c :: k)) cs W) b k cs e a' w' := by
    intro n
    induction n using Nat.strongRecOn with
    | _ n ih =>
      intro t W a hI e1 e2 b k cs hro
      obtain ⟨e, a₁, w₁, ⟨t1, h1, h2, hq⟩, harr⟩ := hr n t W hI a e1 e2 b (.inLoop c :: k) cs hro trivial (room_wide _)
      cases e with
      | normal =>
        obtain ⟨m, hm, hI1⟩ := hq
        obtain ⟨e₂, a₂, w₂, hq₂, harr₂⟩ := ih m hm t1 w₁ a₁ hI1 h1 h2 b k cs hro
        exact ⟨e₂, a₂, w₂, hq₂, .of_steps (StepsIn.trans harr (.one (fenced_calm (F := Fence.wide) (n := 0) (fr := b.atR a₁ (.inLoop c :: k)) trivial (room_wide _) rfl) stepR_inLoop)) harr₂⟩
      | exit id => exact ⟨_, a₁, w₁, ⟨t1, h1, h2, hq⟩, .pass (x := .inLoop c) rfl (fun _ _ => .inl (by simp)) harr⟩
      | goto l => exact ⟨_, a₁, w₁, ⟨t1, h1, h2, hq⟩, .pass (x := .inLoop c) rfl (fun _ _ => .inl (by simp)) harr⟩
      | ret => exact ⟨_, a₁, w₁, ⟨t1, h1, h2, hq⟩, .pass (x := .inLoop c) rfl (fun _ _ => .inl (by simp)) harr⟩
      | panic ch => exact ⟨_, a₁, w₁, ⟨t1, h1, h2, hq⟩, .pass (x := .inLoop c) rfl (fun _ _ => .inl (by simp)) harr⟩
      | outgrown => exact ⟨_, a₁, w₁, ⟨t1, h1, h2, hq⟩, .pass (x := .inLoop c) rfl (fun _ _ => .inl (by simp)) harr⟩
  intro b k cs hro _ _
  obtain ⟨e, a', w', hq, harr⟩ := key n t W a h0 e1 e2 b k cs hro
  exact ⟨e, a', w', hq, .of_steps (.one (fenced_calm (F := Fence.wide) (n := 0) (fr := b.atR a (.code (.loop c) :: k)) trivial (room_wide _) rfl) stepR_loop) harr⟩
/-- operations that read alone -/
theorem reads_in {ops : Array Oper} {V : View} {Q' : Exit → Act → World → Prop} (hV : V.sub W) (rest : List Nat) : ∀ (l : List Oper) (k : Nat) (K : XS → Prop) (t : List SV) (a : Act), (∀ i o, l[i]? = some o → ops[k + i]? = some o) → (l.all fun o => isRead o.op && o.guard.isNone) = true →
    a.tmps = conc0 t → a.defers = [] → (∀ x ∈ t, x.ok 0) → seqX P ops l K ⟨t, [], fun _ => none, V⟩ → (∀ t' a', a'.tmps = conc0 t' → a'.defers = [] → (∀ x ∈ t', x.ok 0) → K ⟨t', [], fun _ => none, V⟩ → wpOpsIn Fence.wide 0 P ops Q' rest a' W) →
    wpOpsIn Fence.wide 0 P ops Q' (List.range' k l.length ++ rest) a W
  | [], k, K, t, a, _, _, e1, e2, hok, h, hk => by simpa using hk t a e1 e2 hok h
  | o :: l, k, K, t, a, hi, hall, e1, e2, hok, h, hk => by
    simp only [List.all_cons, Bool.and_eq_true] at hall
    obtain ⟨⟨hrd, hgd⟩, hall⟩ := hall
    have ho : ops[k]? = some o := by simpa using hi 0 o (by simp)
    have hg : o.guard = none := by cases hx : o.guard <;> simp_all
    simp only [List.length_cons, List.range'_succ, List.cons_append]
    rw [wpOpsIn_cons]
    unfold wpOpIn
    simp only [ho]
    have hw : Region.wanted o (yielded ops a.tmps) = true := by unfold Region.wanted; rw [hg]
    rw [if_pos hw]
    unfold seqX stepX at h
    rw [hg] at h
    dsimp only at h
    unfold opX at h
    rw [if_pos hrd] at h
    obtain ⟨sv, ⟨hsv, hrun⟩, h⟩ := readX_sound (s := ⟨t, [], fun _ => none, V⟩) hok h
    have hr := hrun ⟨W, V, W, none⟩ (fun _ => 0) a W e1 ⟨fun i vs hi => by simp at hi, fun b r hb => (by cases hb), hV, Below.refl _ _⟩
    refine ⟨fun _ _ => trivial, ?_⟩
    have hd : ∀ c, o.op ≠ .defer c := fun c e => by rw [e] at hrd; cases hrd
    rw [Oper.semAt_eq _ _ _ hd, hr]
    have hconc : Conc ⟨W, V, W, none⟩ (fun _ => 0) ⟨t, [], fun _ => none, V⟩ a W := ⟨e1, ⟨⟨[], by rw [e2]; rfl, List.nodup_nil, fun D hD => by simp at hD⟩, KeepsOthers.refl _⟩, ⟨fun i vs hi => by simp at hi, fun b r hb => (by cases hb), hV, Below.refl _ _⟩, ⟨fun i j hi => by simp at hi, fun i hi => by simp at hi, fun b r hb => (by cases hb), View.le_refl _, View.from_refl _ _⟩, hok⟩
    have hput := hconc.put o.dst sv hsv
    have et : (XS.put ⟨t, [], fun _ => none, V⟩ o.dst sv) = ⟨(XS.put ⟨t, [], fun _ => none, V⟩ o.dst sv).t, [], fun _ => none, V⟩ := by cases o.dst <;> rfl
    rw [et] at h
    have hok2 : ∀ x ∈ (XS.put ⟨t, [], fun _ => none, V⟩ o.dst sv).t, x.ok 0 := by
      have := put_ok (s := ⟨t, [], fun _ => none, V⟩) hok o.dst hsv
      rw [XS.put_bx] at this; exact this
    refine reads_in hV rest l (k + 1) K _ _ (fun i o' h' => ?_) hall hput.tm ?_ hok2 h hk
    · have := hi (i + 1) o' (by simpa using h')
      rw [show k + 1 + i = k + (i + 1) by omega]; exact this
    · cases o.dst <;> exact e2
theorem YW.reads {id : Nat} {ops : Array Oper} {V : View} (hV : V.sub W) (hok : ∀ x ∈ t, x.ok 0) (hall : (ops.toList.all fun o => isRead o.op && o.guard.isNone) = true) (h : seqX P ops ops.toList (fun s => (∀ x ∈ s.t, x.ok 0) → Q .normal s.t W) ⟨t, [], fun _ => none, V⟩) : YW P (.region id ops false) Q t W := fun a e1 e2 => by
  refine wpIn_region ?_
  have := reads_in (Q' := YQ Q) hV [] ops.toList 0 _ t a (fun i o h => by simpa using h) hall e1 e2 hok h fun t' a' e1' e2' hok' hk => ⟨t', e1', e2', hk hok'⟩
  rwa [List.append_nil, Array.length_toList, ← List.range_eq_range'] at this
/-- reads, a call of yield, reads -/
theorem YW.yield {id : Nat} {ops : Array Oper} {V : View} {pre post : List Oper} {d : Option Tmp} {x : Tmp} {xs : List Operand} {ts : Array TypeId} {ty pos af} (hops : ops.toList = pre ++ ⟨d, .call ⟨.value (.tmp x), xs.toArray, ts⟩, ty, pos, af, none⟩ :: post) (hV : V.sub W) (hok : ∀ x ∈ t, x.ok 0)
    (hpre : (pre.all fun o => isRead o.op && o.guard.isNone) = true) (hpost : (post.all fun o => isRead o.op && o.guard.isNone) = true)
    (h : seqX P ops pre (fun s => ∃ (l : Nat) (args : List Value) (R : Ending → World → Prop), s.ev (.tmp x) = .v (.func (.yield l) #[] #[]) ∧ xs.map s.ev = args.map .v ∧ YieldAt Fence.wide 0 P l args.toArray W R ∧
      ∀ e W', R e W' → ∃ b, e = .returned (.bool b) ∧ V.sub W' ∧ seqX P ops post (fun s' => (∀ x ∈ s'.t, x.ok 0) → Q .normal s'.t W') (s.put d (.v (.bool b)))) ⟨t, [], fun _ => none, V⟩) : YW P (.region id ops false) Q t W := fun a e1 e2 => by
  refine wpIn_region ?_
  have hlen : List.range ops.size = List.range' 0 pre.length ++ (pre.length :: List.range' (pre.length + 1) post.length) := by
    have : ops.size = pre.length + (post.length + 1) := by rw [← Array.length_toList, hops]; simp
    rw [this, List.range_eq_range', ← List.range'_append_1, Nat.zero_add, List.range'_succ]
  rw [hlen]
  have hget : ∀ i : Nat, ops[i]? = (pre ++ ⟨d, .call ⟨.value (.tmp x), xs.toArray, ts⟩, ty, pos, af, none⟩ :: post)[i]? := fun i => by rw [← hops]; simp
  refine reads_in hV _ pre 0 _ t a (fun i o h => by
    rw [hget, Nat.zero_add, List.getElem?_append_left (List.getElem?_eq_some_iff.1 h).1]; exact h) hpre e1 e2 hok h fun t' a' e1' e2' hok' hk => ?_
  obtain ⟨l, args, R, hx, hxs, ⟨fn, tmps, assign, body, hrun, hround⟩, hR⟩ := hk
  rw [wpOpsIn_cons]
  unfold wpOpIn
  have ho : ops[pre.length]? = some ⟨d, .call ⟨.value (.tmp x), xs.toArray, ts⟩, ty, pos, af, none⟩ := by rw [hget, List.getElem?_append_right (Nat.le_refl _), Nat.sub_self]; rfl
  simp only [ho]
  rw [if_pos (by unfold Region.wanted; rfl)]
  refine ⟨fun _ _ => trivial, ?_⟩
  rw [Oper.semAt_eq _ _ _ (fun c e => by cases e)]
  have hev : a'.eval (.tmp x) = .func (.yield l) #[] #[] := by rw [ev0 e1' _ (fun _ => none) V, hx]; rfl
  have hargs : xs.toArray.map a'.eval = args.toArray := by
    apply Array.ext'
    simp only [Array.toList_map]
    have h2 : xs.map a'.eval = (xs.map (⟨t', [], fun _ => none, V⟩ : XS).ev).map (SV.conc fun _ => 0) := by
      rw [List.map_map]
      exact List.map_congr_left fun q _ => ev0 e1' q (fun _ => none) V
    rw [h2, hxs, List.map_map]
    have : (SV.conc fun _ => 0) ∘ SV.v = fun x => x := rfl
    rw [this, List.map_id']
  have hcall : (execOp a'.eval ⟨d, .call ⟨.value (.tmp x), xs.toArray, ts⟩, ty, pos, af, none⟩).run P W = .ok (.round l fn tmps assign body) W := by
    simp [execOp, resolve, hev, Deferred.ofValue, invoke, callFunc, hargs, hrun]
  rw [hcall]
  refine ⟨fun h => by simp [Fence.wide] at h, hround.mono fun e W' hre => ?_⟩
  obtain ⟨b, rfl, hV', hpo⟩ := hR e W' hre
  dsimp only
  have hokp : ∀ y ∈ (XS.put ⟨t', [], fun _ => none, V⟩ d (.v (.bool b))).t, y.ok 0 := by
    have := put_ok (s := ⟨t', [], fun _ => none, V⟩) hok' d (x := .v (.bool b)) trivial
    rw [XS.put_bx] at this; exact this
  have et : (XS.put ⟨t', [], fun _ => none, V⟩ d (.v (.bool b))) = ⟨(XS.put ⟨t', [], fun _ => none, V⟩ d (.v (.bool b))).t, [], fun _ => none, V⟩ := by cases d <;> rfl
  rw [et] at hpo
  have := reads_in (Q' := YQ Q) hV' [] post (pre.length + 1) _ _ (a'.put d (.bool b)) (fun i o h => by
    rw [hget, List.getElem?_append_right (by omega), show pre.length + 1 + i - pre.length = i + 1 by omega]; simpa using h) hpost (conc_put (s := ⟨t', [], fun _ => none, V⟩) e1' d (.v (.bool b))) (by cases d <;> exact e2') hokp hpo fun t2 a2 e3 e4 hok2 hk => ⟨t2, e3, e4, hk hok2⟩
  rwa [List.append_nil] at this
theorem YW.yieldAt {id : Nat} {ops : Array Oper} {V : View} (k : Nat) {d : Option Tmp} {x : Tmp} {xs : List Operand} {ts : Array TypeId} {ty pos af} (hk : ops.toList[k]? = some ⟨d, .call ⟨.value (.tmp x), xs.toArray, ts⟩, ty, pos, af, none⟩) (hV : V.sub W) (hok : ∀ x ∈ t, x.ok 0)
    (hpre : ((ops.toList.take k).all fun o => isRead o.op && o.guard.isNone) = true) (hpost : ((ops.toList.drop (k + 1)).all fun o => isRead o.op && o.guard.isNone) = true)
    (h : seqX P ops (ops.toList.take k) (fun s => ∃ (l : Nat) (args : List Value) (R : Ending → World → Prop), s.ev (.tmp x) = .v (.func (.yield l) #[] #[]) ∧ xs.map s.ev = args.map .v ∧ YieldAt Fence.wide 0 P l args.toArray W R ∧
      ∀ e W', R e W' → ∃ b, e = .returned (.bool b) ∧ V.sub W' ∧ seqX P ops (ops.toList.drop (k + 1)) (fun s' => (∀ x ∈ s'.t, x.ok 0) → Q .normal s'.t W') (s.put d (.v (.bool b)))) ⟨t, [], fun _ => none, V⟩) : YW P (.region id ops false) Q t W :=
  YW.yield (pre := ops.toList.take k) (post := ops.toList.drop (k + 1)) (d := d) (x := x) (xs := xs) (ts := ts) (ty := ty) (pos := pos) (af := af) (by
    obtain ⟨hlt, he⟩ := List.getElem?_eq_some_iff.1 hk
    rw [← he, List.getElem_cons_drop, List.take_append_drop]) hV hok hpre hpost h
end
end Go.Proofs.YtkgmicakfmllmaaGreat
end
section
namespace Go.Proofs.YtkgmicakfmllmaaGreat
open Go Go.RowKit
set_option linter.unusedSimpArgs false
set_option linter.unusedVariables false
attribute [local irreducible] XWP Spec SpecO XPub XCall seqX clX apX stX ldX iaX slX
end Go.Proofs.YtkgmicakfmllmaaGreat
end
section
namespace Go.Proofs.YtkgmicakfmllmaaGreat
open Go Go.RowKit
set_option linter.unusedSimpArgs false
set_option linter.unusedVariables false
attribute [local irreducible] XWP Spec SpecO XPub XCall seqX clX apX stX ldX iaX slX
end Go.Proofs.YtkgmicakfmllmaaGreat
end
section
namespace Go.Proofs.YtkgmicakfmllmaaGreat
open Go Go.RowKit
set_option linter.unusedSimpArgs false
set_option linter.unusedVariables false
attribute [local irreducible] XWP Spec SpecO XPub XCall seqX clX apX stX ldX iaX slX
attribute [local irreducible] YW
def TIs (F : (Nat → SV) → List SV) (t : List SV) : Prop := F (nth t) = t
theorem TIs.out {F : (Nat → SV) → List SV} {t : List SV} (h : TIs F t) : ∃ u, t = F u := ⟨nth t, h.symm⟩
/-- the program's way: from the highest power down -/
def hor (l : List Rat) (x : Rat) : Nat → Rat
  | 0 => 0
  | r + 1 => hor l x r * x + cf l (l.length - 1 - r)
end Go.Proofs.YtkgmicakfmllmaaGreat
end
section
namespace Go.Proofs.YtkgmicakfmllmaaGreat
open Go Go.RowKit
set_option linter.unusedSimpArgs false
set_option linter.unusedVariables false
attribute [local irreducible] XWP Spec SpecO XPub XCall seqX clX apX stX ldX iaX slX
attribute [local irreducible] YW
theorem ok_vs (l : List Value) : ∀ x ∈ l.map SV.v, x.ok 0 := fun x hx => by
  obtain ⟨v, _, rfl⟩ := List.mem_map.1 hx
  trivial
theorem rows_c (V : View) (x y z : Value) : Spec Tryz.prog 119 [.agg #[x, y, z]] V fun v' V' => ∃ Bs e, v' = .func (.func 155) #[] #[.pointer (some ⟨Bs, 0, none⟩)] ∧ V' Bs = some (.cells ([x, y, z] : List Value).toArray e (0, 0)) := by
  refine (Spec.enter Tryz.func119 rfl fun Γ => ?_)
  simp only [Tryz.ntmps119, List.map_cons, List.map_nil, List.length_cons, List.length_nil, Nat.reduceAdd, Nat.reduceSub, List.replicate_succ, List.replicate_zero, List.cons_append, List.nil_append]
  refine Gx.a (by kernel_rfl) fun K hK => ?_
  simp only [XA]
  refine hK _ ?_
  refine XWP.row1 (bx := []) fun b e hb1 hb2 => ?_
  simp only [List.map_cons, List.map_nil, rowS_v, rowS_p, List.length_nil, List.length_cons, Nat.reduceAdd, ↓reduceIte]
  refine Gx.a (by kernel_rfl) fun K hK => ?_
  refine mkf_go [.pointer (some ⟨b, 0, none⟩)] rfl ?_
  simp only [XA]
  refine hK _ (XWP.ret ?_)
  try simp only [thenX_ret, inBlockX_ret]
  have hbb : upd (fun _ => none) b (some ⟨e, [x, y, z], 3⟩) b = some ⟨e, [x, y, z], 3⟩ := upd_at _ _ _
  refine ret_pub b _ hbb fun o ho hle' => ret_go _ rfl ⟨b, e, rfl, ?_⟩
  have eo := row_obj ho
  subst eo
  exact addV_at _ _ _
def rowsL (R C : Nat) (A : Option Addr) (cap : Nat) : List (Array Value) := (List.range R).map fun (i : Nat) => #[.int .i64 (i : Int), sliceV A cap 3 (i * C) ((i + 1) * C)]
theorem rowsL_get {R C : Nat} {A : Option Addr} {cap r : Nat} (h : r < R) : (rowsL R C A cap)[r]? = some #[.int .i64 (r : Int), sliceV A cap 3 (r * C) ((r + 1) * C)] := by simp [rowsL, h]
theorem rowsL_len (R C : Nat) (A : Option Addr) (cap : Nat) : (rowsL R C A cap).length = R := by simp [rowsL]
set_option maxRecDepth 100000 in
theorem rows_it {V : View} {Bs R C n cap e : Nat} {A : Option Addr} (hB : V Bs = some (.cells ([.int .i64 (R : Int), .int .i64 (C : Int), .slice A n cap] : List Value).toArray e (0, 0))) (hR : R ≤ 999) (hC : C ≤ 1000) (hn : R * C ≤ n) (hc : n ≤ cap) :
    IterX Tryz.prog 155 #[.pointer (some ⟨Bs, 0, none⟩)] V (rowsL R C A cap) := by
  intro l J Jx W hJ0 hJV hJX hY
  refine callsIn_of_wp Tryz.func155 rfl trivial ?_
  have hld0 := ldV1 (off := 0) hB rfl shapeT_3 (fun _ => none)
  have hld1 := ldV1 (off := 1) hB rfl shapeT_3 (fun _ => none)
  have hld2 := ldV1 (off := 2) hB rfl shapeT_22 (fun _ => none)
  rw [rowsL_len]
  simp only [Tryz.ntmps155, List.size_toArray, List.length_cons, List.length_nil, Nat.reduceAdd, Nat.reduceSub, Array.replicate_succ, Array.replicate_zero, List.push_toArray, List.append_toArray, List.nil_append, List.cons_append]
  refine wpIn_mono (Q := YQ fun e t W' => (e = .normal ∨ e = .ret) ∧ (J R W' ∨ Jx W')) (YW.apply (t := [.v (.func (.yield l) #[] #[]), .v (.pointer (some ⟨Bs, 0, none⟩)), .v undef, .v undef, .v undef, .v undef, .v undef, .v undef, .v undef, .v undef, .v undef, .v undef, .v undef, .v undef, .v undef, .v undef, .v undef, .v undef, .v undef, .v undef, .v undef, .v undef, .v undef, .v undef, .v undef, .v undef]) ?_ rfl rfl) ?_
  rotate_left
  · rintro e a W' ⟨t, e1, e2, hq, hr⟩
    rcases hq with rfl | rfl
    · exact ⟨e2, _, results_none rfl _ _ _, ⟨_, rfl⟩, hr⟩
    · exact ⟨e2, _, results_none rfl _ _ _, ⟨_, rfl⟩, hr⟩
  have hV := hJV 0 W hJ0
  refine YW.seq (YW.reads hV (ok_vs [_, _, _, _, _, _, _, _, _, _, _, _, _, _, _, _, _, _, _, _, _, _, _, _, _, _]) (by kernel_rfl) ?_)
  simp only [XM, XA]
  refine ld_mem hld0 ?_
  simp only [XA]
  intro hok
  refine YW.block (YW.loop (fun m t W' => ∃ (r : Nat), m + r = R ∧ J r W' ∧ TIs (fun Z => [.v (.func (.yield l) #[] #[]), .v (.pointer (some ⟨Bs, 0, none⟩)), Z 2,Z 3,Z 4, .v (.int .i64 (R : Int)), .v (.int .i64 (r : Int)), Z 7,Z 8,Z 9,Z 10,Z 11,Z 12,Z 13,Z 14,Z 15,Z 16,Z 17,Z 18,Z 19,Z 20,Z 21,Z 22,Z 23,Z 24,Z 25]) t ∧ ∀ x ∈ t, x.ok 0) R ⟨0, by omega, hJ0, by exact rfl, hok⟩ ?_)
  clear hok
  rintro m t W' ⟨r, hm, hJ, ht, hok⟩
  obtain ⟨u, rfl⟩ := ht.out
  clear ht
  try dsimp only at hok ⊢
  have hV := hJV r W' hJ
  by_cases hr : r < R
  rotate_left
  · have b1 : decide ((r : Int) < (R : Int)) = false := decide_eq_false (by omega)
    refine YW.seq (YW.reads hV hok (by kernel_rfl) ?_)
    simp only [XA, XB, b1]
    intro hok2
    refine YW.seq (YW.cond (V := V) (b := false) rfl (fun h => by cases h) (fun _ => YW.exit ?_))
    have : r = R := by omega
    subst this
    exact ⟨.inl rfl, .inl hJ⟩
  have b1 : decide ((r : Int) < (R : Int)) = true := decide_eq_true (by omega)
  have w1 := wr_mul (i := r) (C := C) (by omega) hC
  have w2 := wr_mul (i := r + 1) (C := C) (by omega) hC
  have w3 := i64_succ r (by omega)
  have hle : r * C ≤ (r + 1) * C := Nat.mul_le_mul_right C (by omega)
  have hle2 : (r + 1) * C ≤ n := Nat.le_trans (Nat.mul_le_mul_right C (by omega)) hn
  refine YW.seq (YW.reads hV hok (by kernel_rfl) ?_)
  simp only [XA, XB, b1]
  intro hok2
  refine YW.seq (YW.cond (V := V) (b := true) rfl (fun _ => YW.skip ?_) (fun h => by cases h))
  refine YW.seq (YW.block (YW.seq (YW.reads hV hok2 (by kernel_rfl) ?_)))
  simp only [XA]
  intro hok3
  refine YW.seq (YW.yieldAt 14 (by rfl) hV hok3 (by kernel_rfl) (by kernel_rfl) ?_)
  simp only [XM, XA, Nat.reduceAdd]
  refine ld_mem hld2 ?_
  simp only [XM, XA]
  refine ld_mem hld1 ?_
  simp only [XM, XA, XB, w1, w3]
  refine ld_mem hld1 ?_
  simp only [XA, XB, w2]
  refine ⟨by omega, by omega, by omega, ?_⟩
  try simp only [XM, XA, XB, gateX, Nat.reduceAdd, Nat.reduceLeDiff, Nat.reduceSub, Nat.reduceMul, ↓reduceIte, Int.reduceToNat, Int.reduceLE, beq_self_eq_true, w1, w2]
  obtain ⟨fn, tmps, asn, bd, hy1, hy2⟩ := hY r W' _ (rowsL_get hr) hJ
  refine ⟨l, [.int .i64 (r : Int), sliceV A cap 3 (r * C) ((r + 1) * C)], _, rfl, rfl, ⟨fn, tmps, asn, bd, hy1, hy2⟩, ?_⟩
  rintro e W3 (⟨rfl, hJ3⟩ | ⟨rfl, hJ3⟩)
  · have hV3 := hJV _ W3 hJ3
    refine ⟨true, rfl, hV3, ?_⟩
    simp only [XA]
    intro hok4
    refine YW.cond (V := V) (b := false) rfl (fun h => by cases h) (fun _ => YW.skip ?_)
    refine YW.reads hV3 hok4 (by kernel_rfl) ?_
    simp only [XA, XB, w3]
    intro hok5
    exact ⟨m - 1, by omega, r + 1, by omega, hJ3, by exact rfl, hok5⟩
  · refine ⟨false, rfl, hJX W3 hJ3, ?_⟩
    simp only [XA]
    intro hok4
    refine YW.cond (V := V) (b := true) rfl (fun _ => YW.ret ?_) (fun h => by cases h)
    exact ⟨.inr rfl, .inr hJ3⟩
/-- a row of a stochastic matrix -/
def rowOk (l : List Rat) (C i : Nat) : Bool := ((List.range C).all fun k => !ng (cf l (i * C + k))) && decide (Sm (fun k => cf l (i * C + k)) C = 1)
def stoB (r c : Int) (L : List Raw) : Bool := (matR r c L && decide (r = c)) && (List.range r.toNat).all (rowOk (qs L) c.toNat)
theorem cf_row {l : List Rat} {R C i k : Nat} (hl : l.length = R * C) (hi : i < R) (hk : k < C) : cf ((l.take ((i + 1) * C)).drop (i * C)) k = cf l (i * C + k) := by
  have h1 := pos_lt hi hk
  have h2 : i * C + k < (i + 1) * C := by rw [Nat.add_mul, Nat.one_mul]; omega
  have h3 : (i + 1) * C ≤ l.length := by rw [hl]; exact Nat.mul_le_mul_right C (by omega)
  have e1 : k < ((l.take ((i + 1) * C)).drop (i * C)).length := by rw [List.length_drop, List.length_take]; omega
  rw [← cf_get e1, ← cf_get (show i * C + k < l.length by omega)]
  simp
theorem row_len {l : List Rat} {R C i : Nat} (hl : l.length = R * C) (hi : i < R) : ((l.take ((i + 1) * C)).drop (i * C)).length = C := by
  have h3 : (i + 1) * C ≤ l.length := by rw [hl]; exact Nat.mul_le_mul_right C (by omega)
  rw [List.length_drop, List.length_take, Nat.min_eq_left h3, Nat.add_mul, Nat.one_mul]; omega
theorem csto_c (V : View) (s : Value) (r c : Int) (L : List Raw) (B : Nat) (h : Raws V s L) (f : fitR L) (ll : L.length ≤ 100000) (hq : okR L = true → ∀ x ∈ qs L, QB B x) (hB : 1001 * (B + 1) ≤ 17592186044416) :
    Spec Tryz.prog 54 [.agg #[.int .i64 r, .int .i64 c, s]] V fun v' V' => v' = .bool (stoB r c L) := by
  obtain ⟨A, cp, rfl, hc, hm⟩ := h.form
  refine (Spec.enterR Tryz.func54 rfl fun Γ hΓ => ?_)
  simp only [Tryz.ntmps54, List.map_cons, List.map_nil, List.length_cons, List.length_nil, Nat.reduceAdd, Nat.reduceSub, List.replicate_succ, List.replicate_zero, List.cons_append, List.nil_append]
  refine Gx.a (by kernel_rfl) fun K hK => ?_
  simp only [XA, XB]
  refine hK _ ?_
  refine XWP.seq ?_
  refine Gx.a (by kernel_rfl) fun K hK => ?_
  simp only [XM, XA, Nat.reduceAdd, Nat.reduceLeDiff, ↓reduceIte]
  refine call_go (by kernel_rfl) rfl (cmright_c _ _ _ _ L h f (by omega)) fun v1 V1 hV1 h1 => ?_
  subst h1
  cases e1 : matR r c L
  · simp only [XA, gateX, ↓reduceIte]
    refine hK _ ?_
    refine Gx.t rfl ?_
    refine Gx.a (by kernel_rfl) fun K hK => ?_
    simp only [XA]
    refine st_one shapeT_4 rfl rfl (by simp) ?_
    simp only [XA]
    refine hK _ (XWP.ret ?_)
    try simp only [thenX_ret, inBlockX_ret]
    refine ret_go [.bool false] (by simp [resAll, resV, cellsV, shapeT_4]) ?_
    unfold stoB
    rw [e1]; rfl
  by_cases e2 : r = c
  rotate_left
  · have b1 : decide (r = c) = false := decide_eq_false e2
    simp only [XM, XA, XB, gateX, ↓reduceIte, beq_self_eq_true, b1]
    refine hK _ ?_
    refine Gx.t rfl ?_
    refine Gx.a (by kernel_rfl) fun K hK => ?_
    simp only [XA]
    refine st_one shapeT_4 rfl rfl (by simp) ?_
    simp only [XA]
    refine hK _ (XWP.ret ?_)
    try simp only [thenX_ret, inBlockX_ret]
    refine ret_go [.bool false] (by simp [resAll, resV, cellsV, shapeT_4]) ?_
    unfold stoB
    rw [e1, b1]; rfl
  subst e2
  have hmat := e1
  unfold matR at e1
  rw [Bool.and_eq_true, decide_eq_true_eq] at e1
  obtain ⟨⟨k1, k2, _, _, k5⟩, ok⟩ := e1
  obtain ⟨n, rfl⟩ : ∃ n : Nat, r = n := ⟨r.toNat, by omega⟩
  have kl : L.length = n * n := by rw [← Int.natCast_mul] at k5; omega
  have hn : n ≤ 60 := by omega
  have hr0 := Raws.rats h ok
  have hlen := qs_len L
  have hQ := hq ok
  have eS : stoB (n : Int) (n : Int) L = (List.range n).all (rowOk (qs L) n) := by
    unfold stoB
    rw [hmat, decide_eq_true rfl, Int.toNat_natCast]; rfl
  rw [eS] at hK
  clear eS hq
  generalize hl : qs L = l at *
  have lln : l.length = n * n := by omega
  simp only [XM, XA, XB, gateX, ↓reduceIte, beq_self_eq_true, decide_true]
  refine hK _ ?_
  refine Gx.f rfl ?_
  refine XWP.skip ?_
  refine XWP.seq ?_
  refine Gx.a (by kernel_rfl) fun K hK => ?_
  simp only [XM, XA, Nat.reduceAdd, Nat.reduceLeDiff, ↓reduceIte]
  refine call_go (by kernel_rfl) rfl (rows_c _ _ _ _) fun v2 V2 hV2 h2 => ?_
  obtain ⟨Bs, eB, rfl, hBs⟩ := h2
  have hr2 := (hr0.up hV1).up hV2
  simp only [XA]
  refine hK _ ?_
  refine XWP.row1 (bx := [_]) fun b2 e2 hb2 _ => ?_
  simp only [List.map_cons, List.map_nil, rowS_v, rowS_p, List.length_nil, List.length_cons, Nat.reduceAdd, Nat.reduceEqDiff, ↓reduceIte]
  refine XWP.row1 (bx := []) fun b1 e1 hb1 _ => ?_
  simp only [List.map_cons, List.map_nil, rowS_v, rowS_p, List.length_nil, List.length_cons, Nat.reduceAdd, ↓reduceIte]
  have n21 := new_ne hb1 (upd_at (fun _ => none) b2 (some ⟨e2, [.bool false], ([.bool false] : List Value).length⟩))
  refine XWP.block (XWP.range hΓ (L := rowsL n n A cp) (I := fun i H' V' => V2.le V' ∧ (∃ u, H' b2 = some ⟨e2, [u], 1⟩) ∧ (List.range i).all (rowOk l n) = true) (Ix := fun H' V' => V2.le V' ∧ H' b2 = some ⟨e2, [.bool false], 1⟩ ∧ (List.range n).all (rowOk l n) = false) rfl (by kernel_rfl) (fun args ha => ?_) (rows_it hBs (by omega) (by omega) (by omega) hc) ?_ (fun r H' V' h => h.1) (fun _ _ h => h.1) ?_ ?_ ?_)
  · obtain ⟨r, _, rfl⟩ := List.mem_map.1 ha
    rfl
  · exact ⟨View.le_refl _, ⟨_, (upd_off n21).trans (upd_at _ _ _)⟩, rfl⟩
  · rintro Γ' i args H' V' hL ⟨hV', ⟨u, hu⟩, hall⟩
    have hi : i < n := by
      have := (List.getElem?_eq_some_iff.1 hL).1
      rwa [rowsL_len] at this
    rw [rowsL_get hi] at hL
    cases hL
    have hle3 : (i + 1) * n ≤ l.length := by rw [lln]; exact Nat.mul_le_mul_right n (by omega)
    have hrow : Rats V' (sliceV A cp 3 (i * n) ((i + 1) * n)) ((l.take ((i + 1) * n)).drop (i * n)) := Rats.up (SlAt.drop (SlAt.take (by have := hr2; rw [hlen] at *; exact this) hle3) (by rw [List.length_take, Nat.min_eq_left hle3]; exact Nat.mul_le_mul_right n (by omega))) hV'
    have hrl := row_len lln hi
    have hcf : ∀ k, k < n → cf ((l.take ((i + 1) * n)).drop (i * n)) k = cf l (i * n + k) := fun k hk => cf_row lln hi hk
    have hQr : ∀ x ∈ (l.take ((i + 1) * n)).drop (i * n), QB B x := fun x hx => hQ x (List.mem_of_mem_take (List.mem_of_mem_drop hx))
    generalize (l.take ((i + 1) * n)).drop (i * n) = R at *
    obtain ⟨A2, c2, es, hc2, hm2⟩ := hrow.form
    rw [es] at hrow ⊢
    clear es
    rw [hrl] at hrow ⊢
    have bad : rowOk l n i = false → (List.range n).all (rowOk l n) = false := fun hb => by
      rw [List.all_eq_false]
      exact ⟨i, List.mem_range.2 hi, by rw [hb]; simp⟩
    simp only [XA, setPs]
    refine Gx.c (by kernel_rfl) fun K hK => ?_
    simp only [XA]
    refine hK _ ?_
    intro Γ''
    refine XWP.block ?_
    refine XWP.cutD 0 (fun s => ∃ (V3 : View), StIs (fun Z => [Z 0,Z 1, .v (.pointer (some ⟨b2, 0, none⟩)), Z 3, .v (.slice A2 n c2), Z 5,Z 6,Z 7,Z 8,Z 9,Z 10,Z 11,Z 12,Z 13,Z 14,Z 15,Z 16,Z 17,Z 18,Z 19,Z 20,Z 21,Z 22,Z 23,Z 24,Z 25,Z 26,Z 27,Z 28,Z 29,Z 30,Z 31,Z 32,Z 33,Z 34]) [] H' V3 s ∧ V'.le V3 ∧ (List.range n).all (fun k => !ng (cf l (i * n + k))) = true) ?_ ?_
    · refine Gx.a (by kernel_rfl) fun K hK => ?_
      simp only [XA, XB]
      refine hK _ ?_
      clear hK
      refine XWP.block ?_
      refine XWP.loopD 0 (fun q s => ∃ (k : Nat) (V3 : View), StIs (fun Z => [Z 0,Z 1, .v (.pointer (some ⟨b2, 0, none⟩)), Z 3, .v (.slice A2 n c2), Z 5,Z 6,Z 7,Z 8,Z 9,Z 10,Z 11,Z 12,Z 13,Z 14,Z 15,Z 16,Z 17,Z 18,Z 19,Z 20, .v (.slice A2 n c2), .v (.int .i64 (n : Int)), .v (.int .i64 (k : Int)), Z 24,Z 25,Z 26,Z 27,Z 28,Z 29,Z 30,Z 31,Z 32,Z 33,Z 34]) [] H' V3 s ∧ q + k = n ∧ V'.le V3 ∧ (List.range k).all (fun k => !ng (cf l (i * n + k))) = true) n ⟨0, V', StIs.of (by exact rfl), by omega, View.le_refl _, rfl⟩ ?_
      rintro q s ⟨k, V3, hs, hq, hV3, hk⟩
      obtain ⟨z, rfl⟩ := hs.out
      try dsimp only
      clear hs
      by_cases hkn : k < n
      rotate_left
      · obtain rfl : k = n := by omega
        have b3 : decide ((k : Int) < (k : Int)) = false := decide_eq_false (by omega)
        refine Gx.a (by kernel_rfl) fun K hK => ?_
        simp only [XA, XB, b3]
        refine hK _ ?_
        refine XWP.seq (Gx.f rfl ?_)
        refine XWP.exit ?_
        exact fun f => ⟨V3, StIs.of (by exact rfl), hV3, hk⟩
      have b3 : decide ((k : Int) < (n : Int)) = true := decide_eq_true (by omega)
      refine Gx.a (by kernel_rfl) fun K hK => ?_
      simp only [XA, XB, b3]
      refine hK _ ?_
      refine XWP.seq (Gx.t rfl ?_)
      refine XWP.skip ?_
      have hrow3 := hrow.up hV3
      obtain ⟨bb, oo, rfl⟩ := SlAt.addr hrow3 (by omega)
      obtain ⟨m3, n3, d3, hx, ⟨p1, p2, p3⟩, hld⟩ := Rats.get hrow3 k (by omega)
      obtain ⟨xx, yy, ev, _, _⟩ := hx.form
      cases ev
      rw [hcf k hkn] at hx hld p1
      refine XWP.seq ?_
      refine XWP.block ?_
      refine Gx.a (by kernel_rfl) fun K hK => ?_
      simp only [XA, XB]
      refine ⟨by omega, by omega, ld_mem (hld _) ?_⟩
      simp only [XA, XB]
      refine st_rat rfl rfl p1 p2 p3 ?_
      simp only [XA]
      refine hK _ ?_
      cases hng : ng (cf l (i * n + k))
      · refine Gx.a (by kernel_rfl) fun K hK => ?_
        simp only [XA, XB]
        refine hK _ ?_
        refine Gx.f rfl ?_
        refine XWP.skip ?_
        refine Gx.c (by kernel_rfl) fun K hK => ?_
        simp only [XA, XB, i64_succ k (by omega)]
        exact hK _ ⟨q - 1, by omega, fun f => ⟨k + 1, V3, StIs.of (by exact rfl), by omega, hV3, by rw [List.range_succ, List.all_append, hk]; simp [hng]⟩⟩
      · refine Gx.a (by kernel_rfl) fun K hK => ?_
        simp only [XA, XB]
        refine hK _ ?_
        refine Gx.t rfl ?_
        refine Gx.a (by kernel_rfl) fun K hK => ?_
        simp only [XA]
        refine st_row shapeT_4 rfl rfl hu (by simp) ?_
        simp only [XA]
        refine hK _ (XWP.ret ?_)
        try simp only [thenX_ret, inBlockX_ret]
        refine ⟨View.le_trans hV' hV3, upd_at _ _ _, bad ?_⟩
        unfold rowOk
        have : ((List.range n).all fun k => !ng (cf l (i * n + k))) = false := by
          rw [List.all_eq_false]
          exact ⟨k, List.mem_range.2 hkn, by rw [hng]; simp⟩
        rw [this]; rfl
    rintro s ⟨V3, hs, hV3, hall2⟩
    obtain ⟨z, rfl⟩ := hs.out
    try dsimp only
    clear hs
    have hrow3 := hrow.up hV3
    refine Gx.a (by kernel_rfl) fun K hK => ?_
    simp only [XA]
    refine call_go (by kernel_rfl) rfl (qsum_c _ _ _ B hrow3 hQr (by omega) hB) fun v4 V4 hV4 h4 => ?_
    rw [hrl] at h4
    have esum : sumL R n = Sm (fun k => cf l (i * n + k)) n := Sm_congr n fun k hk => hcf k hk
    have qsum : QF (sumL R n) := (sumL_QB hQr n (by omega)).qf (Nat.le_trans (Nat.mul_le_mul_right _ (show n ≤ 1001 by omega)) hB)
    simp only [XA]
    refine call_go (by kernel_rfl) rfl (qone_c _) fun v5 V5 hV5 h5 => ?_
    simp only [XA]
    refine call_go (by kernel_rfl) rfl (qsame_c _ _ _ _ _ (h4.mono hV5) h5 qsum QF_one) fun v6 V6 hV6 h6 => ?_
    subst h6
    rw [esum]
    have hle6 := View.le_trans hV' (View.le_trans hV3 (View.le_trans hV4 (View.le_trans hV5 hV6)))
    by_cases hs1 : Sm (fun k => cf l (i * n + k)) n = 1
    · have b3 : decide (Sm (fun k => cf l (i * n + k)) n = 1) = true := decide_eq_true hs1
      simp only [XA, b3]
      refine hK _ ?_
      refine Gx.f rfl ?_
      refine XWP.skip ?_
      refine ⟨hle6, ⟨u, hu⟩, ?_⟩
      rw [List.range_succ, List.all_append, hall]
      have : rowOk l n i = true := by unfold rowOk; rw [hall2, b3]; rfl
      simp [this]
    · have b3 : decide (Sm (fun k => cf l (i * n + k)) n = 1) = false := decide_eq_false hs1
      simp only [XA, b3]
      refine hK _ ?_
      refine Gx.t rfl ?_
      refine Gx.a (by kernel_rfl) fun K hK => ?_
      simp only [XA]
      refine st_row shapeT_4 rfl rfl hu (by simp) ?_
      simp only [XA]
      refine hK _ (XWP.ret ?_)
      try simp only [thenX_ret, inBlockX_ret]
      refine ⟨hle6, upd_at _ _ _, bad ?_⟩
      unfold rowOk
      rw [b3, Bool.and_false]
  · rintro H' V' ⟨hV', ⟨u, hu⟩, hall⟩
    rw [rowsL_len] at hall
    refine Gx.a (by kernel_rfl) fun K hK => ?_
    simp only [XA]
    refine st_row shapeT_4 rfl rfl hu (by simp) ?_
    simp only [XA]
    refine hK _ (XWP.ret ?_)
    try simp only [thenX_ret, inBlockX_ret]
    refine ret_go [.bool true] (by simp [resAll, resV, cellsV, shapeT_4, upd_at]) ?_
    rw [hall]; rfl
  · rintro H' V' ⟨hV', hu, hbad⟩
    try simp only [thenX_ret, inBlockX_ret]
    refine ret_go [.bool false] (by simp [resAll, resV, cellsV, shapeT_4, hu]) ?_
    rw [hbad]; rfl
end Go.Proofs.YtkgmicakfmllmaaGreat
end
section
namespace Go.Proofs.YtkgmicakfmllmaaGreat
set_option linter.unusedVariables false
def mkB (n : Nat) (w : Nat → Nat → Bool) : List (List Bool) := (List.range n).map fun i => (List.range n).map (w i)
def bset (r : Nat → Bool) (k : Nat) : Nat → Bool := fun j => if j = k then true else r j
def cntF (r : Nat → Bool) (n : Nat) : Nat := ((List.range n).filter fun k => !r k).length
theorem cntF_le (r : Nat → Bool) (n : Nat) : cntF r n ≤ n := by
  unfold cntF
  have := List.length_filter_le (fun k => !r k) (List.range n)
  rwa [List.length_range] at this
theorem cntF_succ (r : Nat → Bool) (n : Nat) : cntF r (n + 1) = cntF r n + if r n = true then 0 else 1 := by
  unfold cntF
  rw [List.range_succ, List.filter_append, List.length_append]
  congr 1
  cases h : r n <;> simp [h]
theorem cntF_same {r r' : Nat → Bool} (n : Nat) (h : ∀ k, k < n → r k = r' k) : cntF r n = cntF r' n := by
  induction n with
  | zero => rfl
  | succ n ih => rw [cntF_succ, cntF_succ, ih fun k hk => h k (by omega), h n (by omega)]
theorem cntF_set {r : Nat → Bool} {n k : Nat} (hk : k < n) (h : r k = false) : cntF (bset r k) n + 1 = cntF r n := by
  induction n with
  | zero => omega
  | succ n ih =>
    rw [cntF_succ, cntF_succ]
    by_cases e : k = n
    · subst e
      have : cntF (bset r k) k = cntF r k := cntF_same k fun j hj => by unfold bset; rw [if_neg (by omega)]
      rw [this, h]
      unfold bset
      rw [if_pos rfl]; rfl
    · have := ih (by omega)
      have e2 : bset r k n = r n := by unfold bset; rw [if_neg (by omega)]
      rw [e2]; omega
structure DfsI (e : Nat → Nat → Bool) (n i : Nat) (r : Nat → Bool) (nx : List Nat) : Prop where
  lt : i < n
  root : r i = true
  sound : ∀ k, k < n → r k = true → Rch (fun a b => e a b = true) n i k
  mem : ∀ k ∈ nx, k < n ∧ r k = true
  clos : ∀ a, a < n → r a = true → a ∉ nx → ∀ b, b < n → e a b = true → r b = true
structure DfsJ (e : Nat → Nat → Bool) (n i : Nat) (r : Nat → Bool) (nx : List Nat) (a0 k : Nat) : Prop where
  lt : i < n
  root : r i = true
  sound : ∀ k, k < n → r k = true → Rch (fun a b => e a b = true) n i k
  mem : ∀ k ∈ nx, k < n ∧ r k = true
  at_ : a0 < n ∧ r a0 = true
  clos : ∀ a, a < n → r a = true → a ∉ nx → a ≠ a0 → ∀ b, b < n → e a b = true → r b = true
  cur : ∀ b, b < k → e a0 b = true → r b = true
theorem DfsI.start (e : Nat → Nat → Bool) {n i : Nat} (hi : i < n) : DfsI e n i (bset (fun _ => false) i) [i] := by
  have key : ∀ k, bset (fun _ => false) i k = true → k = i := fun k h => by
    unfold bset at h
    split at h
    · assumption
    · cases h
  refine ⟨hi, by unfold bset; rw [if_pos rfl], fun k hk h => ?_, fun k hk => ?_, fun a ha h hn => ?_⟩
  · rw [key k h]; exact .refl hi
  · have : k = i := by simpa using hk
    rw [this]; exact ⟨hi, by unfold bset; rw [if_pos rfl]⟩
  · rw [key a h] at hn; simp at hn
theorem DfsI.pop {e : Nat → Nat → Bool} {n i a0 : Nat} {r : Nat → Bool} {nx : List Nat} (h : DfsI e n i r (nx ++ [a0])) : DfsJ e n i r nx a0 0 :=
  ⟨h.lt, h.root, h.sound, fun k hk => h.mem k (by simp [hk]), h.mem a0 (by simp), fun a ha hr hn hne => h.clos a ha hr (by simp [hn, hne]), fun b hb => by omega⟩
theorem DfsJ.skip {e : Nat → Nat → Bool} {n i a0 k : Nat} {r : Nat → Bool} {nx : List Nat} (h : DfsJ e n i r nx a0 k) (hs : r k = true ∨ e a0 k = false) : DfsJ e n i r nx a0 (k + 1) :=
  ⟨h.lt, h.root, h.sound, h.mem, h.at_, h.clos, fun b hb he => by
    by_cases e1 : b = k
    · subst e1
      rcases hs with h1 | h1
      · exact h1
      · rw [h1] at he; cases he
    · exact h.cur b (by omega) he⟩
theorem DfsJ.push {e : Nat → Nat → Bool} {n i a0 k : Nat} {r : Nat → Bool} {nx : List Nat} (h : DfsJ e n i r nx a0 k) (hk : k < n) (he : e a0 k = true) : DfsJ e n i (bset r k) (nx ++ [k]) a0 (k + 1) := by
  have up : ∀ j, r j = true → bset r k j = true := fun j hj => by unfold bset; split <;> simp_all
  have dn : ∀ j, bset r k j = true → j = k ∨ r j = true := fun j hj => by
    unfold bset at hj
    split at hj
    · left; assumption
    · right; exact hj
  refine ⟨h.lt, up _ h.root, fun j hj hr => ?_, fun j hj => ?_, ⟨h.at_.1, up _ h.at_.2⟩, fun a ha hr hn hne b hb hab => ?_, fun b hb hab => ?_⟩
  · rcases dn j hr with rfl | h1
    · exact .step (h.sound a0 h.at_.1 h.at_.2) hk he
    · exact h.sound j hj h1
  · rcases List.mem_append.1 hj with h1 | h1
    · exact ⟨(h.mem j h1).1, up _ (h.mem j h1).2⟩
    · have : j = k := by simpa using h1
      rw [this]; exact ⟨hk, by unfold bset; rw [if_pos rfl]⟩
  · have hn1 : a ∉ nx := fun h => hn (by simp [h])
    have hn2 : a ≠ k := fun h => hn (by simp [h])
    rcases dn a hr with h1 | h1
    · exact absurd h1 hn2
    · exact up _ (h.clos a ha h1 hn1 hne b hb hab)
  · by_cases e1 : b = k
    · rw [e1]; unfold bset; rw [if_pos rfl]
    · exact up _ (h.cur b (by omega) hab)
theorem DfsJ.done {e : Nat → Nat → Bool} {n i a0 : Nat} {r : Nat → Bool} {nx : List Nat} (h : DfsJ e n i r nx a0 n) : DfsI e n i r nx :=
  ⟨h.lt, h.root, h.sound, h.mem, fun a ha hr hn b hb hab => by
    by_cases e1 : a = a0
    · rw [e1] at hab; exact h.cur b hb hab
    · exact h.clos a ha hr hn e1 b hb hab⟩
theorem DfsI.all {e : Nat → Nat → Bool} {n i : Nat} {r : Nat → Bool} (h : DfsI e n i r []) : ∀ k, k < n → (r k = true ↔ Rch (fun a b => e a b = true) n i k) := fun k hk =>
  ⟨h.sound k hk, fun hr => (Rch.sub (S := fun k => k < n ∧ r k = true) ⟨h.lt, h.root⟩ (fun a b ha hb hab => ⟨hb, h.clos a ha.1 ha.2 (by simp) b hb hab⟩) hr).2⟩
/-- the closed classes, by who comes to whom -/
def shutL (w : Nat → Nat → Bool) (op : Nat → Bool) (n : Nat) : List (List Nat) := (List.range n).filterMap fun i => if ((List.range n).all fun k => !w i k || (w k i && !op k && decide (i ≤ k))) = true then some ((List.range n).filter (w i)) else none
theorem shutL_mem {w : Nat → Nat → Bool} {op : Nat → Bool} {n : Nat} {C : List Nat} (h : C ∈ shutL w op n) : ∃ i, i < n ∧ C = (List.range n).filter (w i) ∧ ∀ k, k < n → w i k = true → w k i = true ∧ op k = false ∧ i ≤ k := by
  unfold shutL at h
  obtain ⟨i, hi, h⟩ := List.mem_filterMap.1 h
  split at h
  · rename_i hc
    cases h
    refine ⟨i, List.mem_range.1 hi, rfl, fun k hk hw => ?_⟩
    have := List.all_eq_true.1 hc k (List.mem_range.2 hk)
    simp only [hw, Bool.not_true, Bool.false_or, Bool.and_eq_true, Bool.not_eq_true', decide_eq_true_eq] at this
    exact ⟨this.1.1, this.1.2, this.2⟩
  · cases h
end Go.Proofs.YtkgmicakfmllmaaGreat
end
section
namespace Go.Proofs.YtkgmicakfmllmaaGreat
open Go Go.RowKit
set_option linter.unusedVariables false
theorem XWP.forget {Γ : Cx} {P : Program} {c : Code} {Q : Exit → XS → Prop} {t : List SV} {bx : List (List Value)} {H : Heap} {V : View} (b : Nat) {e : TypeId} {xs ys : List Value} {tot : Nat} (hr : H b = some ⟨e, xs ++ ys, tot⟩)
    (h : XWP Γ P c Q ⟨t, bx, upd H b (some ⟨e, xs, tot⟩), V⟩) : XWP Γ P c Q ⟨t, bx, H, V⟩ := by
  intro bl a w hc
  refine h bl a w ⟨hc.tm, hc.df, ⟨hc.cw.box, fun k r hk => ?_, hc.cw.view, hc.cw.below⟩, ⟨hc.cs.inj, fun i hi => ?_, fun k r hk => ?_, hc.cs.V0, hc.cs.frm⟩, hc.ok⟩
  · dsimp only at hk
    unfold upd at hk
    split at hk
    · rename_i e'
      subst e'
      cases hk
      obtain ⟨ex, h1, h2⟩ := hc.cw.row _ _ hr
      exact ⟨ys ++ ex, by rw [← List.append_assoc]; exact h1, by rw [← List.append_assoc]; exact h2⟩
    · exact hc.cw.row k r hk
  · have := hc.cs.bxH i hi
    refine ⟨?_, this.2⟩
    dsimp only
    unfold upd
    split
    · rename_i e'
      have h1 := this.1
      dsimp only at h1
      rw [e', hr] at h1; cases h1
    · exact this.1
  · dsimp only at hk
    unfold upd at hk
    split at hk
    · rename_i e'
      subst e'
      exact hc.cs.HV _ _ hr
    · exact hc.cs.HV k r hk
section
variable {P : Program} {b : Frame} {a : Act} {k : List Item} {cs : List Frame} {w : World}
theorem stepR_scope {c : Code} : step P (lone (b.atR a (.code (.scope c) :: k)) cs w) = .next (lone (b.atR a (.code c :: .inScope c :: k)) cs w) :=
  step_lone_go (by simp [stepG, stepG.exec, Frame.atR])
theorem stepR_inScope {c : Code} : step P (lone (b.atR a (.inScope c :: k)) cs w) = .next (lone (b.atR a k) cs w) :=
  step_lone_go (by simp [stepG, stepG.exec, Frame.atR])
theorem wpIn_scope_straight {F : Fence} {n : Nat} {Q : Exit → Act → World → Prop} {c : Code} (hg : ∀ l a w, ¬ Q (.goto l) a w) (h : c.wpIn F n P Q a w) : (Code.scope c).wpIn F n P Q a w := by
  intro b k cs hro hb hr
  have h0 : (lone (b.atR a (.code (.scope c) :: k)) cs w).fenced P F := fenced_calm hb hr rfl
  obtain ⟨e, a₁, w₁, hq, harr⟩ := h b (.inScope c :: k) cs hro hb hr
  cases e with
  | normal => exact ⟨.normal, a₁, w₁, hq, .head h0 stepR_scope (StepsIn.trans harr (.one (fenced_calm hb hr rfl) stepR_inScope))⟩
  | exit id' =>
    have hx : exitTo id' (.inScope c :: k) = exitTo id' k := by simp [exitTo]
    exact ⟨.exit id', a₁, w₁, hq, fun k' hk => .head h0 stepR_scope (harr.1 k' (by rw [hx]; exact hk)),
      fun hr' hk => let ⟨k₁, h1, h2⟩ := harr.2 hr' (by rw [hx]; exact hk); ⟨k₁, h1, .head h0 stepR_scope h2⟩⟩
  | goto l => exact absurd hq (hg l _ _)
  | ret => exact ⟨_, a₁, w₁, hq, .of_steps (.one h0 stepR_scope) harr⟩
  | panic ch => exact ⟨_, a₁, w₁, hq, .of_steps (.one h0 stepR_scope) harr⟩
  | outgrown => exact ⟨_, a₁, w₁, hq, .of_steps (.one h0 stepR_scope) harr⟩
end
theorem XWP.scope {Γ : Cx} {P : Program} {Q : Exit → XS → Prop} {s : XS} {c : Code} (hg : ∀ l s, ¬ Q (.goto l) s) (h : XWP Γ P c Q s) : XWP Γ P (.scope c) Q s := fun bl a w hc =>
  wpIn_scope_straight (fun l _ _ ⟨_, s, _, hq⟩ => hg l s hq) (h bl a w hc)
end Go.Proofs.YtkgmicakfmllmaaGreat
end
section
namespace Go.Proofs.YtkgmicakfmllmaaGreat
theorem XN : type_of% (And.intro (And.intro (And.intro (And.intro (@elemT_138) (@kindT_138)) (And.intro (@shapeT_138) (And.intro (@zeroT_138) (@elemT_117)))) (And.intro (And.intro (@kindT_117) (@shapeT_117)) (And.intro (@zeroT_117) (And.intro (@elemT_34) (@kindT_34))))) (And.intro (And.intro (And.intro (@shapeT_34) (@zeroT_34)) (And.intro (@elemT_26) (And.intro (@kindT_26) (@shapeT_26)))) (And.intro (And.intro (@zeroT_26) (@elemT_38)) (And.intro (@kindT_38) (And.intro (@shapeT_38) (@zeroT_38)))))) := And.intro (And.intro (And.intro (And.intro (@elemT_138) (@kindT_138)) (And.intro (@shapeT_138) (And.intro (@zeroT_138) (@elemT_117)))) (And.intro (And.intro (@kindT_117) (@shapeT_117)) (And.intro (@zeroT_117) (And.intro (@elemT_34) (@kindT_34))))) (And.intro (And.intro (And.intro (@shapeT_34) (@zeroT_34)) (And.intro (@elemT_26) (And.intro (@kindT_26) (@shapeT_26)))) (And.intro (And.intro (@zeroT_26) (@elemT_38)) (And.intro (@kindT_38) (And.intro (@shapeT_38) (@zeroT_38)))))
end Go.Proofs.YtkgmicakfmllmaaGreat
end
