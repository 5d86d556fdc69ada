/- The law BalanceTwice (the time reversal with respect to the only stationary distribution is stochastic, leaves it as it is, and its own reversal is the matrix) answers true at every matrix: no premise. (part 11 of 11) -/
import Derived.OrdersHeld
import Derived.Below
import Derived.Tactics
import Derived.KernelRfl
import Derived.RangeFuncCalls
import Derived.RangeFuncFrom
import Derived.RangeFuncLeaves
import Derived.OrdersIn
import Derived.Laws.AppendOwn
import Derived.Laws.MakeOwn
import Derived.Laws.CopyRow
import Derived.Laws.Cells
import Derived.Laws.World
import Derived.Laws.Alloc2
import Derived.Laws.NewBlocks
import Derived.Maps.AppendAt
import Derived.Test.YtkgmicakfmllmaaGreatProg
import Init.Data.List.Lemmas
import Init.Omega
import Derived.WalkKit
import Derived.ProofKit
import Derived.OpenShut
import Derived.ChangeOld
import Derived.SizedLaws
import Derived.ChangeSlices
import Derived.ChangeArms
import Derived.Deep.Slices
import Derived.Test.YtkgmicakfmllmaaGreatRows
import Derived.ShutString
import Derived.Test.YtkgmicakfmllmaaGreatTW10
section
namespace Go.Proofs.YtkgmicakfmllmaaGreat
open Go Go.RowKit
set_option linter.unusedSimpArgs false
set_option linter.unusedVariables false
attribute [local irreducible] XWP Spec SpecO XPub XCall seqX clX apX stX ldX iaX slX
theorem Rch.imp {E E' : Nat → Nat → Prop} {n i k : Nat} (h : Rch E n i k) (e : ∀ a b, a < n → b < n → E a b → E' a b) : Rch E' n i k := by
  induction h with
  | refl h => exact .refl h
  | step hr hk he ih => exact .step ih hk (e _ _ hr.lt.2 hk he)
theorem eM_iff {l : List Rat} {n a b : Nat} : eM l n a b = true ↔ gridL l n a b ≠ 0 := by unfold eM gridL; rw [decide_eq_true_eq]
structure ClsG (l : List Rat) (n : Nat) (C : List Nat) : Prop where
  ne : 1 ≤ C.length
  le : C.length ≤ n
  lt : ∀ x ∈ C, x < n
  sto : StoG (subG (gridL l n) C) C.length
  irr : IrrG (subG (gridL l n) C) C.length
/-- a closed class of a stochastic matrix is an irreducible matrix of its own -/
theorem cls_irr {l : List Rat} {n : Nat} (hS : StoG (gridL l n) n) {C : List Nat} (hC : C ∈ clsL l n) : ClsG l n C := by
  obtain ⟨i, hi, rfl, hall⟩ := shutL_mem hC
  have hpos : ∀ a b, a < n → b < n → (eM l n a b = true ↔ 0 < gridL l n a b) := fun a b ha hb => by
    rw [eM_iff]
    have := hS.nn a b ha hb
    constructor
    · intro h; grind
    · intro h; grind
  have hc : ∀ a b, a < n → b < n → wR (eM l n) n i a = true → 0 < gridL l n a b → wR (eM l n) n i b = true := fun a b ha hb h1 h2 => by
    rw [wR_iff] at h1 ⊢
    exact .step h1 hb ((hpos a b ha hb).2 h2)
  refine ⟨?_, ?_, fun x hx => ?_, sub_sto hS hc, sub_irr hc fun a b ha hb h1 h2 => ?_⟩
  · have : i ∈ (List.range n).filter (wR (eM l n) n i) := by
      rw [List.mem_filter, List.mem_range, wR_iff]; exact ⟨hi, .refl hi⟩
    exact List.length_pos_of_mem this
  · have := List.length_filter_le (wR (eM l n) n i) (List.range n)
    rwa [List.length_range] at this
  · rw [List.mem_filter, List.mem_range] at hx; exact hx.1
  · have h3 := (hall a ha h1).1
    rw [wR_iff] at h3 h2
    exact (h3.trans h2).imp fun a b ha hb he => (hpos a b ha hb).1 he
theorem clsL_len (l : List Rat) (n : Nat) : (clsL l n).length ≤ n := shutP_len _ _ _ n
/-- the law of a class -/
noncomputable def theX (l : List Rat) (n : Nat) (C : List Nat) : Nat → Rat := @dite _ (∃ X, LinG (lawG (subG (gridL l n) C) C.length) C.length C.length (oneB C.length) X) (Classical.propDecidable _) (fun h => Classical.choose h) fun _ _ => 0
theorem theX_eq {l : List Rat} {n : Nat} {C : List Nat} (hu : UniG (lawG (subG (gridL l n) C) C.length) C.length C.length) {X : Nat → Rat} (hX : LinG (lawG (subG (gridL l n) C) C.length) C.length C.length (oneB C.length) X) : ∀ j, j < C.length → X j = theX l n C j := by
  have he : ∃ X, LinG (lawG (subG (gridL l n) C) C.length) C.length C.length (oneB C.length) X := ⟨X, hX⟩
  unfold theX
  rw [dif_pos he]
  exact hu.same hX (Classical.choose_spec he)
noncomputable def lawC (l : List Rat) (n : Nat) (C : List Nat) : List Rat := scat C (theX l n C) n C.length
noncomputable def allL (l : List Rat) (n : Nat) : List (List Rat) := (clsL l n).map (lawC l n)
structure LawOk (l : List Rat) (n B : Nat) (C : List Nat) : Prop where
  lin : LinG (lawG (subG (gridL l n) C) C.length) C.length C.length (oneB C.length) (theX l n C)
  qb : ∀ j, j < C.length → QB (2 * ge (B + 1) (2 * C.length)) (theX l n C j)
theorem balone2_c (V : View) (s vC : Value) (n B : Nat) (l : List Rat) (C : List Nat) (h : Rats V s l) (ll : l.length = n * n) (hn : n ≤ 60) (hC : Sl1 natE V vC C) (hlt : ∀ x ∈ C, x < n) (h1 : 1 ≤ C.length) (hl : C.length ≤ 60)
    (hu : UniG (lawG (subG (gridL l n) C) C.length) C.length C.length) (hq : ∀ x ∈ l, QB B x) (hB : ge (B + 1) (2 * C.length + 1) ≤ 17592186044416) :
    Spec Tryz.prog 58 [.agg #[.int .i64 (n : Int), .int .i64 (n : Int), s], vC] V fun v' V' => LawOk l n B C ∧ Rats V' v' (lawC l n C) :=
  (balone_c V s vC n B l C h ll hn hC hlt h1 hl hu hq hB).mono fun v' V' _ ⟨X, hX, hqX, hr⟩ => by
    have e := theX_eq hu hX
    refine ⟨⟨fun i hi => by rw [← hX i hi]; exact Sm_congr _ fun j hj => by rw [e j hj], fun j hj => by rw [← e j hj]; exact hqX j hj⟩, ?_⟩
    have e2 : scat C X n C.length = lawC l n C := scat_congr _ e
    rw [← e2]; exact hr
theorem rats_ok : ElOk Rats := fun _ _ _ _ hV h => Rats.up h hV
theorem rats_one {V : View} {v : Value} {l : List Rat} (h : Rats V v l) : isOne v = true := by obtain ⟨A, c, rfl, _⟩ := h.form; rfl
set_option maxHeartbeats 4000000 in
theorem ball_c (V : View) (s : Value) (r c : Int) (L : List Raw) (B : Nat) (h : Raws V s L) (f : fitR L) (ll : L.length ≤ 100000) (hq : okR L = true → ∀ x ∈ qs L, QB B x) (hB : 1001 * (B + 1) ≤ 17592186044416) (hB2 : stoB r c L = true → ge (B + 1) (2 * r.toNat + 1) ≤ 17592186044416) :
    Spec Tryz.prog 19 [.agg #[.int .i64 r, .int .i64 c, s]] V fun v' V' => (stoB r c L = false → v' = .tuple #[.slice none 0 0, .int .i64 1]) ∧ (stoB r c L = true → ∃ w, v' = .tuple #[w, .int .i64 0] ∧ (∀ C ∈ clsL (qs L) r.toNat, LawOk (qs L) r.toNat B C) ∧ Sl1 Rats V' w (allL (qs L) r.toNat)) := by
  obtain ⟨A, cp, rfl, hc, hm⟩ := h.form
  refine (Spec.enter Tryz.func19 rfl fun Γ => ?_)
  simp only [Tryz.ntmps19, List.map_cons, List.map_nil, List.length_cons, List.length_nil, Nat.reduceAdd, Nat.reduceSub, List.replicate_succ, List.replicate_zero, List.cons_append, List.nil_append]
  refine Gx.a (by kernel_rfl) fun K hK => ?_
  simp only [XA]
  refine hK _ ?_
  refine Gx.a (by kernel_rfl) fun K hK => ?_
  simp only [XM, XA, Nat.reduceAdd, Nat.reduceLeDiff, ↓reduceIte]
  refine call_go (by kernel_rfl) rfl (bClasses_c _ _ r c L B h f ll hq hB) fun v1 V1 hV1 h1 => ?_
  cases e : stoB r c L
  · obtain rfl := h1.1 e
    simp only [XA]
    refine hK _ ?_
    refine XWP.seq ?_
    refine Gx.a (by kernel_rfl) fun K hK => ?_
    simp only [XA, XB]
    refine hK _ ?_
    refine Gx.t rfl ?_
    refine Gx.a (by kernel_rfl) fun K hK => ?_
    simp only [XA]
    refine hK _ (XWP.ret ?_)
    try simp only [thenX_ret, inBlockX_ret]
    refine ret_go _ rfl ?_
    exact ⟨fun _ => rfl, fun h => by rw [e] at h; cases h⟩
  obtain ⟨w, rfl, hw⟩ := h1.2 e
  have hB3 := hB2 e
  clear hB2
  obtain ⟨n, rfl, rfl, hn, kl, ok, hS⟩ := stoB_parts e
  rw [Int.toNat_natCast] at hw hB3
  have hq := hq ok
  have hr := Rats.up (Raws.rats h ok) hV1
  have hlen := qs_len L
  rw [← hlen] at hr
  have hr : Rats V1 (.slice A L.length cp) (qs L) := by rw [hlen] at hr; exact hr
  obtain ⟨A2, c2, rfl, hc2, hm2⟩ := hw.form
  have hcn := clsL_len (qs L) n
  have hcls := fun C => cls_irr hS (C := C)
  obtain ⟨Ks, hK0⟩ : ∃ Ks, Ks = clsL (qs L) n := ⟨_, rfl⟩
  rw [← hK0] at hw hc2 hcn hcls ⊢
  simp only [XA]
  refine hK _ ?_
  refine XWP.seq ?_
  refine Gx.a (by kernel_rfl) fun K hK => ?_
  simp only [XA, XB]
  refine hK _ ?_
  refine Gx.f rfl ?_
  refine XWP.skip ?_
  refine Gx.a (by kernel_rfl) fun K hK => ?_
  simp only [XA]
  refine hK _ ?_
  refine XWP.cutD 1 (fun s => ∃ (V2 : View) (H2 : Heap) (wo : Value) (outs : List Value), StIs (fun Z => [Z 0,Z 1,Z 2,Z 3,Z 4,Z 5, .v wo, Z 7,Z 8,Z 9,Z 10,Z 11,Z 12,Z 13,Z 14,Z 15,Z 16,Z 17,Z 18,Z 19,Z 20,Z 21,Z 22,Z 23,Z 24,Z 25,Z 26,Z 27,Z 28,Z 29,Z 30]) [[.int .i64 (n : Int), .int .i64 (n : Int), .slice A L.length cp]] H2 V2 s ∧ Own H2 22 1 wo Ks.length outs ∧ R1At Rats V2 outs (Ks.map (lawC (qs L) n)) ∧ ∀ C ∈ Ks, LawOk (qs L) n B C) ?_ ?_
  · refine Gx.a (by kernel_rfl) fun K hK => ?_
    simp only [XN, XA]
    refine hK _ ?_
    clear hK
    refine XWP.block ?_
    refine XWP.loopD 1 (fun q s => ∃ (i : Nat) (V2 : View) (H2 : Heap) (wo : Value) (outs : List Value), StIs (fun Z => [Z 0, .p 0 0, Z 2,Z 3,Z 4,Z 5, .v wo, Z 7,Z 8,Z 9,Z 10,Z 11,Z 12,Z 13,Z 14,Z 15,Z 16, .v (.slice A2 Ks.length c2), .v (.int .i64 (Ks.length : Int)), .v (.int .i64 (i : Int)), Z 20,Z 21,Z 22,Z 23,Z 24,Z 25,Z 26,Z 27,Z 28,Z 29,Z 30]) [[.int .i64 (n : Int), .int .i64 (n : Int), .slice A L.length cp]] H2 V2 s ∧ q + i = Ks.length ∧ V1.le V2 ∧ Own H2 22 1 wo i outs ∧ R1At Rats V2 outs ((Ks.take i).map (lawC (qs L) n)) ∧ ∀ C ∈ Ks.take i, LawOk (qs L) n B C) Ks.length ⟨0, V1, _, _, [], StIs.of (by exact rfl), by omega, View.le_refl _, own_nil, R1At.nil _, fun C hC => by simp at hC⟩ ?_
    rintro q s ⟨i, V2, H2, wo, outs, hs, hqi, hV2, hown, hrow, hok⟩
    obtain ⟨z, rfl⟩ := hs.out
    try dsimp only
    clear hs
    by_cases hi : i < Ks.length
    rotate_left
    · obtain rfl : i = Ks.length := by omega
      have b1 : decide ((Ks.length : Int) < (Ks.length : Int)) = false := decide_eq_false (by omega)
      refine Gx.a (by kernel_rfl) fun K hK => ?_
      simp only [XA, XB, b1]
      refine hK _ ?_
      refine XWP.seq (Gx.f rfl ?_)
      refine XWP.exit ?_
      rw [List.take_length] at hrow hok
      exact fun f => ⟨V2, H2, wo, outs, StIs.of (by exact rfl), hown, hrow, hok⟩
    have b1 : decide ((i : Int) < (Ks.length : Int)) = true := decide_eq_true (by omega)
    refine Gx.a (by kernel_rfl) fun K hK => ?_
    simp only [XA, XB, b1]
    refine hK _ ?_
    refine XWP.seq (Gx.t rfl ?_)
    refine XWP.skip ?_
    obtain ⟨bw, ow, rfl⟩ := hw.addr (by omega)
    obtain ⟨u, g1, o1, g2⟩ := Sl1.load (hw.mono (Sl1_ok natE_ok) hV2) i hi
    have g2 := fun H => g2 H _ _ shapeT_34
    have hm := List.getElem_mem hi
    obtain ⟨C, hCe⟩ : ∃ C, C = Ks[i] := ⟨_, rfl⟩
    rw [← hCe] at g1 hm
    have hc := hcls C hm
    obtain ⟨A3, c3, rfl, _, _⟩ := g1.form
    refine XWP.cutD 1 (fun s => ∃ (V3 : View) (H3 : Heap) (wo : Value) (outs : List Value), StIs (fun Z => [Z 0, .p 0 0, Z 2,Z 3,Z 4,Z 5, .v wo, Z 7,Z 8,Z 9,Z 10,Z 11,Z 12,Z 13,Z 14,Z 15,Z 16, .v (.slice (some ⟨bw, ow, none⟩) Ks.length c2), .v (.int .i64 (Ks.length : Int)), .v (.int .i64 (i : Int)), Z 20,Z 21,Z 22,Z 23,Z 24,Z 25,Z 26,Z 27,Z 28,Z 29,Z 30]) [[.int .i64 (n : Int), .int .i64 (n : Int), .slice A L.length cp]] H3 V3 s ∧ V2.le V3 ∧ Own H3 22 1 wo (i + 1) outs ∧ R1At Rats V3 outs ((Ks.take (i + 1)).map (lawC (qs L) n)) ∧ ∀ C ∈ Ks.take (i + 1), LawOk (qs L) n B C) ?_ ?_
    · refine XWP.block ?_
      refine Gx.a (by kernel_rfl) fun K hK => ?_
      simp only [XN, XA]
      refine ⟨by omega, by omega, ?_⟩
      refine ld_mem (by simpa using g2 _) ?_
      simp only [XA]
      refine hK _ ?_
      refine Gx.c (by kernel_rfl) fun K hK => ?_
      simp only [XM, XA, Nat.reduceAdd, Nat.reduceLeDiff, ↓reduceIte]
      refine call_go (by kernel_rfl) rfl (balone2_c _ _ _ n B (qs L) C (hr.up hV2) (by omega) hn g1 hc.lt hc.ne (by have := hc.le; omega) (law_uni hc.sto hc.irr) hq (Nat.le_trans (ge_mono _ (by have := hc.le; omega)) hB3)) fun v3 V3 hV3 h3 => ?_
      obtain ⟨h3, r3⟩ := h3
      have o3 := rats_one r3
      simp only [XA]
      refine bs_go (by kernel_rfl) #[(0, v3)] (by simp [ev_tmp, SV.val]) (bs_one elemT_38 zeroT_22 o3) fun bq hbq1 hbq2 => ?_
      simp only [XA]
      refine ap_go elemT_38 (by kernel_rfl) zeroT_22 rfl (by omega) (own_upd hown hbq1) (src_one (upd_at _ _ _) o3) (by omega) (by omega) fun v' H' hres => ?_
      simp only [XA]
      have et : Ks.take (i + 1) = Ks.take i ++ [C] := by rw [List.take_add_one, List.getElem?_eq_getElem hi, ← hCe]; rfl
      have hrow' := (hrow.mono rats_ok hV3).snoc o3 r3
      exact hK _ fun f => ⟨V3, H', v', outs ++ [v3], StIs.of (by exact rfl), hV3, hres.1, by rw [et, List.map_append]; exact hrow', fun D hD => by
        rw [et, List.mem_append] at hD
        rcases hD with hD | hD
        · exact hok D hD
        · rw [List.mem_singleton.1 hD]; exact h3⟩
    clear hown hrow hok
    rintro s ⟨V3, H3, wo, outs, hs, hV3, hown, hrow, hok⟩
    obtain ⟨z, rfl⟩ := hs.out
    try dsimp only
    refine Gx.c (by kernel_rfl) fun K hK => ?_
    simp only [XA, XB, i64_succ i (by omega)]
    exact hK _ ⟨q - 1, by omega, fun f => ⟨i + 1, V3, H3, wo, outs, StIs.of (by exact rfl), by omega, View.le_trans hV2 hV3, hown, hrow, hok⟩⟩
  rintro s ⟨V2, H2, wo, outs, hs, hown, hrow, hok⟩
  obtain ⟨z, rfl⟩ := hs.out
  try dsimp only
  refine Gx.a (by kernel_rfl) fun K hK => ?_
  simp only [XA]
  refine hK _ ?_
  have hown' : Own H2 22 1 wo (Ks.map (lawC (qs L) n)).length outs := by rw [List.length_map]; exact hown
  refine XWP.pub1 rats_ok hown' hrow fun H4 V4 hV4 hs4 _ => ?_
  refine XWP.ret ?_
  try simp only [thenX_ret, inBlockX_ret]
  refine ret_go _ rfl ⟨fun h => (by rw [e] at h; cases h), fun _ => ⟨_, rfl, by rw [Int.toNat_natCast, ← hK0]; exact hok, ?_⟩⟩
  rw [Int.toNat_natCast]; unfold allL; rw [← hK0]; exact hs4
/-- the only law of a matrix: none where there are several classes -/
theorem balone1_c (V : View) (s : Value) (r c : Int) (L : List Raw) (B : Nat) (h : Raws V s L) (f : fitR L) (ll : L.length ≤ 100000) (hq : okR L = true → ∀ x ∈ qs L, QB B x) (hB : 1001 * (B + 1) ≤ 17592186044416) (hB2 : stoB r c L = true → ge (B + 1) (2 * r.toNat + 1) ≤ 17592186044416) :
    Spec Tryz.prog 17 [.agg #[.int .i64 r, .int .i64 c, s]] V fun v' V' => (stoB r c L = false → v' = .tuple #[.slice none 0 0, .int .i64 1]) ∧ (stoB r c L = true → (∀ C ∈ clsL (qs L) r.toNat, LawOk (qs L) r.toNat B C) ∧ ((clsL (qs L) r.toNat).length ≠ 1 → v' = .tuple #[.slice none 0 0, .int .i64 3]) ∧ ∀ C, clsL (qs L) r.toNat = [C] → ∃ w, v' = .tuple #[w, .int .i64 0] ∧ Rats V' w (lawC (qs L) r.toNat C)) := by
  obtain ⟨A, cp, rfl, hc, hm⟩ := h.form
  refine (Spec.enter Tryz.func17 rfl fun Γ => ?_)
  simp only [Tryz.ntmps17, List.map_cons, List.map_nil, List.length_cons, List.length_nil, Nat.reduceAdd, Nat.reduceSub, List.replicate_succ, List.replicate_zero, List.cons_append, List.nil_append]
  refine Gx.a (by kernel_rfl) fun K hK => ?_
  simp only [XA]
  refine hK _ ?_
  refine Gx.a (by kernel_rfl) fun K hK => ?_
  simp only [XM, XA, Nat.reduceAdd, Nat.reduceLeDiff, ↓reduceIte]
  refine call_go (by kernel_rfl) rfl (ball_c _ _ r c L B h f ll hq hB hB2) fun v1 V1 hV1 h1 => ?_
  cases e : stoB r c L
  · obtain rfl := h1.1 e
    simp only [XA]
    refine hK _ ?_
    refine XWP.seq ?_
    refine Gx.a (by kernel_rfl) fun K hK => ?_
    simp only [XA, XB]
    refine hK _ ?_
    refine Gx.t rfl ?_
    refine Gx.a (by kernel_rfl) fun K hK => ?_
    simp only [XA]
    refine hK _ (XWP.ret ?_)
    try simp only [thenX_ret, inBlockX_ret]
    refine ret_go _ rfl ?_
    exact ⟨fun _ => rfl, fun h => by rw [e] at h; cases h⟩
  obtain ⟨w, rfl, hok, hw⟩ := h1.2 e
  obtain ⟨A2, c2, rfl, hc2, hm2⟩ := hw.form
  have hl : (allL (qs L) r.toNat).length = (clsL (qs L) r.toNat).length := List.length_map ..
  simp only [XA]
  refine hK _ ?_
  refine XWP.seq ?_
  refine Gx.a (by kernel_rfl) fun K hK => ?_
  simp only [XA, XB]
  refine hK _ ?_
  refine Gx.f rfl ?_
  refine XWP.skip ?_
  refine XWP.seq ?_
  have hcl := clsL_len (qs L) r.toNat
  by_cases e1 : (clsL (qs L) r.toNat).length = 1
  rotate_left
  · have b1 : decide (((allL (qs L) r.toNat).length : Int) = 1) = false := decide_eq_false (by omega)
    refine Gx.a (by kernel_rfl) fun K hK => ?_
    simp only [XN, XA, XB, b1]
    refine hK _ ?_
    refine Gx.t rfl ?_
    refine Gx.a (by kernel_rfl) fun K hK => ?_
    simp only [XA]
    refine hK _ (XWP.ret ?_)
    try simp only [thenX_ret, inBlockX_ret]
    refine ret_go _ rfl ?_
    exact ⟨fun h => (by rw [e] at h; cases h), fun _ => ⟨hok, fun _ => rfl, fun C hC => absurd (by rw [hC]; rfl) e1⟩⟩
  obtain ⟨C, hC⟩ := List.length_eq_one_iff.1 e1
  have eA : allL (qs L) r.toNat = [lawC (qs L) r.toNat C] := by unfold allL; rw [hC]; rfl
  have b1 : decide (((allL (qs L) r.toNat).length : Int) = 1) = true := decide_eq_true (by omega)
  refine Gx.a (by kernel_rfl) fun K hK => ?_
  simp only [XN, XA, XB, b1]
  refine hK _ ?_
  refine Gx.f rfl ?_
  refine XWP.skip ?_
  rw [eA] at hw
  obtain ⟨bw, ow, rfl⟩ := hw.addr (by simp)
  obtain ⟨u, g1, _, g2⟩ := Sl1.load hw 0 (by simp)
  have g2 := fun H => g2 H _ _ shapeT_22
  obtain ⟨A3, c3, rfl, _, _⟩ := SlAt.form g1
  refine Gx.a (by kernel_rfl) fun K hK => ?_
  simp only [XN, XA, XB, Int.reduceLE]
  refine ⟨by omega, ?_⟩
  refine ld_mem (by simpa using g2 _) ?_
  simp only [XA]
  refine hK _ (XWP.ret ?_)
  try simp only [thenX_ret, inBlockX_ret]
  refine ret_go _ rfl ⟨fun h => (by rw [e] at h; cases h), fun _ => ⟨hok, fun h => absurd e1 h, fun D hD => ⟨_, rfl, ?_⟩⟩⟩
  rw [hC] at hD
  cases hD
  exact g1
end Go.Proofs.YtkgmicakfmllmaaGreat
end
section
namespace Go.Proofs.YtkgmicakfmllmaaGreat
open Go Go.RowKit
set_option linter.unusedSimpArgs false
set_option linter.unusedVariables false
attribute [local irreducible] XWP Spec SpecO XPub XCall seqX clX apX stX ldX iaX slX
def swpL : List Rat := [0, 1, 1, 0]
theorem shutL_congr {w w' : Nat → Nat → Bool} {op : Nat → Bool} {n : Nat} (h : ∀ i k, i < n → k < n → w i k = w' i k) : shutL w op n = shutL w' op n := by
  have hr : ∀ x, x ∈ List.range n → x < n := fun x hx => List.mem_range.1 hx
  have e1 : ∀ i, i < n → (List.range n).filter (w i) = (List.range n).filter (w' i) := fun i hi => List.filter_congr fun k hk => h i k hi (hr k hk)
  have e2 : ∀ i, i < n → ((List.range n).all fun k => !w i k || (w k i && !op k && decide (i ≤ k))) = ((List.range n).all fun k => !w' i k || (w' k i && !op k && decide (i ≤ k))) := fun i hi => by
    rw [Bool.eq_iff_iff, List.all_eq_true, List.all_eq_true]
    exact ⟨fun g k hk => by rw [← h i k hi (hr k hk), ← h k i (hr k hk) hi]; exact g k hk, fun g k hk => by rw [h i k hi (hr k hk), h k i (hr k hk) hi]; exact g k hk⟩
  have gen : ∀ l : List Nat, (∀ x ∈ l, x < n) → (l.filterMap fun i => if ((List.range n).all fun k => !w i k || (w k i && !op k && decide (i ≤ k))) = true then some ((List.range n).filter (w i)) else none) = l.filterMap fun i => if ((List.range n).all fun k => !w' i k || (w' k i && !op k && decide (i ≤ k))) = true then some ((List.range n).filter (w' i)) else none := by
    intro l hl
    induction l with
    | nil => rfl
    | cons x l ih =>
      have hx := hl x (by simp)
      rw [List.filterMap_cons, List.filterMap_cons, e1 x hx, e2 x hx, ih fun y hy => hl y (by simp [hy])]
  exact gen _ hr
theorem swp_e : eM swpL 2 0 1 = true ∧ eM swpL 2 1 0 = true := by decide +kernel
theorem swp_w : ∀ i k, i < 2 → k < 2 → wR (eM swpL 2) 2 i k = true := fun i k hi hk => by
  rw [wR_iff]
  have h01 : Rch (fun a b => eM swpL 2 a b = true) 2 0 1 := .step (.refl (by omega)) (by omega) swp_e.1
  have h10 : Rch (fun a b => eM swpL 2 a b = true) 2 1 0 := .step (.refl (by omega)) (by omega) swp_e.2
  have : (i = 0 ∨ i = 1) ∧ (k = 0 ∨ k = 1) := by omega
  rcases this with ⟨rfl | rfl, rfl | rfl⟩
  · exact .refl (by omega)
  · exact h01
  · exact h10
  · exact .refl (by omega)
theorem swp_cls : clsL swpL 2 = [[0, 1]] := by
  unfold clsL
  rw [shutL_congr (w' := fun _ _ => true) swp_w]; rfl
theorem swp_sto : stoB 2 2 (swpL.map toRaw) = true := by
  unfold stoB
  rw [show matR 2 2 (swpL.map toRaw) = true from matR_rats (n := 2) (m := 2) rfl (by omega) (by omega), qs_toRaw]
  decide +kernel
theorem swp_law : lawC swpL 2 [0, 1] = [hf, hf] := by
  obtain ⟨n, h1, h2, _, _, _, hS⟩ := stoB_parts swp_sto
  obtain rfl : n = 2 := by omega
  rw [qs_toRaw] at hS
  have hc := cls_irr hS (C := [0, 1]) (by rw [swp_cls]; simp)
  have hX : LinG (lawG (subG (gridL swpL 2) [0, 1]) [0, 1].length) [0, 1].length [0, 1].length (oneB [0, 1].length) (fun _ => hf) := fun i hi => by
    have hi : i < 2 := hi
    have : i = 0 ∨ i = 1 := by omega
    rcases this with rfl | rfl
    · decide +kernel
    · decide +kernel
  have e := theX_eq (law_uni hc.sto hc.irr) hX
  unfold lawC
  rw [← scat_congr [0, 1].length e]
  decide +kernel
theorem swp_QB : ∀ x ∈ swpL, QB 2 x := by
  intro x hx
  simp only [swpL, List.mem_cons, List.not_mem_nil, or_false] at hx
  rcases hx with rfl | rfl | rfl | rfl
  · exact QB_zero 2
  · exact QB_one 2
  · exact QB_one 2
  · exact QB_zero 2
theorem hf2_law : lawB ([hf, hf].map toRaw) = true := by
  have h : wtB 2 ([hf, hf].map toRaw) = true := wtB_raw (n := 2) rfl fun j hj => by
    have : j = 0 ∨ j = 1 := by omega
    rcases this with rfl | rfl
    · decide +kernel
    · decide +kernel
  unfold wtB at h
  rw [Bool.and_eq_true] at h
  unfold lawB
  rw [h.2, qs_toRaw, Bool.true_and]
  decide +kernel
theorem swap34_c (V : View) : Spec Tryz.prog 59 [] V fun v' V' => ∃ w, v' = .agg #[.int .i64 2, .int .i64 2, w] ∧ Rats V' w swpL := by
  refine (Spec.enter Tryz.func59 rfl fun Γ => ?_)
  simp only [Tryz.ntmps59, List.map_nil, List.length_nil, Nat.reduceSub, List.replicate_succ, List.replicate_zero, List.nil_append]
  refine Gx.a (by kernel_rfl) fun K hK => ?_
  simp only [XM, XA]
  refine hK _ ?_
  refine Gx.a (by kernel_rfl) fun K hK => ?_
  simp only [XA]
  refine call_go (by kernel_rfl) rfl (pzero_c _) fun v1 V1 hV1 h1 => ?_
  simp only [XA]
  refine call_go (by kernel_rfl) rfl (pone_c _) fun v2 V2 hV2 h2 => ?_
  simp only [XA]
  refine call_go (by kernel_rfl) rfl (pone_c _) fun v3 V3 hV3 h3 => ?_
  simp only [XA]
  refine call_go (by kernel_rfl) rfl (pzero_c _) fun v4 V4 hV4 h4 => ?_
  have h1 := ((h1.mono hV2).mono hV3).mono hV4
  have h2 := (h2.mono hV3).mono hV4
  have h3 := h3.mono hV4
  obtain ⟨x1, y1, rfl, o1, q1⟩ := h1.form
  obtain ⟨x2, y2, rfl, o2, q2⟩ := h2.form
  obtain ⟨x3, y3, rfl, o3, q3⟩ := h3.form
  obtain ⟨x4, y4, rfl, o4, q4⟩ := h4.form
  simp only [XA]
  refine bs_go (by kernel_rfl) #[(0, .agg #[.bool (ng 0), x1, y1]), (1, .agg #[.bool (ng 1), x2, y2]), (2, .agg #[.bool (ng 1), x3, y3]), (3, .agg #[.bool (ng 0), x4, y4])] (by simp [ev_tmp, SV.val]) (bs_rat4 elemT_22) fun b hb1 hb2 => ?_
  simp only [XA, Nat.reduceAdd]
  refine bd_go (by kernel_rfl) #[(0, .int .i64 2), (1, .int .i64 2), (2, .slice (some ⟨b, 0, none⟩) 4 4)] (by simp [ev_tmp, ev_const, SV.val]) (bd_mtx3 rfl rfl rfl) ?_
  simp only [XA]
  refine st_mat shapeT_24 rfl rfl rfl rfl rfl ?_
  simp only [XA]
  have hrow := ((((RowAt.nil (E := ratE) V4).snoc (x := 0) (show isOne (.bool (ng 0)) = true from rfl) o1 q1 h1).snoc (x := 1) (show isOne (.bool (ng 1)) = true from rfl) o2 q2 h2).snoc (x := 1) (show isOne (.bool (ng 1)) = true from rfl) o3 q3 h3).snoc (x := 0) (show isOne (.bool (ng 0)) = true from rfl) o4 q4 h4
  simp only [List.nil_append, List.cons_append] at hrow
  refine hK _ (XWP.ret ?_)
  try simp only [thenX_ret, inBlockX_ret]
  refine ret_pub b ⟨49, [.bool (ng 0), x1, y1, .bool (ng 1), x2, y2, .bool (ng 1), x3, y3, .bool (ng 0), x4, y4], 12⟩ (by simp only [upd_at]) fun o ho hle => ret_go _ (by simp [resAll, resV, cellsV, shapeT_24]; rfl) ⟨_, rfl, ?_⟩
  exact hrow.pub ratE_ok ho hle (n := 4) (c := 4) rfl (Nat.le_refl _) (by omega)
attribute [local irreducible] swpL
theorem alive34_c (V : View) : Spec Tryz.prog 22 [] V fun v' V' => v' = .bool true := by
  have hl4 : (swpL.map toRaw).length = 4 := by rw [List.length_map]; with_unfolding_all rfl
  refine (Spec.enter Tryz.func22 rfl fun Γ => ?_)
  simp only [Tryz.ntmps22, List.map_nil, List.length_nil, Nat.reduceSub, List.replicate_succ, List.replicate_zero, List.nil_append]
  refine Gx.a (by kernel_rfl) fun K hK => ?_
  simp only [XA]
  refine hK _ ?_
  refine Gx.a (by kernel_rfl) fun K hK => ?_
  simp only [XA]
  refine call_go (by kernel_rfl) rfl (swap34_c _) fun v1 V1 hV1 h1 => ?_
  obtain ⟨w, rfl, hw⟩ := h1
  simp only [XA]
  refine call_go (by kernel_rfl) rfl (balone1_c _ _ 2 2 (swpL.map toRaw) 2 (Rats.raws hw) (fitR_toRaw fun x hx => (swp_QB x hx).qf (by omega)) (by omega) (fun _ => by rw [qs_toRaw]; exact swp_QB) (by omega) (fun _ => by decide)) fun v2 V2 hV2 h2 => ?_
  have h2 := (h2.2 swp_sto).2.2
  rw [qs_toRaw] at h2
  obtain ⟨w2, rfl, hw2⟩ := h2 [0, 1] swp_cls
  have hw2 : Rats V2 w2 [hf, hf] := by have e := swp_law; rw [← e]; exact hw2
  obtain ⟨A2, c2, rfl, q1, q2⟩ := SlAt.form hw2
  simp only [XA, Nat.reduceAdd]
  refine hK _ ?_
  refine Gx.a (by kernel_rfl) fun K hK => ?_
  simp only [XA]
  refine call_go (by kernel_rfl) rfl (dmake_c _) fun v3 V3 hV3 h3 => ?_
  obtain ⟨w3, rfl, h3⟩ := h3
  obtain ⟨x3, y3, rfl, o1, o2⟩ := h3.form
  simp only [XA, XB]
  refine st_rat rfl rfl rfl o1 o2 ?_
  simp only [XA]
  refine hK _ ?_
  have hw3 := hw2.up hV3
  obtain ⟨b, o, rfl⟩ := SlAt.addr hw3 (by simp)
  obtain ⟨m4, n4, d4, hx4, ⟨r1, r2, r3⟩, hld⟩ := Rats.get hw3 0 (by simp)
  have hx4 : RatC V3 (.agg #[m4, n4, d4]) hf := hx4
  have qh : QF hf := hf_QB.qf (by omega)
  (refine XWP.drw [0, 1, 2, 3, 4, 5, 6, 7, 8, 9, 10, 11, 12, 13, 14, 15, 16, 17, 18] (by kernel_rfl) (by kernel_rfl) (by kernel_rfl) fun K hK => ?_) <;> dsimp only [pickOps, List.getElem?_cons_zero, List.getElem?_cons_succ]
  have b2 : decide (((2 : Nat) : Int) = 2) = true := rfl
  simp only [XA, XB, gateX, Nat.reduceAdd, Nat.reduceLeDiff, Nat.reduceMul, ↓reduceIte, Int.reduceLE, b2]
  refine ⟨by omega, ?_⟩
  refine ld_mem (by simpa using hld _) ?_
  simp only [XA, XB, gateX, Nat.reduceAdd, Nat.reduceLeDiff, ↓reduceIte]
  refine call_go (by kernel_rfl) rfl (psame_c _ _ _ _ _ (hx4.toV qh) (h3.toV qh) qh qh) fun v5 V5 hV5 h5 => ?_
  subst h5
  simp only [XA, gateX, ↓reduceIte, beq_self_eq_true, decide_true, beq_self_eq_true]
  refine call_go (by kernel_rfl) rfl (blaw_c _ _ ([hf, hf].map toRaw) 1 (Rats.raws (hw3.up hV5)) (fitR_toRaw fun x hx => by (simp only [List.mem_cons, List.not_mem_nil, or_false, or_self] at hx; rw [hx]; exact qh)) (by simp) (fun _ => by rw [qs_toRaw]; exact fun x hx => by (simp only [List.mem_cons, List.not_mem_nil, or_false, or_self] at hx; rw [hx]; exact hf_QB)) (by omega)) fun v6 V6 hV6 h6 => ?_
  subst h6
  rw [hf2_law]
  simp only [XA, ↓reduceIte]
  refine hK _ (XWP.ret ?_)
  try simp only [thenX_ret, inBlockX_ret]
  refine ret_go _ rfl ?_
  rfl
end Go.Proofs.YtkgmicakfmllmaaGreat
end
section
namespace Go.Proofs.YtkgmicakfmllmaaGreat
open Go Go.RowKit
set_option linter.unusedSimpArgs false
set_option linter.unusedVariables false
attribute [local irreducible] XWP Spec SpecO XPub XCall seqX clX apX stX ldX iaX slX
theorem fineB_few {r c : Int} {M : List Raw} (h : fineB r c M = true) : r ≤ 8 ∧ c ≤ 8 ∧ M.length ≤ 70 ∧ fewR M := by
  unfold fineB at h
  rw [Bool.and_eq_true, Bool.and_eq_true, decide_eq_true_eq, decide_eq_true_eq] at h
  have := fewB_few h.2
  exact ⟨h.1.1, h.1.2, this.1, this.2⟩
theorem LM.of {V : View} {v s : Value} {r c : Int} {L M : List Raw} (hv : Raws V v L) (hs : Raws V s M) (h1 : fewB L = true) (h2 : fineB r c M = true) : LM V v s L M 96 := by
  obtain ⟨a1, a2⟩ := fewB_few h1
  obtain ⟨_, _, a3, a4⟩ := fineB_few h2
  exact ⟨hv, hs, a2.fit, a4.fit, by omega, by omega, fewR_QB a2 (Raws.dig hv), fewR_QB a4 (Raws.dig hs), by omega⟩
end Go.Proofs.YtkgmicakfmllmaaGreat
end
section
namespace Go.Proofs.YtkgmicakfmllmaaGreat
open Go Go.RowKit
set_option linter.unusedSimpArgs false
set_option linter.unusedVariables false
attribute [local irreducible] XWP Spec SpecO XPub XCall seqX clX apX stX ldX iaX slX
def revN (L : List Raw) (r c : Int) (M : List Raw) : Int := if revE L r c M = 0 then (L.length : Int) else 0
def revL (L : List Raw) (r c : Int) (M : List Raw) : List Rat := if revE L r c M = 0 then flatG (backF (cf (qs L)) (gridL (qs M) L.length)) L.length L.length else []
theorem RevR.all {L M : List Raw} {r c : Int} {v' : Value} {V' : View} (h : RevR L r c M v' V') : ∃ w, v' = .tuple #[.agg #[.int .i64 (revN L r c M), .int .i64 (revN L r c M), w], .int .i64 (revE L r c M)] ∧ Rats V' w (revL L r c M) := by
  obtain ⟨h1, h2⟩ := h
  unfold revN revL
  by_cases e : revE L r c M = 0
  · obtain ⟨w, h3, h4⟩ := h2 e
    rw [if_pos e, if_pos e]
    exact ⟨w, by rw [e]; exact h3, h4⟩
  · rw [if_neg e, if_neg e]
    exact ⟨_, h1 e, SlAt.nil _⟩
end Go.Proofs.YtkgmicakfmllmaaGreat
end
section
namespace Go.Proofs.YtkgmicakfmllmaaGreat
open Go Go.RowKit
set_option linter.unusedSimpArgs false
set_option linter.unusedVariables false
attribute [local irreducible] XWP Spec SpecO XPub XCall seqX clX apX stX ldX iaX slX
def lawOk (L : List Raw) (r c : Int) (M : List Raw) : Bool := fewB L && fineB r c M && lawB L && stoB r c M && decide (r = (L.length : Int))
theorem law34_c (V : View) (v s : Value) (r c : Int) (L M : List Raw) (hv : Raws V v L) (hs : Raws V s M) : Spec Tryz.prog 31 [v, .agg #[.int .i64 r, .int .i64 c, s]] V fun v' V' => v' = .bool (lawOk L r c M) := by
  obtain ⟨A1, c1, rfl, hc1, hm1⟩ := hv.form
  obtain ⟨A2, c2, rfl, hc2, hm2⟩ := hs.form
  refine (Spec.enter Tryz.func31 rfl fun Γ => ?_)
  simp only [Tryz.ntmps31, List.map_cons, List.map_nil, List.length_cons, List.length_nil, Nat.reduceAdd, Nat.reduceSub, List.replicate_succ, List.replicate_zero, List.cons_append, List.nil_append]
  refine Gx.a (by kernel_rfl) fun K hK => ?_
  simp only [XA]
  refine hK _ ?_
  unfold lawOk
  refine Gx.a (by kernel_rfl) fun K hK => ?_
  simp only [XA]
  refine call_go (by kernel_rfl) rfl (few34_c _ _ L hv) fun v1 V1 hV1 h1 => ?_
  subst h1
  cases e1 : fewB L
  · simp only [XA, gateX, ↓reduceIte]
    refine hK _ (XWP.ret ?_)
    try simp only [thenX_ret, inBlockX_ret]
    refine ret_go _ rfl ?_
    rw [e1]; rfl
  simp only [XM, XA, gateX, Nat.reduceAdd, Nat.reduceLeDiff, ↓reduceIte, beq_self_eq_true]
  refine call_go (by kernel_rfl) rfl (fine34_c _ _ r c M (hs.up hV1)) fun v2 V2 hV2 h2 => ?_
  subst h2
  cases e2 : fineB r c M
  · simp only [XA, gateX, ↓reduceIte]
    refine hK _ (XWP.ret ?_)
    try simp only [thenX_ret, inBlockX_ret]
    refine ret_go _ rfl ?_
    rw [e1, e2]; rfl
  have hle := View.le_trans hV1 hV2
  have h := LM.of (hv.up hle) (hs.up hle) e1 e2
  clear hv hs
  simp only [XA, gateX, ↓reduceIte, beq_self_eq_true]
  refine call_go (by kernel_rfl) rfl (dlaw_c _ _ L 96 h.hv h.fL h.lL h.qL (by omega)) fun v3 V3 hV3 h3 => ?_
  subst h3
  cases e3 : lawB L
  · simp only [XA, gateX, ↓reduceIte]
    refine hK _ (XWP.ret ?_)
    try simp only [thenX_ret, inBlockX_ret]
    refine ret_go _ rfl ?_
    rw [e1, e2, e3]; rfl
  have h := h.up hV3
  simp only [XM, XA, gateX, Nat.reduceAdd, Nat.reduceLeDiff, ↓reduceIte, beq_self_eq_true]
  refine call_go (by kernel_rfl) rfl (of34_c _ _ _ _ rfl rfl rfl) fun v4 V4 hV4 h4 => ?_
  subst h4
  have h := h.up hV4
  simp only [XA, gateX, ↓reduceIte, beq_self_eq_true]
  refine call_go (by kernel_rfl) rfl (dsto_c _ _ r c M 96 h.hs h.fM (by have := h.lM; omega) h.qM (by omega)) fun v5 V5 hV5 h5 => ?_
  subst h5
  cases e4 : stoB r c M
  · simp only [XA, gateX, ↓reduceIte]
    refine hK _ (XWP.ret ?_)
    try simp only [thenX_ret, inBlockX_ret]
    refine ret_go _ rfl ?_
    rw [e1, e2, e3, e4]; rfl
  simp only [XM, XA, XB, gateX, ↓reduceIte, beq_self_eq_true]
  refine hK _ (XWP.ret ?_)
  try simp only [thenX_ret, inBlockX_ret]
  refine ret_go _ rfl ?_
  rw [e1, e2, e3, e4]; rfl
theorem positive34_c (V : View) (v : Value) (L : List Raw) (hv : Raws V v L) (ok : okR L = true) (ll : L.length ≤ 1000) (hq : ∀ x ∈ qs L, QF x) : Spec Tryz.prog 47 [v] V fun v' V' => v' = .bool (!zerB L) := by
  have hz := zerB_iff hv ok
  have hr := Raws.rats hv ok
  obtain ⟨A1, c1, rfl, hc1, hm1⟩ := hv.form
  have lq := qs_len L
  refine (Spec.enter Tryz.func47 rfl fun Γ => ?_)
  simp only [Tryz.ntmps47, List.map_cons, List.map_nil, List.length_cons, List.length_nil, Nat.reduceAdd, Nat.reduceSub, List.replicate_succ, List.replicate_zero, List.cons_append, List.nil_append]
  refine Gx.a (by kernel_rfl) fun K hK => ?_
  simp only [XA]
  refine hK _ ?_
  refine XWP.cutD 0 (fun s => ∃ (V2 : View), StIs (fun Z => [Z 0,Z 1,Z 2,Z 3,Z 4,Z 5,Z 6,Z 7,Z 8,Z 9,Z 10,Z 11,Z 12,Z 13,Z 14,Z 15]) [] (fun _ => none) V2 s ∧ zerB L = false) ?_ ?_
  · refine Gx.a (by kernel_rfl) fun K hK => ?_
    simp only [XA, XB]
    refine hK _ ?_
    clear hK
    refine XWP.block ?_
    refine XWP.loopD 0 (fun q s => ∃ (i : Nat) (V2 : View), StIs (fun Z => [.v (.slice A1 L.length c1), Z 1,Z 2,Z 3,Z 4, .v (.int .i64 (L.length : Int)), .v (.int .i64 (i : Int)), Z 7,Z 8,Z 9,Z 10,Z 11,Z 12,Z 13,Z 14,Z 15]) [] (fun _ => none) V2 s ∧ q + i = L.length ∧ V.le V2 ∧ ∀ j, j < i → cf (qs L) j ≠ 0) L.length ⟨0, V, StIs.of (by exact rfl), by omega, View.le_refl _, fun j hj => by omega⟩ ?_
    rintro q s ⟨i, V2, hs, hq2, hV2, hnz⟩
    obtain ⟨z, rfl⟩ := hs.out
    try dsimp only
    clear hs
    by_cases hi : i < L.length
    rotate_left
    · obtain rfl : i = L.length := by omega
      have b2 : decide ((L.length : Int) < (L.length : Int)) = false := decide_eq_false (by omega)
      refine Gx.a (by kernel_rfl) fun K hK => ?_
      simp only [XA, XB, b2]
      refine hK _ ?_
      refine XWP.seq (Gx.f rfl ?_)
      refine XWP.exit ?_
      exact fun f => ⟨V2, StIs.of (by exact rfl), hz.2 hnz⟩
    have b2 : decide ((i : Int) < (L.length : Int)) = true := decide_eq_true (by omega)
    refine Gx.a (by kernel_rfl) fun K hK => ?_
    simp only [XA, XB, b2]
    refine hK _ ?_
    refine XWP.seq (Gx.t rfl ?_)
    refine XWP.skip ?_
    have hv2 := hr.up hV2
    obtain ⟨b, o, rfl⟩ := SlAt.addr hv2 (by omega)
    obtain ⟨m6, n6, d6, hx6, ⟨p1, p2, p3⟩, hld6⟩ := Rats.get hv2 i (by omega)
    have f6 := hq _ (cf_mem (l := qs L) (i := i) (by omega))
    refine XWP.seq ?_
    refine XWP.block ?_
    refine Gx.a (by kernel_rfl) fun K hK => ?_
    simp only [XA]
    refine hK _ ?_
    refine Gx.a (by kernel_rfl) fun K hK => ?_
    simp only [XA, XB]
    refine ⟨by omega, by omega, ld_mem (hld6 _) ?_⟩
    simp only [XA]
    refine call_go (by kernel_rfl) rfl (psign_c _ _ _ (hx6.toV f6)) fun v5 V5 hV5 h5 => ?_
    subst h5
    have es := sgI_zero (cf (qs L) i)
    by_cases he : cf (qs L) i = 0
    · rw [decide_eq_true he] at es
      simp only [XA, XB, es]
      refine hK _ ?_
      refine Gx.t rfl ?_
      refine Gx.a (by kernel_rfl) fun K hK => ?_
      simp only [XA]
      refine hK _ (XWP.ret ?_)
      try simp only [thenX_ret, inBlockX_ret]
      refine ret_go _ rfl ?_
      have ez : zerB L = true := by
        cases g : zerB L
        · exact absurd he (hz.1 g i hi)
        · rfl
      rw [ez]; rfl
    · rw [decide_eq_false he] at es
      simp only [XA, XB, es]
      refine hK _ ?_
      refine Gx.f rfl ?_
      refine XWP.skip ?_
      refine Gx.c (by kernel_rfl) fun K hK => ?_
      simp only [XA, XB, i64_succ i (by omega)]
      refine hK _ ⟨q - 1, by omega, fun f => ⟨i + 1, V5, StIs.of (by exact rfl), by omega, View.le_trans hV2 hV5, fun j hj => ?_⟩⟩
      by_cases g : j = i
      · rw [g]; exact he
      · exact hnz j (by omega)
  rintro s ⟨V2, hs, ez⟩
  obtain ⟨z, rfl⟩ := hs.out
  try dsimp only
  refine Gx.a (by kernel_rfl) fun K hK => ?_
  simp only [XA]
  refine hK _ (XWP.ret ?_)
  try simp only [thenX_ret, inBlockX_ret]
  refine ret_go _ rfl ?_
  rw [ez]; rfl
theorem flatG_eq {G : Grid} {l : List Rat} {n : Nat} (ll : l.length = n * n) : flatG G n n = l ↔ ∀ i k, i < n → k < n → G i k = gridL l n i k := by
  constructor
  · intro h i k hi hk
    rw [← flatG_at G hi hk, h]; rfl
  · intro h
    rw [flatG_congr h]
    exact flatG_gridL ll
end Go.Proofs.YtkgmicakfmllmaaGreat
end
section
namespace Go.Proofs.YtkgmicakfmllmaaGreat
theorem scat_at {C : List Nat} {X : Nat → Rat} {n : Nat} (inj : ∀ a b, a < C.length → b < C.length → C.getD a 0 = C.getD b 0 → a = b) (lt : ∀ a, a < C.length → C.getD a 0 < n) : ∀ k, k ≤ C.length → ∀ j, j < k → cf (scat C X n k) (C.getD j 0) = X j
  | 0, _, j, hj => absurd hj (Nat.not_lt_zero _)
  | k + 1, hk, j, hj => by
    rw [scat]
    by_cases e : j = k
    · subst e
      unfold cf
      rw [List.getD_eq_getElem?_getD, List.getElem?_set_self (by rw [scat_len]; exact lt j (by omega))]
      rfl
    · have h1 : C.getD k 0 ≠ C.getD j 0 := fun h => e (inj k j (by omega) (by omega) h).symm
      have ih := scat_at inj lt k (by omega) j (by omega) (X := X)
      unfold cf at ih ⊢
      rw [List.getD_eq_getElem?_getD, List.getElem?_set_ne h1, ← List.getD_eq_getElem?_getD]
      exact ih
theorem scat_off {C : List Nat} {X : Nat → Rat} {n i : Nat} (hi : ∀ a, a < C.length → C.getD a 0 ≠ i) : ∀ k, k ≤ C.length → cf (scat C X n k) i = 0
  | 0, _ => by
    rw [scat, cf_mk]
    split <;> rfl
  | k + 1, hk => by
    have ih := scat_off hi k (by omega) (X := X) (n := n)
    rw [scat]
    unfold cf at ih ⊢
    rw [List.getD_eq_getElem?_getD, List.getElem?_set_ne (hi k (by omega)), ← List.getD_eq_getElem?_getD]
    exact ih
theorem filt_inj {n : Nat} {p : Nat → Bool} {a b : Nat} (ha : a < ((List.range n).filter p).length) (hb : b < ((List.range n).filter p).length) (h : ((List.range n).filter p).getD a 0 = ((List.range n).filter p).getD b 0) : a = b := by
  have nd : ((List.range n).filter p).Nodup := List.nodup_range.filter _
  rw [List.getD_eq_getElem?_getD, List.getD_eq_getElem?_getD, List.getElem?_eq_getElem ha, List.getElem?_eq_getElem hb] at h
  exact (List.getElem_inj nd).1 h
/-- the law of a closed class -/
structure LawP (l : List Rat) (n : Nat) (C : List Nat) : Prop where
  len : (lawC l n C).length = n
  nn : ∀ i, i < n → 0 ≤ cf (lawC l n C) i
  one : Sm (cf (lawC l n C)) n = 1
  stay : ∀ k, k < n → stepF (cf (lawC l n C)) (gridL l n) n k = cf (lawC l n C) k
  off : ∀ i, i < n → i ∉ C → cf (lawC l n C) i = 0
  pos : ∀ i, i ∈ C → 0 < cf (lawC l n C) i
theorem lawP_of {l : List Rat} {n B : Nat} (hS : StoG (gridL l n) n) {C : List Nat} (hC : C ∈ clsL l n) (ok : LawOk l n B C) : LawP l n C := by
  have hc := cls_irr hS hC
  have hlin := ok.lin
  obtain ⟨i0, hi0, hCe, hall⟩ := shutL_mem hC
  have hpos : ∀ a b, a < n → b < n → (eM l n a b = true ↔ 0 < gridL l n a b) := fun a b ha hb => by
    rw [eM_iff]
    have := hS.nn a b ha hb
    constructor
    · intro h; grind
    · intro h; grind
  have hcl : ∀ a b, a < n → b < n → wR (eM l n) n i0 a = true → wR (eM l n) n i0 b = false → gridL l n a b = 0 := fun a b ha hb h1 h2 => by
    have := hS.nn a b ha hb
    by_cases h : 0 < gridL l n a b
    · have : wR (eM l n) n i0 b = true := by
        rw [wR_iff] at h1 ⊢
        exact .step h1 hb ((hpos a b ha hb).2 h)
      rw [this] at h2; cases h2
    · grind
  have lt : ∀ a, a < C.length → C.getD a 0 < n := fun a ha => hc.lt _ (by rw [List.getD_eq_getElem?_getD, List.getElem?_eq_getElem ha]; exact List.getElem_mem ha)
  have inj : ∀ a b, a < C.length → b < C.length → C.getD a 0 = C.getD b 0 → a = b := fun a b ha hb h => by
    subst hCe
    exact filt_inj ha hb h
  have gat : ∀ j, j < C.length → cf (lawC l n C) (C.getD j 0) = theX l n C j := fun j hj => scat_at inj lt C.length (Nat.le_refl _) j hj
  have mem : ∀ i, i ∈ C ↔ i < n ∧ wR (eM l n) n i0 i = true := fun i => by
    rw [hCe, List.mem_filter, List.mem_range]
  have goff : ∀ i, i ∉ C → cf (lawC l n C) i = 0 := fun i hi => scat_off (fun a ha e => hi (by
    rw [← e, List.getD_eq_getElem?_getD, List.getElem?_eq_getElem ha]; exact List.getElem_mem ha)) C.length (Nat.le_refl _)
  generalize theX l n C = X at *
  have e1 : ∀ k, k + 1 < C.length → Sm (fun i => X i * subG (gridL l n) C i k) C.length = X k := fun k hk => by
    have h1 := hlin k (by omega)
    rw [lawG_row (by omega) (by omega)] at h1
    unfold oneB at h1
    rw [if_neg (by omega)] at h1
    grind
  have e2 := stays_all hc.sto e1
  have e3 : Sm X C.length = 1 := by
    have h1 := hlin (C.length - 1) (by have := hc.ne; omega)
    rw [lawG_last (by have := hc.ne; omega)] at h1
    unfold oneB at h1
    rw [if_pos (by have := hc.ne; omega)] at h1
    exact h1
  have hp := law_pos hc.sto hc.irr e2 (by rw [e3]; decide)
  have gpos : ∀ i, i ∈ C → 0 < cf (lawC l n C) i := fun i hi => by
    obtain ⟨j, hj, e⟩ := List.mem_iff_getElem.1 hi
    have : C.getD j 0 = i := by rw [List.getD_eq_getElem?_getD, List.getElem?_eq_getElem hj, ← e]; rfl
    rw [← this, gat j hj]
    exact hp j hj
  have sums : ∀ (f : Nat → Rat), (∀ k, k < n → k ∉ C → f k = 0) → Sm f n = Sm (fun v => f (C.getD v 0)) C.length := fun f hf => by
    have := Sm_list n (wR (eM l n) n i0) (f := f) fun k hk hw => hf k hk (fun hm => by rw [((mem k).1 hm).2] at hw; cases hw)
    rw [← hCe] at this
    exact this
  refine ⟨scat_len _ _ _ _, fun i hi => ?_, ?_, fun k hk => ?_, fun i _ hi => goff i hi, gpos⟩
  · by_cases h : i ∈ C
    · exact Rat.le_of_lt (gpos i h)
    · rw [goff i h]; exact Rat.le_refl
  · rw [sums _ fun k _ hk => goff k hk, ← e3]
    exact Sm_congr _ fun v hv => gat v hv
  · unfold stepF
    rw [sums _ fun i _ hi => by rw [goff i hi, Rat.zero_mul]]
    by_cases h : k ∈ C
    · obtain ⟨j, hj, e⟩ := List.mem_iff_getElem.1 h
      have ej : C.getD j 0 = k := by rw [List.getD_eq_getElem?_getD, List.getElem?_eq_getElem hj, ← e]; rfl
      rw [← ej, gat j hj, ← e2 j hj]
      exact Sm_congr _ fun v hv => by rw [gat v hv]; rfl
    · rw [goff k h]
      have : ∀ v, v < C.length → cf (lawC l n C) (C.getD v 0) * gridL l n (C.getD v 0) k = 0 := fun v hv => by
        have hm : C.getD v 0 ∈ C := by rw [List.getD_eq_getElem?_getD, List.getElem?_eq_getElem hv]; exact List.getElem_mem hv
        rw [hcl _ _ (lt v hv) hk ((mem _).1 hm).2 (by
          cases e : wR (eM l n) n i0 k
          · rfl
          · exact absurd ((mem k).2 ⟨hk, e⟩) h), Rat.mul_zero]
      exact Sm_zero _ this
/-- a list of fractions that is a law -/
theorem lawB_raw {n : Nat} {l : List Rat} (h : l.length = n) (hn : ∀ i, i < n → 0 ≤ cf l i) (h1 : Sm (cf l) n = 1) : lawB (l.map toRaw) = true := by
  have hw := wtB_raw h hn
  unfold wtB at hw
  rw [Bool.and_eq_true] at hw
  unfold lawB
  rw [hw.2, qs_toRaw, Bool.true_and, List.length_map, h]
  exact decide_eq_true h1
/-- a list of fractions that is a stochastic matrix -/
theorem stoB_raw {n : Nat} {l : List Rat} (h : l.length = n * n) (hn : n ≤ 60) (hS : StoG (gridL l n) n) : stoB (n : Int) (n : Int) (l.map toRaw) = true := by
  unfold stoB
  rw [matR_rats h hn hn, decide_eq_true rfl, qs_toRaw, Bool.true_and, Bool.true_and, Int.toNat_natCast, List.all_eq_true]
  intro i hi
  rw [List.mem_range] at hi
  unfold rowOk
  rw [Bool.and_eq_true, List.all_eq_true, decide_eq_true_eq]
  refine ⟨fun k hk => ?_, hS.one i hi⟩
  rw [List.mem_range] at hk
  have := hS.nn i k hi hk
  rw [Bool.not_eq_true', ng_iff]
  exact this
end Go.Proofs.YtkgmicakfmllmaaGreat
end
section
namespace Go.Proofs.YtkgmicakfmllmaaGreat
theorem ge12 : 2 * ge 97 12 ≤ 3300000000 := by decide
theorem ge13 : ge 97 13 ≤ 17592186044416 := by decide
/-- what stays, has a reversal -/
theorem stay_rev {L M : List Raw} {n : Nat} (e : fitE L n n M = 0) (lL : L.length = n) (lM : M.length = n * n) (hz : zerB L = false) (hst : ∀ k, k < n → stepF (cf (qs L)) (gridL (qs M) n) n k = cf (qs L) k) :
    staysB L n n M = true ∧ revE L n n M = 0 ∧ revN L n n M = n ∧ revL L n n M = flatG (backF (cf (qs L)) (gridL (qs M) n)) n n := by
  have lq : (qs L).length = n := by rw [qs_len, lL]
  have h1 : staysB L n n M = true := by
    unfold staysB
    rw [decide_eq_true e, Bool.true_and, decide_eq_true_eq, lL]
    refine List.ext_getElem (by rw [stepL_len, lq]) fun i h1 h2 => ?_
    rw [cf_get h1, cf_get h2, stepL_at (by omega)]
    exact hst i (by omega)
  have h2 : revE L n n M = 0 := by unfold revE; rw [if_neg (fun g => g e), if_neg (by rw [hz]; simp), if_pos h1]
  refine ⟨h1, h2, ?_, ?_⟩
  · unfold revN; rw [if_pos h2, lL]
  · unfold revL; rw [if_pos h2, lL]
/-- all that BalanceTwice says of numbers -/
structure TwiceP (L M A : List Raw) (n : Nat) : Prop where
  fit : fitE L n n M = 0
  rev : revE L n n M = 0
  revn : revN L n n M = n
  revl : revL L n n M = qs A
  fitA : fitE L n n A = 0
  sto : stoB n n A = true
  stay : staysB L n n A = true
  revA : revE L n n A = 0
  revAn : revN L n n A = n
  revAl : revL L n n A = qs M
theorem flat_mem {G : Grid} {n : Nat} {P : Rat → Prop} (h : ∀ i k, i < n → k < n → P (G i k)) : ∀ x ∈ flatG G n n, P x := fun x hx => by
  unfold flatG mk at hx
  obtain ⟨t, ht, rfl⟩ := List.mem_map.1 hx
  have ht := List.mem_range.1 ht
  have hn : 0 < n := by
    rcases Nat.eq_zero_or_pos n with g | g
    · rw [g] at ht; omega
    · exact g
  exact h _ _ ((Nat.div_lt_iff_lt_mul hn).2 ht) (Nat.mod_lt _ hn)
theorem back_QB {l m : List Rat} {n B C : Nat} (ll : l.length = n) (lm : m.length = n * n) (hl : ∀ x ∈ l, QB B x) (hm : ∀ x ∈ m, QB C x) : ∀ x ∈ flatG (backF (cf l) (gridL m n)) n n, QB (2 * B + C) x :=
  flat_mem fun i k hi hk => by
    have k1 := hl _ (cf_mem (l := l) (i := k) (by omega))
    have k2 := hl _ (cf_mem (l := l) (i := i) (by omega))
    have k3 := hm _ (cf_mem (l := m) (i := k * n + i) (by rw [lm]; exact pos_lt hk hi))
    exact ((k1.mul k3).div k2).mono (by omega)
theorem twiceP_of {M : List Raw} {n B : Nat} (hs : stoB n n M = true) {C : List Nat} (hC : C ∈ clsL (qs M) n) (ok : LawOk (qs M) n B C) (hz : zerB ((lawC (qs M) n C).map toRaw) = false) (hnz : ∀ i, i < n → cf (lawC (qs M) n C) i ≠ 0) :
    TwiceP ((lawC (qs M) n C).map toRaw) M ((flatG (backF (cf (lawC (qs M) n C)) (gridL (qs M) n)) n n).map toRaw) n := by
  obtain ⟨n', e1, _, hn, lM, okM, hS⟩ := stoB_parts hs
  obtain rfl : n = n' := by omega
  have hp := lawP_of hS hC ok
  obtain ⟨ll, nn, one, stay, _, _⟩ := hp
  generalize lawC (qs M) n C = l at *
  have hpos : ∀ i, i < n → 0 < cf l i := fun i hi => by
    have h1 := nn i hi
    have h2 := hnz i hi
    grind
  have lR : (l.map toRaw).length = n := by rw [List.length_map]; exact ll
  have eq := qs_toRaw l
  have hb := lawB_raw ll nn one
  have fit : fitE (l.map toRaw) n n M = 0 := fitE_ok (by rw [hb, hs]; rfl) (by rw [lR])
  have stay' : ∀ k, k < n → stepF (cf (qs (l.map toRaw))) (gridL (qs M) n) n k = cf (qs (l.map toRaw)) k := by rw [eq]; exact stay
  obtain ⟨_, r2, r3, r4⟩ := stay_rev fit lR lM hz stay'
  rw [eq] at r4
  obtain ⟨a, ha⟩ : ∃ a, a = flatG (backF (cf l) (gridL (qs M) n)) n n := ⟨_, rfl⟩
  have la : a.length = n * n := by rw [ha]; exact flatG_len _ _ _
  have hga : ∀ i k, i < n → k < n → gridL a n i k = backF (cf l) (gridL (qs M) n) i k := fun i k hi hk => by rw [ha]; exact gridL_flat _ hi hk
  have hSa : StoG (gridL a n) n := by
    have h := back_sto hS hpos stay
    refine ⟨fun i k hi hk => by rw [hga i k hi hk]; exact h.nn i k hi hk, fun i hi => ?_⟩
    rw [← h.one i hi]
    exact Sm_congr _ fun k hk => hga i k hi hk
  have hsa := stoB_raw la hn hSa
  have fitA : fitE (l.map toRaw) n n (a.map toRaw) = 0 := fitE_ok (by rw [hb, hsa]; rfl) (by rw [lR])
  have stayA : ∀ k, k < n → stepF (cf (qs (l.map toRaw))) (gridL (qs (a.map toRaw)) n) n k = cf (qs (l.map toRaw)) k := by
    rw [eq, qs_toRaw]
    intro k hk
    rw [← back_stays hS hnz k hk]
    exact Sm_congr _ fun i hi => by rw [hga i k hi hk]
  obtain ⟨q1, q2, q3, q4⟩ := stay_rev fitA lR (by rw [List.length_map]; exact la) hz stayA
  rw [← ha] at r4 ⊢
  refine ⟨fit, r2, r3, by rw [r4, qs_toRaw], fitA, hsa, q1, q2, q3, ?_⟩
  rw [q4, eq, qs_toRaw, flatG_eq (by rw [qs_len, lM])]
  intro i k hi hk
  have := back_back (M := gridL (qs M) n) (hnz i hi) (hnz k hk)
  rw [← this]
  unfold backF at hga ⊢
  rw [hga k i hk hi]
end Go.Proofs.YtkgmicakfmllmaaGreat
end
section
namespace Go.Proofs.YtkgmicakfmllmaaGreat
open Go Go.RowKit
set_option linter.unusedSimpArgs false
set_option linter.unusedVariables false
attribute [local irreducible] XWP Spec SpecO XPub XCall seqX clX apX stX ldX iaX slX
set_option maxHeartbeats 4000000 in
theorem twice34_c (V : View) (s : Value) (r c : Int) (M : List Raw) (hs : Raws V s M) : Spec Tryz.prog 9 [.agg #[.int .i64 r, .int .i64 c, s]] V fun v' V' => v' = .bool true := by
  obtain ⟨A2, c2, rfl, hc2, hm2⟩ := hs.form
  refine (Spec.enter Tryz.func9 rfl fun Γ => ?_)
  simp only [Tryz.ntmps9, List.map_cons, List.map_nil, List.length_cons, List.length_nil, Nat.reduceAdd, Nat.reduceSub, List.replicate_succ, List.replicate_zero, List.cons_append, List.nil_append]
  refine Gx.a (by kernel_rfl) fun K hK => ?_
  simp only [XA]
  refine hK _ ?_
  refine XWP.seq ?_
  refine Gx.a (by kernel_rfl) fun K hK => ?_
  simp only [XM, XA, Nat.reduceAdd, Nat.reduceLeDiff, ↓reduceIte]
  refine call_go (by kernel_rfl) rfl (fine34_c _ _ r c M hs) fun v1 V1 hV1 h1 => ?_
  subst h1
  cases e1 : fineB r c M
  · simp only [XA, gateX, ↓reduceIte]
    refine hK _ ?_
    refine Gx.t rfl ?_
    refine Gx.a (by kernel_rfl) fun K hK => ?_
    simp only [XA]
    refine hK _ (XWP.ret ?_)
    try simp only [thenX_ret, inBlockX_ret]
    refine ret_go _ rfl ?_
    rfl
  obtain ⟨f1, f2, f3, f4⟩ := fineB_few e1
  have fM := f4.fit
  have qM := fewR_QB f4 (Raws.dig hs)
  by_cases e2 : (6 : Int) < r
  · have b1 : decide ((6 : Int) < r) = true := decide_eq_true e2
    simp only [XM, XA, XB, gateX, ↓reduceIte, beq_self_eq_true, b1]
    refine hK _ ?_
    refine Gx.t rfl ?_
    refine Gx.a (by kernel_rfl) fun K hK => ?_
    simp only [XA]
    refine hK _ (XWP.ret ?_)
    try simp only [thenX_ret, inBlockX_ret]
    refine ret_go _ rfl ?_
    rfl
  have b1 : decide ((6 : Int) < r) = false := decide_eq_false e2
  simp only [XM, XA, XB, gateX, Nat.reduceAdd, Nat.reduceLeDiff, ↓reduceIte, beq_self_eq_true, b1]
  refine call_go (by kernel_rfl) rfl (of34_c _ _ _ _ rfl rfl rfl) fun v2 V2 hV2 h2 => ?_
  subst h2
  have hs := hs.up (View.le_trans hV1 hV2)
  simp only [XA, gateX, ↓reduceIte, beq_self_eq_true]
  refine call_go (by kernel_rfl) rfl (dsto_c _ _ r c M 96 hs fM (by omega) qM (by omega)) fun v3 V3 hV3 h3 => ?_
  subst h3
  cases e3 : stoB r c M
  · simp only [XA, gateX, ↓reduceIte, beq_self_eq_true]
    refine hK _ ?_
    refine Gx.t rfl ?_
    refine Gx.a (by kernel_rfl) fun K hK => ?_
    simp only [XA]
    refine hK _ (XWP.ret ?_)
    try simp only [thenX_ret, inBlockX_ret]
    refine ret_go _ rfl ?_
    rfl
  simp only [XA, gateX, ↓reduceIte, beq_self_eq_true]
  refine hK _ ?_
  refine Gx.f rfl ?_
  refine XWP.skip ?_
  have hs := hs.up hV3
  obtain ⟨n, rfl, rfl, hn, lM, okM, hS⟩ := stoB_parts e3
  have hg : ge (96 + 1) (2 * n + 1) ≤ 17592186044416 := Nat.le_trans (ge_mono 97 (show 2 * n + 1 ≤ 13 by omega)) ge13
  refine Gx.a (by kernel_rfl) fun K hK => ?_
  simp only [XM, XA, Nat.reduceAdd, Nat.reduceLeDiff, ↓reduceIte]
  refine call_go (by kernel_rfl) rfl (balone1_c _ _ n n M 96 hs fM (by omega) (fun _ => qM) (by omega) (fun _ => hg)) fun v4 V4 hV4 h4 => ?_
  obtain ⟨hok, hno, hyes⟩ := h4.2 e3
  rw [Int.toNat_natCast] at hok hno hyes
  by_cases hc : (clsL (qs M) n).length = 1
  rotate_left
  · obtain rfl := hno hc
    have b30 : decide ((3 : Int) = 0) = false := rfl
    simp only [XA]
    refine hK _ ?_
    refine XWP.seq ?_
    refine Gx.a (by kernel_rfl) fun K hK => ?_
    simp only [XA, XB, gateX, ↓reduceIte, b30]
    refine hK _ ?_
    refine Gx.t rfl ?_
    refine Gx.a (by kernel_rfl) fun K hK => ?_
    simp only [XA]
    refine call_go (by kernel_rfl) rfl (alive34_c _) fun v15 V15 hV15 h15 => ?_
    subst h15
    simp only [XA]
    refine hK _ (XWP.ret ?_)
    try simp only [thenX_ret, inBlockX_ret]
    refine ret_go _ rfl ?_
    rfl
  obtain ⟨C, hC⟩ := List.length_eq_one_iff.1 hc
  obtain ⟨w, rfl, hw⟩ := hyes C hC
  have hmem : C ∈ clsL (qs M) n := by rw [hC]; simp
  have hok1 := hok C hmem
  have hCl := (cls_irr hS hmem).le
  have hle12 : 2 * ge (96 + 1) (2 * C.length) ≤ 3300000000 := Nat.le_trans (Nat.mul_le_mul_left 2 (ge_mono 97 (show 2 * C.length ≤ 12 by omega))) ge12
  have ql : ∀ x ∈ lawC (qs M) n C, QB 3300000000 x := scat_mem (QB_zero _) _ fun j hj => (hok1.qb j hj).mono hle12
  have ll : (lawC (qs M) n C).length = n := scat_len _ _ _ _
  have htp := twiceP_of e3 hmem hok1
  clear hyes hno hok h4
  generalize lawC (qs M) n C = l at *
  have qf : ∀ x ∈ l, QF x := fun x hx => (ql x hx).qf (by omega)
  have lR : (l.map toRaw).length = n := by rw [List.length_map]; exact ll
  have hL := Rats.raws hw
  have hz := zerB_iff hL (okR_toRaw l)
  rw [lR, qs_toRaw] at hz
  obtain ⟨Aw, cw, rfl, _, _⟩ := hw.form
  simp only [XA]
  refine hK _ ?_
  refine XWP.seq ?_
  refine Gx.a (by kernel_rfl) fun K hK => ?_
  simp only [XA, XB, gateX, ↓reduceIte, beq_self_eq_true, decide_true]
  refine call_go (by kernel_rfl) rfl (positive34_c _ _ (l.map toRaw) hL (okR_toRaw l) (by omega) (by rw [qs_toRaw]; exact qf)) fun v5 V5 hV5 h5 => ?_
  subst h5
  cases ez : zerB (l.map toRaw)
  rotate_left
  · simp only [XA, gateX, ↓reduceIte, beq_self_eq_true]
    refine hK _ ?_
    refine Gx.t rfl ?_
    refine Gx.a (by kernel_rfl) fun K hK => ?_
    simp only [XA]
    refine call_go (by kernel_rfl) rfl (alive34_c _) fun v15 V15 hV15 h15 => ?_
    subst h15
    simp only [XA]
    refine hK _ (XWP.ret ?_)
    try simp only [thenX_ret, inBlockX_ret]
    refine ret_go _ rfl ?_
    rfl
  simp only [XA, gateX, ↓reduceIte, beq_self_eq_true]
  refine hK _ ?_
  refine Gx.f rfl ?_
  refine XWP.skip ?_
  have hnz := hz.1 ez
  have tp := htp ez hnz
  clear htp hz
  obtain ⟨a, ha⟩ : ∃ a, a = flatG (backF (cf l) (gridL (qs M) n)) n n := ⟨_, rfl⟩
  have qa : ∀ x ∈ a, QB 6600000096 x := fun x hx => by rw [ha] at hx; exact (back_QB ll (by rw [qs_len]; exact lM) ql qM x hx).mono (by omega)
  have la : a.length = n * n := by rw [ha]; exact flatG_len _ _ _
  have laR : (a.map toRaw).length = n * n := by rw [List.length_map]; exact la
  have hnn : n * n ≤ 3600 := Nat.le_trans (Nat.mul_le_mul hn hn) (by decide)
  have hn6 : n * n ≤ 36 := Nat.le_trans (Nat.mul_le_mul (show n ≤ 6 by omega) (show n ≤ 6 by omega)) (by decide)
  rw [← ha] at tp
  have hle45 := View.le_trans hV4 hV5
  have h : LM V5 (.slice Aw l.length cw) (.slice A2 M.length c2) (l.map toRaw) M 3300000000 :=
    ⟨Raws.up hL hV5, hs.up hle45, fitR_toRaw qf, fM, by omega, by omega, by rw [qs_toRaw]; exact ql, fun x hx => (qM x hx).mono (by omega), by omega⟩
  refine Gx.a (by kernel_rfl) fun K hK => ?_
  simp only [XM, XA, Nat.reduceAdd, Nat.reduceLeDiff, ↓reduceIte]
  refine call_go (by kernel_rfl) rfl (bRev_c _ _ _ n n (l.map toRaw) M 3300000000 h) fun v6 V6 hV6 h6 => ?_
  obtain ⟨w6, rfl, k6⟩ := h6.all
  rw [tp.revl, qs_toRaw] at k6
  rw [tp.revn, tp.rev]
  obtain ⟨A6, c6, rfl, _, _⟩ := k6.form
  simp only [XM, XA]
  refine st_mat shapeT_24 rfl rfl rfl rfl rfl ?_
  simp only [XA]
  refine hK _ ?_
  have qfa : ∀ x ∈ a, QF x := fun x hx => (qa x hx).qf (by omega)
  have h2 : LM V6 (.slice Aw l.length cw) (.slice A6 a.length c6) (l.map toRaw) (a.map toRaw) 6600000096 :=
    ⟨Raws.up h.hv hV6, Rats.raws k6, h.fL, fitR_toRaw qfa, by omega, by omega, fun x hx => (h.qL x hx).mono (by omega), by rw [qs_toRaw]; exact qa, by omega⟩
  have hs6 := (h.up hV6).hs
  refine Gx.a (by kernel_rfl) fun K hK => ?_
  simp only [XM, XA, Nat.reduceAdd, Nat.reduceLeDiff, ↓reduceIte]
  refine call_go (by kernel_rfl) rfl (bStays_c _ _ _ n n (l.map toRaw) (a.map toRaw) 6600000096 h2) fun v7 V7 hV7 h7 => ?_
  subst h7
  rw [tp.stay, tp.fitA]
  have h2 := h2.up hV7
  simp only [XA]
  refine hK _ ?_
  refine Gx.a (by kernel_rfl) fun K hK => ?_
  simp only [XM, XA, Nat.reduceAdd, Nat.reduceLeDiff, ↓reduceIte]
  refine call_go (by kernel_rfl) rfl (bRev_c _ _ _ n n (l.map toRaw) (a.map toRaw) 6600000096 h2) fun v8 V8 hV8 h8 => ?_
  obtain ⟨w8, rfl, k8⟩ := h8.all
  rw [tp.revAl] at k8
  rw [tp.revAn, tp.revA]
  obtain ⟨A8, c8, rfl, _, _⟩ := k8.form
  simp only [XM, XA, Nat.reduceAdd]
  refine st_mat shapeT_24 rfl rfl rfl rfl rfl ?_
  simp only [XA]
  refine hK _ ?_
  have h2 := h2.up hV8
  have hs8 := hs6.up (View.le_trans hV7 hV8)
  (refine XWP.drw [0, 1, 2, 3, 4, 5, 6, 7, 8, 9, 10, 11, 12, 13, 14, 15, 16, 17, 18, 19, 21, 20, 22, 23, 24, 25, 26, 27, 28] (by kernel_rfl) (by kernel_rfl) (by kernel_rfl) fun K hK => ?_) <;> dsimp only [pickOps, List.getElem?_cons_zero, List.getElem?_cons_succ]
  simp only [XM, XA, XB, gateX, Nat.reduceAdd, Nat.reduceLeDiff, ↓reduceIte]
  refine call_go (by kernel_rfl) rfl (of34_c _ _ _ _ rfl rfl rfl) fun v9 V9 hV9 h9 => ?_
  subst h9
  simp only [XA, gateX]
  refine call_go (by kernel_rfl) rfl (dsto_c _ _ n n (a.map toRaw) 6600000096 (h2.hs.up hV9) h2.fM (by omega) h2.qM (by omega)) fun v10 V10 hV10 h10 => ?_
  subst h10
  rw [tp.sto]
  simp only [XM, XA, gateX, Nat.reduceAdd, Nat.reduceLeDiff, ↓reduceIte]
  refine call_go (by kernel_rfl) rfl (of34_c _ _ _ _ rfl rfl rfl) fun v11 V11 hV11 h11 => ?_
  subst h11
  simp only [XA, gateX]
  refine call_go (by kernel_rfl) rfl (of34_c _ _ _ _ rfl rfl rfl) fun v12 V12 hV12 h12 => ?_
  subst h12
  have hle12 := View.le_trans hV9 (View.le_trans hV10 (View.le_trans hV11 hV12))
  have qfM : ∀ x ∈ qs M, QF x := fun x hx => (qM x hx).qf (by omega)
  simp only [XA, gateX]
  refine call_go (by kernel_rfl) rfl (dMsame_c _ _ _ _ _ _ _ _ _ (k8.up hle12) (Raws.rats (hs8.up hle12) okM) qfM qfM) fun v13 V13 hV13 h13 => ?_
  have h13 : v13 = .bool true := by
    rw [h13, decide_eq_true rfl, decide_eq_true rfl]; rfl
  subst h13
  simp only [XA, gateX]
  refine call_go (by kernel_rfl) rfl (alive34_c _) fun v15 V15 hV15 h15 => ?_
  subst h15
  simp only [XA]
  refine hK _ (XWP.ret ?_)
  try simp only [thenX_ret, inBlockX_ret]
  refine ret_go _ rfl ?_
  rfl
end Go.Proofs.YtkgmicakfmllmaaGreat
end
section
namespace Go.Proofs.YtkgmicakfmllmaaGreat.balanceTwice
open Go.ChangeShapes Go.WideShapes Go.ChangeAt Go.RowKit
set_option linter.unusedVariables false
theorem own : ownKnob Tryz.prog.godebug = none := by kernel_rfl
theorem laidOut : laidOutB Tryz.prog = true := by kernel_rfl
set_option maxRecDepth 100000 in
theorem lifted (os : Os) (started : os.Started) (H : Type) (enc : TypeId × Value → H) :
    ReturnsInHanded {} Tryz.checked os 9 .any (Rows.balanceTwiceSpec.pre6 enc Tryz.prog Tryz.f9 Rows.balanceTwiceRow.domain false) (Rows.balanceTwiceSpec.post enc Tryz.prog Tryz.f9 false true false false) := by
  refine returnsInHanded_of_change_sized (C := Tryz.checked) own started (by kernel_rfl) Tryz.func9
    (ChangeSpec.witness6 (enc := enc) (C := Tryz.checked) false ⟨#[], #[.agg #[.int .i64 0, .int .i64 0, .slice none 0 0]], []⟩ 8 (by kernel_rfl) (by kernel_rfl) (by kernel_rfl) (by kernel_rfl)) ?_
  intro W base args ds gs before hval0 hW hcnd hsz0 _
  have hval : ∀ (j : Nat) t v, Tryz.f9.params[j]? = some t → args[j]? = some v → Value.okWide Tryz.prog W .any base t v := hval0
  have hW' := hW
  obtain ⟨p, q, hA0, hV, rfl, hfz, hnd⟩ := hW
  have hA : DataW.TrodAll enc Tryz.prog W 0 (fun _ => true) true Tryz.f9.params.toList args.toList ds p := hA0
  rw [Tryz.params9] at hA hval
  obtain ⟨v0, vs0, d0, ds0, p0, q0, hargs, rfl, rfl, h0, r0⟩ := trodAll_cons hA
  obtain ⟨rfl, rfl, rfl⟩ := trodAll_nil r0
  obtain rfl : args = #[v0] := by cases args; simp_all
  obtain ⟨rfl, rfl⟩ := trodVars_none hV
  obtain ⟨c0, rfl, _⟩ := okWide_struct und_mat (hval 0 24 v0 rfl rfl)
  have k0 := h0
  have lt0 : ∀ x ∈ p0, x.block < W.heap.size := by obtain ⟨m, hm⟩ := k0; exact DataW.trod_lt m _ _ _ hm
  obtain ⟨fuel0, hf0⟩ := h0
  obtain ⟨r0r, r0c, s0, L0, j0, hL0⟩ := open_mat hf0
  obtain rfl : c0 = #[.int .i64 r0r, .int .i64 r0c, s0] := by cases c0; simpa [Value.cells] using j0
  clear hA0 hval0 hsz0
  refine (twice34_c (viewW W) _ r0r r0c L0 hL0 W (viewW_sub W)).mono fun e W' ⟨v, V', he, _, _, _, bel, hv⟩ => ?_
  subst hv
  subst he
  exact ⟨_, rfl, _, _, _, [], _, [], hW', trodAll_mk1 (shut_bool Tryz.underlying4 _), (trodAll_cons_mk (Below.trod laidOut (by kernel_rfl) (of_decide_eq_true (by kernel_rfl)) k0 bel lt0) trodAll_mk0), rfl, bel.frame _, fun h => by cases h⟩
theorem over : Rows.balanceTwiceRow.holds Tryz.pinned (OpenSpec.ofChange Rows.balanceTwiceSpec) :=
  OpenClaim.holds_of_wide 9 Tryz.f9 rfl rfl rfl rfl rfl rfl rfl ⟨rfl, rfl, rfl, rfl, rfl⟩ rfl rfl rfl rfl rfl (by kernel_rfl) Tryz.func9 (by kernel_rfl)
    (of_decide_eq_true (by kernel_rfl)) (by unfold Func.isWrapper; first | (rw [if_pos (by decide +kernel)]; kernel_rfl) | (rw [if_neg (by decide +kernel)]; exact ⟨rfl, rfl⟩))
    (fun os started H enc _ => lifted os started H enc)
theorem proved : Rows.BalanceTwiceSaid := over
#print axioms proved
end Go.Proofs.YtkgmicakfmllmaaGreat.balanceTwice
namespace Go.Proofs.YtkgmicakfmllmaaGreat
/-- The row, under a short name, for the claim. -/
theorem balanceTwice_holds : Rows.BalanceTwiceSaid := balanceTwice.proved
end Go.Proofs.YtkgmicakfmllmaaGreat
end
