/- The law BalanceMixes (each closed class has a stationary distribution that is positive exactly on the class; mixtures of these are stationary, and every stationary distribution is their mixture by its masses) answers true at every matrix, every list of fractions and every list of integers: no premise. (part 10 of 11) -/
import Derived.OrdersHeld
import Derived.Below
import Derived.Tactics
import Derived.KernelRfl
import Derived.RangeFuncCalls
import Derived.RangeFuncFrom
import Derived.RangeFuncLeaves
import Derived.OrdersIn
import Derived.Laws.AppendOwn
import Derived.Laws.MakeOwn
import Derived.Laws.CopyRow
import Derived.Laws.Cells
import Derived.Laws.World
import Derived.Laws.Alloc2
import Derived.Laws.NewBlocks
import Derived.Maps.AppendAt
import Derived.Test.YtkgmicakfmllmaaGreatProg
import Init.Data.List.Lemmas
import Init.Omega
import Derived.WalkKit
import Derived.ProofKit
import Derived.OpenShut
import Derived.ChangeOld
import Derived.SizedLaws
import Derived.ChangeSlices
import Derived.ChangeArms
import Derived.Deep.Slices
import Derived.Test.YtkgmicakfmllmaaGreatMX9
section
namespace Go.Proofs.YtkgmicakfmllmaaGreat
open Go Go.RowKit
set_option linter.unusedSimpArgs false
set_option linter.unusedVariables false
attribute [local irreducible] XWP Spec SpecO XPub XCall seqX clX apX stX ldX iaX slX
theorem Rch.imp {E E' : Nat → Nat → Prop} {n i k : Nat} (h : Rch E n i k) (e : ∀ a b, a < n → b < n → E a b → E' a b) : Rch E' n i k := by
  induction h with
  | refl h => exact .refl h
  | step hr hk he ih => exact .step ih hk (e _ _ hr.lt.2 hk he)
theorem eM_iff {l : List Rat} {n a b : Nat} : eM l n a b = true ↔ gridL l n a b ≠ 0 := by unfold eM gridL; rw [decide_eq_true_eq]
structure ClsG (l : List Rat) (n : Nat) (C : List Nat) : Prop where
  ne : 1 ≤ C.length
  le : C.length ≤ n
  lt : ∀ x ∈ C, x < n
  sto : StoG (subG (gridL l n) C) C.length
  irr : IrrG (subG (gridL l n) C) C.length
/-- a closed class of a stochastic matrix is an irreducible matrix of its own -/
theorem cls_irr {l : List Rat} {n : Nat} (hS : StoG (gridL l n) n) {C : List Nat} (hC : C ∈ clsL l n) : ClsG l n C := by
  obtain ⟨i, hi, rfl, hall⟩ := shutL_mem hC
  have hpos : ∀ a b, a < n → b < n → (eM l n a b = true ↔ 0 < gridL l n a b) := fun a b ha hb => by
    rw [eM_iff]
    have := hS.nn a b ha hb
    constructor
    · intro h; grind
    · intro h; grind
  have hc : ∀ a b, a < n → b < n → wR (eM l n) n i a = true → 0 < gridL l n a b → wR (eM l n) n i b = true := fun a b ha hb h1 h2 => by
    rw [wR_iff] at h1 ⊢
    exact .step h1 hb ((hpos a b ha hb).2 h2)
  refine ⟨?_, ?_, fun x hx => ?_, sub_sto hS hc, sub_irr hc fun a b ha hb h1 h2 => ?_⟩
  · have : i ∈ (List.range n).filter (wR (eM l n) n i) := by
      rw [List.mem_filter, List.mem_range, wR_iff]; exact ⟨hi, .refl hi⟩
    exact List.length_pos_of_mem this
  · have := List.length_filter_le (wR (eM l n) n i) (List.range n)
    rwa [List.length_range] at this
  · rw [List.mem_filter, List.mem_range] at hx; exact hx.1
  · have h3 := (hall a ha h1).1
    rw [wR_iff] at h3 h2
    exact (h3.trans h2).imp fun a b ha hb he => (hpos a b ha hb).1 he
theorem clsL_len (l : List Rat) (n : Nat) : (clsL l n).length ≤ n := shutP_len _ _ _ n
/-- the law of a class -/
noncomputable def theX (l : List Rat) (n : Nat) (C : List Nat) : Nat → Rat := @dite _ (∃ X, LinG (lawG (subG (gridL l n) C) C.length) C.length C.length (oneB C.length) X) (Classical.propDecidable _) (fun h => Classical.choose h) fun _ _ => 0
theorem theX_eq {l : List Rat} {n : Nat} {C : List Nat} (hu : UniG (lawG (subG (gridL l n) C) C.length) C.length C.length) {X : Nat → Rat} (hX : LinG (lawG (subG (gridL l n) C) C.length) C.length C.length (oneB C.length) X) : ∀ j, j < C.length → X j = theX l n C j := by
  have he : ∃ X, LinG (lawG (subG (gridL l n) C) C.length) C.length C.length (oneB C.length) X := ⟨X, hX⟩
  unfold theX
  rw [dif_pos he]
  exact hu.same hX (Classical.choose_spec he)
noncomputable def lawC (l : List Rat) (n : Nat) (C : List Nat) : List Rat := scat C (theX l n C) n C.length
noncomputable def allL (l : List Rat) (n : Nat) : List (List Rat) := (clsL l n).map (lawC l n)
structure LawOk (l : List Rat) (n B : Nat) (C : List Nat) : Prop where
  lin : LinG (lawG (subG (gridL l n) C) C.length) C.length C.length (oneB C.length) (theX l n C)
  qb : ∀ j, j < C.length → QB (2 * ge (B + 1) (2 * C.length)) (theX l n C j)
theorem balone2_c (V : View) (s vC : Value) (n B : Nat) (l : List Rat) (C : List Nat) (h : Rats V s l) (ll : l.length = n * n) (hn : n ≤ 60) (hC : Sl1 natE V vC C) (hlt : ∀ x ∈ C, x < n) (h1 : 1 ≤ C.length) (hl : C.length ≤ 60)
    (hu : UniG (lawG (subG (gridL l n) C) C.length) C.length C.length) (hq : ∀ x ∈ l, QB B x) (hB : ge (B + 1) (2 * C.length + 1) ≤ 17592186044416) :
    Spec Tryz.prog 58 [.agg #[.int .i64 (n : Int), .int .i64 (n : Int), s], vC] V fun v' V' => LawOk l n B C ∧ Rats V' v' (lawC l n C) :=
  (balone_c V s vC n B l C h ll hn hC hlt h1 hl hu hq hB).mono fun v' V' _ ⟨X, hX, hqX, hr⟩ => by
    have e := theX_eq hu hX
    refine ⟨⟨fun i hi => by rw [← hX i hi]; exact Sm_congr _ fun j hj => by rw [e j hj], fun j hj => by rw [← e j hj]; exact hqX j hj⟩, ?_⟩
    have e2 : scat C X n C.length = lawC l n C := scat_congr _ e
    rw [← e2]; exact hr
theorem rats_ok : ElOk Rats := fun _ _ _ _ hV h => Rats.up h hV
theorem rats_one {V : View} {v : Value} {l : List Rat} (h : Rats V v l) : isOne v = true := by obtain ⟨A, c, rfl, _⟩ := h.form; rfl
set_option maxHeartbeats 4000000 in
theorem ball_c (V : View) (s : Value) (r c : Int) (L : List Raw) (B : Nat) (h : Raws V s L) (f : fitR L) (ll : L.length ≤ 100000) (hq : okR L = true → ∀ x ∈ qs L, QB B x) (hB : 1001 * (B + 1) ≤ 17592186044416) (hB2 : stoB r c L = true → ge (B + 1) (2 * r.toNat + 1) ≤ 17592186044416) :
    Spec Tryz.prog 19 [.agg #[.int .i64 r, .int .i64 c, s]] V fun v' V' => (stoB r c L = false → v' = .tuple #[.slice none 0 0, .int .i64 1]) ∧ (stoB r c L = true → ∃ w, v' = .tuple #[w, .int .i64 0] ∧ (∀ C ∈ clsL (qs L) r.toNat, LawOk (qs L) r.toNat B C) ∧ Sl1 Rats V' w (allL (qs L) r.toNat)) := by
  obtain ⟨A, cp, rfl, hc, hm⟩ := h.form
  refine (Spec.enter Tryz.func19 rfl fun Γ => ?_)
  simp only [Tryz.ntmps19, List.map_cons, List.map_nil, List.length_cons, List.length_nil, Nat.reduceAdd, Nat.reduceSub, List.replicate_succ, List.replicate_zero, List.cons_append, List.nil_append]
  refine Gx.a (by kernel_rfl) fun K hK => ?_
  simp only [XA]
  refine hK _ ?_
  refine Gx.a (by kernel_rfl) fun K hK => ?_
  simp only [XM, XA, Nat.reduceAdd, Nat.reduceLeDiff, ↓reduceIte]
  refine call_go (by kernel_rfl) rfl (bClasses_c _ _ r c L B h f ll hq hB) fun v1 V1 hV1 h1 => ?_
  cases e : stoB r c L
  · obtain rfl := h1.1 e
    simp only [XA]
    refine hK _ ?_
    refine XWP.seq ?_
    refine Gx.a (by kernel_rfl) fun K hK => ?_
    simp only [XA, XB]
    refine hK _ ?_
    refine Gx.t rfl ?_
    refine Gx.a (by kernel_rfl) fun K hK => ?_
    simp only [XA]
    refine hK _ (XWP.ret ?_)
    try simp only [thenX_ret, inBlockX_ret]
    refine ret_go _ rfl ?_
    exact ⟨fun _ => rfl, fun h => by rw [e] at h; cases h⟩
  obtain ⟨w, rfl, hw⟩ := h1.2 e
  have hB3 := hB2 e
  clear hB2
  obtain ⟨n, rfl, rfl, hn, kl, ok, hS⟩ := stoB_parts e
  rw [Int.toNat_natCast] at hw hB3
  have hq := hq ok
  have hr := Rats.up (Raws.rats h ok) hV1
  have hlen := qs_len L
  rw [← hlen] at hr
  have hr : Rats V1 (.slice A L.length cp) (qs L) := by rw [hlen] at hr; exact hr
  obtain ⟨A2, c2, rfl, hc2, hm2⟩ := hw.form
  have hcn := clsL_len (qs L) n
  have hcls := fun C => cls_irr hS (C := C)
  obtain ⟨Ks, hK0⟩ : ∃ Ks, Ks = clsL (qs L) n := ⟨_, rfl⟩
  rw [← hK0] at hw hc2 hcn hcls ⊢
  simp only [XA]
  refine hK _ ?_
  refine XWP.seq ?_
  refine Gx.a (by kernel_rfl) fun K hK => ?_
  simp only [XA, XB]
  refine hK _ ?_
  refine Gx.f rfl ?_
  refine XWP.skip ?_
  refine Gx.a (by kernel_rfl) fun K hK => ?_
  simp only [XA]
  refine hK _ ?_
  refine XWP.cutD 1 (fun s => ∃ (V2 : View) (H2 : Heap) (wo : Value) (outs : List Value), StIs (fun Z => [Z 0,Z 1,Z 2,Z 3,Z 4,Z 5, .v wo, Z 7,Z 8,Z 9,Z 10,Z 11,Z 12,Z 13,Z 14,Z 15,Z 16,Z 17,Z 18,Z 19,Z 20,Z 21,Z 22,Z 23,Z 24,Z 25,Z 26,Z 27,Z 28,Z 29,Z 30]) [[.int .i64 (n : Int), .int .i64 (n : Int), .slice A L.length cp]] H2 V2 s ∧ Own H2 22 1 wo Ks.length outs ∧ R1At Rats V2 outs (Ks.map (lawC (qs L) n)) ∧ ∀ C ∈ Ks, LawOk (qs L) n B C) ?_ ?_
  · refine Gx.a (by kernel_rfl) fun K hK => ?_
    simp only [XN, XA]
    refine hK _ ?_
    clear hK
    refine XWP.block ?_
    refine XWP.loopD 1 (fun q s => ∃ (i : Nat) (V2 : View) (H2 : Heap) (wo : Value) (outs : List Value), StIs (fun Z => [Z 0, .p 0 0, Z 2,Z 3,Z 4,Z 5, .v wo, Z 7,Z 8,Z 9,Z 10,Z 11,Z 12,Z 13,Z 14,Z 15,Z 16, .v (.slice A2 Ks.length c2), .v (.int .i64 (Ks.length : Int)), .v (.int .i64 (i : Int)), Z 20,Z 21,Z 22,Z 23,Z 24,Z 25,Z 26,Z 27,Z 28,Z 29,Z 30]) [[.int .i64 (n : Int), .int .i64 (n : Int), .slice A L.length cp]] H2 V2 s ∧ q + i = Ks.length ∧ V1.le V2 ∧ Own H2 22 1 wo i outs ∧ R1At Rats V2 outs ((Ks.take i).map (lawC (qs L) n)) ∧ ∀ C ∈ Ks.take i, LawOk (qs L) n B C) Ks.length ⟨0, V1, _, _, [], StIs.of (by exact rfl), by omega, View.le_refl _, own_nil, R1At.nil _, fun C hC => by simp at hC⟩ ?_
    rintro q s ⟨i, V2, H2, wo, outs, hs, hqi, hV2, hown, hrow, hok⟩
    obtain ⟨z, rfl⟩ := hs.out
    try dsimp only
    clear hs
    by_cases hi : i < Ks.length
    rotate_left
    · obtain rfl : i = Ks.length := by omega
      have b1 : decide ((Ks.length : Int) < (Ks.length : Int)) = false := decide_eq_false (by omega)
      refine Gx.a (by kernel_rfl) fun K hK => ?_
      simp only [XA, XB, b1]
      refine hK _ ?_
      refine XWP.seq (Gx.f rfl ?_)
      refine XWP.exit ?_
      rw [List.take_length] at hrow hok
      exact fun f => ⟨V2, H2, wo, outs, StIs.of (by exact rfl), hown, hrow, hok⟩
    have b1 : decide ((i : Int) < (Ks.length : Int)) = true := decide_eq_true (by omega)
    refine Gx.a (by kernel_rfl) fun K hK => ?_
    simp only [XA, XB, b1]
    refine hK _ ?_
    refine XWP.seq (Gx.t rfl ?_)
    refine XWP.skip ?_
    obtain ⟨bw, ow, rfl⟩ := hw.addr (by omega)
    obtain ⟨u, g1, o1, g2⟩ := Sl1.load (hw.mono (Sl1_ok natE_ok) hV2) i hi
    have g2 := fun H => g2 H _ _ shapeT_34
    have hm := List.getElem_mem hi
    obtain ⟨C, hCe⟩ : ∃ C, C = Ks[i] := ⟨_, rfl⟩
    rw [← hCe] at g1 hm
    have hc := hcls C hm
    obtain ⟨A3, c3, rfl, _, _⟩ := g1.form
    refine XWP.cutD 1 (fun s => ∃ (V3 : View) (H3 : Heap) (wo : Value) (outs : List Value), StIs (fun Z => [Z 0, .p 0 0, Z 2,Z 3,Z 4,Z 5, .v wo, Z 7,Z 8,Z 9,Z 10,Z 11,Z 12,Z 13,Z 14,Z 15,Z 16, .v (.slice (some ⟨bw, ow, none⟩) Ks.length c2), .v (.int .i64 (Ks.length : Int)), .v (.int .i64 (i : Int)), Z 20,Z 21,Z 22,Z 23,Z 24,Z 25,Z 26,Z 27,Z 28,Z 29,Z 30]) [[.int .i64 (n : Int), .int .i64 (n : Int), .slice A L.length cp]] H3 V3 s ∧ V2.le V3 ∧ Own H3 22 1 wo (i + 1) outs ∧ R1At Rats V3 outs ((Ks.take (i + 1)).map (lawC (qs L) n)) ∧ ∀ C ∈ Ks.take (i + 1), LawOk (qs L) n B C) ?_ ?_
    · refine XWP.block ?_
      refine Gx.a (by kernel_rfl) fun K hK => ?_
      simp only [XN, XA]
      refine ⟨by omega, by omega, ?_⟩
      refine ld_mem (by simpa using g2 _) ?_
      simp only [XA]
      refine hK _ ?_
      refine Gx.c (by kernel_rfl) fun K hK => ?_
      simp only [XM, XA, Nat.reduceAdd, Nat.reduceLeDiff, ↓reduceIte]
      refine call_go (by kernel_rfl) rfl (balone2_c _ _ _ n B (qs L) C (hr.up hV2) (by omega) hn g1 hc.lt hc.ne (by have := hc.le; omega) (law_uni hc.sto hc.irr) hq (Nat.le_trans (ge_mono _ (by have := hc.le; omega)) hB3)) fun v3 V3 hV3 h3 => ?_
      obtain ⟨h3, r3⟩ := h3
      have o3 := rats_one r3
      simp only [XA]
      refine bs_go (by kernel_rfl) #[(0, v3)] (by simp [ev_tmp, SV.val]) (bs_one elemT_38 zeroT_22 o3) fun bq hbq1 hbq2 => ?_
      simp only [XA]
      refine ap_go elemT_38 (by kernel_rfl) zeroT_22 rfl (by omega) (own_upd hown hbq1) (src_one (upd_at _ _ _) o3) (by omega) (by omega) fun v' H' hres => ?_
      simp only [XA]
      have et : Ks.take (i + 1) = Ks.take i ++ [C] := by rw [List.take_add_one, List.getElem?_eq_getElem hi, ← hCe]; rfl
      have hrow' := (hrow.mono rats_ok hV3).snoc o3 r3
      exact hK _ fun f => ⟨V3, H', v', outs ++ [v3], StIs.of (by exact rfl), hV3, hres.1, by rw [et, List.map_append]; exact hrow', fun D hD => by
        rw [et, List.mem_append] at hD
        rcases hD with hD | hD
        · exact hok D hD
        · rw [List.mem_singleton.1 hD]; exact h3⟩
    clear hown hrow hok
    rintro s ⟨V3, H3, wo, outs, hs, hV3, hown, hrow, hok⟩
    obtain ⟨z, rfl⟩ := hs.out
    try dsimp only
    refine Gx.c (by kernel_rfl) fun K hK => ?_
    simp only [XA, XB, i64_succ i (by omega)]
    exact hK _ ⟨q - 1, by omega, fun f => ⟨i + 1, V3, H3, wo, outs, StIs.of (by exact rfl), by omega, View.le_trans hV2 hV3, hown, hrow, hok⟩⟩
  rintro s ⟨V2, H2, wo, outs, hs, hown, hrow, hok⟩
  obtain ⟨z, rfl⟩ := hs.out
  try dsimp only
  refine Gx.a (by kernel_rfl) fun K hK => ?_
  simp only [XA]
  refine hK _ ?_
  have hown' : Own H2 22 1 wo (Ks.map (lawC (qs L) n)).length outs := by rw [List.length_map]; exact hown
  refine XWP.pub1 rats_ok hown' hrow fun H4 V4 hV4 hs4 _ => ?_
  refine XWP.ret ?_
  try simp only [thenX_ret, inBlockX_ret]
  refine ret_go _ rfl ⟨fun h => (by rw [e] at h; cases h), fun _ => ⟨_, rfl, by rw [Int.toNat_natCast, ← hK0]; exact hok, ?_⟩⟩
  rw [Int.toNat_natCast]; unfold allL; rw [← hK0]; exact hs4
/-- the only law of a matrix: none where there are several classes -/
theorem balone1_c (V : View) (s : Value) (r c : Int) (L : List Raw) (B : Nat) (h : Raws V s L) (f : fitR L) (ll : L.length ≤ 100000) (hq : okR L = true → ∀ x ∈ qs L, QB B x) (hB : 1001 * (B + 1) ≤ 17592186044416) (hB2 : stoB r c L = true → ge (B + 1) (2 * r.toNat + 1) ≤ 17592186044416) :
    Spec Tryz.prog 17 [.agg #[.int .i64 r, .int .i64 c, s]] V fun v' V' => (stoB r c L = false → v' = .tuple #[.slice none 0 0, .int .i64 1]) ∧ (stoB r c L = true → (∀ C ∈ clsL (qs L) r.toNat, LawOk (qs L) r.toNat B C) ∧ ((clsL (qs L) r.toNat).length ≠ 1 → v' = .tuple #[.slice none 0 0, .int .i64 3]) ∧ ∀ C, clsL (qs L) r.toNat = [C] → ∃ w, v' = .tuple #[w, .int .i64 0] ∧ Rats V' w (lawC (qs L) r.toNat C)) := by
  obtain ⟨A, cp, rfl, hc, hm⟩ := h.form
  refine (Spec.enter Tryz.func17 rfl fun Γ => ?_)
  simp only [Tryz.ntmps17, List.map_cons, List.map_nil, List.length_cons, List.length_nil, Nat.reduceAdd, Nat.reduceSub, List.replicate_succ, List.replicate_zero, List.cons_append, List.nil_append]
  refine Gx.a (by kernel_rfl) fun K hK => ?_
  simp only [XA]
  refine hK _ ?_
  refine Gx.a (by kernel_rfl) fun K hK => ?_
  simp only [XM, XA, Nat.reduceAdd, Nat.reduceLeDiff, ↓reduceIte]
  refine call_go (by kernel_rfl) rfl (ball_c _ _ r c L B h f ll hq hB hB2) fun v1 V1 hV1 h1 => ?_
  cases e : stoB r c L
  · obtain rfl := h1.1 e
    simp only [XA]
    refine hK _ ?_
    refine XWP.seq ?_
    refine Gx.a (by kernel_rfl) fun K hK => ?_
    simp only [XA, XB]
    refine hK _ ?_
    refine Gx.t rfl ?_
    refine Gx.a (by kernel_rfl) fun K hK => ?_
    simp only [XA]
    refine hK _ (XWP.ret ?_)
    try simp only [thenX_ret, inBlockX_ret]
    refine ret_go _ rfl ?_
    exact ⟨fun _ => rfl, fun h => by rw [e] at h; cases h⟩
  obtain ⟨w, rfl, hok, hw⟩ := h1.2 e
  obtain ⟨A2, c2, rfl, hc2, hm2⟩ := hw.form
  have hl : (allL (qs L) r.toNat).length = (clsL (qs L) r.toNat).length := List.length_map ..
  simp only [XA]
  refine hK _ ?_
  refine XWP.seq ?_
  refine Gx.a (by kernel_rfl) fun K hK => ?_
  simp only [XA, XB]
  refine hK _ ?_
  refine Gx.f rfl ?_
  refine XWP.skip ?_
  refine XWP.seq ?_
  have hcl := clsL_len (qs L) r.toNat
  by_cases e1 : (clsL (qs L) r.toNat).length = 1
  rotate_left
  · have b1 : decide (((allL (qs L) r.toNat).length : Int) = 1) = false := decide_eq_false (by omega)
    refine Gx.a (by kernel_rfl) fun K hK => ?_
    simp only [XN, XA, XB, b1]
    refine hK _ ?_
    refine Gx.t rfl ?_
    refine Gx.a (by kernel_rfl) fun K hK => ?_
    simp only [XA]
    refine hK _ (XWP.ret ?_)
    try simp only [thenX_ret, inBlockX_ret]
    refine ret_go _ rfl ?_
    exact ⟨fun h => (by rw [e] at h; cases h), fun _ => ⟨hok, fun _ => rfl, fun C hC => absurd (by rw [hC]; rfl) e1⟩⟩
  obtain ⟨C, hC⟩ := List.length_eq_one_iff.1 e1
  have eA : allL (qs L) r.toNat = [lawC (qs L) r.toNat C] := by unfold allL; rw [hC]; rfl
  have b1 : decide (((allL (qs L) r.toNat).length : Int) = 1) = true := decide_eq_true (by omega)
  refine Gx.a (by kernel_rfl) fun K hK => ?_
  simp only [XN, XA, XB, b1]
  refine hK _ ?_
  refine Gx.f rfl ?_
  refine XWP.skip ?_
  rw [eA] at hw
  obtain ⟨bw, ow, rfl⟩ := hw.addr (by simp)
  obtain ⟨u, g1, _, g2⟩ := Sl1.load hw 0 (by simp)
  have g2 := fun H => g2 H _ _ shapeT_22
  obtain ⟨A3, c3, rfl, _, _⟩ := SlAt.form g1
  refine Gx.a (by kernel_rfl) fun K hK => ?_
  simp only [XN, XA, XB, Int.reduceLE]
  refine ⟨by omega, ?_⟩
  refine ld_mem (by simpa using g2 _) ?_
  simp only [XA]
  refine hK _ (XWP.ret ?_)
  try simp only [thenX_ret, inBlockX_ret]
  refine ret_go _ rfl ⟨fun h => (by rw [e] at h; cases h), fun _ => ⟨hok, fun h => absurd e1 h, fun D hD => ⟨_, rfl, ?_⟩⟩⟩
  rw [hC] at hD
  cases hD
  exact g1
end Go.Proofs.YtkgmicakfmllmaaGreat
end
section
namespace Go.Proofs.YtkgmicakfmllmaaGreat
theorem scat_at {C : List Nat} {X : Nat → Rat} {n : Nat} (inj : ∀ a b, a < C.length → b < C.length → C.getD a 0 = C.getD b 0 → a = b) (lt : ∀ a, a < C.length → C.getD a 0 < n) : ∀ k, k ≤ C.length → ∀ j, j < k → cf (scat C X n k) (C.getD j 0) = X j
  | 0, _, j, hj => absurd hj (Nat.not_lt_zero _)
  | k + 1, hk, j, hj => by
    rw [scat]
    by_cases e : j = k
    · subst e
      unfold cf
      rw [List.getD_eq_getElem?_getD, List.getElem?_set_self (by rw [scat_len]; exact lt j (by omega))]
      rfl
    · have h1 : C.getD k 0 ≠ C.getD j 0 := fun h => e (inj k j (by omega) (by omega) h).symm
      have ih := scat_at inj lt k (by omega) j (by omega) (X := X)
      unfold cf at ih ⊢
      rw [List.getD_eq_getElem?_getD, List.getElem?_set_ne h1, ← List.getD_eq_getElem?_getD]
      exact ih
theorem scat_off {C : List Nat} {X : Nat → Rat} {n i : Nat} (hi : ∀ a, a < C.length → C.getD a 0 ≠ i) : ∀ k, k ≤ C.length → cf (scat C X n k) i = 0
  | 0, _ => by
    rw [scat, cf_mk]
    split <;> rfl
  | k + 1, hk => by
    have ih := scat_off hi k (by omega) (X := X) (n := n)
    rw [scat]
    unfold cf at ih ⊢
    rw [List.getD_eq_getElem?_getD, List.getElem?_set_ne (hi k (by omega)), ← List.getD_eq_getElem?_getD]
    exact ih
theorem filt_inj {n : Nat} {p : Nat → Bool} {a b : Nat} (ha : a < ((List.range n).filter p).length) (hb : b < ((List.range n).filter p).length) (h : ((List.range n).filter p).getD a 0 = ((List.range n).filter p).getD b 0) : a = b := by
  have nd : ((List.range n).filter p).Nodup := List.nodup_range.filter _
  rw [List.getD_eq_getElem?_getD, List.getD_eq_getElem?_getD, List.getElem?_eq_getElem ha, List.getElem?_eq_getElem hb] at h
  exact (List.getElem_inj nd).1 h
/-- the law of a closed class -/
structure LawP (l : List Rat) (n : Nat) (C : List Nat) : Prop where
  len : (lawC l n C).length = n
  nn : ∀ i, i < n → 0 ≤ cf (lawC l n C) i
  one : Sm (cf (lawC l n C)) n = 1
  stay : ∀ k, k < n → stepF (cf (lawC l n C)) (gridL l n) n k = cf (lawC l n C) k
  off : ∀ i, i < n → i ∉ C → cf (lawC l n C) i = 0
  pos : ∀ i, i ∈ C → 0 < cf (lawC l n C) i
theorem lawP_of {l : List Rat} {n B : Nat} (hS : StoG (gridL l n) n) {C : List Nat} (hC : C ∈ clsL l n) (ok : LawOk l n B C) : LawP l n C := by
  have hc := cls_irr hS hC
  have hlin := ok.lin
  obtain ⟨i0, hi0, hCe, hall⟩ := shutL_mem hC
  have hpos : ∀ a b, a < n → b < n → (eM l n a b = true ↔ 0 < gridL l n a b) := fun a b ha hb => by
    rw [eM_iff]
    have := hS.nn a b ha hb
    constructor
    · intro h; grind
    · intro h; grind
  have hcl : ∀ a b, a < n → b < n → wR (eM l n) n i0 a = true → wR (eM l n) n i0 b = false → gridL l n a b = 0 := fun a b ha hb h1 h2 => by
    have := hS.nn a b ha hb
    by_cases h : 0 < gridL l n a b
    · have : wR (eM l n) n i0 b = true := by
        rw [wR_iff] at h1 ⊢
        exact .step h1 hb ((hpos a b ha hb).2 h)
      rw [this] at h2; cases h2
    · grind
  have lt : ∀ a, a < C.length → C.getD a 0 < n := fun a ha => hc.lt _ (by rw [List.getD_eq_getElem?_getD, List.getElem?_eq_getElem ha]; exact List.getElem_mem ha)
  have inj : ∀ a b, a < C.length → b < C.length → C.getD a 0 = C.getD b 0 → a = b := fun a b ha hb h => by
    subst hCe
    exact filt_inj ha hb h
  have gat : ∀ j, j < C.length → cf (lawC l n C) (C.getD j 0) = theX l n C j := fun j hj => scat_at inj lt C.length (Nat.le_refl _) j hj
  have mem : ∀ i, i ∈ C ↔ i < n ∧ wR (eM l n) n i0 i = true := fun i => by
    rw [hCe, List.mem_filter, List.mem_range]
  have goff : ∀ i, i ∉ C → cf (lawC l n C) i = 0 := fun i hi => scat_off (fun a ha e => hi (by
    rw [← e, List.getD_eq_getElem?_getD, List.getElem?_eq_getElem ha]; exact List.getElem_mem ha)) C.length (Nat.le_refl _)
  generalize theX l n C = X at *
  have e1 : ∀ k, k + 1 < C.length → Sm (fun i => X i * subG (gridL l n) C i k) C.length = X k := fun k hk => by
    have h1 := hlin k (by omega)
    rw [lawG_row (by omega) (by omega)] at h1
    unfold oneB at h1
    rw [if_neg (by omega)] at h1
    grind
  have e2 := stays_all hc.sto e1
  have e3 : Sm X C.length = 1 := by
    have h1 := hlin (C.length - 1) (by have := hc.ne; omega)
    rw [lawG_last (by have := hc.ne; omega)] at h1
    unfold oneB at h1
    rw [if_pos (by have := hc.ne; omega)] at h1
    exact h1
  have hp := law_pos hc.sto hc.irr e2 (by rw [e3]; decide)
  have gpos : ∀ i, i ∈ C → 0 < cf (lawC l n C) i := fun i hi => by
    obtain ⟨j, hj, e⟩ := List.mem_iff_getElem.1 hi
    have : C.getD j 0 = i := by rw [List.getD_eq_getElem?_getD, List.getElem?_eq_getElem hj, ← e]; rfl
    rw [← this, gat j hj]
    exact hp j hj
  have sums : ∀ (f : Nat → Rat), (∀ k, k < n → k ∉ C → f k = 0) → Sm f n = Sm (fun v => f (C.getD v 0)) C.length := fun f hf => by
    have := Sm_list n (wR (eM l n) n i0) (f := f) fun k hk hw => hf k hk (fun hm => by rw [((mem k).1 hm).2] at hw; cases hw)
    rw [← hCe] at this
    exact this
  refine ⟨scat_len _ _ _ _, fun i hi => ?_, ?_, fun k hk => ?_, fun i _ hi => goff i hi, gpos⟩
  · by_cases h : i ∈ C
    · exact Rat.le_of_lt (gpos i h)
    · rw [goff i h]; exact Rat.le_refl
  · rw [sums _ fun k _ hk => goff k hk, ← e3]
    exact Sm_congr _ fun v hv => gat v hv
  · unfold stepF
    rw [sums _ fun i _ hi => by rw [goff i hi, Rat.zero_mul]]
    by_cases h : k ∈ C
    · obtain ⟨j, hj, e⟩ := List.mem_iff_getElem.1 h
      have ej : C.getD j 0 = k := by rw [List.getD_eq_getElem?_getD, List.getElem?_eq_getElem hj, ← e]; rfl
      rw [← ej, gat j hj, ← e2 j hj]
      exact Sm_congr _ fun v hv => by rw [gat v hv]; rfl
    · rw [goff k h]
      have : ∀ v, v < C.length → cf (lawC l n C) (C.getD v 0) * gridL l n (C.getD v 0) k = 0 := fun v hv => by
        have hm : C.getD v 0 ∈ C := by rw [List.getD_eq_getElem?_getD, List.getElem?_eq_getElem hv]; exact List.getElem_mem hv
        rw [hcl _ _ (lt v hv) hk ((mem _).1 hm).2 (by
          cases e : wR (eM l n) n i0 k
          · rfl
          · exact absurd ((mem k).2 ⟨hk, e⟩) h), Rat.mul_zero]
      exact Sm_zero _ this
/-- a list of fractions that is a law -/
theorem lawB_raw {n : Nat} {l : List Rat} (h : l.length = n) (hn : ∀ i, i < n → 0 ≤ cf l i) (h1 : Sm (cf l) n = 1) : lawB (l.map toRaw) = true := by
  have hw := wtB_raw h hn
  unfold wtB at hw
  rw [Bool.and_eq_true] at hw
  unfold lawB
  rw [hw.2, qs_toRaw, Bool.true_and, List.length_map, h]
  exact decide_eq_true h1
end Go.Proofs.YtkgmicakfmllmaaGreat
end
section
namespace Go.Proofs.YtkgmicakfmllmaaGreat
set_option linter.unusedVariables false
/-- a set that is closed, as a test -/
def ClosedP (P : Grid) (n : Nat) (p : Nat → Bool) : Prop := ∀ a b, a < n → b < n → p a = true → 0 < P a b → p b = true
def indS (p : Nat → Bool) (f : Nat → Rat) : Nat → Rat := fun i => if p i = true then f i else 0
/-- no move leads into a closed set from where the law is above 0 -/
theorem stay_into {P : Grid} {n : Nat} (hP : StoG P n) {l : Nat → Rat} (hl : ∀ i, i < n → 0 ≤ l i) (hs : ∀ k, k < n → stepF l P n k = l k) {p : Nat → Bool} (hc : ClosedP P n p) : ∀ i k, i < n → k < n → p i = false → p k = true → l i * P i k = 0 := by
  have nnp : ∀ i k, i < n → k < n → 0 ≤ l i * P i k := fun i k hi hk => Rat.mul_nonneg (hl i hi) (hP.nn i k hi hk)
  -- the mass of the set, counted twice
  have e1 : Sm (fun k => Sm (fun i => indS p (fun k => l i * P i k) k) n) n = Sm (indS p l) n := Sm_congr n fun k hk => by
    unfold indS
    by_cases h : p k = true
    · rw [if_pos h, ← hs k hk]
      unfold stepF
      exact Sm_congr n fun i hi => by rw [if_pos h]
    · rw [if_neg h]
      exact Sm_zero n fun i hi => by rw [if_neg h]
  rw [Sm_swap (fun k i => indS p (fun k => l i * P i k) k)] at e1
  have e2 : ∀ i, i < n → p i = true → Sm (fun k => indS p (fun k => l i * P i k) k) n = l i := fun i hi hp => by
    rw [Sm_congr n (g := fun k => l i * P i k) fun k hk => ?_, Sm_mul, hP.one i hi, Rat.mul_one]
    unfold indS
    by_cases h : p k = true
    · rw [if_pos h]
    · rw [if_neg h]
      have h1 := hP.nn i k hi hk
      by_cases h2 : 0 < P i k
      · exact absurd (hc i k hi hk hp h2) h
      · have : P i k = 0 := by grind
        rw [this, Rat.mul_zero]
  have e3 : Sm (fun i => if p i = true then 0 else Sm (fun k => indS p (fun k => l i * P i k) k) n) n = 0 := by
    have h1 : Sm (fun i => Sm (fun k => indS p (fun k => l i * P i k) k) n) n = Sm (fun i => indS p l i + if p i = true then 0 else Sm (fun k => indS p (fun k => l i * P i k) k) n) n := Sm_congr n fun i hi => by
      unfold indS
      by_cases h : p i = true
      · rw [if_pos h, if_pos h]
        have := e2 i hi h
        unfold indS at this
        rw [this, Rat.add_zero]
      · rw [if_neg h, if_neg h, Rat.zero_add]
    rw [h1, Sm_add] at e1
    grind
  have nn2 : ∀ i k, i < n → k < n → 0 ≤ indS p (fun k => l i * P i k) k := fun i k hi hk => by
    unfold indS
    split
    · exact nnp i k hi hk
    · exact Rat.le_refl
  intro i k hi hk hp hpk
  have h2 := Sm_none n (fun i hi => by
    split
    · exact Rat.le_refl
    · exact Sm_nonneg n fun k hk => nn2 i k hi hk) e3 i hi
  rw [if_neg (by rw [hp]; simp)] at h2
  have h3 := Sm_none n (fun k hk => nn2 i k hi hk) h2 k hk
  unfold indS at h3
  rw [if_pos hpk] at h3
  exact h3
theorem stay_spread {P : Grid} {n : Nat} (hP : StoG P n) {l : Nat → Rat} (hl : ∀ i, i < n → 0 ≤ l i) (hs : ∀ k, k < n → stepF l P n k = l k) {i k : Nat} (h0 : 0 < l i) (h : Rch (fun a b => 0 < P a b) n i k) : 0 < l k := by
  refine (Rch.sub (S := fun k => k < n ∧ 0 < l k) ⟨h.lt.1, h0⟩ (fun j k hj hk he => ⟨hk, ?_⟩) h).2
  have h1 := Sm_part (f := fun i => l i * P i k) n (fun i hi => Rat.mul_nonneg (hl i hi) (hP.nn i k hi hk)) hj.1
  have h2 := hs k hk
  unfold stepF at h2
  rw [h2] at h1
  have h3 := Rat.mul_pos hj.2 he
  try dsimp only at h1
  grind
/-- from where a law that stays is above 0, one does not come into a closed set -/
theorem stay_out {P : Grid} {n : Nat} (hP : StoG P n) {l : Nat → Rat} (hl : ∀ i, i < n → 0 ≤ l i) (hs : ∀ k, k < n → stepF l P n k = l k) {p : Nat → Bool} (hc : ClosedP P n p) {i k : Nat} (h0 : 0 < l i) (hi : p i = false) (h : Rch (fun a b => 0 < P a b) n i k) : p k = false := by
  refine (Rch.sub (S := fun k => k < n ∧ 0 < l k ∧ p k = false) ⟨h.lt.1, h0, hi⟩ (fun j k hj hk he => ⟨hk, ?_, ?_⟩) h).2.2
  · exact stay_spread hP hl hs hj.2.1 (.step (.refl hj.1) hk he)
  · cases e : p k
    · rfl
    · have h1 := stay_into hP hl hs hc j k hj.1 hk hj.2.2 e
      have h2 := Rat.mul_pos hj.2.1 he
      rw [h1] at h2
      exact absurd h2 (by decide)
/-- from each state one comes to a state that all it comes to comes back to -/
theorem comes_home (E : Nat → Nat → Prop) (n : Nat) : ∀ (m i : Nat), i < n → (∀ (q : Nat → Bool), (∀ k, k < n → (q k = true ↔ Rch E n i k)) → ((List.range n).filter q).length ≤ m) → ∃ j, Rch E n i j ∧ ∀ k, Rch E n j k → Rch E n k j
  | 0, i, hi, h => by
    have h1 := h (fun k => @decide (Rch E n i k) (Classical.propDecidable _)) fun k _ => @decide_eq_true_iff _ (Classical.propDecidable _)
    have : i ∈ (List.range n).filter (fun k => @decide (Rch E n i k) (Classical.propDecidable _)) := by
      rw [List.mem_filter, List.mem_range]
      exact ⟨hi, (@decide_eq_true_iff _ (Classical.propDecidable _)).2 (.refl hi)⟩
    have := List.length_pos_of_mem this
    omega
  | m + 1, i, hi, h => by
    by_cases hb : ∀ k, Rch E n i k → Rch E n k i
    · exact ⟨i, .refl hi, hb⟩
    · obtain ⟨k, hk⟩ := Classical.not_forall.1 hb
      obtain ⟨h1, h2⟩ := Classical.not_imp.1 hk
      obtain ⟨j, g1, g2⟩ := comes_home E n m k h1.lt.2 fun q hq => by
        have hsub : ∀ x, x < n → q x = true → Rch E n i x := fun x hx hqx => h1.trans ((hq x hx).1 hqx)
        have h3 := h (fun x => @decide (Rch E n i x) (Classical.propDecidable _)) fun k _ => @decide_eq_true_iff _ (Classical.propDecidable _)
        have hlt : ((List.range n).filter q).length < ((List.range n).filter (fun x => @decide (Rch E n i x) (Classical.propDecidable _))).length := by
          have key : ∀ (L : List Nat), (∀ x ∈ L, x < n) → i ∈ L → (L.filter q).length < (L.filter (fun x => @decide (Rch E n i x) (Classical.propDecidable _))).length := by
            intro L
            have le : ∀ L : List Nat, (∀ x ∈ L, x < n) → (L.filter q).length ≤ (L.filter (fun x => @decide (Rch E n i x) (Classical.propDecidable _))).length := by
              intro L
              induction L with
              | nil => intro _; exact Nat.le_refl _
              | cons x L ih =>
                intro hL
                have ih := ih fun y hy => hL y (by simp [hy])
                rw [List.filter_cons, List.filter_cons]
                by_cases e : q x = true
                · rw [if_pos e, if_pos ((@decide_eq_true_iff _ (Classical.propDecidable _)).2 (hsub x (hL x (by simp)) e)), List.length_cons, List.length_cons]; omega
                · rw [if_neg e]
                  split
                  · rw [List.length_cons]; omega
                  · exact ih
            induction L with
            | nil => intro _ hm; cases hm
            | cons x L ih =>
              intro hL hm
              have ih := ih fun y hy => hL y (by simp [hy])
              have le := le L fun y hy => hL y (by simp [hy])
              rw [List.filter_cons, List.filter_cons]
              by_cases ex : x = i
              · subst ex
                have e1 : ¬ q x = true := fun e => h2 ((hq x hi).1 e)
                rw [if_neg e1, if_pos ((@decide_eq_true_iff _ (Classical.propDecidable _)).2 (.refl hi)), List.length_cons]; omega
              · have hm' : i ∈ L := by
                  rcases List.mem_cons.1 hm with e | e
                  · exact absurd e.symm ex
                  · exact e
                have ih := ih hm'
                by_cases e : q x = true
                · rw [if_pos e, if_pos ((@decide_eq_true_iff _ (Classical.propDecidable _)).2 (hsub x (hL x (by simp)) e)), List.length_cons, List.length_cons]; omega
                · rw [if_neg e]
                  split
                  · rw [List.length_cons]; omega
                  · exact ih
          exact key _ (fun x hx => List.mem_range.1 hx) (List.mem_range.2 hi)
        omega
      exact ⟨j, h1.trans g1, g2⟩
theorem comes_home_all (E : Nat → Nat → Prop) {n i : Nat} (hi : i < n) : ∃ j, Rch E n i j ∧ ∀ k, Rch E n j k → Rch E n k j :=
  comes_home E n n i hi fun q _ => by
    have := List.length_filter_le q (List.range n)
    rwa [List.length_range] at this
end Go.Proofs.YtkgmicakfmllmaaGreat
end
section
namespace Go.Proofs.YtkgmicakfmllmaaGreat
set_option linter.unusedVariables false
theorem cls_apart (l : List Rat) (n : Nat) : (clsL l n).Pairwise fun C D => ∀ k, k ∈ C → k ∈ D → False := by
  unfold clsL shutL
  rw [List.pairwise_filterMap]
  refine List.Pairwise.imp ?_ (List.pairwise_lt_range (n := n))
  intro i i' hlt C hC D hD k h1 h2
  split at hC
  · rename_i c1
    split at hD
    · rename_i c2
      cases hC
      cases hD
      rw [List.mem_filter, List.mem_range] at h1 h2
      have b1 := List.all_eq_true.1 c2 k (List.mem_range.2 h1.1)
      simp only [h2.2, Bool.not_true, Bool.false_or, Bool.and_eq_true, decide_eq_true_eq] at b1
      have b2 := List.all_eq_true.1 c1 k (List.mem_range.2 h1.1)
      simp only [h1.2, Bool.not_true, Bool.false_or, Bool.and_eq_true, decide_eq_true_eq] at b2
      have r1 := (wR_iff _ _ _ _).1 h2.2
      have r2 := (wR_iff _ _ _ _).1 b2.1.1
      have r3 : wR (eM l n) n i' i = true := (wR_iff _ _ _ _).2 (r1.trans r2)
      have b3 := List.all_eq_true.1 c2 i (List.mem_range.2 r2.lt.2)
      simp only [r3, Bool.not_true, Bool.false_or, Bool.and_eq_true, decide_eq_true_eq] at b3
      omega
    · cases hD
  · cases hC
theorem least_of {R : Nat → Prop} : ∀ (m k : Nat), k ≤ m → R k → ∃ i, R i ∧ ∀ j, R j → i ≤ j
  | 0, k, hk, h => ⟨k, h, fun j _ => by omega⟩
  | m + 1, k, hk, h => by
    by_cases e : ∃ j, R j ∧ j < k
    · obtain ⟨j, h1, h2⟩ := e
      exact least_of m j (by omega) h1
    · exact ⟨k, h, fun j hj => by
        by_cases g : j < k
        · exact absurd ⟨j, hj, g⟩ e
        · omega⟩
theorem cls_has {l : List Rat} {n j : Nat} (hb : ∀ k, Rch (fun a b => eM l n a b = true) n j k → Rch (fun a b => eM l n a b = true) n k j) (hj : j < n) : ∃ C ∈ clsL l n, j ∈ C := by
  obtain ⟨i, h1, h2⟩ := least_of (R := fun k => Rch (fun a b => eM l n a b = true) n j k) j j (Nat.le_refl _) (.refl hj)
  have h3 := hb i h1
  refine ⟨(List.range n).filter (wR (eM l n) n i), ?_, ?_⟩
  · unfold clsL shutL
    refine List.mem_filterMap.2 ⟨i, List.mem_range.2 h1.lt.2, ?_⟩
    rw [if_pos]
    rw [List.all_eq_true]
    intro k hk
    cases e : wR (eM l n) n i k
    · rfl
    · have r := (wR_iff _ _ _ _).1 e
      have r2 := h1.trans r
      have r3 : wR (eM l n) n k i = true := (wR_iff _ _ _ _).2 ((hb k r2).trans h1)
      simp only [r3, Bool.not_true, Bool.false_or, Bool.not_false, Bool.true_and, Bool.and_true, decide_eq_true_eq]
      exact h2 k r2
  · rw [List.mem_filter, List.mem_range]
    exact ⟨hj, (wR_iff _ _ _ _).2 h3⟩
/-- the mass of a list of states -/
def massL (f : Nat → Rat) (C : List Nat) : Rat := Sm (fun v => f (C.getD v 0)) C.length
theorem eM_pos {l : List Rat} {n : Nat} (hS : StoG (gridL l n) n) {a b : Nat} (ha : a < n) (hb : b < n) : eM l n a b = true ↔ 0 < gridL l n a b := by
  rw [eM_iff]
  have := hS.nn a b ha hb
  constructor
  · intro h; grind
  · intro h; grind
theorem rch_pos {l : List Rat} {n : Nat} (hS : StoG (gridL l n) n) {i k : Nat} (h : Rch (fun a b => eM l n a b = true) n i k) : Rch (fun a b => 0 < gridL l n a b) n i k := h.imp fun a b ha hb he => (eM_pos hS ha hb).1 he
/-- on a class, a law that stays is the law of the class, by its mass there -/
theorem stay_class {l : List Rat} {n B : Nat} (hS : StoG (gridL l n) n) {C : List Nat} (hC : C ∈ clsL l n) (ok : LawOk l n B C) {f : Nat → Rat} (hf : ∀ i, i < n → 0 ≤ f i) (hs : ∀ k, k < n → stepF f (gridL l n) n k = f k) : ∀ k, k ∈ C → f k = massL f C * cf (lawC l n C) k := by
  have hc := cls_irr hS hC
  have hlin := ok.lin
  obtain ⟨i0, hi0, hCe, hall⟩ := shutL_mem hC
  have lt : ∀ a, a < C.length → C.getD a 0 < n := fun a ha => hc.lt _ (by rw [List.getD_eq_getElem?_getD, List.getElem?_eq_getElem ha]; exact List.getElem_mem ha)
  have mem : ∀ i, i ∈ C ↔ i < n ∧ wR (eM l n) n i0 i = true := fun i => by rw [hCe, List.mem_filter, List.mem_range]
  have gm : ∀ a, a < C.length → C.getD a 0 ∈ C := fun a ha => by rw [List.getD_eq_getElem?_getD, List.getElem?_eq_getElem ha]; exact List.getElem_mem ha
  have inj : ∀ a b, a < C.length → b < C.length → C.getD a 0 = C.getD b 0 → a = b := fun a b ha hb h => by
    subst hCe
    exact filt_inj ha hb h
  have gat : ∀ j, j < C.length → cf (lawC l n C) (C.getD j 0) = theX l n C j := fun j hj => scat_at inj lt C.length (Nat.le_refl _) j hj
  have hcl : ClosedP (gridL l n) n (wR (eM l n) n i0) := fun a b ha hb h1 h2 => by
    rw [wR_iff] at h1 ⊢
    exact .step h1 hb ((eM_pos hS ha hb).2 h2)
  have e1 : ∀ w, w < C.length → Sm (fun v => f (C.getD v 0) * subG (gridL l n) C v w) C.length = f (C.getD w 0) := fun w hw => by
    rw [← hs _ (lt w hw)]
    unfold stepF
    have := Sm_list n (wR (eM l n) n i0) (f := fun i => f i * gridL l n i (C.getD w 0)) fun i hi hp => stay_into hS hf hs hcl i _ hi (lt w hw) hp ((mem _).1 (gm w hw)).2
    rw [← hCe] at this
    exact this.symm
  have u := law_uni hc.sto hc.irr (fun v => f (C.getD v 0) - massL f C * theX l n C v) fun k hk => ?_
  · intro k hk
    obtain ⟨j, hj, e⟩ := List.mem_iff_getElem.1 hk
    have ej : C.getD j 0 = k := by rw [List.getD_eq_getElem?_getD, List.getElem?_eq_getElem hj, ← e]; rfl
    have h := u j hj
    rw [← ej, gat j hj]
    grind
  · have hl := hlin k hk
    unfold oneB at hl
    by_cases e : k + 1 = C.length
    · rw [lawG_last e] at hl ⊢
      rw [if_pos e] at hl
      rw [Sm_sub, Sm_mul, hl]
      show massL f C - _ = 0
      grind
    · rw [lawG_row hk e] at hl ⊢
      rw [if_neg e] at hl
      have h1 := e1 k hk
      rw [Sm_congr _ (g := fun i => f (C.getD i 0) * subG (gridL l n) C i k - massL f C * (theX l n C i * subG (gridL l n) C i k)) fun i _ => by grind, Sm_sub, Sm_mul, h1]
      grind
/-- off the classes, a law that stays is 0 -/
theorem stay_off {l : List Rat} {n : Nat} (hS : StoG (gridL l n) n) {f : Nat → Rat} (hf : ∀ i, i < n → 0 ≤ f i) (hs : ∀ k, k < n → stepF f (gridL l n) n k = f k) {k : Nat} (hk : k < n) (hn : ∀ C ∈ clsL l n, k ∉ C) : f k = 0 := by
  by_cases h0 : 0 < f k
  · exfalso
    obtain ⟨j, g1, g2⟩ := comes_home_all (fun a b => eM l n a b = true) hk
    obtain ⟨C, hC, hj⟩ := cls_has g2 g1.lt.2
    have hkC := hn C hC
    obtain ⟨i0, hi0, hCe, _⟩ := shutL_mem hC
    have hcl : ClosedP (gridL l n) n (wR (eM l n) n i0) := fun a b ha hb h1 h2 => by
      rw [wR_iff] at h1 ⊢
      exact .step h1 hb ((eM_pos hS ha hb).2 h2)
    have mem : ∀ i, i ∈ C ↔ i < n ∧ wR (eM l n) n i0 i = true := fun i => by rw [hCe, List.mem_filter, List.mem_range]
    have pk : wR (eM l n) n i0 k = false := by
      cases e : wR (eM l n) n i0 k
      · rfl
      · exact absurd ((mem k).2 ⟨hk, e⟩) hkC
    have pj := stay_out hS hf hs hcl h0 pk (rch_pos hS g1)
    rw [((mem j).1 hj).2] at pj; cases pj
  · have := hf k hk
    grind
/-- the mixture of the classes' laws, by weights -/
noncomputable def mixS (l : List Rat) (n : Nat) (w : Nat → Rat) (k : Nat) : Rat := Sm (fun a => w a * cf (lawC l n ((clsL l n).getD a [])) k) (clsL l n).length
theorem cls_getD {l : List Rat} {n a : Nat} (ha : a < (clsL l n).length) : (clsL l n).getD a [] ∈ clsL l n := by
  rw [List.getD_eq_getElem?_getD, List.getElem?_eq_getElem ha]; exact List.getElem_mem ha
theorem cls_one {l : List Rat} {n a b k : Nat} (ha : a < (clsL l n).length) (hb : b < (clsL l n).length) (h1 : k ∈ (clsL l n).getD a []) (h2 : k ∈ (clsL l n).getD b []) : a = b := by
  have hp := cls_apart l n
  rw [List.pairwise_iff_getElem] at hp
  rw [List.getD_eq_getElem?_getD, List.getElem?_eq_getElem ha] at h1
  rw [List.getD_eq_getElem?_getD, List.getElem?_eq_getElem hb] at h2
  rcases Nat.lt_trichotomy a b with h | h | h
  · exact (hp a b ha hb h k h1 h2).elim
  · exact h
  · exact (hp b a hb ha h k h2 h1).elim
/-- in one class, the mixture is the one part -/
theorem mix_at {l : List Rat} {n B : Nat} (hS : StoG (gridL l n) n) (ok : ∀ C ∈ clsL l n, LawOk l n B C) (w : Nat → Rat) {a k : Nat} (ha : a < (clsL l n).length) (hk : k ∈ (clsL l n).getD a []) : mixS l n w k = w a * cf (lawC l n ((clsL l n).getD a [])) k := by
  have hkn : k < n := (cls_irr hS (cls_getD ha)).lt k hk
  unfold mixS
  refine Sm_one ha fun b hb hne => ?_
  have hp := lawP_of hS (cls_getD hb) (ok _ (cls_getD hb))
  rw [hp.off k hkn fun hm => hne (cls_one hb ha hm hk), Rat.mul_zero]
theorem mix_off {l : List Rat} {n B : Nat} (hS : StoG (gridL l n) n) (ok : ∀ C ∈ clsL l n, LawOk l n B C) (w : Nat → Rat) {k : Nat} (hk : k < n) (hn : ∀ C ∈ clsL l n, k ∉ C) : mixS l n w k = 0 := by
  unfold mixS
  refine Sm_zero _ fun b hb => ?_
  have hp := lawP_of hS (cls_getD hb) (ok _ (cls_getD hb))
  rw [hp.off k hk (hn _ (cls_getD hb)), Rat.mul_zero]
/-- the mixture's mass -/
theorem mix_sum {l : List Rat} {n B : Nat} (hS : StoG (gridL l n) n) (ok : ∀ C ∈ clsL l n, LawOk l n B C) (w : Nat → Rat) : Sm (mixS l n w) n = Sm w (clsL l n).length := by
  unfold mixS
  rw [Sm_swap]
  refine Sm_congr _ fun a ha => ?_
  have hp := lawP_of hS (cls_getD ha) (ok _ (cls_getD ha))
  rw [Sm_mul]
  show w a * Sm (cf _) n = _
  rw [hp.one, Rat.mul_one]
theorem mix_stay {l : List Rat} {n B : Nat} (hS : StoG (gridL l n) n) (ok : ∀ C ∈ clsL l n, LawOk l n B C) (w : Nat → Rat) {k : Nat} (hk : k < n) : stepF (mixS l n w) (gridL l n) n k = mixS l n w k := by
  unfold stepF mixS
  rw [Sm_congr n (g := fun i => Sm (fun a => w a * (cf (lawC l n ((clsL l n).getD a [])) i * gridL l n i k)) (clsL l n).length) fun i hi => ?_, Sm_swap (fun i a => w a * (cf (lawC l n ((clsL l n).getD a [])) i * gridL l n i k))]
  · refine Sm_congr _ fun a ha => ?_
    have hp := lawP_of hS (cls_getD ha) (ok _ (cls_getD ha))
    have := hp.stay k hk
    unfold stepF at this
    rw [Sm_mul, this]
  · rw [Rat.mul_comm, ← Sm_mul]
    exact Sm_congr _ fun a _ => by grind
/-- a law that stays is the mixture by its masses -/
theorem stay_mix {l : List Rat} {n B : Nat} (hS : StoG (gridL l n) n) (ok : ∀ C ∈ clsL l n, LawOk l n B C) {f : Nat → Rat} (hf : ∀ i, i < n → 0 ≤ f i) (hs : ∀ k, k < n → stepF f (gridL l n) n k = f k) : ∀ k, k < n → mixS l n (fun a => massL f ((clsL l n).getD a [])) k = f k := fun k hk => by
  by_cases h : ∃ a, a < (clsL l n).length ∧ k ∈ (clsL l n).getD a []
  · obtain ⟨a, ha, hm⟩ := h
    rw [mix_at hS ok _ ha hm]
    exact (stay_class hS (cls_getD ha) (ok _ (cls_getD ha)) hf hs k hm).symm
  · have hn : ∀ C ∈ clsL l n, k ∉ C := fun C hC hm => by
      obtain ⟨a, ha, e⟩ := List.mem_iff_getElem.1 hC
      exact h ⟨a, ha, by rw [List.getD_eq_getElem?_getD, List.getElem?_eq_getElem ha]; rw [← e] at hm; exact hm⟩
    rw [mix_off hS ok _ hk hn, stay_off hS hf hs hk hn]
end Go.Proofs.YtkgmicakfmllmaaGreat
end
section
namespace Go.Proofs.YtkgmicakfmllmaaGreat
open Go Go.RowKit
set_option linter.unusedSimpArgs false
set_option linter.unusedVariables false
attribute [local irreducible] XWP Spec SpecO XPub XCall seqX clX apX stX ldX iaX slX
def fewB (L : List Raw) : Bool := decide (L.length ≤ 70) && L.all fun r => decide (r.nd.length ≤ 3) && decide (r.dd.length ≤ 3)
theorem fewB_few {L : List Raw} (h : fewB L = true) : L.length ≤ 70 ∧ fewR L := by
  unfold fewB at h
  rw [Bool.and_eq_true, decide_eq_true_eq] at h
  refine ⟨h.1, fun r hr => ?_⟩
  have := List.all_eq_true.1 h.2 r hr
  simpa using this
theorem fewB_bad {L : List Raw} {r : Raw} (hr : r ∈ L) (h : ¬ (r.nd.length ≤ 3 ∧ r.dd.length ≤ 3)) : fewB L = false := by
  cases e : fewB L
  · rfl
  · exact absurd ((fewB_few e).2 r hr) h
/-- the fields of a number in a list -/
theorem Raws.fld {V : View} {b o n c : Nat} {l : List Raw} (h : Raws V (.slice (some ⟨b, o, none⟩) n c) l) (i : Nat) (hi : i < l.length) : ∃ n1 c1 A1 n2 c2 A2, (∀ H, Loads Tryz.prog H V 47 b (o + i * 3 + 1) (.slice A1 n1 c1)) ∧ (∀ H, Loads Tryz.prog H V 47 b (o + i * 3 + 2) (.slice A2 n2 c2)) ∧ n1 = l[i].nd.length ∧ n2 = l[i].dd.length ∧ n1 ≤ c1 ∧ n2 ≤ c2 ∧ c1 ≤ 9223372036854775807 ∧ c2 ≤ 9223372036854775807 := by
  obtain ⟨A', c', e, _, _, h3⟩ := h
  cases e
  rcases h3 with rfl | ⟨b', o', arr, ty, fr, e1, e2, h4⟩
  · simp at hi
  · cases e1
    obtain ⟨m, n, d, g1, g2, g3, o1, o2, o3, n', d', hE, k1, k2⟩ := h4 i l[i] (List.getElem?_eq_getElem hi)
    cases hE
    obtain ⟨A1, c1, rfl, q1, q2⟩ := k1.form
    obtain ⟨A2, c2, rfl, q3, q4⟩ := k2.form
    exact ⟨_, c1, A1, _, c2, A2, fun H => ⟨false, _, shapeT_47, .inr ⟨rfl, .inr ⟨arr, ty, fr, e2, g2⟩⟩⟩, fun H => ⟨false, _, shapeT_47, .inr ⟨rfl, .inr ⟨arr, ty, fr, e2, g3⟩⟩⟩, rfl, rfl, q1, q3, q2, q4⟩
theorem few34_c (V : View) (v : Value) (L : List Raw) (h : Raws V v L) : Spec Tryz.prog 23 [v] V fun v' V' => v' = .bool (fewB L) := by
  obtain ⟨A, c, rfl, hc, hm⟩ := h.form
  refine (Spec.enter Tryz.func23 rfl fun Γ => ?_)
  simp only [Tryz.ntmps23, List.map_cons, List.map_nil, List.length_cons, List.length_nil, Nat.reduceAdd, Nat.reduceSub, List.replicate_succ, List.replicate_zero, List.cons_append, List.nil_append]
  refine Gx.a (by kernel_rfl) fun K hK => ?_
  simp only [XA]
  refine hK _ ?_
  refine XWP.seq ?_
  by_cases h70 : 70 < L.length
  · have b1 : decide ((70 : Int) < (L.length : Int)) = true := decide_eq_true (by omega)
    refine Gx.a (by kernel_rfl) fun K hK => ?_
    simp only [XA, XB, b1]
    refine hK _ ?_
    refine Gx.t rfl ?_
    refine Gx.a (by kernel_rfl) fun K hK => ?_
    simp only [XA]
    refine hK _ (XWP.ret ?_)
    try simp only [thenX_ret, inBlockX_ret]
    refine ret_go _ rfl ?_
    unfold fewB; rw [decide_eq_false (by omega)]; rfl
  have b1 : decide ((70 : Int) < (L.length : Int)) = false := decide_eq_false (by omega)
  refine Gx.a (by kernel_rfl) fun K hK => ?_
  simp only [XA, XB, b1]
  refine hK _ ?_
  refine Gx.f rfl ?_
  refine XWP.skip ?_
  refine XWP.cutD 0 (fun s => ∃ V2, StIs (fun Z => [Z 0,Z 1,Z 2,Z 3,Z 4,Z 5,Z 6,Z 7,Z 8,Z 9,Z 10,Z 11,Z 12,Z 13,Z 14,Z 15,Z 16,Z 17,Z 18,Z 19,Z 20,Z 21,Z 22,Z 23,Z 24,Z 25,Z 26,Z 27,Z 28]) [] (fun _ => none) V2 s ∧ fewB L = true) ?_ ?_
  · refine Gx.a (by kernel_rfl) fun K hK => ?_
    simp only [XA, XB]
    refine hK _ ?_
    clear hK
    refine XWP.block ?_
    refine XWP.loopD 0 (fun n s => ∃ (k : Nat), StIs (fun Z => [.v (.slice A L.length c), Z 1,Z 2,Z 3,Z 4,Z 5,Z 6,Z 7, .v (.int .i64 (L.length : Int)), .v (.int .i64 (k : Int)), Z 10,Z 11,Z 12,Z 13,Z 14,Z 15,Z 16,Z 17,Z 18,Z 19,Z 20,Z 21,Z 22,Z 23,Z 24,Z 25,Z 26,Z 27,Z 28]) [] (fun _ => none) V s ∧ n + k = L.length ∧ ∀ r ∈ L.take k, r.nd.length ≤ 3 ∧ r.dd.length ≤ 3) L.length ⟨0, StIs.of (by exact rfl), by omega, fun r hr => by simp at hr⟩ ?_
    rintro n s ⟨k, hs, hn, hk⟩
    obtain ⟨z, rfl⟩ := hs.out
    try dsimp only
    clear hs
    by_cases hlt : k < L.length
    rotate_left
    · obtain rfl : k = L.length := by omega
      have b2 : decide ((L.length : Int) < (L.length : Int)) = false := decide_eq_false (by omega)
      refine Gx.a (by kernel_rfl) fun K hK => ?_
      simp only [XA, XB, b2]
      refine hK _ ?_
      refine XWP.seq (Gx.f rfl ?_)
      refine XWP.exit ?_
      rw [List.take_length] at hk
      refine fun f => ⟨V, StIs.of (by exact rfl), ?_⟩
      unfold fewB
      rw [decide_eq_true (by omega), Bool.true_and, List.all_eq_true]
      intro r hr
      have := hk r hr
      rw [decide_eq_true this.1, decide_eq_true this.2]; rfl
    have b2 : decide ((k : Int) < (L.length : Int)) = true := decide_eq_true (by omega)
    refine Gx.a (by kernel_rfl) fun K hK => ?_
    simp only [XA, XB, b2]
    refine hK _ ?_
    refine XWP.seq (Gx.t rfl ?_)
    refine XWP.skip ?_
    obtain ⟨b, o, rfl⟩ := SlAt.addr h (by omega)
    obtain ⟨n1, c1, A1, n2, c2, A2, l1, l2, e1, e2, q1, q2, q3, q4⟩ := Raws.fld h k hlt
    have hmem : L[k] ∈ L := List.getElem_mem hlt
    have et : L.take (k + 1) = L.take k ++ [L[k]] := by rw [List.take_succ_eq_append_getElem hlt]
    refine XWP.seq ?_
    refine XWP.block ?_
    refine Gx.a (by kernel_rfl) fun K hK => ?_
    simp only [XA]
    refine hK _ ?_
    refine Gx.a (by kernel_rfl) fun K hK => ?_
    simp only [XA, XB]
    refine ⟨by omega, by omega, ld_mem (l1 _) ?_⟩
    by_cases d1 : 3 < n1
    · have b3 : decide ((3 : Int) < (n1 : Int)) = true := decide_eq_true (by omega)
      simp only [XA, XB, gateX, ↓reduceIte, b3]
      refine hK _ ?_
      refine Gx.t rfl ?_
      refine Gx.a (by kernel_rfl) fun K hK => ?_
      simp only [XA]
      refine hK _ (XWP.ret ?_)
      try simp only [thenX_ret, inBlockX_ret]
      refine ret_go _ rfl ?_
      rw [fewB_bad hmem (by omega)]; rfl
    have b3 : decide ((3 : Int) < (n1 : Int)) = false := decide_eq_false (by omega)
    simp only [XA, XB, gateX, ↓reduceIte, beq_self_eq_true, b3]
    refine ⟨by omega, by omega, ld_mem (l2 _) ?_⟩
    by_cases d2 : 3 < n2
    · have b4 : decide ((3 : Int) < (n2 : Int)) = true := decide_eq_true (by omega)
      simp only [XA, XB, gateX, ↓reduceIte, beq_self_eq_true, b4]
      refine hK _ ?_
      refine Gx.t rfl ?_
      refine Gx.a (by kernel_rfl) fun K hK => ?_
      simp only [XA]
      refine hK _ (XWP.ret ?_)
      try simp only [thenX_ret, inBlockX_ret]
      refine ret_go _ rfl ?_
      rw [fewB_bad hmem (by omega)]; rfl
    have b4 : decide ((3 : Int) < (n2 : Int)) = false := decide_eq_false (by omega)
    simp only [XA, XB, gateX, ↓reduceIte, beq_self_eq_true, b4]
    refine hK _ ?_
    refine Gx.f rfl ?_
    refine XWP.skip ?_
    refine Gx.c (by kernel_rfl) fun K hK => ?_
    simp only [XA, XB, i64_succ k (by omega)]
    refine hK _ ⟨n - 1, by omega, fun f => ⟨k + 1, StIs.of (by exact rfl), by omega, fun r hr => ?_⟩⟩
    rw [et, List.mem_append] at hr
    rcases hr with hr | hr
    · exact hk r hr
    · rw [List.mem_singleton.1 hr]; omega
  rintro s ⟨V2, hs, hf⟩
  obtain ⟨z, rfl⟩ := hs.out
  try dsimp only
  refine Gx.a (by kernel_rfl) fun K hK => ?_
  simp only [XA]
  refine hK _ (XWP.ret ?_)
  try simp only [thenX_ret, inBlockX_ret]
  refine ret_go _ rfl ?_
  rw [hf]; rfl
def fineB (r c : Int) (L : List Raw) : Bool := decide (r ≤ 8) && decide (c ≤ 8) && fewB L
theorem fine34_c (V : View) (s : Value) (r c : Int) (L : List Raw) (h : Raws V s L) : Spec Tryz.prog 12 [.agg #[.int .i64 r, .int .i64 c, s]] V fun v' V' => v' = .bool (fineB r c L) := by
  obtain ⟨A, cp, rfl, hc, hm⟩ := h.form
  refine (Spec.enter Tryz.func12 rfl fun Γ => ?_)
  simp only [Tryz.ntmps12, List.map_cons, List.map_nil, List.length_cons, List.length_nil, Nat.reduceAdd, Nat.reduceSub, List.replicate_succ, List.replicate_zero, List.cons_append, List.nil_append]
  refine Gx.a (by kernel_rfl) fun K hK => ?_
  simp only [XA]
  refine hK _ ?_
  unfold fineB
  cases b1 : decide (r ≤ 8)
  · refine Gx.a (by kernel_rfl) fun K hK => ?_
    simp only [XM, XA, XB, gateX, ↓reduceIte, b1]
    refine hK _ (XWP.ret ?_)
    try simp only [thenX_ret, inBlockX_ret]
    refine ret_go _ rfl ?_
    rfl
  cases b2 : decide (c ≤ 8)
  · refine Gx.a (by kernel_rfl) fun K hK => ?_
    simp only [XM, XA, XB, gateX, ↓reduceIte, beq_self_eq_true, b1, b2]
    refine hK _ (XWP.ret ?_)
    try simp only [thenX_ret, inBlockX_ret]
    refine ret_go _ rfl ?_
    rfl
  refine Gx.a (by kernel_rfl) fun K hK => ?_
  simp only [XM, XA, XB, gateX, ↓reduceIte, beq_self_eq_true, b1, b2]
  refine call_go (by kernel_rfl) rfl (few34_c _ _ L h) fun v1 V1 hV1 h1 => ?_
  subst h1
  simp only [XA, ↓reduceIte]
  refine hK _ (XWP.ret ?_)
  try simp only [thenX_ret, inBlockX_ret]
  refine ret_go _ rfl ?_
  rw [Bool.true_and, Bool.true_and]; rfl
theorem of34_c (V : View) (x y z : Value) (h1 : isOne x = true) (h2 : isOne y = true) (h3 : isOne z = true) : Spec Tryz.prog 15 [.agg #[x, y, z]] V fun v' V' => v' = .agg #[x, y, z] := by
  refine (Spec.enter Tryz.func15 rfl fun Γ => ?_)
  simp only [Tryz.ntmps15, List.map_cons, List.map_nil, List.length_cons, List.length_nil, Nat.reduceAdd, Nat.reduceSub, List.replicate_succ, List.replicate_zero, List.cons_append, List.nil_append]
  refine Gx.a (by kernel_rfl) fun K hK => ?_
  simp only [XM, XA]
  refine hK _ ?_
  refine Gx.a (by kernel_rfl) fun K hK => ?_
  simp only [XM, XA, Nat.reduceAdd, Nat.reduceLeDiff, ↓reduceIte]
  refine st_mat shapeT_31 rfl rfl h1 h2 h3 ?_
  simp only [XA]
  refine hK _ (XWP.ret ?_)
  try simp only [thenX_ret, inBlockX_ret]
  exact ret_go _ (by simp [resAll, resV, cellsV, shapeT_31]; rfl) rfl
theorem same34_c (V : View) (v u : Value) (l m : List Rat) (hv : Rats V v l) (hu : Rats V u m) (hl : ∀ x ∈ l, QF x) (hm : ∀ x ∈ m, QF x) : Spec Tryz.prog 21 [v, u] V fun v' V' => v' = .bool (decide (l = m)) := by
  obtain ⟨A1, c1, rfl, hc1, hm1⟩ := hv.form
  obtain ⟨A2, c2, rfl, hc2, hm2⟩ := hu.form
  refine (Spec.enter Tryz.func21 rfl fun Γ => ?_)
  simp only [Tryz.ntmps21, List.map_cons, List.map_nil, List.length_cons, List.length_nil, Nat.reduceAdd, Nat.reduceSub, List.replicate_succ, List.replicate_zero, List.cons_append, List.nil_append]
  refine Gx.a (by kernel_rfl) fun K hK => ?_
  simp only [XA]
  refine hK _ ?_
  refine XWP.seq ?_
  by_cases hlen : l.length = m.length
  · have b1 : (!decide ((l.length : Int) = (m.length : Int))) = false := by rw [decide_eq_true (by omega)]; rfl
    refine Gx.a (by kernel_rfl) fun K hK => ?_
    simp only [XA, XB, b1]
    refine hK _ ?_
    refine Gx.f rfl ?_
    refine XWP.skip ?_
    refine XWP.cut (fun s => ∃ V2, StIs (fun Z => [Z 0,Z 1,Z 2,Z 3,Z 4,Z 5,Z 6,Z 7,Z 8,Z 9,Z 10,Z 11,Z 12,Z 13,Z 14,Z 15,Z 16,Z 17,Z 18,Z 19,Z 20,Z 21,Z 22,Z 23,Z 24,Z 25,Z 26]) [] (fun _ => none) V2 s ∧ l = m) ?_ ?_
    · refine Gx.a (by kernel_rfl) fun K hK => ?_
      simp only [XA, XB]
      refine hK _ ?_
      clear hK
      refine XWP.block ?_
      refine XWP.loop (fun n s => ∃ (k : Nat) (V2 : View), StIs (fun Z => [.v (.slice A1 l.length c1), .v (.slice A2 m.length c2), Z 2,Z 3,Z 4,Z 5,Z 6,Z 7,Z 8,Z 9,Z 10,Z 11, .v (.int .i64 (l.length : Int)), .v (.int .i64 (k : Int)), Z 14,Z 15,Z 16,Z 17,Z 18,Z 19,Z 20,Z 21,Z 22,Z 23,Z 24,Z 25,Z 26]) [] (fun _ => none) V2 s ∧ V.le V2 ∧ n + k = l.length ∧ ∀ i, i < k → cf l i = cf m i) l.length ⟨0, V, StIs.of (by exact rfl), View.le_refl _, rfl, fun i hi => by omega⟩ ?_
      rintro n s ⟨k, V2, hs, hV2, hn, hk⟩
      obtain ⟨z, rfl⟩ := hs.out
      try dsimp only
      by_cases hlt : k < l.length
      · have b2 : decide ((k : Int) < (l.length : Int)) = true := decide_eq_true (by omega)
        refine Gx.a (by kernel_rfl) fun K hK => ?_
        simp only [XA, XB, b2]
        refine hK _ ?_
        refine XWP.seq (Gx.t rfl ?_)
        refine XWP.skip ?_
        refine XWP.seq ?_
        refine XWP.block ?_
        refine Gx.a (by kernel_rfl) fun K hK => ?_
        simp only [XA]
        refine hK _ ?_
        (refine XWP.drw [0, 1, 2, 3, 4, 5, 6, 7, 8, 9] (by kernel_rfl) (by kernel_rfl) (by kernel_rfl) fun K hK => ?_) <;> dsimp only [pickOps, List.getElem?_cons_zero, List.getElem?_cons_succ]
        have hv2 := Rats.up hv hV2
        have hu2 := Rats.up hu hV2
        obtain ⟨b, o, rfl⟩ := SlAt.addr hv2 (by omega)
        obtain ⟨b', o', rfl⟩ := SlAt.addr hu2 (by omega)
        obtain ⟨m3, n3, d3, hx3, ⟨p1, p2, p3⟩, hld3⟩ := Rats.get hv2 k (by omega)
        obtain ⟨m4, n4, d4, hx4, ⟨r1, r2, r3⟩, hld4⟩ := Rats.get hu2 k (by omega)
        simp only [XA, XB]
        refine ⟨by omega, by omega, ld_mem (hld3 _) ?_⟩
        simp only [XA, XB]
        refine ⟨by omega, by omega, ld_mem (hld4 _) ?_⟩
        simp only [XA]
        have f3 := hl _ (cf_mem hlt)
        have f4 := hm _ (cf_mem (show k < m.length by omega))
        refine call_go (by kernel_rfl) rfl (psame_c _ _ _ _ _ (hx3.toV f3) (hx4.toV f4) f3 f4) fun v5 V5 hV5 h5 => ?_
        subst h5
        by_cases he : cf l k = cf m k
        · have b3 : decide (cf l k = cf m k) = true := decide_eq_true he
          simp only [XA, b3]
          refine hK _ ?_
          refine Gx.f rfl ?_
          refine XWP.skip ?_
          refine Gx.c (by kernel_rfl) fun K hK => ?_
          simp only [XA, XB, i64_succ k (by omega)]
          refine hK _ ⟨n - 1, by omega, k + 1, V5, StIs.of (by exact rfl), View.le_trans hV2 hV5, by omega, fun i hi => ?_⟩
          by_cases e : i = k
          · rw [e]; exact he
          · exact hk i (by omega)
        · have b3 : decide (cf l k = cf m k) = false := decide_eq_false he
          simp only [XA, b3]
          refine hK _ ?_
          refine Gx.t rfl ?_
          refine Gx.a (by kernel_rfl) fun K hK => ?_
          simp only [XA]
          refine hK _ (XWP.ret ?_)
          try simp only [thenX_ret, inBlockX_ret]
          refine ret_go _ rfl ?_
          rw [decide_eq_false (fun e => he (by rw [e]))]; rfl
      · have b2 : decide ((k : Int) < (l.length : Int)) = false := decide_eq_false (by omega)
        refine Gx.a (by kernel_rfl) fun K hK => ?_
        simp only [XA, XB, b2]
        refine hK _ ?_
        refine XWP.seq (Gx.f rfl ?_)
        refine XWP.exit ?_
        refine ⟨V2, StIs.of (by exact rfl), List.ext_getElem hlen fun i h1 h2 => ?_⟩
        rw [cf_get h1, cf_get h2]; exact hk i (by omega)
    rintro s ⟨V2, hs, he⟩
    obtain ⟨z, rfl⟩ := hs.out
    try dsimp only
    refine Gx.a (by kernel_rfl) fun K hK => ?_
    simp only [XA]
    refine hK _ (XWP.ret ?_)
    try simp only [thenX_ret, inBlockX_ret]
    refine ret_go _ rfl ?_
    rw [decide_eq_true he]; rfl
  · have b1 : (!decide ((l.length : Int) = (m.length : Int))) = true := by rw [decide_eq_false (by omega)]; rfl
    refine Gx.a (by kernel_rfl) fun K hK => ?_
    simp only [XA, XB, b1]
    refine hK _ ?_
    refine Gx.t rfl ?_
    refine Gx.a (by kernel_rfl) fun K hK => ?_
    simp only [XA]
    refine hK _ (XWP.ret ?_)
    try simp only [thenX_ret, inBlockX_ret]
    refine ret_go _ rfl ?_
    rw [decide_eq_false (fun e => hlen (by rw [e]))]; rfl
end Go.Proofs.YtkgmicakfmllmaaGreat
end
section
namespace Go.Proofs.YtkgmicakfmllmaaGreat
open Go Go.RowKit
set_option linter.unusedSimpArgs false
set_option linter.unusedVariables false
attribute [local irreducible] XWP Spec SpecO XPub XCall seqX clX apX stX ldX iaX slX
theorem sgI_lt (q : Rat) : decide (sgI q < 0) = ng q := by
  unfold sgI
  split
  · rename_i h; subst h; rfl
  · cases h : ng q
    · rfl
    · rfl
theorem psum_c (V : View) (v : Value) (l : List Rat) (B : Nat) (h : Rats V v l) (hq : ∀ x ∈ l, QB B x) (ll : l.length ≤ 1000) (hB : 1001 * (B + 1) ≤ 17592186044416) : Spec Tryz.prog 62 [v] V fun v' V' => RatC V' v' (sumL l l.length) := by
  obtain ⟨A, c, rfl, hc, hm⟩ := h.form
  have hS : ∀ k, k ≤ l.length → QB (1000 * (B + 1)) (sumL l k) := fun k hk => (sumL_QB hq k hk).mono (Nat.mul_le_mul_right _ (by omega))
  have hf : 1000 * (B + 1) ≤ 17592186044416 := by omega
  refine (Spec.enter Tryz.func62 rfl fun Γ => ?_)
  simp only [Tryz.ntmps62, List.map_cons, List.map_nil, List.length_cons, List.length_nil, Nat.reduceAdd, Nat.reduceSub, List.replicate_succ, List.replicate_zero, List.cons_append, List.nil_append]
  refine Gx.a (by kernel_rfl) fun K hK => ?_
  simp only [XA, XB]
  refine hK _ ?_
  refine Gx.a (by kernel_rfl) fun K hK => ?_
  simp only [XA]
  refine call_go (by kernel_rfl) rfl (pzero_c _) fun v1 V1 hV1 h1 => ?_
  obtain ⟨x1, y1, rfl, o1, o2⟩ := h1.form
  simp only [XA, XB]
  refine st_rat rfl rfl rfl o1 o2 ?_
  simp only [XA]
  refine hK _ ?_
  refine XWP.cutD 2 (fun s => ∃ (V2 : View) (m : Bool) (x y : Value), StIs (fun Z => [Z 0,Z 1, .p 0 0, .p 1 0, Z 4,Z 5,Z 6,Z 7,Z 8,Z 9,Z 10,Z 11,Z 12,Z 13,Z 14,Z 15,Z 16,Z 17,Z 18]) [[.bool false, .slice none 0 0, .slice none 0 0], [.bool m, x, y]] (fun _ => none) V2 s ∧ RatC V2 (.agg #[.bool m, x, y]) (sumL l l.length) ∧ isOne x = true ∧ isOne y = true) ?_ ?_
  · refine Gx.a (by kernel_rfl) fun K hK => ?_
    simp only [XA]
    refine hK _ ?_
    clear hK
    refine XWP.block ?_
    refine XWP.loopD 2 (fun n s => ∃ (k : Nat) (V2 : View) (m : Bool) (x y : Value), StIs (fun Z => [.v (.slice A l.length c), Z 1, .p 0 0, .p 1 0, .v (.int .i64 (k : Int)), Z 5,Z 6,Z 7,Z 8,Z 9,Z 10,Z 11,Z 12,Z 13,Z 14,Z 15,Z 16,Z 17,Z 18]) [[.bool false, .slice none 0 0, .slice none 0 0], [.bool m, x, y]] (fun _ => none) V2 s ∧ n + k = l.length ∧ V.le V2 ∧ RatC V2 (.agg #[.bool m, x, y]) (sumL l k) ∧ isOne x = true ∧ isOne y = true) l.length ⟨0, V1, _, _, _, StIs.of (by exact rfl), by omega, hV1, h1, o1, o2⟩ ?_
    clear h1 o1 o2
    rintro n s ⟨k, V2, m, x, y, hs, hn, hV2, h2, o1, o2⟩
    obtain ⟨z, rfl⟩ := hs.out
    try dsimp only
    clear hs
    by_cases hk : k < l.length
    rotate_left
    · obtain rfl : k = l.length := by omega
      have b1 : decide ((l.length : Int) < (l.length : Int)) = false := decide_eq_false (by omega)
      refine XWP.seq ?_
      refine Gx.a (by kernel_rfl) fun K hK => ?_
      simp only [XA, XB, b1]
      refine hK _ ?_
      refine Gx.f rfl ?_
      refine XWP.exit ?_
      exact fun f => ⟨V2, m, x, y, StIs.of (by exact rfl), h2, o1, o2⟩
    have b1 : decide ((k : Int) < (l.length : Int)) = true := decide_eq_true (by omega)
    have hv2 := h.up hV2
    obtain ⟨b, o, rfl⟩ := SlAt.addr hv2 (by omega)
    obtain ⟨m3, n3, d3, hx, ⟨p1, p2, p3⟩, hld⟩ := Rats.get hv2 k hk
    refine XWP.seq ?_
    refine Gx.a (by kernel_rfl) fun K hK => ?_
    simp only [XA, XB, b1]
    refine hK _ ?_
    refine Gx.t rfl ?_
    refine XWP.skip ?_
    refine XWP.seq ?_
    refine XWP.block ?_
    (refine XWP.drw1 [0, 1, 2, 3, 4, 5, 6] (by kernel_rfl) (by kernel_rfl) (by kernel_rfl) fun K hK => ?_) <;> dsimp only [pickOps, List.getElem?_cons_zero, List.getElem?_cons_succ]
    simp only [XA, XB, Nat.reduceAdd, Nat.reduceLeDiff, ↓reduceIte]
    refine ⟨by omega, by omega, ld_mem (hld _) ?_⟩
    simp only [XA]
    have q1 := (hS k (by omega)).qf hf
    have q2 := (hq _ (cf_mem hk)).qf (by omega)
    refine call_go (by kernel_rfl) rfl (padd_c _ _ _ _ _ (h2.toV q1) (hx.toV q2) q1 q2) fun v3 V3 hV3 h3 => ?_
    obtain ⟨x3, y3, rfl, o3, o4⟩ := h3.form
    simp only [XA]
    refine st_rat rfl rfl rfl o3 o4 ?_
    simp only [XA]
    refine hK _ ?_
    refine Gx.c (by kernel_rfl) fun K hK => ?_
    simp only [XA, XB, i64_succ k (by omega)]
    exact hK _ ⟨n - 1, by omega, fun f => ⟨k + 1, V3, _, x3, y3, StIs.of (by exact rfl), by omega, View.le_trans hV2 hV3, h3, o3, o4⟩⟩
  rintro s ⟨V2, m, x, y, hs, h2, o1, o2⟩
  obtain ⟨z, rfl⟩ := hs.out
  try dsimp only
  refine Gx.a (by kernel_rfl) fun K hK => ?_
  simp only [XA, XB, Nat.reduceAdd, Nat.reduceLeDiff, ↓reduceIte]
  refine st_rat rfl rfl rfl o1 o2 ?_
  simp only [XA]
  refine hK _ (XWP.ret ?_)
  try simp only [thenX_ret, inBlockX_ret]
  exact ret_rat1 rfl rfl rfl h2
end Go.Proofs.YtkgmicakfmllmaaGreat
end
section
namespace Go.Proofs.YtkgmicakfmllmaaGreat
open Go Go.RowKit
set_option linter.unusedSimpArgs false
set_option linter.unusedVariables false
attribute [local irreducible] XWP Spec SpecO XPub XCall seqX clX apX stX ldX iaX slX
theorem ratsE_ok : ElOk Rats := fun _ _ _ _ hV h => Rats.up h hV
theorem own_off {H : Heap} {e sz n b : Nat} {v : Value} {xs : List Value} {r : Option Row} (h : Own H e sz v n xs) (hb : v.ownBlock ≠ some b) : Own (upd H b r) e sz v n xs := by
  refine ⟨h.1, ?_⟩
  rcases h.2 with h1 | ⟨g, cap, rfl, hg, h2⟩
  · exact .inl h1
  · exact .inr ⟨g, cap, rfl, (upd_off fun e => hb (by rw [← e]; rfl)).trans hg, h2⟩
/-- a list that is filled from the first on -/
def prt {α : Type} (n : Nat) (f : Nat → α) (k : Nat) : List (Option α) := (List.range n).map fun i => if i < k then some (f i) else none
theorem prt_len {α : Type} (n : Nat) (f : Nat → α) (k : Nat) : (prt n f k).length = n := by simp [prt]
theorem prt_get {α : Type} {n : Nat} {f : Nat → α} {k i : Nat} (hi : i < n) : (prt n f k)[i]? = some (if i < k then some (f i) else none) := by simp [prt, hi]
theorem prt_zero {α : Type} (n : Nat) (f : Nat → α) : prt n f 0 = List.replicate n none := by
  refine List.ext_getElem? fun i => ?_
  by_cases hi : i < n
  · rw [prt_get hi, if_neg (by omega), List.getElem?_replicate, if_pos hi]
  · rw [List.getElem?_eq_none (by rw [prt_len]; omega), List.getElem?_eq_none (by simp; omega)]
theorem prt_step {α : Type} (n : Nat) (f : Nat → α) {k : Nat} (hk : k < n) : (prt n f k).set k (some (f k)) = prt n f (k + 1) := by
  refine List.ext_getElem? fun i => ?_
  by_cases hi : i < n
  · by_cases e : k = i
    · subst e
      rw [List.getElem?_set_self (by rw [prt_len]; exact hi), prt_get hi, if_pos (by omega)]
    · rw [List.getElem?_set_ne e, prt_get hi, prt_get hi]
      by_cases h : i < k
      · rw [if_pos h, if_pos (by omega)]
      · rw [if_neg h, if_neg (by omega)]
  · rw [List.getElem?_eq_none (by rw [List.length_set, prt_len]; omega), List.getElem?_eq_none (by rw [prt_len]; omega)]
theorem R1At.prt_all {α : Type} {E : El α} {V : View} {cells : List Value} {n : Nat} {f : Nat → α} (h : R1At (optE E) V cells (prt n f n)) : R1At E V cells ((List.range n).map f) := by
  refine ⟨by rw [h.1, prt_len]; simp, fun i x hi => ?_⟩
  have hlt : i < n := by
    rcases Nat.lt_or_ge i n with g | g
    · exact g
    · rw [List.getElem?_eq_none (by simpa using g)] at hi; cases hi
  have hx : x = f i := by simpa [hlt] using hi.symm
  obtain ⟨u, a, b, c⟩ := h.2 i (some (f i)) (by rw [prt_get hlt, if_pos hlt])
  exact ⟨u, a, b, by rw [hx]; exact c⟩
/-- the rows of a matrix -/
def rowL (l : List Rat) (C i : Nat) : List Rat := (l.take ((i + 1) * C)).drop (i * C)
theorem drows_c (V : View) (s : Value) (R C : Nat) (l : List Rat) (h : Rats V s l) (ll : l.length = R * C) (hR : R ≤ 60) (hC : C ≤ 60) :
    Spec Tryz.prog 61 [.agg #[.int .i64 (R : Int), .int .i64 (C : Int), s]] V fun v' V' => Sl1 Rats V' v' ((List.range R).map (rowL l C)) := by
  obtain ⟨A, cp, rfl, hc, hm⟩ := h.form
  have hRC : R * C ≤ 3600 := Nat.le_trans (Nat.mul_le_mul hR hC) (by decide)
  refine (Spec.enter Tryz.func61 rfl fun Γ => ?_)
  simp only [Tryz.ntmps61, List.map_cons, List.map_nil, List.length_cons, List.length_nil, Nat.reduceAdd, Nat.reduceSub, List.replicate_succ, List.replicate_zero, List.cons_append, List.nil_append]
  refine Gx.a (by kernel_rfl) fun K hK => ?_
  simp only [XA]
  refine hK _ ?_
  refine Gx.a (by kernel_rfl) fun K hK => ?_
  simp only [XM, XA, XB]
  refine mk_go rfl rfl elemT_38 zeroT_22 (by omega) (by omega) (by omega) (by omega) rfl (by omega) fun go hgo1 hgo2 => ?_
  simp only [XA, flat_one]
  refine hK _ ?_
  clear hK
  refine XWP.cutD 1 (fun s => ∃ (V2 : View) (H2 : Heap) (co : List Value), StIs (fun Z => [Z 0,Z 1,Z 2, .v (.slice (some ⟨go, 0, none⟩) R R), Z 4,Z 5,Z 6,Z 7,Z 8,Z 9,Z 10,Z 11,Z 12,Z 13,Z 14,Z 15,Z 16,Z 17,Z 18,Z 19,Z 20,Z 21,Z 22,Z 23,Z 24,Z 25,Z 26,Z 27,Z 28,Z 29,Z 30,Z 31]) [[.int .i64 (R : Int), .int .i64 (C : Int), .slice A l.length cp]] H2 V2 s ∧ H2 go = some ⟨22, co, R⟩ ∧ R1At Rats V2 co ((List.range R).map (rowL l C))) ?_ ?_
  · refine Gx.a (by kernel_rfl) fun K hK => ?_
    simp only [XN, XA]
    refine hK _ ?_
    clear hK
    refine XWP.block ?_
    refine XWP.loopD 1 (fun q s => ∃ (i : Nat) (V2 : View) (H2 : Heap) (co : List Value), StIs (fun Z => [Z 0, .p 0 0, Z 2, .v (.slice (some ⟨go, 0, none⟩) R R), Z 4,Z 5,Z 6,Z 7,Z 8, .v (.int .i64 (R : Int)), .v (.int .i64 (i : Int)), Z 11,Z 12,Z 13,Z 14,Z 15,Z 16,Z 17,Z 18,Z 19,Z 20,Z 21,Z 22,Z 23,Z 24,Z 25,Z 26,Z 27,Z 28,Z 29,Z 30,Z 31]) [[.int .i64 (R : Int), .int .i64 (C : Int), .slice A l.length cp]] H2 V2 s ∧ q + i = R ∧ V.le V2 ∧ H2 go = some ⟨22, co, R⟩ ∧ R1At (optE Rats) V2 co (prt R (rowL l C) i)) R ⟨0, V, _, _, StIs.of (by exact rfl), by omega, View.le_refl _, upd_at _ _ _, by rw [prt_zero]; exact R1At.rep (u := .slice none 0 0) _ rfl trivial⟩ ?_
    clear hgo1 hgo2
    rintro q s ⟨i, V2, H2, co, hs, hq, hV2, hH, hrow⟩
    obtain ⟨z, rfl⟩ := hs.out
    try dsimp only
    clear hs
    by_cases hi : i < R
    rotate_left
    · obtain rfl : i = R := by omega
      have b1 : decide ((i : Int) < (i : Int)) = false := decide_eq_false (by omega)
      refine Gx.a (by kernel_rfl) fun K hK => ?_
      simp only [XA, XB, b1]
      refine hK _ ?_
      refine XWP.seq (Gx.f rfl ?_)
      refine XWP.exit ?_
      exact fun f => ⟨V2, H2, co, StIs.of (by exact rfl), hH, hrow.prt_all⟩
    have b1 : decide ((i : Int) < (R : Int)) = true := decide_eq_true (by omega)
    refine Gx.a (by kernel_rfl) fun K hK => ?_
    simp only [XA, XB, b1]
    refine hK _ ?_
    refine XWP.seq (Gx.t rfl ?_)
    refine XWP.skip ?_
    have w1 := wr_mul (i := i) (C := C) (by omega) (by omega)
    have w2 := wr_mul (i := i + 1) (C := C) (by omega) (by omega)
    have w3 := i64_succ i (by omega)
    have hle : i * C ≤ (i + 1) * C := Nat.mul_le_mul_right C (by omega)
    have hle2 : (i + 1) * C ≤ l.length := by rw [ll]; exact Nat.mul_le_mul_right C (by omega)
    have hsl : Rats V2 (sliceV A cp 3 (i * C) ((i + 1) * C)) (rowL l C i) := Rats.up (SlAt.drop (SlAt.take h hle2) (by rw [List.length_take, Nat.min_eq_left hle2]; exact hle)) hV2
    have hrl : (rowL l C i).length = C := row_len ll hi
    obtain ⟨cells, hcells, hsrc⟩ := SlAt.src hsl
    rw [hrl] at hsrc
    have hlr := hrow.1
    rw [prt_len] at hlr
    refine XWP.cutD 1 (fun s => ∃ (H3 : Heap) (v' : Value), StIs (fun Z => [Z 0, .p 0 0, Z 2, .v (.slice (some ⟨go, 0, none⟩) R R), Z 4,Z 5,Z 6,Z 7,Z 8, .v (.int .i64 (R : Int)), .v (.int .i64 (i : Int)), Z 11,Z 12,Z 13,Z 14,Z 15,Z 16,Z 17,Z 18,Z 19,Z 20,Z 21,Z 22,Z 23,Z 24,Z 25,Z 26,Z 27,Z 28,Z 29,Z 30,Z 31]) [[.int .i64 (R : Int), .int .i64 (C : Int), .slice A l.length cp]] H3 V2 s ∧ H3 go = some ⟨22, co.set i v', R⟩ ∧ Own H3 49 3 v' C cells ∧ v'.ownBlock ≠ some go) ?_ ?_
    · refine XWP.block ?_
      refine Gx.a (by kernel_rfl) fun K hK => ?_
      simp only [XA]
      refine hK _ ?_
      refine Gx.c (by kernel_rfl) fun K hK => ?_
      simp only [XA]
      refine bs_go (by kernel_rfl) #[] (by simp) (bs_zero elemT_22 zeroT_49) fun b hb1 hb2 => ?_
      simp only [XM, XA, XB, w1, w2, w3]
      refine ⟨by omega, by omega, by omega, ?_⟩
      have hne : go ≠ b := fun e => by rw [e] at hH; rw [show H2 b = none from hb1] at hH; cases hH
      have hgo3 : upd H2 b (some ⟨49, [], 0⟩) go = some ⟨22, co, R⟩ := (upd_off hne).trans hH
      refine ap_go elemT_22 (by kernel_rfl) zeroT_49 rfl (by omega) (own3 (n := 0) (cap := 0) (xs := []) (by simp only [upd_at]) rfl (Nat.le_refl _) (by omega)) (hsrc _) (by omega) (by omega) fun v' H' hres => ?_
      have hk2 := app_keep hres hgo3 (fun e => hne (by simpa [Value.ownBlock] using e.symm))
      have hon := hres.1
      rw [Nat.zero_add, List.nil_append] at hon
      obtain ⟨A', c', rfl⟩ := own_form hon
      simp only [XN, XA, XB]
      refine ⟨by omega, by omega, ?_⟩
      refine st_row shapeT_22 rfl rfl hk2.1 (by dsimp only; omega) ?_
      simp only [XA]
      exact hK _ fun f => ⟨_, .slice A' C c', StIs.of (by exact rfl), by simp only [upd_at], own_off hon hk2.2, hk2.2⟩
    rintro s ⟨H3, v', hs, hH3, hon, hne⟩
    obtain ⟨z, rfl⟩ := hs.out
    try dsimp only
    clear hs
    refine XWP.pubR ratE_ok hon hcells fun H4 V4 hV4 hs4 hk4 => ?_
    have hrow4 := (hrow.mono (optE_ok ratsE_ok) hV4).set i (by rw [prt_len]; exact hi) (x := some (rowL l C i)) (SlAt.one hs4) hs4
    rw [prt_step R (rowL l C) hi] at hrow4
    refine Gx.c (by kernel_rfl) fun K hK => ?_
    simp only [XA, XB, i64_succ i (by omega)]
    exact hK _ ⟨q - 1, by omega, fun f => ⟨i + 1, V4, H4, _, StIs.of (by exact rfl), by omega, View.le_trans hV2 hV4, (hk4 go hne).trans hH3, hrow4⟩⟩
  rintro s ⟨V2, H2, co, hs', hH, hrow⟩
  obtain ⟨z, rfl⟩ := hs'.out
  try dsimp only
  refine Gx.a (by kernel_rfl) fun K hK => ?_
  simp only [XA]
  refine hK _ (XWP.ret ?_)
  try simp only [thenX_ret, inBlockX_ret]
  refine ret_pub go _ hH fun o ho hle' => ret_go _ rfl ?_
  exact hrow.pub ratsE_ok ho hle' (by simp) (Nat.le_refl _) (by omega)
end Go.Proofs.YtkgmicakfmllmaaGreat
end
section
namespace Go.Proofs.YtkgmicakfmllmaaGreat
open Go Go.RowKit
set_option linter.unusedSimpArgs false
set_option linter.unusedVariables false
attribute [local irreducible] XWP Spec SpecO XPub XCall seqX clX apX stX ldX iaX slX
/-- the law behind one move, summed up from the first state on -/
def stQ (l a : List Rat) (n k : Nat) : Nat → Rat := Sm fun i => cf l i * cf a (i * n + k)
def stepL (l a : List Rat) (n : Nat) : List Rat := mk n fun k => stQ l a n k n
theorem stQ_QB {l a : List Rat} {n k B : Nat} (ql : ∀ x ∈ l, QB B x) (qa : ∀ x ∈ a, QB B x) (ll : l.length = n) (la : a.length = n * n) (hk : k < n) : ∀ i, i ≤ n → QB (i * (2 * B + 1)) (stQ l a n k i)
  | 0, _ => QB_zero _
  | i + 1, hi => by
    have ih := stQ_QB ql qa ll la hk i (by omega)
    have hp := pos_lt (show i < n by omega) hk
    have h1 := (ql _ (cf_mem (l := l) (i := i) (by omega))).mul (qa _ (cf_mem (l := a) (i := i * n + k) (by omega)))
    exact (ih.add h1).mono (by rw [Nat.add_mul]; omega)
theorem stepL_len (l a : List Rat) (n : Nat) : (stepL l a n).length = n := mk_len _ _
theorem stepL_at {l a : List Rat} {n k : Nat} (hk : k < n) : cf (stepL l a n) k = stepF (cf l) (gridL a n) n k := by
  unfold stepL; rw [cf_mk, if_pos hk]; rfl
theorem stepL_QB {l a : List Rat} {n B : Nat} (ql : ∀ x ∈ l, QB B x) (qa : ∀ x ∈ a, QB B x) (ll : l.length = n) (la : a.length = n * n) : ∀ x ∈ stepL l a n, QB (n * (2 * B + 1)) x := fun x hx => by
  unfold stepL mk at hx
  obtain ⟨k, hk, rfl⟩ := List.mem_map.1 hx
  exact stQ_QB ql qa ll la (List.mem_range.1 hk) n (Nat.le_refl _)
set_option maxHeartbeats 4000000 in
theorem bstep_c (V : View) (v s : Value) (n B : Nat) (l a : List Rat) (hv : Rats V v l) (hs : Rats V s a) (ll : l.length = n) (la : a.length = n * n) (hn : n ≤ 60) (ql : ∀ x ∈ l, QB B x) (qa : ∀ x ∈ a, QB B x) (hB : 61 * (2 * B + 1) ≤ 17592186044416) :
    Spec Tryz.prog 69 [v, .agg #[.int .i64 (n : Int), .int .i64 (n : Int), s]] V fun v' V' => Rats V' v' (stepL l a n) := by
  obtain ⟨A1, c1, rfl, hc1, hm1⟩ := hv.form
  obtain ⟨A2, c2, rfl, hc2, hm2⟩ := hs.form
  have hnn : n * n ≤ 3600 := Nat.le_trans (Nat.mul_le_mul hn hn) (by decide)
  have hS : ∀ k i, k < n → i ≤ n → QF (stQ l a n k i) := fun k i hk hi => (stQ_QB ql qa ll la hk i hi).qf (Nat.le_trans (Nat.mul_le_mul_right _ (show i ≤ 61 by omega)) hB)
  rw [ll] at hv hc1 ⊢
  refine (Spec.enter Tryz.func69 rfl fun Γ => ?_)
  simp only [Tryz.ntmps69, List.map_cons, List.map_nil, List.length_cons, List.length_nil, Nat.reduceAdd, Nat.reduceSub, List.replicate_succ, List.replicate_zero, List.cons_append, List.nil_append]
  refine Gx.a (by kernel_rfl) fun K hK => ?_
  simp only [XA]
  refine hK _ ?_
  refine Gx.a (by kernel_rfl) fun K hK => ?_
  simp only [XA, XB]
  refine mk_go rfl rfl elemT_22 zeroT_49 (by omega) (by omega) (by omega) (by omega) rfl (by omega) fun go hgo1 hgo2 => ?_
  simp only [XA]
  refine hK _ ?_
  clear hK
  refine XWP.cutD 1 (fun s => ∃ (V2 : View) (H2 : Heap) (co : List Value), StIs (fun Z => [Z 0,Z 1,Z 2,Z 3,Z 4, .v (.slice (some ⟨go, 0, none⟩) n n), Z 6,Z 7,Z 8,Z 9,Z 10,Z 11,Z 12,Z 13,Z 14,Z 15,Z 16,Z 17,Z 18,Z 19,Z 20,Z 21,Z 22,Z 23,Z 24,Z 25,Z 26,Z 27,Z 28,Z 29,Z 30,Z 31,Z 32,Z 33,Z 34,Z 35,Z 36,Z 37,Z 38,Z 39,Z 40,Z 41,Z 42,Z 43,Z 44]) [[.int .i64 (n : Int), .int .i64 (n : Int), .slice A2 a.length c2]] H2 V2 s ∧ H2 go = some ⟨49, co, n * 3⟩ ∧ RowAt ratE V2 co (stepL l a n)) ?_ ?_
  · refine Gx.a (by kernel_rfl) fun K hK => ?_
    simp only [XA, XB]
    refine hK _ ?_
    clear hK
    refine XWP.block ?_
    refine XWP.loopD 1 (fun q s => ∃ (k : Nat) (V2 : View) (H2 : Heap) (co : List Value), StIs (fun Z => [.v (.slice A1 n c1), Z 1,Z 2, .p 0 0, Z 4, .v (.slice (some ⟨go, 0, none⟩) n n), Z 6,Z 7,Z 8,Z 9,Z 10,Z 11,Z 12, .v (.int .i64 (n : Int)), .v (.int .i64 (k : Int)), Z 15,Z 16,Z 17,Z 18,Z 19,Z 20,Z 21,Z 22,Z 23,Z 24,Z 25,Z 26,Z 27,Z 28,Z 29,Z 30,Z 31,Z 32,Z 33,Z 34,Z 35,Z 36,Z 37,Z 38,Z 39,Z 40,Z 41,Z 42,Z 43,Z 44]) [[.int .i64 (n : Int), .int .i64 (n : Int), .slice A2 a.length c2]] H2 V2 s ∧ q + k = n ∧ V.le V2 ∧ H2 go = some ⟨49, co, n * 3⟩ ∧ RowAt (optE ratE) V2 co (part n (fun k => stQ l a n k n) k)) n ⟨0, V, _, _, StIs.of (by exact rfl), by omega, View.le_refl _, upd_at _ _ _, by rw [part_zero]; exact RowAt.new V n⟩ ?_
    rintro q s ⟨k, V2, H2, co, hs', hq, hV2, hH, hrow⟩
    obtain ⟨z, rfl⟩ := hs'.out
    try dsimp only
    clear hs'
    by_cases hk : k < n
    rotate_left
    · obtain rfl : k = n := by omega
      have b1 : decide ((k : Int) < (k : Int)) = false := decide_eq_false (by omega)
      refine Gx.a (by kernel_rfl) fun K hK => ?_
      simp only [XA, XB, b1]
      refine hK _ ?_
      refine XWP.seq (Gx.f rfl ?_)
      refine XWP.exit ?_
      rw [part_all] at hrow
      exact fun f => ⟨V2, H2, co, StIs.of (by exact rfl), hH, hrow.all⟩
    have b1 : decide ((k : Int) < (n : Int)) = true := decide_eq_true (by omega)
    refine Gx.a (by kernel_rfl) fun K hK => ?_
    simp only [XA, XB, b1]
    refine hK _ ?_
    refine XWP.seq (Gx.t rfl ?_)
    refine XWP.skip ?_
    refine XWP.cutD 1 (fun s => ∃ (V3 : View) (H3 : Heap) (co : List Value), StIs (fun Z => [.v (.slice A1 n c1), Z 1,Z 2, .p 0 0, Z 4, .v (.slice (some ⟨go, 0, none⟩) n n), Z 6,Z 7,Z 8,Z 9,Z 10,Z 11,Z 12, .v (.int .i64 (n : Int)), .v (.int .i64 (k : Int)), Z 15,Z 16,Z 17,Z 18,Z 19,Z 20,Z 21,Z 22,Z 23,Z 24,Z 25,Z 26,Z 27,Z 28,Z 29,Z 30,Z 31,Z 32,Z 33,Z 34,Z 35,Z 36,Z 37,Z 38,Z 39,Z 40,Z 41,Z 42,Z 43,Z 44]) [[.int .i64 (n : Int), .int .i64 (n : Int), .slice A2 a.length c2]] H3 V3 s ∧ V2.le V3 ∧ H3 go = some ⟨49, co, n * 3⟩ ∧ RowAt (optE ratE) V3 co (part n (fun k => stQ l a n k n) (k + 1))) ?_ ?_
    · refine XWP.block ?_
      refine Gx.a (by kernel_rfl) fun K hK => ?_
      simp only [XA]
      refine hK _ ?_
      refine Gx.a (by kernel_rfl) fun K hK => ?_
      simp only [XA]
      refine call_go (by kernel_rfl) rfl (qzero_c _) fun v4 V4 hV4 h4 => ?_
      obtain ⟨x4, y4, rfl, o1, o2⟩ := h4.form
      have hrow4 := hrow.mono (optE_ok ratE_ok) hV4
      have hlr := hrow4.1
      rw [part_len] at hlr
      simp only [XA, XB]
      refine ⟨by omega, by omega, ?_⟩
      refine st_rowA shapeT_49 (all3 rfl o1 o2) rfl hH (by dsimp only; omega) ?_
      simp only [XA]
      refine hK _ ?_
      have hrow5 := hrow4.set k (by rw [part_len]; exact hk) (x := some (stQ l a n k 0)) (show isOne (.bool (ng 0)) = true from rfl) o1 o2 h4
      clear hrow hrow4
      refine Gx.a (by kernel_rfl) fun K hK => ?_
      simp only [XA, XB]
      refine hK _ ?_
      clear hK
      refine XWP.block ?_
      refine XWP.loopD 1 (fun p s => ∃ (i : Nat) (V5 : View) (H5 : Heap) (co : List Value), StIs (fun Z => [.v (.slice A1 n c1), Z 1,Z 2, .p 0 0, Z 4, .v (.slice (some ⟨go, 0, none⟩) n n), .v (.int .i64 (k : Int)), Z 7,Z 8,Z 9,Z 10,Z 11,Z 12, .v (.int .i64 (n : Int)), .v (.int .i64 (k : Int)), Z 15,Z 16,Z 17,Z 18,Z 19,Z 20, .v (.slice A1 n c1), .v (.int .i64 (n : Int)), .v (.int .i64 (i : Int)), Z 24,Z 25,Z 26,Z 27,Z 28,Z 29,Z 30,Z 31,Z 32,Z 33,Z 34,Z 35,Z 36,Z 37,Z 38,Z 39,Z 40,Z 41,Z 42,Z 43,Z 44]) [[.int .i64 (n : Int), .int .i64 (n : Int), .slice A2 a.length c2]] H5 V5 s ∧ p + i = n ∧ V2.le V5 ∧ H5 go = some ⟨49, co, n * 3⟩ ∧ RowAt (optE ratE) V5 co ((part n (fun k => stQ l a n k n) k).set k (some (stQ l a n k i)))) n ⟨0, V4, _, _, StIs.of (by exact rfl), by omega, hV4, upd_at _ _ _, by simpa using hrow5⟩ ?_
      clear hrow5 hH h4 o1 o2
      rintro p s ⟨i, V5, H5, co, hs', hp, hV5, hH, hrow⟩
      obtain ⟨z, rfl⟩ := hs'.out
      try dsimp only
      clear hs'
      by_cases hi : i < n
      rotate_left
      · obtain rfl : i = n := by omega
        have b2 : decide ((i : Int) < (i : Int)) = false := decide_eq_false (by omega)
        refine Gx.a (by kernel_rfl) fun K hK => ?_
        simp only [XA, XB, b2]
        refine hK _ ?_
        refine XWP.seq (Gx.f rfl ?_)
        refine XWP.exit ?_
        rw [part_step i (fun k => stQ l a i k i) k] at hrow
        exact fun f => ⟨V5, H5, co, StIs.of (by exact rfl), hV5, hH, hrow⟩
      have b2 : decide ((i : Int) < (n : Int)) = true := decide_eq_true (by omega)
      refine Gx.a (by kernel_rfl) fun K hK => ?_
      simp only [XA, XB, b2]
      refine hK _ ?_
      refine XWP.seq (Gx.t rfl ?_)
      refine XWP.skip ?_
      have hle5 := View.le_trans hV2 hV5
      have hv5 := hv.up hle5
      obtain ⟨b, o, rfl⟩ := SlAt.addr hv5 (by omega)
      obtain ⟨m6, n6, d6, hx6, ⟨p1, p2, p3⟩, hld6⟩ := Rats.get hv5 i (by omega)
      have hpos := pos_lt hi hk
      refine XWP.seq ?_
      refine XWP.block ?_
      refine Gx.a (by kernel_rfl) fun K hK => ?_
      simp only [XA, XB]
      refine ⟨by omega, by omega, ld_mem (hld6 _) ?_⟩
      simp only [XA, XB]
      refine st_rat rfl rfl p1 p2 p3 ?_
      simp only [XA]
      refine hK _ ?_
      obtain ⟨v8, hx8, ⟨m8, n8, d8, rfl, s1, s2, s3⟩, hld8⟩ := RowAt.load hH hrow k (by rw [List.length_set, part_len]; exact hk)
      rw [List.getElem_set_self] at hx8
      have hx8 : RatC V5 (.agg #[m8, n8, d8]) (stQ l a n k i) := hx8
      have q6 : QF (cf l i) := (ql _ (cf_mem (by omega))).qf (by omega)
      have q7 : QF (cf a (i * n + k)) := (qa _ (cf_mem (by omega))).qf (by omega)
      have qp : QF (cf l i * cf a (i * n + k)) := ((ql _ (cf_mem (by omega))).mul (qa _ (cf_mem (by omega)))).qf (by omega)
      (refine XWP.drw1 [0, 1, 2, 3, 4, 5, 6, 7, 8, 9, 10, 11, 12, 13, 14] (by kernel_rfl) (by kernel_rfl) (by kernel_rfl) fun K hK => ?_) <;> dsimp only [pickOps, List.getElem?_cons_zero, List.getElem?_cons_succ]
      simp only [XA, XB]
      refine ⟨by omega, by omega, ld_mem hld8 ?_⟩
      simp only [XM, XA, XB, Nat.reduceAdd, Nat.reduceLeDiff, ↓reduceIte]
      refine call_go (by kernel_rfl) rfl (bat_c _ _ _ n i k a (hs.up hle5) (by omega) hn (by omega) (by omega)) fun v9 V9 hV9 h9 => ?_
      simp only [XA]
      refine call_go (by kernel_rfl) rfl (qmul_c _ _ _ _ _ (hx6.mono hV9) h9 q6 q7) fun v10 V10 hV10 h10 => ?_
      simp only [XA]
      refine call_go (by kernel_rfl) rfl (qadd_c _ _ _ _ _ ((hx8.mono hV9).mono hV10) h10 (hS k i hk (by omega)) qp) fun v11 V11 hV11 h11 => ?_
      obtain ⟨x11, y11, rfl, o5, o6⟩ := h11.form
      have hle11 := View.le_trans hV9 (View.le_trans hV10 hV11)
      have hrow11 := hrow.mono (optE_ok ratE_ok) hle11
      have hl11 := hrow11.1
      rw [List.length_set, part_len] at hl11
      simp only [XA, XB]
      refine ⟨by omega, by omega, ?_⟩
      refine st_rowA shapeT_49 (all3 rfl o5 o6) rfl hH (by dsimp only; omega) ?_
      simp only [XA]
      refine hK _ ?_
      have hrow12 := hrow11.set k (by rw [List.length_set, part_len]; exact hk) (x := some (stQ l a n k (i + 1))) (show isOne (.bool (ng (stQ l a n k i + cf l i * cf a (i * n + k)))) = true from rfl) o5 o6 h11
      rw [List.set_set] at hrow12
      refine Gx.c (by kernel_rfl) fun K hK => ?_
      simp only [XA, XB, i64_succ i (by omega)]
      exact hK _ ⟨p - 1, by omega, fun f => ⟨i + 1, V11, _, _, StIs.of (by exact rfl), by omega, View.le_trans hV5 hle11, upd_at _ _ _, by simpa using hrow12⟩⟩
    clear hrow hH
    rintro s ⟨V3, H3, co, hs', hV3, hH, hrow⟩
    obtain ⟨z, rfl⟩ := hs'.out
    try dsimp only
    refine Gx.c (by kernel_rfl) fun K hK => ?_
    simp only [XA, XB, i64_succ k (by omega)]
    exact hK _ ⟨q - 1, by omega, fun f => ⟨k + 1, V3, H3, co, StIs.of (by exact rfl), by omega, View.le_trans hV2 hV3, hH, hrow⟩⟩
  rintro s ⟨V2, H2, co, hs', hH, hrow⟩
  obtain ⟨z, rfl⟩ := hs'.out
  try dsimp only
  refine Gx.a (by kernel_rfl) fun K hK => ?_
  simp only [XA]
  refine hK _ (XWP.ret ?_)
  try simp only [thenX_ret, inBlockX_ret]
  refine ret_pub go _ hH fun o ho hle' => ret_go _ rfl ?_
  exact hrow.pub ratE_ok ho hle' (stepL_len l a n) (Nat.le_refl _) (by omega)
end Go.Proofs.YtkgmicakfmllmaaGreat
end
section
namespace Go.Proofs.YtkgmicakfmllmaaGreat
open Go Go.RowKit
set_option linter.unusedSimpArgs false
set_option linter.unusedVariables false
attribute [local irreducible] XWP Spec SpecO XPub XCall seqX clX apX stX ldX iaX slX
theorem lawB_ok {L : List Raw} (h : lawB L = true) : okR L = true ∧ (∀ i, i < L.length → 0 ≤ cf (qs L) i) ∧ sumL (qs L) L.length = 1 := by
  unfold lawB at h
  rw [Bool.and_eq_true, decide_eq_true_eq] at h
  have := wtsR_ok h.1
  exact ⟨this.1, fun i hi => (ng_iff _).1 (this.2 i hi), h.2⟩
end Go.Proofs.YtkgmicakfmllmaaGreat
end
section
namespace Go.Proofs.YtkgmicakfmllmaaGreat
open Go Go.RowKit
set_option linter.unusedSimpArgs false
set_option linter.unusedVariables false
attribute [local irreducible] XWP Spec SpecO XPub XCall seqX clX apX stX ldX iaX slX
/-- a law's parts and a matrix, as they come -/
structure LM (V : View) (v s : Value) (L M : List Raw) (B : Nat) : Prop where
  hv : Raws V v L
  hs : Raws V s M
  fL : fitR L
  fM : fitR M
  lL : L.length ≤ 1000
  lM : M.length ≤ 1000
  qL : ∀ x ∈ qs L, QB B x
  qM : ∀ x ∈ qs M, QB B x
  hB : 1001 * (2 * B + 2) ≤ 17592186044416
theorem LM.up {V V' : View} {v s : Value} {L M : List Raw} {B : Nat} (h : LM V v s L M B) (hV : V.le V') : LM V' v s L M B := ⟨Raws.up h.hv hV, Raws.up h.hs hV, h.fL, h.fM, h.lL, h.lM, h.qL, h.qM, h.hB⟩
def fitE (L : List Raw) (r c : Int) (M : List Raw) : Int := if (lawB L && stoB r c M) = false then 1 else if (L.length : Int) = r then 0 else 30
theorem fitE_arg {L M : List Raw} {r c : Int} (h : (lawB L && stoB r c M) = false) : fitE L r c M = 1 := by unfold fitE; rw [if_pos h]
theorem fitE_shape {L M : List Raw} {r c : Int} (h : (lawB L && stoB r c M) = true) (hl : ¬ (L.length : Int) = r) : fitE L r c M = 30 := by unfold fitE; rw [if_neg (by rw [h]; simp), if_neg hl]
theorem fitE_ok {L M : List Raw} {r c : Int} (h : (lawB L && stoB r c M) = true) (hl : (L.length : Int) = r) : fitE L r c M = 0 := by unfold fitE; rw [if_neg (by rw [h]; simp), if_pos hl]
/-- what a law and a matrix that fit are -/
structure FitP (L : List Raw) (r c : Int) (M : List Raw) (n : Nat) : Prop where
  er : r = n
  ec : c = n
  hn : n ≤ 60
  lL : L.length = n
  lM : M.length = n * n
  okL : okR L = true
  okM : okR M = true
  sto : StoG (gridL (qs M) n) n
  nn : ∀ i, i < n → 0 ≤ cf (qs L) i
  one : Sm (cf (qs L)) n = 1
theorem fitE_parts {L M : List Raw} {r c : Int} (h : fitE L r c M = 0) : ∃ n, FitP L r c M n := by
  have hb : (lawB L && stoB r c M) = true := by
    cases e : (lawB L && stoB r c M)
    · rw [fitE_arg e] at h; cases h
    · rfl
  have hl : (L.length : Int) = r := by
    by_cases hl : (L.length : Int) = r
    · exact hl
    · rw [fitE_shape hb hl] at h; cases h
  rw [Bool.and_eq_true] at hb
  obtain ⟨n, h1, h2, h3, h4, h5, h6⟩ := stoB_parts hb.2
  obtain ⟨g1, g2, g3⟩ := lawB_ok hb.1
  have hn : L.length = n := by omega
  exact ⟨n, h1, h2, h3, hn, h4, g1, h5, h6, fun i hi => g2 i (by omega), by unfold sumL at g3; rw [hn] at g3; exact g3⟩
theorem fits_c (V : View) (v s : Value) (r c : Int) (L M : List Raw) (B : Nat) (h : LM V v s L M B) : Spec Tryz.prog 67 [v, .agg #[.int .i64 r, .int .i64 c, s]] V fun v' V' => v' = .int .i64 (fitE L r c M) := by
  obtain ⟨A1, c1, rfl, hc1, hm1⟩ := h.hv.form
  obtain ⟨A2, c2, rfl, hc2, hm2⟩ := h.hs.form
  have hB := h.hB
  have lL := h.lL
  have lM := h.lM
  refine (Spec.enter Tryz.func67 rfl fun Γ => ?_)
  simp only [Tryz.ntmps67, List.map_cons, List.map_nil, List.length_cons, List.length_nil, Nat.reduceAdd, Nat.reduceSub, List.replicate_succ, List.replicate_zero, List.cons_append, List.nil_append]
  refine Gx.a (by kernel_rfl) fun K hK => ?_
  simp only [XA]
  refine hK _ ?_
  refine XWP.cut (fun s => StIs (fun Z => [Z 0,Z 1,Z 2,Z 3,Z 4,Z 5,Z 6,Z 7,Z 8,Z 9,Z 10,Z 11,Z 12,Z 13,Z 14,Z 15,Z 16,Z 17,Z 18,Z 19]) [[.int .i64 r, .int .i64 c, .slice A2 M.length c2]] (fun _ => none) s.V s ∧ fitE L r c M = 0) ?_ ?_
  · refine XWP.block ?_
    refine XWP.seq ?_
    refine Gx.c (by kernel_rfl) fun K hK => ?_
    simp only [XA]
    refine call_go (by kernel_rfl) rfl (blaw_c _ _ L B h.hv h.fL lL (fun _ => h.qL) (by omega)) fun v1 V1 hV1 h1 => ?_
    subst h1
    cases e1 : lawB L
    · simp only [XA, gateX, ↓reduceIte]
      refine hK _ ?_
      refine Gx.t rfl ?_
      refine Gx.a (by kernel_rfl) fun K hK => ?_
      simp only [XA]
      refine hK _ (XWP.ret ?_)
      try simp only [thenX_ret, inBlockX_ret]
      refine ret_go _ rfl ?_
      rw [fitE_arg (by rw [e1]; rfl)]; rfl
    simp only [XM, XA, gateX, Nat.reduceAdd, Nat.reduceLeDiff, ↓reduceIte, beq_self_eq_true]
    refine call_go (by kernel_rfl) rfl (csto_c _ _ r c M B (h.hs.up hV1) h.fM (by omega) (fun _ => h.qM) (by omega)) fun v2 V2 hV2 h2 => ?_
    subst h2
    cases e2 : stoB r c M
    · simp only [XA, gateX, ↓reduceIte, beq_self_eq_true]
      refine hK _ ?_
      refine Gx.t rfl ?_
      refine Gx.a (by kernel_rfl) fun K hK => ?_
      simp only [XA]
      refine hK _ (XWP.ret ?_)
      try simp only [thenX_ret, inBlockX_ret]
      refine ret_go _ rfl ?_
      rw [fitE_arg (by rw [e1, e2]; rfl)]; rfl
    simp only [XA, gateX, ↓reduceIte, beq_self_eq_true]
    refine hK _ ?_
    refine Gx.f rfl ?_
    have eb : (lawB L && stoB r c M) = true := by rw [e1, e2]; rfl
    by_cases hl : (L.length : Int) = r
    rotate_left
    · have b1 : decide ((L.length : Int) = r) = false := decide_eq_false (by omega)
      refine Gx.a (by kernel_rfl) fun K hK => ?_
      simp only [XM, XA, XB, b1]
      refine hK _ ?_
      refine Gx.t rfl ?_
      refine Gx.a (by kernel_rfl) fun K hK => ?_
      simp only [XA]
      refine hK _ (XWP.ret ?_)
      try simp only [thenX_ret, inBlockX_ret]
      refine ret_go _ rfl ?_
      rw [fitE_shape eb hl]; rfl
    have b1 : decide ((L.length : Int) = r) = true := decide_eq_true (by omega)
    refine Gx.a (by kernel_rfl) fun K hK => ?_
    simp only [XM, XA, XB, b1]
    refine hK _ ?_
    refine Gx.f rfl ?_
    refine XWP.skip ?_
    exact ⟨StIs.of (by exact rfl), fitE_ok eb hl⟩
  rintro s ⟨hs, e⟩
  obtain ⟨t, bx, H, V2⟩ := s
  obtain ⟨z, e3⟩ := hs.out
  cases e3
  try dsimp only
  refine Gx.a (by kernel_rfl) fun K hK => ?_
  simp only [XA]
  refine hK _ (XWP.ret ?_)
  try simp only [thenX_ret, inBlockX_ret]
  refine ret_go _ rfl ?_
  rw [e]; rfl
theorem eqf_c (V : View) (v u : Value) (l m : List Rat) (hv : Rats V v l) (hu : Rats V u m) (hl : ∀ x ∈ l, QF x) (hm : ∀ x ∈ m, QF x) : Spec Tryz.prog 68 [v, u, .func (.func 70) #[] #[]] V fun v' V' => v' = .bool (decide (l = m)) := by
  obtain ⟨A1, c1, rfl, hc1, hm1⟩ := hv.form
  obtain ⟨A2, c2, rfl, hc2, hm2⟩ := hu.form
  refine (Spec.enter Tryz.func68 rfl fun Γ => ?_)
  simp only [Tryz.ntmps68, List.map_cons, List.map_nil, List.length_cons, List.length_nil, Nat.reduceAdd, Nat.reduceSub, List.replicate_succ, List.replicate_zero, List.cons_append, List.nil_append]
  refine Gx.a (by kernel_rfl) fun K hK => ?_
  simp only [XA]
  refine hK _ ?_
  refine XWP.seq ?_
  by_cases hlen : l.length = m.length
  rotate_left
  · have b1 : decide ((l.length : Int) = (m.length : Int)) = false := decide_eq_false (by omega)
    refine Gx.a (by kernel_rfl) fun K hK => ?_
    simp only [XA, XB, b1]
    refine hK _ ?_
    refine Gx.t rfl ?_
    refine Gx.a (by kernel_rfl) fun K hK => ?_
    simp only [XA]
    refine hK _ (XWP.ret ?_)
    try simp only [thenX_ret, inBlockX_ret]
    refine ret_go _ rfl ?_
    rw [decide_eq_false (fun e => hlen (by rw [e]))]; rfl
  have b1 : decide ((l.length : Int) = (m.length : Int)) = true := decide_eq_true (by omega)
  refine Gx.a (by kernel_rfl) fun K hK => ?_
  simp only [XA, XB, b1]
  refine hK _ ?_
  refine Gx.f rfl ?_
  refine XWP.skip ?_
  refine XWP.cutD 0 (fun s => ∃ V2, StIs (fun Z => [Z 0,Z 1,Z 2,Z 3,Z 4,Z 5,Z 6,Z 7,Z 8,Z 9,Z 10,Z 11,Z 12,Z 13,Z 14,Z 15,Z 16,Z 17,Z 18,Z 19,Z 20,Z 21,Z 22,Z 23,Z 24,Z 25,Z 26,Z 27,Z 28,Z 29,Z 30,Z 31]) [] (fun _ => none) V2 s ∧ l = m) ?_ ?_
  · refine Gx.a (by kernel_rfl) fun K hK => ?_
    simp only [XA, XB]
    refine hK _ ?_
    clear hK
    refine XWP.block ?_
    refine XWP.loopD 0 (fun n s => ∃ (k : Nat) (V2 : View), StIs (fun Z => [.v (.slice A1 l.length c1), .v (.slice A2 m.length c2), .v (.func (.func 70) #[] #[]), Z 3,Z 4,Z 5,Z 6,Z 7,Z 8,Z 9,Z 10,Z 11,Z 12,Z 13,Z 14, .v (.slice A1 l.length c1), .v (.int .i64 (l.length : Int)), .v (.int .i64 (k : Int)), Z 18,Z 19,Z 20,Z 21,Z 22,Z 23,Z 24,Z 25,Z 26,Z 27,Z 28,Z 29,Z 30,Z 31]) [] (fun _ => none) V2 s ∧ V.le V2 ∧ n + k = l.length ∧ ∀ i, i < k → cf l i = cf m i) l.length ⟨0, V, StIs.of (by exact rfl), View.le_refl _, by omega, fun i hi => by omega⟩ ?_
    rintro n s ⟨k, V2, hs, hV2, hn, hk⟩
    obtain ⟨z, rfl⟩ := hs.out
    try dsimp only
    clear hs
    by_cases hlt : k < l.length
    rotate_left
    · have b2 : decide ((k : Int) < (l.length : Int)) = false := decide_eq_false (by omega)
      refine Gx.a (by kernel_rfl) fun K hK => ?_
      simp only [XA, XB, b2]
      refine hK _ ?_
      refine XWP.seq (Gx.f rfl ?_)
      refine XWP.exit ?_
      refine fun f => ⟨V2, StIs.of (by exact rfl), List.ext_getElem hlen fun i h1 h2 => ?_⟩
      rw [cf_get h1, cf_get h2]; exact hk i (by omega)
    have b2 : decide ((k : Int) < (l.length : Int)) = true := decide_eq_true (by omega)
    refine Gx.a (by kernel_rfl) fun K hK => ?_
    simp only [XA, XB, b2]
    refine hK _ ?_
    refine XWP.seq (Gx.t rfl ?_)
    refine XWP.skip ?_
    have hv2 := Rats.up hv hV2
    have hu2 := Rats.up hu hV2
    obtain ⟨b, o, rfl⟩ := SlAt.addr hv2 (by omega)
    obtain ⟨b', o', rfl⟩ := SlAt.addr hu2 (by omega)
    obtain ⟨m3, n3, d3, hx3, ⟨p1, p2, p3⟩, hld3⟩ := Rats.get hv2 k (by omega)
    obtain ⟨m4, n4, d4, hx4, ⟨r1, r2, r3⟩, hld4⟩ := Rats.get hu2 k (by omega)
    refine XWP.seq ?_
    refine XWP.block ?_
    refine Gx.a (by kernel_rfl) fun K hK => ?_
    simp only [XA, XB]
    refine ⟨by omega, by omega, ld_mem (hld3 _) ?_⟩
    simp only [XA, XB]
    refine st_rat rfl rfl p1 p2 p3 ?_
    simp only [XA]
    refine hK _ ?_
    refine Gx.a (by kernel_rfl) fun K hK => ?_
    simp only [XA, XB]
    refine ⟨by omega, by omega, ld_mem (hld4 _) ?_⟩
    simp only [XA, XB]
    refine st_rat rfl rfl r1 r2 r3 ?_
    simp only [XA]
    refine hK _ ?_
    refine Gx.a (by kernel_rfl) fun K hK => ?_
    simp only [XA, XB, Nat.reduceAdd, Nat.reduceLeDiff, ↓reduceIte]
    have f3 := hl _ (cf_mem hlt)
    have f4 := hm _ (cf_mem (show k < m.length by omega))
    refine call_go (by kernel_rfl) rfl (qsame_c _ _ _ _ _ hx3 hx4 f3 f4) fun v5 V5 hV5 h5 => ?_
    subst h5
    by_cases he : cf l k = cf m k
    · have b3 : decide (cf l k = cf m k) = true := decide_eq_true he
      simp only [XA, b3]
      refine hK _ ?_
      refine Gx.f rfl ?_
      refine XWP.skip ?_
      refine Gx.c (by kernel_rfl) fun K hK => ?_
      simp only [XA, XB, i64_succ k (by omega)]
      refine hK _ ⟨n - 1, by omega, fun f => ⟨k + 1, V5, StIs.of (by exact rfl), View.le_trans hV2 hV5, by omega, fun i hi => ?_⟩⟩
      by_cases e : i = k
      · rw [e]; exact he
      · exact hk i (by omega)
    · have b3 : decide (cf l k = cf m k) = false := decide_eq_false he
      simp only [XA, b3]
      refine hK _ ?_
      refine Gx.t rfl ?_
      refine Gx.a (by kernel_rfl) fun K hK => ?_
      simp only [XA]
      refine hK _ (XWP.ret ?_)
      try simp only [thenX_ret, inBlockX_ret]
      refine ret_go _ rfl ?_
      rw [decide_eq_false (fun e => he (by rw [e]))]; rfl
  rintro s ⟨V2, hs, he⟩
  obtain ⟨z, rfl⟩ := hs.out
  try dsimp only
  refine Gx.a (by kernel_rfl) fun K hK => ?_
  simp only [XA]
  refine hK _ (XWP.ret ?_)
  try simp only [thenX_ret, inBlockX_ret]
  refine ret_go _ rfl ?_
  rw [decide_eq_true he]; rfl
/-- what Step gives -/
def StepR (L : List Raw) (r c : Int) (M : List Raw) (v' : Value) (V' : View) : Prop :=
  (fitE L r c M ≠ 0 → v' = .tuple #[.slice none 0 0, .int .i64 (fitE L r c M)]) ∧ (fitE L r c M = 0 → ∃ w, v' = .tuple #[w, .int .i64 0] ∧ Rats V' w (stepL (qs L) (qs M) L.length))
theorem LM.rats {V : View} {v s : Value} {L M : List Raw} {B n : Nat} {r c : Int} (h : LM V v s L M B) (p : FitP L r c M n) : Rats V v (qs L) ∧ Rats V s (qs M) := ⟨Raws.rats h.hv p.okL, Raws.rats h.hs p.okM⟩
theorem bStep_c (V : View) (v s : Value) (r c : Int) (L M : List Raw) (B : Nat) (h : LM V v s L M B) : Spec Tryz.prog 32 [v, .agg #[.int .i64 r, .int .i64 c, s]] V fun v' V' => StepR L r c M v' V' := by
  obtain ⟨A1, c1, rfl, hc1, hm1⟩ := h.hv.form
  obtain ⟨A2, c2, rfl, hc2, hm2⟩ := h.hs.form
  have hB := h.hB
  refine (Spec.enter Tryz.func32 rfl fun Γ => ?_)
  simp only [Tryz.ntmps32, List.map_cons, List.map_nil, List.length_cons, List.length_nil, Nat.reduceAdd, Nat.reduceSub, List.replicate_succ, List.replicate_zero, List.cons_append, List.nil_append]
  refine Gx.a (by kernel_rfl) fun K hK => ?_
  simp only [XA]
  refine hK _ ?_
  refine XWP.seq ?_
  refine Gx.a (by kernel_rfl) fun K hK => ?_
  simp only [XM, XA, Nat.reduceAdd, Nat.reduceLeDiff, ↓reduceIte]
  refine call_go (by kernel_rfl) rfl (fits_c _ _ _ r c L M B h) fun v1 V1 hV1 h1 => ?_
  subst h1
  simp only [XA]
  refine hK _ ?_
  by_cases e : fitE L r c M = 0
  rotate_left
  · have b1 : decide (fitE L r c M = 0) = false := decide_eq_false e
    refine Gx.a (by kernel_rfl) fun K hK => ?_
    simp only [XA, XB, b1]
    refine hK _ ?_
    refine Gx.t rfl ?_
    refine Gx.a (by kernel_rfl) fun K hK => ?_
    simp only [XA]
    refine hK _ (XWP.ret ?_)
    try simp only [thenX_ret, inBlockX_ret]
    refine ret_go _ rfl ?_
    exact ⟨fun _ => rfl, fun h => absurd h e⟩
  have b1 : decide (fitE L r c M = 0) = true := decide_eq_true e
  refine Gx.a (by kernel_rfl) fun K hK => ?_
  simp only [XA, XB, b1]
  refine hK _ ?_
  refine Gx.f rfl ?_
  refine XWP.skip ?_
  obtain ⟨n, p⟩ := fitE_parts e
  have hr := (h.up hV1).rats p
  obtain ⟨rfl, rfl, hn, lL, lM, _, _, _, _, _⟩ := p
  refine Gx.a (by kernel_rfl) fun K hK => ?_
  simp only [XM, XA, Nat.reduceAdd, Nat.reduceLeDiff, ↓reduceIte]
  refine call_go (by kernel_rfl) rfl (bstep_c _ _ _ n B (qs L) (qs M) hr.1 hr.2 (by rw [qs_len]; exact lL) (by rw [qs_len]; exact lM) hn h.qL h.qM (by omega)) fun v2 V2 hV2 h2 => ?_
  simp only [XA]
  refine hK _ (XWP.ret ?_)
  try simp only [thenX_ret, inBlockX_ret]
  refine ret_go _ rfl ?_
  exact ⟨fun g => absurd e g, fun _ => ⟨_, rfl, by rw [lL]; exact h2⟩⟩
def staysB (L : List Raw) (r c : Int) (M : List Raw) : Bool := decide (fitE L r c M = 0) && decide (stepL (qs L) (qs M) L.length = qs L)
theorem bStays_c (V : View) (v s : Value) (r c : Int) (L M : List Raw) (B : Nat) (h : LM V v s L M B) : Spec Tryz.prog 27 [v, .agg #[.int .i64 r, .int .i64 c, s]] V fun v' V' => v' = .tuple #[.bool (staysB L r c M), .int .i64 (fitE L r c M)] := by
  obtain ⟨A1, c1, rfl, hc1, hm1⟩ := h.hv.form
  obtain ⟨A2, c2, rfl, hc2, hm2⟩ := h.hs.form
  have hB := h.hB
  refine (Spec.enter Tryz.func27 rfl fun Γ => ?_)
  simp only [Tryz.ntmps27, List.map_cons, List.map_nil, List.length_cons, List.length_nil, Nat.reduceAdd, Nat.reduceSub, List.replicate_succ, List.replicate_zero, List.cons_append, List.nil_append]
  refine Gx.a (by kernel_rfl) fun K hK => ?_
  simp only [XA]
  refine hK _ ?_
  refine XWP.seq ?_
  refine Gx.a (by kernel_rfl) fun K hK => ?_
  simp only [XM, XA, Nat.reduceAdd, Nat.reduceLeDiff, ↓reduceIte]
  refine call_go (by kernel_rfl) rfl (fits_c _ _ _ r c L M B h) fun v1 V1 hV1 h1 => ?_
  subst h1
  simp only [XA]
  refine hK _ ?_
  by_cases e : fitE L r c M = 0
  rotate_left
  · have b1 : decide (fitE L r c M = 0) = false := decide_eq_false e
    refine Gx.a (by kernel_rfl) fun K hK => ?_
    simp only [XA, XB, b1]
    refine hK _ ?_
    refine Gx.t rfl ?_
    refine Gx.a (by kernel_rfl) fun K hK => ?_
    simp only [XA]
    refine hK _ (XWP.ret ?_)
    try simp only [thenX_ret, inBlockX_ret]
    refine ret_go _ rfl ?_
    unfold staysB; rw [b1]; rfl
  have b1 : decide (fitE L r c M = 0) = true := decide_eq_true e
  refine Gx.a (by kernel_rfl) fun K hK => ?_
  simp only [XA, XB, b1]
  refine hK _ ?_
  refine Gx.f rfl ?_
  refine XWP.skip ?_
  obtain ⟨n, p⟩ := fitE_parts e
  have hr := (h.up hV1).rats p
  obtain ⟨rfl, rfl, hn, lL, lM, _, _, _, _, _⟩ := p
  have lqL : (qs L).length = n := by rw [qs_len]; exact lL
  have lqM : (qs M).length = n * n := by rw [qs_len]; exact lM
  have qS := stepL_QB h.qL h.qM lqL lqM
  have qS1 : ∀ x ∈ stepL (qs L) (qs M) n, QF x := fun x hx => (qS x hx).qf (Nat.le_trans (Nat.mul_le_mul_right _ hn) (by omega))
  refine Gx.a (by kernel_rfl) fun K hK => ?_
  simp only [XM, XA, Nat.reduceAdd, Nat.reduceLeDiff, ↓reduceIte]
  refine call_go (by kernel_rfl) rfl (bstep_c _ _ _ n B (qs L) (qs M) hr.1 hr.2 lqL lqM hn h.qL h.qM (by omega)) fun v2 V2 hV2 h2 => ?_
  simp only [XA]
  refine call_go (by kernel_rfl) rfl (eqf_c _ _ _ _ _ h2 (hr.1.up hV2) qS1 (fun x hx => (h.qL x hx).qf (by omega))) fun v3 V3 hV3 h3 => ?_
  subst h3
  simp only [XA]
  refine hK _ (XWP.ret ?_)
  try simp only [thenX_ret, inBlockX_ret]
  refine ret_go _ rfl ?_
  unfold staysB
  rw [b1, e, lL]; rfl
end Go.Proofs.YtkgmicakfmllmaaGreat
end
section
namespace Go.Proofs.YtkgmicakfmllmaaGreat
open Go Go.RowKit
set_option linter.unusedSimpArgs false
set_option linter.unusedVariables false
attribute [local irreducible] XWP Spec SpecO XPub XCall seqX clX apX stX ldX iaX slX
end Go.Proofs.YtkgmicakfmllmaaGreat
end
section
namespace Go.Proofs.YtkgmicakfmllmaaGreat
open Go Go.RowKit
set_option linter.unusedSimpArgs false
set_option linter.unusedVariables false
attribute [local irreducible] XWP Spec SpecO XPub XCall seqX clX apX stX ldX iaX slX
end Go.Proofs.YtkgmicakfmllmaaGreat
end
section
namespace Go.Proofs.YtkgmicakfmllmaaGreat
open Go Go.RowKit
set_option linter.unusedSimpArgs false
set_option linter.unusedVariables false
attribute [local irreducible] XWP Spec SpecO XPub XCall seqX clX apX stX ldX iaX slX
theorem stoB_bad {n : Nat} {L : List Raw} {i : Nat} (hi : i < n) (h : rowOk (qs L) n i = false) : stoB (n : Int) (n : Int) L = false := by
  unfold stoB
  have : (List.range (n : Int).toNat).all (rowOk (qs L) (n : Int).toNat) = false := by
    rw [Int.toNat_natCast, List.all_eq_false]
    exact ⟨i, List.mem_range.2 hi, by rw [h]; simp⟩
  rw [this, Bool.and_false]
set_option maxHeartbeats 4000000 in
theorem dsto_c (V : View) (s : Value) (r c : Int) (L : List Raw) (B : Nat) (h : Raws V s L) (f : fitR L) (ll : L.length ≤ 100000) (hq : ∀ x ∈ qs L, QB B x) (hB : 1001 * (B + 1) ≤ 17592186044416) :
    Spec Tryz.prog 24 [.agg #[.int .i64 r, .int .i64 c, s]] V fun v' V' => v' = .bool (stoB r c L) := by
  obtain ⟨A, cp, rfl, hc, hm⟩ := h.form
  refine (Spec.enter Tryz.func24 rfl fun Γ => ?_)
  simp only [Tryz.ntmps24, List.map_cons, List.map_nil, List.length_cons, List.length_nil, Nat.reduceAdd, Nat.reduceSub, List.replicate_succ, List.replicate_zero, List.cons_append, List.nil_append]
  refine Gx.a (by kernel_rfl) fun K hK => ?_
  simp only [XA]
  refine hK _ ?_
  refine XWP.seq ?_
  refine Gx.a (by kernel_rfl) fun K hK => ?_
  simp only [XM, XA, Nat.reduceAdd, Nat.reduceLeDiff, ↓reduceIte]
  refine call_go (by kernel_rfl) rfl (dmright_c _ _ _ _ L h f (by omega)) fun v1 V1 hV1 h1 => ?_
  subst h1
  cases e1 : matR r c L
  · simp only [XA, gateX, ↓reduceIte]
    refine hK _ ?_
    refine Gx.t rfl ?_
    refine Gx.a (by kernel_rfl) fun K hK => ?_
    simp only [XA]
    refine hK _ (XWP.ret ?_)
    try simp only [thenX_ret, inBlockX_ret]
    refine ret_go _ rfl ?_
    unfold stoB
    rw [e1]; rfl
  by_cases e2 : r = c
  rotate_left
  · have b1 : decide (r = c) = false := decide_eq_false e2
    simp only [XM, XA, XB, gateX, ↓reduceIte, beq_self_eq_true, b1]
    refine hK _ ?_
    refine Gx.t rfl ?_
    refine Gx.a (by kernel_rfl) fun K hK => ?_
    simp only [XA]
    refine hK _ (XWP.ret ?_)
    try simp only [thenX_ret, inBlockX_ret]
    refine ret_go _ rfl ?_
    unfold stoB
    rw [e1, b1]; rfl
  subst e2
  have hmat := e1
  unfold matR at e1
  rw [Bool.and_eq_true, decide_eq_true_eq] at e1
  obtain ⟨⟨k1, k2, _, _, k5⟩, ok⟩ := e1
  obtain ⟨n, rfl⟩ : ∃ n : Nat, r = n := ⟨r.toNat, by omega⟩
  have kl : L.length = n * n := by rw [← Int.natCast_mul] at k5; omega
  have hn : n ≤ 60 := by omega
  have hr := (Raws.rats h ok).up hV1
  have hlen := qs_len L
  have lln : (qs L).length = n * n := by omega
  simp only [XM, XA, XB, gateX, ↓reduceIte, beq_self_eq_true, decide_true]
  refine hK _ ?_
  refine Gx.f rfl ?_
  refine XWP.skip ?_
  refine XWP.cutD 1 (fun s => StIs (fun Z => [Z 0,Z 1,Z 2,Z 3,Z 4,Z 5,Z 6,Z 7,Z 8,Z 9,Z 10,Z 11,Z 12,Z 13,Z 14,Z 15,Z 16,Z 17,Z 18,Z 19,Z 20,Z 21,Z 22,Z 23,Z 24,Z 25,Z 26,Z 27,Z 28,Z 29,Z 30,Z 31,Z 32,Z 33,Z 34,Z 35,Z 36,Z 37,Z 38,Z 39]) [[.int .i64 (n : Int), .int .i64 (n : Int), .slice A L.length cp]] (fun _ => none) s.V s ∧ stoB (n : Int) (n : Int) L = true) ?_ ?_
  · refine Gx.a (by kernel_rfl) fun K hK => ?_
    simp only [XM, XA, Nat.reduceAdd, Nat.reduceLeDiff, ↓reduceIte]
    refine call_go (by kernel_rfl) rfl (drows_c _ _ n n (qs L) hr lln hn hn) fun v2 V2 hV2 h2 => ?_
    obtain ⟨A2, c2, rfl, hc2, hm2⟩ := h2.form
    have el : ((List.range n).map (rowL (qs L) n)).length = n := by simp
    rw [el] at h2 hc2 ⊢
    simp only [XN, XA]
    refine hK _ ?_
    clear hK
    refine XWP.block ?_
    refine XWP.loopD 1 (fun q s => ∃ (i : Nat) (V3 : View), StIs (fun Z => [Z 0, .p 0 0, Z 2,Z 3,Z 4,Z 5,Z 6,Z 7,Z 8,Z 9,Z 10,Z 11,Z 12,Z 13,Z 14,Z 15,Z 16,Z 17, .v (.slice A2 n c2), .v (.int .i64 (n : Int)), .v (.int .i64 (i : Int)), Z 21,Z 22,Z 23,Z 24,Z 25,Z 26,Z 27,Z 28,Z 29,Z 30,Z 31,Z 32,Z 33,Z 34,Z 35,Z 36,Z 37,Z 38,Z 39]) [[.int .i64 (n : Int), .int .i64 (n : Int), .slice A L.length cp]] (fun _ => none) V3 s ∧ q + i = n ∧ V2.le V3 ∧ (List.range i).all (rowOk (qs L) n) = true) n ⟨0, V2, StIs.of (by exact rfl), by omega, View.le_refl _, rfl⟩ ?_
    rintro q s ⟨i, V3, hs, hqi, hV3, hall⟩
    obtain ⟨z, rfl⟩ := hs.out
    try dsimp only
    clear hs
    by_cases hi : i < n
    rotate_left
    · obtain rfl : i = n := by omega
      have b1 : decide ((i : Int) < (i : Int)) = false := decide_eq_false (by omega)
      refine Gx.a (by kernel_rfl) fun K hK => ?_
      simp only [XA, XB, b1]
      refine hK _ ?_
      refine XWP.seq (Gx.f rfl ?_)
      refine XWP.exit ?_
      refine fun f => ⟨StIs.of (by exact rfl), ?_⟩
      unfold stoB
      rw [hmat, decide_eq_true rfl, Int.toNat_natCast, hall]; rfl
    have b1 : decide ((i : Int) < (n : Int)) = true := decide_eq_true (by omega)
    refine Gx.a (by kernel_rfl) fun K hK => ?_
    simp only [XA, XB, b1]
    refine hK _ ?_
    refine XWP.seq (Gx.t rfl ?_)
    refine XWP.skip ?_
    obtain ⟨bw, ow, rfl⟩ := h2.addr (by simp; omega)
    obtain ⟨u, g1, _, g2⟩ := Sl1.load (n := n) (h2.mono ratsE_ok hV3) i (by simp; omega)
    have eg : ((List.range n).map (rowL (qs L) n))[i]'(by simp; omega) = rowL (qs L) n i := by simp
    rw [eg] at g1
    have g3 := fun H => g2 H _ _ shapeT_22
    clear g2
    have hrl : (rowL (qs L) n i).length = n := row_len lln hi
    obtain ⟨A3, c3, rfl, hc3, hm3⟩ := SlAt.form g1
    rw [hrl] at g1 hc3 g3
    have hcf : ∀ k, k < n → cf (rowL (qs L) n i) k = cf (qs L) (i * n + k) := fun k hk => cf_row lln hi hk
    have hQr : ∀ x ∈ rowL (qs L) n i, QB B x := fun x hx => hq x (List.mem_of_mem_take (List.mem_of_mem_drop hx))
    generalize rowL (qs L) n i = R at *
    have g1 : Rats V3 (.slice A3 n c3) R := g1
    refine XWP.cutD 1 (fun s => ∃ (V4 : View), StIs (fun Z => [Z 0, .p 0 0, Z 2,Z 3,Z 4,Z 5,Z 6,Z 7,Z 8,Z 9,Z 10,Z 11,Z 12,Z 13,Z 14,Z 15,Z 16,Z 17, .v (.slice (some ⟨bw, ow, none⟩) n c2), .v (.int .i64 (n : Int)), .v (.int .i64 (i : Int)), Z 21,Z 22,Z 23,Z 24,Z 25,Z 26,Z 27,Z 28,Z 29,Z 30,Z 31,Z 32,Z 33,Z 34,Z 35,Z 36,Z 37,Z 38,Z 39]) [[.int .i64 (n : Int), .int .i64 (n : Int), .slice A L.length cp]] (fun _ => none) V4 s ∧ V3.le V4 ∧ rowOk (qs L) n i = true) ?_ ?_
    · refine XWP.block ?_
      refine Gx.a (by kernel_rfl) fun K hK => ?_
      simp only [XN, XA, XB]
      refine ⟨by omega, by omega, ?_⟩
      refine ld_mem (by simpa using g3 _) ?_
      simp only [XA]
      refine hK _ ?_
      refine XWP.cutD 1 (fun s => ∃ (V4 : View), StIs (fun Z => [Z 0, .p 0 0, Z 2,Z 3, .v (.slice A3 n c3), Z 5,Z 6,Z 7,Z 8,Z 9,Z 10,Z 11,Z 12,Z 13,Z 14,Z 15,Z 16,Z 17, .v (.slice (some ⟨bw, ow, none⟩) n c2), .v (.int .i64 (n : Int)), .v (.int .i64 (i : Int)), Z 21,Z 22,Z 23,Z 24,Z 25,Z 26,Z 27,Z 28,Z 29,Z 30,Z 31,Z 32,Z 33,Z 34,Z 35,Z 36,Z 37,Z 38,Z 39]) [[.int .i64 (n : Int), .int .i64 (n : Int), .slice A L.length cp]] (fun _ => none) V4 s ∧ V3.le V4 ∧ (List.range n).all (fun k => !ng (cf (qs L) (i * n + k))) = true) ?_ ?_
      · refine Gx.a (by kernel_rfl) fun K hK => ?_
        simp only [XA, XB]
        refine hK _ ?_
        clear hK
        refine XWP.block ?_
        refine XWP.loopD 1 (fun p s => ∃ (k : Nat) (V4 : View), StIs (fun Z => [Z 0, .p 0 0, Z 2,Z 3, .v (.slice A3 n c3), Z 5,Z 6,Z 7,Z 8,Z 9,Z 10,Z 11,Z 12,Z 13,Z 14,Z 15,Z 16,Z 17, .v (.slice (some ⟨bw, ow, none⟩) n c2), .v (.int .i64 (n : Int)), .v (.int .i64 (i : Int)), Z 21,Z 22,Z 23, .v (.slice A3 n c3), .v (.int .i64 (n : Int)), .v (.int .i64 (k : Int)), Z 27,Z 28,Z 29,Z 30,Z 31,Z 32,Z 33,Z 34,Z 35,Z 36,Z 37,Z 38,Z 39]) [[.int .i64 (n : Int), .int .i64 (n : Int), .slice A L.length cp]] (fun _ => none) V4 s ∧ p + k = n ∧ V3.le V4 ∧ (List.range k).all (fun k => !ng (cf (qs L) (i * n + k))) = true) n ⟨0, V3, StIs.of (by exact rfl), by omega, View.le_refl _, rfl⟩ ?_
        rintro p s ⟨k, V4, hs, hp, hV4, hk⟩
        obtain ⟨z, rfl⟩ := hs.out
        try dsimp only
        clear hs
        by_cases hkn : k < n
        rotate_left
        · obtain rfl : k = n := by omega
          have b3 : decide ((k : Int) < (k : Int)) = false := decide_eq_false (by omega)
          refine Gx.a (by kernel_rfl) fun K hK => ?_
          simp only [XA, XB, b3]
          refine hK _ ?_
          refine XWP.seq (Gx.f rfl ?_)
          refine XWP.exit ?_
          exact fun f => ⟨V4, StIs.of (by exact rfl), hV4, hk⟩
        have b3 : decide ((k : Int) < (n : Int)) = true := decide_eq_true (by omega)
        refine Gx.a (by kernel_rfl) fun K hK => ?_
        simp only [XA, XB, b3]
        refine hK _ ?_
        refine XWP.seq (Gx.t rfl ?_)
        refine XWP.skip ?_
        have hrow3 := g1.up hV4
        obtain ⟨bb, oo, rfl⟩ := SlAt.addr hrow3 (by omega)
        obtain ⟨m3, n3, d3, hx, ⟨p1, p2, p3⟩, hld⟩ := Rats.get hrow3 k (by omega)
        have qx : QF (cf (qs L) (i * n + k)) := by rw [← hcf k hkn]; exact (hQr _ (cf_mem (by omega))).qf (by omega)
        rw [hcf k hkn] at hx
        refine XWP.seq ?_
        refine XWP.block ?_
        refine Gx.a (by kernel_rfl) fun K hK => ?_
        simp only [XA, XB]
        refine ⟨by omega, by omega, ld_mem (hld _) ?_⟩
        simp only [XA, XB]
        refine st_rat rfl rfl p1 p2 p3 ?_
        simp only [XA]
        refine hK _ ?_
        have en := sgI_lt (cf (qs L) (i * n + k))
        refine Gx.a (by kernel_rfl) fun K hK => ?_
        simp only [XA, XB, Nat.reduceAdd, Nat.reduceLeDiff, ↓reduceIte]
        refine call_go (by kernel_rfl) rfl (psign_c _ _ _ (hx.toV qx)) fun v5 V5 hV5 h5 => ?_
        subst h5
        cases hng : ng (cf (qs L) (i * n + k))
        · rw [hng] at en
          simp only [XA, XB, en]
          refine hK _ ?_
          refine Gx.f rfl ?_
          refine XWP.skip ?_
          refine Gx.c (by kernel_rfl) fun K hK => ?_
          simp only [XA, XB, i64_succ k (by omega)]
          exact hK _ ⟨p - 1, by omega, fun f => ⟨k + 1, V5, StIs.of (by exact rfl), by omega, View.le_trans hV4 hV5, by rw [List.range_succ, List.all_append, hk]; simp [hng]⟩⟩
        · rw [hng] at en
          simp only [XA, XB, en]
          refine hK _ ?_
          refine Gx.t rfl ?_
          refine Gx.a (by kernel_rfl) fun K hK => ?_
          simp only [XA]
          refine hK _ (XWP.ret ?_)
          try simp only [thenX_ret, inBlockX_ret]
          refine ret_go _ rfl ?_
          have : rowOk (qs L) n i = false := by
            unfold rowOk
            have : ((List.range n).all fun k => !ng (cf (qs L) (i * n + k))) = false := by
              rw [List.all_eq_false]
              exact ⟨k, List.mem_range.2 hkn, by rw [hng]; simp⟩
            rw [this]; rfl
          rw [stoB_bad hi this]; rfl
      rintro s ⟨V4, hs, hV4, hall2⟩
      obtain ⟨z, rfl⟩ := hs.out
      try dsimp only
      clear hs
      have hrow4 := g1.up hV4
      refine Gx.a (by kernel_rfl) fun K hK => ?_
      simp only [XA]
      refine call_go (by kernel_rfl) rfl (psum_c _ _ _ B hrow4 hQr (by omega) hB) fun v5 V5 hV5 h5 => ?_
      rw [hrl] at h5
      have esum : sumL R n = Sm (fun k => cf (qs L) (i * n + k)) n := Sm_congr n fun k hk => hcf k hk
      have qsum : QF (sumL R n) := (sumL_QB hQr n (by omega)).qf (Nat.le_trans (Nat.mul_le_mul_right _ (show n ≤ 1001 by omega)) hB)
      simp only [XA]
      refine call_go (by kernel_rfl) rfl (pone_c _) fun v6 V6 hV6 h6 => ?_
      simp only [XA]
      refine call_go (by kernel_rfl) rfl (psame_c _ _ _ _ _ ((h5.mono hV6).toV qsum) (h6.toV QF_one) qsum QF_one) fun v7 V7 hV7 h7 => ?_
      subst h7
      rw [esum]
      have hle7 := View.le_trans hV4 (View.le_trans hV5 (View.le_trans hV6 hV7))
      by_cases hs1 : Sm (fun k => cf (qs L) (i * n + k)) n = 1
      · have b3 : decide (Sm (fun k => cf (qs L) (i * n + k)) n = 1) = true := decide_eq_true hs1
        simp only [XA, b3]
        refine hK _ ?_
        refine Gx.f rfl ?_
        refine XWP.skip ?_
        exact fun f => ⟨V7, StIs.of (by exact rfl), hle7, by unfold rowOk; rw [hall2, b3]; rfl⟩
      · have b3 : decide (Sm (fun k => cf (qs L) (i * n + k)) n = 1) = false := decide_eq_false hs1
        simp only [XA, b3]
        refine hK _ ?_
        refine Gx.t rfl ?_
        refine Gx.a (by kernel_rfl) fun K hK => ?_
        simp only [XA]
        refine hK _ (XWP.ret ?_)
        try simp only [thenX_ret, inBlockX_ret]
        refine ret_go _ rfl ?_
        have : rowOk (qs L) n i = false := by unfold rowOk; rw [b3, Bool.and_false]
        rw [stoB_bad hi this]; rfl
    rintro s ⟨V4, hs, hV4, hro⟩
    obtain ⟨z, rfl⟩ := hs.out
    try dsimp only
    refine Gx.c (by kernel_rfl) fun K hK => ?_
    simp only [XA, XB, i64_succ i (by omega)]
    exact hK _ ⟨q - 1, by omega, fun f => ⟨i + 1, V4, StIs.of (by exact rfl), by omega, View.le_trans hV3 hV4, by rw [List.range_succ, List.all_append, hall]; simp [hro]⟩⟩
  rintro s ⟨hs, e⟩
  obtain ⟨t, bx, H, V2⟩ := s
  obtain ⟨z, e3⟩ := hs.out
  cases e3
  try dsimp only
  refine Gx.a (by kernel_rfl) fun K hK => ?_
  simp only [XA]
  refine hK _ (XWP.ret ?_)
  try simp only [thenX_ret, inBlockX_ret]
  refine ret_go _ rfl ?_
  rw [e]; rfl
end Go.Proofs.YtkgmicakfmllmaaGreat
end
section
namespace Go.Proofs.YtkgmicakfmllmaaGreat
open Go Go.RowKit
set_option linter.unusedSimpArgs false
set_option linter.unusedVariables false
attribute [local irreducible] XWP Spec SpecO XPub XCall seqX clX apX stX ldX iaX slX
end Go.Proofs.YtkgmicakfmllmaaGreat
end
section
namespace Go.Proofs.YtkgmicakfmllmaaGreat
open Go Go.RowKit
set_option linter.unusedSimpArgs false
set_option linter.unusedVariables false
attribute [local irreducible] XWP Spec SpecO XPub XCall seqX clX apX stX ldX iaX slX
end Go.Proofs.YtkgmicakfmllmaaGreat
end
section
namespace Go.Proofs.YtkgmicakfmllmaaGreat
open Go Go.RowKit
set_option linter.unusedSimpArgs false
set_option linter.unusedVariables false
attribute [local irreducible] XWP Spec SpecO XPub XCall seqX clX apX stX ldX iaX slX
end Go.Proofs.YtkgmicakfmllmaaGreat
end
section
namespace Go.Proofs.YtkgmicakfmllmaaGreat
open Go Go.RowKit
set_option linter.unusedSimpArgs false
set_option linter.unusedVariables false
attribute [local irreducible] XWP Spec SpecO XPub XCall seqX clX apX stX ldX iaX slX
end Go.Proofs.YtkgmicakfmllmaaGreat
end
section
namespace Go.Proofs.YtkgmicakfmllmaaGreat
open Go Go.RowKit
set_option linter.unusedSimpArgs false
set_option linter.unusedVariables false
attribute [local irreducible] XWP Spec SpecO XPub XCall seqX clX apX stX ldX iaX slX
end Go.Proofs.YtkgmicakfmllmaaGreat
end
section
namespace Go.Proofs.YtkgmicakfmllmaaGreat
set_option linter.unusedVariables false
def hf : Rat := 1 / 2
def pw : Nat → Rat
  | 0 => 1
  | k + 1 => pw k * hf
theorem hf_mk : hf = mkRat 1 2 := by decide +kernel
theorem pw_mk (k : Nat) : pw k = mkRat 1 (2 ^ k) := by
  induction k with
  | zero => decide +kernel
  | succ k ih => rw [pw, ih, hf_mk, Rat.mkRat_mul_mkRat, Nat.pow_succ]; rfl
theorem pw_over {n k : Nat} (h : k ≤ n) : Over (2 ^ n) n (pw k) := by
  refine ⟨((2 ^ (n - k) : Nat) : Int), ?_, ?_⟩
  · rw [Int.natAbs_natCast]; exact two_mono (by omega)
  · have e : 2 ^ n = 2 ^ k * 2 ^ (n - k) := by rw [← Nat.pow_add]; congr 1; omega
    have h2 : 2 ^ (n - k) ≠ 0 := by have := two_pos (n - k); omega
    rw [pw_mk, e]
    have := Rat.mkRat_mul_right (n := 1) (d := 2 ^ k) h2
    rw [Int.one_mul] at this
    exact this.symm
theorem pw_CB1 (n : Nat) : CB n [pw n] := by
  refine ⟨2 ^ n, two_pos n, Nat.le_refl _, fun i => ?_⟩
  cases i with
  | zero => exact pw_over (Nat.le_refl _)
  | succ i => rw [cf_none (by simp)]; exact Over.zero _ _
theorem hf_QB : QB 1 hf := by
  have := (pw_CB1 1).at 0
  have e : cf [pw 1] 0 = hf := by decide +kernel
  rw [e] at this; exact this
end Go.Proofs.YtkgmicakfmllmaaGreat
end
section
namespace Go.Proofs.YtkgmicakfmllmaaGreat
open Go Go.RowKit
set_option linter.unusedSimpArgs false
set_option linter.unusedVariables false
attribute [local irreducible] XWP Spec SpecO XPub XCall seqX clX apX stX ldX iaX slX
theorem dsize_c (V : View) (n : Nat) (hn : n < 4611686018427387904) : Spec Tryz.prog 64 [.int .i64 (n : Int)] V fun v' V' => ∃ w, v' = .tuple #[w, .bool false] ∧ NatC V' w n := by
  have b1 : decide ((n : Int) < 0) = false := decide_eq_false (by omega)
  have w1 : IntKind.u64.wrap (n : Int) = (n : Int) := w64_id (by omega) (by omega)
  refine (Spec.enter Tryz.func64 rfl fun Γ => ?_)
  simp only [Tryz.ntmps64, List.map_cons, List.map_nil, List.length_cons, List.length_nil, Nat.reduceAdd, Nat.reduceSub, List.replicate_succ, List.replicate_zero, List.cons_append, List.nil_append]
  refine Gx.a (by kernel_rfl) fun K hK => ?_
  simp only [XA]
  refine hK _ ?_
  refine XWP.seq ?_
  refine Gx.a (by kernel_rfl) fun K hK => ?_
  simp only [XA, XB, b1]
  refine hK _ ?_
  refine Gx.f rfl ?_
  refine XWP.skip ?_
  refine Gx.a (by kernel_rfl) fun K hK => ?_
  simp only [XA, XB, w1]
  refine call_go (by kernel_rfl) rfl (rof_c _ n (by omega)) fun v1 V1 hV1 h1 => ?_
  simp only [XA]
  refine hK _ (XWP.ret ?_)
  try simp only [thenX_ret, inBlockX_ret]
  refine ret_go _ rfl ?_
  exact ⟨_, rfl, h1⟩
theorem dmake_c (V : View) : Spec Tryz.prog 25 [.int .i64 1, .int .i64 2] V fun v' V' => ∃ w, v' = .tuple #[w, .int .i64 0] ∧ RatC V' w hf := by
  refine (Spec.enter Tryz.func25 rfl fun Γ => ?_)
  simp only [Tryz.ntmps25, List.map_cons, List.map_nil, List.length_cons, List.length_nil, Nat.reduceAdd, Nat.reduceSub, List.replicate_succ, List.replicate_zero, List.cons_append, List.nil_append]
  refine Gx.a (by kernel_rfl) fun K hK => ?_
  simp only [XA, XB]
  refine hK _ ?_
  refine Gx.a (by kernel_rfl) fun K hK => ?_
  simp only [XA]
  refine call_go (by kernel_rfl) rfl (dsize_c _ 1 (by omega)) fun v1 V1 hV1 h1 => ?_
  obtain ⟨w1, rfl, h1⟩ := h1
  simp only [XA]
  refine hK _ ?_
  refine Gx.a (by kernel_rfl) fun K hK => ?_
  simp only [XA]
  refine call_go (by kernel_rfl) rfl (dsize_c _ 2 (by omega)) fun v2 V2 hV2 h2 => ?_
  obtain ⟨w2, rfl, h2⟩ := h2
  simp only [XA]
  refine hK _ ?_
  refine Gx.a (by kernel_rfl) fun K hK => ?_
  simp only [XA, XB, beq_self_eq_true]
  refine call_go (by kernel_rfl) rfl (pof_c _ _ _ _ 1 2 (h1.mono hV2) h2 (Fit1.of_two (B := 1) (by decide) (by omega)) (Fit1.of_two (B := 1) (by decide) (by omega))) fun v3 V3 hV3 h3 => ?_
  obtain ⟨w3, rfl, r3⟩ := h3.2 (by omega)
  clear h3
  obtain ⟨x3, y3, rfl, o1, o2⟩ := r3.form
  simp only [XA]
  refine st_rat rfl rfl rfl o1 o2 ?_
  simp only [XA]
  refine hK _ (XWP.ret ?_)
  try simp only [thenX_ret, inBlockX_ret]
  refine ret_rat2 rfl rfl rfl rfl ⟨_, rfl, ?_⟩
  rw [show hf = rv false 1 2 by decide +kernel]
  exact r3
end Go.Proofs.YtkgmicakfmllmaaGreat
end
section
namespace Go.Proofs.YtkgmicakfmllmaaGreat
open Go Go.RowKit
set_option linter.unusedSimpArgs false
set_option linter.unusedVariables false
attribute [local irreducible] XWP Spec SpecO XPub XCall seqX clX apX stX ldX iaX slX
def swpL : List Rat := [0, 1, 1, 0]
theorem shutL_congr {w w' : Nat → Nat → Bool} {op : Nat → Bool} {n : Nat} (h : ∀ i k, i < n → k < n → w i k = w' i k) : shutL w op n = shutL w' op n := by
  have hr : ∀ x, x ∈ List.range n → x < n := fun x hx => List.mem_range.1 hx
  have e1 : ∀ i, i < n → (List.range n).filter (w i) = (List.range n).filter (w' i) := fun i hi => List.filter_congr fun k hk => h i k hi (hr k hk)
  have e2 : ∀ i, i < n → ((List.range n).all fun k => !w i k || (w k i && !op k && decide (i ≤ k))) = ((List.range n).all fun k => !w' i k || (w' k i && !op k && decide (i ≤ k))) := fun i hi => by
    rw [Bool.eq_iff_iff, List.all_eq_true, List.all_eq_true]
    exact ⟨fun g k hk => by rw [← h i k hi (hr k hk), ← h k i (hr k hk) hi]; exact g k hk, fun g k hk => by rw [h i k hi (hr k hk), h k i (hr k hk) hi]; exact g k hk⟩
  have gen : ∀ l : List Nat, (∀ x ∈ l, x < n) → (l.filterMap fun i => if ((List.range n).all fun k => !w i k || (w k i && !op k && decide (i ≤ k))) = true then some ((List.range n).filter (w i)) else none) = l.filterMap fun i => if ((List.range n).all fun k => !w' i k || (w' k i && !op k && decide (i ≤ k))) = true then some ((List.range n).filter (w' i)) else none := by
    intro l hl
    induction l with
    | nil => rfl
    | cons x l ih =>
      have hx := hl x (by simp)
      rw [List.filterMap_cons, List.filterMap_cons, e1 x hx, e2 x hx, ih fun y hy => hl y (by simp [hy])]
  exact gen _ hr
theorem swp_e : eM swpL 2 0 1 = true ∧ eM swpL 2 1 0 = true := by decide +kernel
theorem swp_w : ∀ i k, i < 2 → k < 2 → wR (eM swpL 2) 2 i k = true := fun i k hi hk => by
  rw [wR_iff]
  have h01 : Rch (fun a b => eM swpL 2 a b = true) 2 0 1 := .step (.refl (by omega)) (by omega) swp_e.1
  have h10 : Rch (fun a b => eM swpL 2 a b = true) 2 1 0 := .step (.refl (by omega)) (by omega) swp_e.2
  have : (i = 0 ∨ i = 1) ∧ (k = 0 ∨ k = 1) := by omega
  rcases this with ⟨rfl | rfl, rfl | rfl⟩
  · exact .refl (by omega)
  · exact h01
  · exact h10
  · exact .refl (by omega)
theorem swp_cls : clsL swpL 2 = [[0, 1]] := by
  unfold clsL
  rw [shutL_congr (w' := fun _ _ => true) swp_w]; rfl
theorem swp_sto : stoB 2 2 (swpL.map toRaw) = true := by
  unfold stoB
  rw [show matR 2 2 (swpL.map toRaw) = true from matR_rats (n := 2) (m := 2) rfl (by omega) (by omega), qs_toRaw]
  decide +kernel
theorem swp_law : lawC swpL 2 [0, 1] = [hf, hf] := by
  obtain ⟨n, h1, h2, _, _, _, hS⟩ := stoB_parts swp_sto
  obtain rfl : n = 2 := by omega
  rw [qs_toRaw] at hS
  have hc := cls_irr hS (C := [0, 1]) (by rw [swp_cls]; simp)
  have hX : LinG (lawG (subG (gridL swpL 2) [0, 1]) [0, 1].length) [0, 1].length [0, 1].length (oneB [0, 1].length) (fun _ => hf) := fun i hi => by
    have hi : i < 2 := hi
    have : i = 0 ∨ i = 1 := by omega
    rcases this with rfl | rfl
    · decide +kernel
    · decide +kernel
  have e := theX_eq (law_uni hc.sto hc.irr) hX
  unfold lawC
  rw [← scat_congr [0, 1].length e]
  decide +kernel
theorem swp_QB : ∀ x ∈ swpL, QB 2 x := by
  intro x hx
  simp only [swpL, List.mem_cons, List.not_mem_nil, or_false] at hx
  rcases hx with rfl | rfl | rfl | rfl
  · exact QB_zero 2
  · exact QB_one 2
  · exact QB_one 2
  · exact QB_zero 2
theorem hf2_law : lawB ([hf, hf].map toRaw) = true := by
  have h : wtB 2 ([hf, hf].map toRaw) = true := wtB_raw (n := 2) rfl fun j hj => by
    have : j = 0 ∨ j = 1 := by omega
    rcases this with rfl | rfl
    · decide +kernel
    · decide +kernel
  unfold wtB at h
  rw [Bool.and_eq_true] at h
  unfold lawB
  rw [h.2, qs_toRaw, Bool.true_and]
  decide +kernel
theorem swap34_c (V : View) : Spec Tryz.prog 59 [] V fun v' V' => ∃ w, v' = .agg #[.int .i64 2, .int .i64 2, w] ∧ Rats V' w swpL := by
  refine (Spec.enter Tryz.func59 rfl fun Γ => ?_)
  simp only [Tryz.ntmps59, List.map_nil, List.length_nil, Nat.reduceSub, List.replicate_succ, List.replicate_zero, List.nil_append]
  refine Gx.a (by kernel_rfl) fun K hK => ?_
  simp only [XM, XA]
  refine hK _ ?_
  refine Gx.a (by kernel_rfl) fun K hK => ?_
  simp only [XA]
  refine call_go (by kernel_rfl) rfl (pzero_c _) fun v1 V1 hV1 h1 => ?_
  simp only [XA]
  refine call_go (by kernel_rfl) rfl (pone_c _) fun v2 V2 hV2 h2 => ?_
  simp only [XA]
  refine call_go (by kernel_rfl) rfl (pone_c _) fun v3 V3 hV3 h3 => ?_
  simp only [XA]
  refine call_go (by kernel_rfl) rfl (pzero_c _) fun v4 V4 hV4 h4 => ?_
  have h1 := ((h1.mono hV2).mono hV3).mono hV4
  have h2 := (h2.mono hV3).mono hV4
  have h3 := h3.mono hV4
  obtain ⟨x1, y1, rfl, o1, q1⟩ := h1.form
  obtain ⟨x2, y2, rfl, o2, q2⟩ := h2.form
  obtain ⟨x3, y3, rfl, o3, q3⟩ := h3.form
  obtain ⟨x4, y4, rfl, o4, q4⟩ := h4.form
  simp only [XA]
  refine bs_go (by kernel_rfl) #[(0, .agg #[.bool (ng 0), x1, y1]), (1, .agg #[.bool (ng 1), x2, y2]), (2, .agg #[.bool (ng 1), x3, y3]), (3, .agg #[.bool (ng 0), x4, y4])] (by simp [ev_tmp, SV.val]) (bs_rat4 elemT_22) fun b hb1 hb2 => ?_
  simp only [XA, Nat.reduceAdd]
  refine bd_go (by kernel_rfl) #[(0, .int .i64 2), (1, .int .i64 2), (2, .slice (some ⟨b, 0, none⟩) 4 4)] (by simp [ev_tmp, ev_const, SV.val]) (bd_mtx3 rfl rfl rfl) ?_
  simp only [XA]
  refine st_mat shapeT_24 rfl rfl rfl rfl rfl ?_
  simp only [XA]
  have hrow := ((((RowAt.nil (E := ratE) V4).snoc (x := 0) (show isOne (.bool (ng 0)) = true from rfl) o1 q1 h1).snoc (x := 1) (show isOne (.bool (ng 1)) = true from rfl) o2 q2 h2).snoc (x := 1) (show isOne (.bool (ng 1)) = true from rfl) o3 q3 h3).snoc (x := 0) (show isOne (.bool (ng 0)) = true from rfl) o4 q4 h4
  simp only [List.nil_append, List.cons_append] at hrow
  refine hK _ (XWP.ret ?_)
  try simp only [thenX_ret, inBlockX_ret]
  refine ret_pub b ⟨49, [.bool (ng 0), x1, y1, .bool (ng 1), x2, y2, .bool (ng 1), x3, y3, .bool (ng 0), x4, y4], 12⟩ (by simp only [upd_at]) fun o ho hle => ret_go _ (by simp [resAll, resV, cellsV, shapeT_24]; rfl) ⟨_, rfl, ?_⟩
  exact hrow.pub ratE_ok ho hle (n := 4) (c := 4) rfl (Nat.le_refl _) (by omega)
attribute [local irreducible] swpL
theorem alive34_c (V : View) : Spec Tryz.prog 22 [] V fun v' V' => v' = .bool true := by
  have hl4 : (swpL.map toRaw).length = 4 := by rw [List.length_map]; with_unfolding_all rfl
  refine (Spec.enter Tryz.func22 rfl fun Γ => ?_)
  simp only [Tryz.ntmps22, List.map_nil, List.length_nil, Nat.reduceSub, List.replicate_succ, List.replicate_zero, List.nil_append]
  refine Gx.a (by kernel_rfl) fun K hK => ?_
  simp only [XA]
  refine hK _ ?_
  refine Gx.a (by kernel_rfl) fun K hK => ?_
  simp only [XA]
  refine call_go (by kernel_rfl) rfl (swap34_c _) fun v1 V1 hV1 h1 => ?_
  obtain ⟨w, rfl, hw⟩ := h1
  simp only [XA]
  refine call_go (by kernel_rfl) rfl (balone1_c _ _ 2 2 (swpL.map toRaw) 2 (Rats.raws hw) (fitR_toRaw fun x hx => (swp_QB x hx).qf (by omega)) (by omega) (fun _ => by rw [qs_toRaw]; exact swp_QB) (by omega) (fun _ => by decide)) fun v2 V2 hV2 h2 => ?_
  have h2 := (h2.2 swp_sto).2.2
  rw [qs_toRaw] at h2
  obtain ⟨w2, rfl, hw2⟩ := h2 [0, 1] swp_cls
  have hw2 : Rats V2 w2 [hf, hf] := by have e := swp_law; rw [← e]; exact hw2
  obtain ⟨A2, c2, rfl, q1, q2⟩ := SlAt.form hw2
  simp only [XA, Nat.reduceAdd]
  refine hK _ ?_
  refine Gx.a (by kernel_rfl) fun K hK => ?_
  simp only [XA]
  refine call_go (by kernel_rfl) rfl (dmake_c _) fun v3 V3 hV3 h3 => ?_
  obtain ⟨w3, rfl, h3⟩ := h3
  obtain ⟨x3, y3, rfl, o1, o2⟩ := h3.form
  simp only [XA, XB]
  refine st_rat rfl rfl rfl o1 o2 ?_
  simp only [XA]
  refine hK _ ?_
  have hw3 := hw2.up hV3
  obtain ⟨b, o, rfl⟩ := SlAt.addr hw3 (by simp)
  obtain ⟨m4, n4, d4, hx4, ⟨r1, r2, r3⟩, hld⟩ := Rats.get hw3 0 (by simp)
  have hx4 : RatC V3 (.agg #[m4, n4, d4]) hf := hx4
  have qh : QF hf := hf_QB.qf (by omega)
  (refine XWP.drw [0, 1, 2, 3, 4, 5, 6, 7, 8, 9, 10, 11, 12, 13, 14, 15, 16, 17, 18] (by kernel_rfl) (by kernel_rfl) (by kernel_rfl) fun K hK => ?_) <;> dsimp only [pickOps, List.getElem?_cons_zero, List.getElem?_cons_succ]
  have b2 : decide (((2 : Nat) : Int) = 2) = true := rfl
  simp only [XA, XB, gateX, Nat.reduceAdd, Nat.reduceLeDiff, Nat.reduceMul, ↓reduceIte, Int.reduceLE, b2]
  refine ⟨by omega, ?_⟩
  refine ld_mem (by simpa using hld _) ?_
  simp only [XA, XB, gateX, Nat.reduceAdd, Nat.reduceLeDiff, ↓reduceIte]
  refine call_go (by kernel_rfl) rfl (psame_c _ _ _ _ _ (hx4.toV qh) (h3.toV qh) qh qh) fun v5 V5 hV5 h5 => ?_
  subst h5
  simp only [XA, gateX, ↓reduceIte, beq_self_eq_true, decide_true, beq_self_eq_true]
  refine call_go (by kernel_rfl) rfl (blaw_c _ _ ([hf, hf].map toRaw) 1 (Rats.raws (hw3.up hV5)) (fitR_toRaw fun x hx => by (simp only [List.mem_cons, List.not_mem_nil, or_false, or_self] at hx; rw [hx]; exact qh)) (by simp) (fun _ => by rw [qs_toRaw]; exact fun x hx => by (simp only [List.mem_cons, List.not_mem_nil, or_false, or_self] at hx; rw [hx]; exact hf_QB)) (by omega)) fun v6 V6 hV6 h6 => ?_
  subst h6
  rw [hf2_law]
  simp only [XA, ↓reduceIte]
  refine hK _ (XWP.ret ?_)
  try simp only [thenX_ret, inBlockX_ret]
  refine ret_go _ rfl ?_
  rfl
end Go.Proofs.YtkgmicakfmllmaaGreat
end
