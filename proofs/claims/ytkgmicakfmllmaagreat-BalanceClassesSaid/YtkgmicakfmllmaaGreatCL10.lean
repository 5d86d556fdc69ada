/- The law BalanceClasses (the closed classes and the stationary distributions are those of the reference, errors included) answers true at every matrix: no premise. (part 10 of 12) -/
import Derived.OrdersHeld
import Derived.Below
import Derived.Tactics
import Derived.KernelRfl
import Derived.RangeFuncCalls
import Derived.RangeFuncFrom
import Derived.RangeFuncLeaves
import Derived.OrdersIn
import Derived.Laws.AppendOwn
import Derived.Laws.MakeOwn
import Derived.Laws.CopyRow
import Derived.Laws.Cells
import Derived.Laws.World
import Derived.Laws.Alloc2
import Derived.Laws.NewBlocks
import Derived.Maps.AppendAt
import Derived.Test.YtkgmicakfmllmaaGreatProg
import Init.Data.List.Lemmas
import Init.Omega
import Derived.WalkKit
import Derived.ProofKit
import Derived.OpenShut
import Derived.ChangeOld
import Derived.SizedLaws
import Derived.ChangeSlices
import Derived.ChangeArms
import Derived.Deep.Slices
import Derived.Test.YtkgmicakfmllmaaGreatCL9
section
namespace Go.Proofs.YtkgmicakfmllmaaGreat
open Go Go.RowKit
set_option linter.unusedSimpArgs false
set_option linter.unusedVariables false
attribute [local irreducible] XWP Spec SpecO XPub XCall seqX clX apX stX ldX iaX slX
theorem Rch.imp {E E' : Nat → Nat → Prop} {n i k : Nat} (h : Rch E n i k) (e : ∀ a b, a < n → b < n → E a b → E' a b) : Rch E' n i k := by
  induction h with
  | refl h => exact .refl h
  | step hr hk he ih => exact .step ih hk (e _ _ hr.lt.2 hk he)
theorem eM_iff {l : List Rat} {n a b : Nat} : eM l n a b = true ↔ gridL l n a b ≠ 0 := by unfold eM gridL; rw [decide_eq_true_eq]
structure ClsG (l : List Rat) (n : Nat) (C : List Nat) : Prop where
  ne : 1 ≤ C.length
  le : C.length ≤ n
  lt : ∀ x ∈ C, x < n
  sto : StoG (subG (gridL l n) C) C.length
  irr : IrrG (subG (gridL l n) C) C.length
/-- a closed class of a stochastic matrix is an irreducible matrix of its own -/
theorem cls_irr {l : List Rat} {n : Nat} (hS : StoG (gridL l n) n) {C : List Nat} (hC : C ∈ clsL l n) : ClsG l n C := by
  obtain ⟨i, hi, rfl, hall⟩ := shutL_mem hC
  have hpos : ∀ a b, a < n → b < n → (eM l n a b = true ↔ 0 < gridL l n a b) := fun a b ha hb => by
    rw [eM_iff]
    have := hS.nn a b ha hb
    constructor
    · intro h; grind
    · intro h; grind
  have hc : ∀ a b, a < n → b < n → wR (eM l n) n i a = true → 0 < gridL l n a b → wR (eM l n) n i b = true := fun a b ha hb h1 h2 => by
    rw [wR_iff] at h1 ⊢
    exact .step h1 hb ((hpos a b ha hb).2 h2)
  refine ⟨?_, ?_, fun x hx => ?_, sub_sto hS hc, sub_irr hc fun a b ha hb h1 h2 => ?_⟩
  · have : i ∈ (List.range n).filter (wR (eM l n) n i) := by
      rw [List.mem_filter, List.mem_range, wR_iff]; exact ⟨hi, .refl hi⟩
    exact List.length_pos_of_mem this
  · have := List.length_filter_le (wR (eM l n) n i) (List.range n)
    rwa [List.length_range] at this
  · rw [List.mem_filter, List.mem_range] at hx; exact hx.1
  · have h3 := (hall a ha h1).1
    rw [wR_iff] at h3 h2
    exact (h3.trans h2).imp fun a b ha hb he => (hpos a b ha hb).1 he
theorem clsL_len (l : List Rat) (n : Nat) : (clsL l n).length ≤ n := shutP_len _ _ _ n
/-- the law of a class -/
noncomputable def theX (l : List Rat) (n : Nat) (C : List Nat) : Nat → Rat := @dite _ (∃ X, LinG (lawG (subG (gridL l n) C) C.length) C.length C.length (oneB C.length) X) (Classical.propDecidable _) (fun h => Classical.choose h) fun _ _ => 0
theorem theX_eq {l : List Rat} {n : Nat} {C : List Nat} (hu : UniG (lawG (subG (gridL l n) C) C.length) C.length C.length) {X : Nat → Rat} (hX : LinG (lawG (subG (gridL l n) C) C.length) C.length C.length (oneB C.length) X) : ∀ j, j < C.length → X j = theX l n C j := by
  have he : ∃ X, LinG (lawG (subG (gridL l n) C) C.length) C.length C.length (oneB C.length) X := ⟨X, hX⟩
  unfold theX
  rw [dif_pos he]
  exact hu.same hX (Classical.choose_spec he)
noncomputable def lawC (l : List Rat) (n : Nat) (C : List Nat) : List Rat := scat C (theX l n C) n C.length
noncomputable def allL (l : List Rat) (n : Nat) : List (List Rat) := (clsL l n).map (lawC l n)
structure LawOk (l : List Rat) (n B : Nat) (C : List Nat) : Prop where
  lin : LinG (lawG (subG (gridL l n) C) C.length) C.length C.length (oneB C.length) (theX l n C)
  qb : ∀ j, j < C.length → QB (2 * ge (B + 1) (2 * C.length)) (theX l n C j)
theorem balone2_c (V : View) (s vC : Value) (n B : Nat) (l : List Rat) (C : List Nat) (h : Rats V s l) (ll : l.length = n * n) (hn : n ≤ 60) (hC : Sl1 natE V vC C) (hlt : ∀ x ∈ C, x < n) (h1 : 1 ≤ C.length) (hl : C.length ≤ 60)
    (hu : UniG (lawG (subG (gridL l n) C) C.length) C.length C.length) (hq : ∀ x ∈ l, QB B x) (hB : ge (B + 1) (2 * C.length + 1) ≤ 17592186044416) :
    Spec Tryz.prog 58 [.agg #[.int .i64 (n : Int), .int .i64 (n : Int), s], vC] V fun v' V' => LawOk l n B C ∧ Rats V' v' (lawC l n C) :=
  (balone_c V s vC n B l C h ll hn hC hlt h1 hl hu hq hB).mono fun v' V' _ ⟨X, hX, hqX, hr⟩ => by
    have e := theX_eq hu hX
    refine ⟨⟨fun i hi => by rw [← hX i hi]; exact Sm_congr _ fun j hj => by rw [e j hj], fun j hj => by rw [← e j hj]; exact hqX j hj⟩, ?_⟩
    have e2 : scat C X n C.length = lawC l n C := scat_congr _ e
    rw [← e2]; exact hr
theorem rats_ok : ElOk Rats := fun _ _ _ _ hV h => Rats.up h hV
theorem rats_one {V : View} {v : Value} {l : List Rat} (h : Rats V v l) : isOne v = true := by obtain ⟨A, c, rfl, _⟩ := h.form; rfl
set_option maxHeartbeats 4000000 in
theorem ball_c (V : View) (s : Value) (r c : Int) (L : List Raw) (B : Nat) (h : Raws V s L) (f : fitR L) (ll : L.length ≤ 100000) (hq : okR L = true → ∀ x ∈ qs L, QB B x) (hB : 1001 * (B + 1) ≤ 17592186044416) (hB2 : stoB r c L = true → ge (B + 1) (2 * r.toNat + 1) ≤ 17592186044416) :
    Spec Tryz.prog 19 [.agg #[.int .i64 r, .int .i64 c, s]] V fun v' V' => (stoB r c L = false → v' = .tuple #[.slice none 0 0, .int .i64 1]) ∧ (stoB r c L = true → ∃ w, v' = .tuple #[w, .int .i64 0] ∧ (∀ C ∈ clsL (qs L) r.toNat, LawOk (qs L) r.toNat B C) ∧ Sl1 Rats V' w (allL (qs L) r.toNat)) := by
  obtain ⟨A, cp, rfl, hc, hm⟩ := h.form
  refine (Spec.enter Tryz.func19 rfl fun Γ => ?_)
  simp only [Tryz.ntmps19, List.map_cons, List.map_nil, List.length_cons, List.length_nil, Nat.reduceAdd, Nat.reduceSub, List.replicate_succ, List.replicate_zero, List.cons_append, List.nil_append]
  refine Gx.a (by kernel_rfl) fun K hK => ?_
  simp only [XA]
  refine hK _ ?_
  refine Gx.a (by kernel_rfl) fun K hK => ?_
  simp only [XM, XA, Nat.reduceAdd, Nat.reduceLeDiff, ↓reduceIte]
  refine call_go (by kernel_rfl) rfl (bClasses_c _ _ r c L B h f ll hq hB) fun v1 V1 hV1 h1 => ?_
  cases e : stoB r c L
  · obtain rfl := h1.1 e
    simp only [XA]
    refine hK _ ?_
    refine XWP.seq ?_
    refine Gx.a (by kernel_rfl) fun K hK => ?_
    simp only [XA, XB]
    refine hK _ ?_
    refine Gx.t rfl ?_
    refine Gx.a (by kernel_rfl) fun K hK => ?_
    simp only [XA]
    refine hK _ (XWP.ret ?_)
    try simp only [thenX_ret, inBlockX_ret]
    refine ret_go _ rfl ?_
    exact ⟨fun _ => rfl, fun h => by rw [e] at h; cases h⟩
  obtain ⟨w, rfl, hw⟩ := h1.2 e
  have hB3 := hB2 e
  clear hB2
  obtain ⟨n, rfl, rfl, hn, kl, ok, hS⟩ := stoB_parts e
  rw [Int.toNat_natCast] at hw hB3
  have hq := hq ok
  have hr := Rats.up (Raws.rats h ok) hV1
  have hlen := qs_len L
  rw [← hlen] at hr
  have hr : Rats V1 (.slice A L.length cp) (qs L) := by rw [hlen] at hr; exact hr
  obtain ⟨A2, c2, rfl, hc2, hm2⟩ := hw.form
  have hcn := clsL_len (qs L) n
  have hcls := fun C => cls_irr hS (C := C)
  obtain ⟨Ks, hK0⟩ : ∃ Ks, Ks = clsL (qs L) n := ⟨_, rfl⟩
  rw [← hK0] at hw hc2 hcn hcls ⊢
  simp only [XA]
  refine hK _ ?_
  refine XWP.seq ?_
  refine Gx.a (by kernel_rfl) fun K hK => ?_
  simp only [XA, XB]
  refine hK _ ?_
  refine Gx.f rfl ?_
  refine XWP.skip ?_
  refine Gx.a (by kernel_rfl) fun K hK => ?_
  simp only [XA]
  refine hK _ ?_
  refine XWP.cutD 1 (fun s => ∃ (V2 : View) (H2 : Heap) (wo : Value) (outs : List Value), StIs (fun Z => [Z 0,Z 1,Z 2,Z 3,Z 4,Z 5, .v wo, Z 7,Z 8,Z 9,Z 10,Z 11,Z 12,Z 13,Z 14,Z 15,Z 16,Z 17,Z 18,Z 19,Z 20,Z 21,Z 22,Z 23,Z 24,Z 25,Z 26,Z 27,Z 28,Z 29,Z 30]) [[.int .i64 (n : Int), .int .i64 (n : Int), .slice A L.length cp]] H2 V2 s ∧ Own H2 22 1 wo Ks.length outs ∧ R1At Rats V2 outs (Ks.map (lawC (qs L) n)) ∧ ∀ C ∈ Ks, LawOk (qs L) n B C) ?_ ?_
  · refine Gx.a (by kernel_rfl) fun K hK => ?_
    simp only [XN, XA]
    refine hK _ ?_
    clear hK
    refine XWP.block ?_
    refine XWP.loopD 1 (fun q s => ∃ (i : Nat) (V2 : View) (H2 : Heap) (wo : Value) (outs : List Value), StIs (fun Z => [Z 0, .p 0 0, Z 2,Z 3,Z 4,Z 5, .v wo, Z 7,Z 8,Z 9,Z 10,Z 11,Z 12,Z 13,Z 14,Z 15,Z 16, .v (.slice A2 Ks.length c2), .v (.int .i64 (Ks.length : Int)), .v (.int .i64 (i : Int)), Z 20,Z 21,Z 22,Z 23,Z 24,Z 25,Z 26,Z 27,Z 28,Z 29,Z 30]) [[.int .i64 (n : Int), .int .i64 (n : Int), .slice A L.length cp]] H2 V2 s ∧ q + i = Ks.length ∧ V1.le V2 ∧ Own H2 22 1 wo i outs ∧ R1At Rats V2 outs ((Ks.take i).map (lawC (qs L) n)) ∧ ∀ C ∈ Ks.take i, LawOk (qs L) n B C) Ks.length ⟨0, V1, _, _, [], StIs.of (by exact rfl), by omega, View.le_refl _, own_nil, R1At.nil _, fun C hC => by simp at hC⟩ ?_
    rintro q s ⟨i, V2, H2, wo, outs, hs, hqi, hV2, hown, hrow, hok⟩
    obtain ⟨z, rfl⟩ := hs.out
    try dsimp only
    clear hs
    by_cases hi : i < Ks.length
    rotate_left
    · obtain rfl : i = Ks.length := by omega
      have b1 : decide ((Ks.length : Int) < (Ks.length : Int)) = false := decide_eq_false (by omega)
      refine Gx.a (by kernel_rfl) fun K hK => ?_
      simp only [XA, XB, b1]
      refine hK _ ?_
      refine XWP.seq (Gx.f rfl ?_)
      refine XWP.exit ?_
      rw [List.take_length] at hrow hok
      exact fun f => ⟨V2, H2, wo, outs, StIs.of (by exact rfl), hown, hrow, hok⟩
    have b1 : decide ((i : Int) < (Ks.length : Int)) = true := decide_eq_true (by omega)
    refine Gx.a (by kernel_rfl) fun K hK => ?_
    simp only [XA, XB, b1]
    refine hK _ ?_
    refine XWP.seq (Gx.t rfl ?_)
    refine XWP.skip ?_
    obtain ⟨bw, ow, rfl⟩ := hw.addr (by omega)
    obtain ⟨u, g1, o1, g2⟩ := Sl1.load (hw.mono (Sl1_ok natE_ok) hV2) i hi
    have g2 := fun H => g2 H _ _ shapeT_34
    have hm := List.getElem_mem hi
    obtain ⟨C, hCe⟩ : ∃ C, C = Ks[i] := ⟨_, rfl⟩
    rw [← hCe] at g1 hm
    have hc := hcls C hm
    obtain ⟨A3, c3, rfl, _, _⟩ := g1.form
    refine XWP.cutD 1 (fun s => ∃ (V3 : View) (H3 : Heap) (wo : Value) (outs : List Value), StIs (fun Z => [Z 0, .p 0 0, Z 2,Z 3,Z 4,Z 5, .v wo, Z 7,Z 8,Z 9,Z 10,Z 11,Z 12,Z 13,Z 14,Z 15,Z 16, .v (.slice (some ⟨bw, ow, none⟩) Ks.length c2), .v (.int .i64 (Ks.length : Int)), .v (.int .i64 (i : Int)), Z 20,Z 21,Z 22,Z 23,Z 24,Z 25,Z 26,Z 27,Z 28,Z 29,Z 30]) [[.int .i64 (n : Int), .int .i64 (n : Int), .slice A L.length cp]] H3 V3 s ∧ V2.le V3 ∧ Own H3 22 1 wo (i + 1) outs ∧ R1At Rats V3 outs ((Ks.take (i + 1)).map (lawC (qs L) n)) ∧ ∀ C ∈ Ks.take (i + 1), LawOk (qs L) n B C) ?_ ?_
    · refine XWP.block ?_
      refine Gx.a (by kernel_rfl) fun K hK => ?_
      simp only [XN, XA]
      refine ⟨by omega, by omega, ?_⟩
      refine ld_mem (by simpa using g2 _) ?_
      simp only [XA]
      refine hK _ ?_
      refine Gx.c (by kernel_rfl) fun K hK => ?_
      simp only [XM, XA, Nat.reduceAdd, Nat.reduceLeDiff, ↓reduceIte]
      refine call_go (by kernel_rfl) rfl (balone2_c _ _ _ n B (qs L) C (hr.up hV2) (by omega) hn g1 hc.lt hc.ne (by have := hc.le; omega) (law_uni hc.sto hc.irr) hq (Nat.le_trans (ge_mono _ (by have := hc.le; omega)) hB3)) fun v3 V3 hV3 h3 => ?_
      obtain ⟨h3, r3⟩ := h3
      have o3 := rats_one r3
      simp only [XA]
      refine bs_go (by kernel_rfl) #[(0, v3)] (by simp [ev_tmp, SV.val]) (bs_one elemT_38 zeroT_22 o3) fun bq hbq1 hbq2 => ?_
      simp only [XA]
      refine ap_go elemT_38 (by kernel_rfl) zeroT_22 rfl (by omega) (own_upd hown hbq1) (src_one (upd_at _ _ _) o3) (by omega) (by omega) fun v' H' hres => ?_
      simp only [XA]
      have et : Ks.take (i + 1) = Ks.take i ++ [C] := by rw [List.take_add_one, List.getElem?_eq_getElem hi, ← hCe]; rfl
      have hrow' := (hrow.mono rats_ok hV3).snoc o3 r3
      exact hK _ fun f => ⟨V3, H', v', outs ++ [v3], StIs.of (by exact rfl), hV3, hres.1, by rw [et, List.map_append]; exact hrow', fun D hD => by
        rw [et, List.mem_append] at hD
        rcases hD with hD | hD
        · exact hok D hD
        · rw [List.mem_singleton.1 hD]; exact h3⟩
    clear hown hrow hok
    rintro s ⟨V3, H3, wo, outs, hs, hV3, hown, hrow, hok⟩
    obtain ⟨z, rfl⟩ := hs.out
    try dsimp only
    refine Gx.c (by kernel_rfl) fun K hK => ?_
    simp only [XA, XB, i64_succ i (by omega)]
    exact hK _ ⟨q - 1, by omega, fun f => ⟨i + 1, V3, H3, wo, outs, StIs.of (by exact rfl), by omega, View.le_trans hV2 hV3, hown, hrow, hok⟩⟩
  rintro s ⟨V2, H2, wo, outs, hs, hown, hrow, hok⟩
  obtain ⟨z, rfl⟩ := hs.out
  try dsimp only
  refine Gx.a (by kernel_rfl) fun K hK => ?_
  simp only [XA]
  refine hK _ ?_
  have hown' : Own H2 22 1 wo (Ks.map (lawC (qs L) n)).length outs := by rw [List.length_map]; exact hown
  refine XWP.pub1 rats_ok hown' hrow fun H4 V4 hV4 hs4 _ => ?_
  refine XWP.ret ?_
  try simp only [thenX_ret, inBlockX_ret]
  refine ret_go _ rfl ⟨fun h => (by rw [e] at h; cases h), fun _ => ⟨_, rfl, by rw [Int.toNat_natCast, ← hK0]; exact hok, ?_⟩⟩
  rw [Int.toNat_natCast]; unfold allL; rw [← hK0]; exact hs4
/-- the only law of a matrix: none where there are several classes -/
theorem balone1_c (V : View) (s : Value) (r c : Int) (L : List Raw) (B : Nat) (h : Raws V s L) (f : fitR L) (ll : L.length ≤ 100000) (hq : okR L = true → ∀ x ∈ qs L, QB B x) (hB : 1001 * (B + 1) ≤ 17592186044416) (hB2 : stoB r c L = true → ge (B + 1) (2 * r.toNat + 1) ≤ 17592186044416) :
    Spec Tryz.prog 17 [.agg #[.int .i64 r, .int .i64 c, s]] V fun v' V' => (stoB r c L = false → v' = .tuple #[.slice none 0 0, .int .i64 1]) ∧ (stoB r c L = true → (∀ C ∈ clsL (qs L) r.toNat, LawOk (qs L) r.toNat B C) ∧ ((clsL (qs L) r.toNat).length ≠ 1 → v' = .tuple #[.slice none 0 0, .int .i64 3]) ∧ ∀ C, clsL (qs L) r.toNat = [C] → ∃ w, v' = .tuple #[w, .int .i64 0] ∧ Rats V' w (lawC (qs L) r.toNat C)) := by
  obtain ⟨A, cp, rfl, hc, hm⟩ := h.form
  refine (Spec.enter Tryz.func17 rfl fun Γ => ?_)
  simp only [Tryz.ntmps17, List.map_cons, List.map_nil, List.length_cons, List.length_nil, Nat.reduceAdd, Nat.reduceSub, List.replicate_succ, List.replicate_zero, List.cons_append, List.nil_append]
  refine Gx.a (by kernel_rfl) fun K hK => ?_
  simp only [XA]
  refine hK _ ?_
  refine Gx.a (by kernel_rfl) fun K hK => ?_
  simp only [XM, XA, Nat.reduceAdd, Nat.reduceLeDiff, ↓reduceIte]
  refine call_go (by kernel_rfl) rfl (ball_c _ _ r c L B h f ll hq hB hB2) fun v1 V1 hV1 h1 => ?_
  cases e : stoB r c L
  · obtain rfl := h1.1 e
    simp only [XA]
    refine hK _ ?_
    refine XWP.seq ?_
    refine Gx.a (by kernel_rfl) fun K hK => ?_
    simp only [XA, XB]
    refine hK _ ?_
    refine Gx.t rfl ?_
    refine Gx.a (by kernel_rfl) fun K hK => ?_
    simp only [XA]
    refine hK _ (XWP.ret ?_)
    try simp only [thenX_ret, inBlockX_ret]
    refine ret_go _ rfl ?_
    exact ⟨fun _ => rfl, fun h => by rw [e] at h; cases h⟩
  obtain ⟨w, rfl, hok, hw⟩ := h1.2 e
  obtain ⟨A2, c2, rfl, hc2, hm2⟩ := hw.form
  have hl : (allL (qs L) r.toNat).length = (clsL (qs L) r.toNat).length := List.length_map ..
  simp only [XA]
  refine hK _ ?_
  refine XWP.seq ?_
  refine Gx.a (by kernel_rfl) fun K hK => ?_
  simp only [XA, XB]
  refine hK _ ?_
  refine Gx.f rfl ?_
  refine XWP.skip ?_
  refine XWP.seq ?_
  have hcl := clsL_len (qs L) r.toNat
  by_cases e1 : (clsL (qs L) r.toNat).length = 1
  rotate_left
  · have b1 : decide (((allL (qs L) r.toNat).length : Int) = 1) = false := decide_eq_false (by omega)
    refine Gx.a (by kernel_rfl) fun K hK => ?_
    simp only [XN, XA, XB, b1]
    refine hK _ ?_
    refine Gx.t rfl ?_
    refine Gx.a (by kernel_rfl) fun K hK => ?_
    simp only [XA]
    refine hK _ (XWP.ret ?_)
    try simp only [thenX_ret, inBlockX_ret]
    refine ret_go _ rfl ?_
    exact ⟨fun h => (by rw [e] at h; cases h), fun _ => ⟨hok, fun _ => rfl, fun C hC => absurd (by rw [hC]; rfl) e1⟩⟩
  obtain ⟨C, hC⟩ := List.length_eq_one_iff.1 e1
  have eA : allL (qs L) r.toNat = [lawC (qs L) r.toNat C] := by unfold allL; rw [hC]; rfl
  have b1 : decide (((allL (qs L) r.toNat).length : Int) = 1) = true := decide_eq_true (by omega)
  refine Gx.a (by kernel_rfl) fun K hK => ?_
  simp only [XN, XA, XB, b1]
  refine hK _ ?_
  refine Gx.f rfl ?_
  refine XWP.skip ?_
  rw [eA] at hw
  obtain ⟨bw, ow, rfl⟩ := hw.addr (by simp)
  obtain ⟨u, g1, _, g2⟩ := Sl1.load hw 0 (by simp)
  have g2 := fun H => g2 H _ _ shapeT_22
  obtain ⟨A3, c3, rfl, _, _⟩ := SlAt.form g1
  refine Gx.a (by kernel_rfl) fun K hK => ?_
  simp only [XN, XA, XB, Int.reduceLE]
  refine ⟨by omega, ?_⟩
  refine ld_mem (by simpa using g2 _) ?_
  simp only [XA]
  refine hK _ (XWP.ret ?_)
  try simp only [thenX_ret, inBlockX_ret]
  refine ret_go _ rfl ⟨fun h => (by rw [e] at h; cases h), fun _ => ⟨hok, fun h => absurd e1 h, fun D hD => ⟨_, rfl, ?_⟩⟩⟩
  rw [hC] at hD
  cases hD
  exact g1
end Go.Proofs.YtkgmicakfmllmaaGreat
end
section
namespace Go.Proofs.YtkgmicakfmllmaaGreat
end Go.Proofs.YtkgmicakfmllmaaGreat
end
section
namespace Go.Proofs.YtkgmicakfmllmaaGreat
open Go Go.RowKit
set_option linter.unusedSimpArgs false
set_option linter.unusedVariables false
attribute [local irreducible] XWP Spec SpecO XPub XCall seqX clX apX stX ldX iaX slX
def fewB (L : List Raw) : Bool := decide (L.length ≤ 70) && L.all fun r => decide (r.nd.length ≤ 3) && decide (r.dd.length ≤ 3)
theorem fewB_few {L : List Raw} (h : fewB L = true) : L.length ≤ 70 ∧ fewR L := by
  unfold fewB at h
  rw [Bool.and_eq_true, decide_eq_true_eq] at h
  refine ⟨h.1, fun r hr => ?_⟩
  have := List.all_eq_true.1 h.2 r hr
  simpa using this
theorem fewB_bad {L : List Raw} {r : Raw} (hr : r ∈ L) (h : ¬ (r.nd.length ≤ 3 ∧ r.dd.length ≤ 3)) : fewB L = false := by
  cases e : fewB L
  · rfl
  · exact absurd ((fewB_few e).2 r hr) h
/-- the fields of a number in a list -/
theorem Raws.fld {V : View} {b o n c : Nat} {l : List Raw} (h : Raws V (.slice (some ⟨b, o, none⟩) n c) l) (i : Nat) (hi : i < l.length) : ∃ n1 c1 A1 n2 c2 A2, (∀ H, Loads Tryz.prog H V 47 b (o + i * 3 + 1) (.slice A1 n1 c1)) ∧ (∀ H, Loads Tryz.prog H V 47 b (o + i * 3 + 2) (.slice A2 n2 c2)) ∧ n1 = l[i].nd.length ∧ n2 = l[i].dd.length ∧ n1 ≤ c1 ∧ n2 ≤ c2 ∧ c1 ≤ 9223372036854775807 ∧ c2 ≤ 9223372036854775807 := by
  obtain ⟨A', c', e, _, _, h3⟩ := h
  cases e
  rcases h3 with rfl | ⟨b', o', arr, ty, fr, e1, e2, h4⟩
  · simp at hi
  · cases e1
    obtain ⟨m, n, d, g1, g2, g3, o1, o2, o3, n', d', hE, k1, k2⟩ := h4 i l[i] (List.getElem?_eq_getElem hi)
    cases hE
    obtain ⟨A1, c1, rfl, q1, q2⟩ := k1.form
    obtain ⟨A2, c2, rfl, q3, q4⟩ := k2.form
    exact ⟨_, c1, A1, _, c2, A2, fun H => ⟨false, _, shapeT_47, .inr ⟨rfl, .inr ⟨arr, ty, fr, e2, g2⟩⟩⟩, fun H => ⟨false, _, shapeT_47, .inr ⟨rfl, .inr ⟨arr, ty, fr, e2, g3⟩⟩⟩, rfl, rfl, q1, q3, q2, q4⟩
theorem few34_c (V : View) (v : Value) (L : List Raw) (h : Raws V v L) : Spec Tryz.prog 23 [v] V fun v' V' => v' = .bool (fewB L) := by
  obtain ⟨A, c, rfl, hc, hm⟩ := h.form
  refine (Spec.enter Tryz.func23 rfl fun Γ => ?_)
  simp only [Tryz.ntmps23, List.map_cons, List.map_nil, List.length_cons, List.length_nil, Nat.reduceAdd, Nat.reduceSub, List.replicate_succ, List.replicate_zero, List.cons_append, List.nil_append]
  refine Gx.a (by kernel_rfl) fun K hK => ?_
  simp only [XA]
  refine hK _ ?_
  refine XWP.seq ?_
  by_cases h70 : 70 < L.length
  · have b1 : decide ((70 : Int) < (L.length : Int)) = true := decide_eq_true (by omega)
    refine Gx.a (by kernel_rfl) fun K hK => ?_
    simp only [XA, XB, b1]
    refine hK _ ?_
    refine Gx.t rfl ?_
    refine Gx.a (by kernel_rfl) fun K hK => ?_
    simp only [XA]
    refine hK _ (XWP.ret ?_)
    try simp only [thenX_ret, inBlockX_ret]
    refine ret_go _ rfl ?_
    unfold fewB; rw [decide_eq_false (by omega)]; rfl
  have b1 : decide ((70 : Int) < (L.length : Int)) = false := decide_eq_false (by omega)
  refine Gx.a (by kernel_rfl) fun K hK => ?_
  simp only [XA, XB, b1]
  refine hK _ ?_
  refine Gx.f rfl ?_
  refine XWP.skip ?_
  refine XWP.cutD 0 (fun s => ∃ V2, StIs (fun Z => [Z 0,Z 1,Z 2,Z 3,Z 4,Z 5,Z 6,Z 7,Z 8,Z 9,Z 10,Z 11,Z 12,Z 13,Z 14,Z 15,Z 16,Z 17,Z 18,Z 19,Z 20,Z 21,Z 22,Z 23,Z 24,Z 25,Z 26,Z 27,Z 28]) [] (fun _ => none) V2 s ∧ fewB L = true) ?_ ?_
  · refine Gx.a (by kernel_rfl) fun K hK => ?_
    simp only [XA, XB]
    refine hK _ ?_
    clear hK
    refine XWP.block ?_
    refine XWP.loopD 0 (fun n s => ∃ (k : Nat), StIs (fun Z => [.v (.slice A L.length c), Z 1,Z 2,Z 3,Z 4,Z 5,Z 6,Z 7, .v (.int .i64 (L.length : Int)), .v (.int .i64 (k : Int)), Z 10,Z 11,Z 12,Z 13,Z 14,Z 15,Z 16,Z 17,Z 18,Z 19,Z 20,Z 21,Z 22,Z 23,Z 24,Z 25,Z 26,Z 27,Z 28]) [] (fun _ => none) V s ∧ n + k = L.length ∧ ∀ r ∈ L.take k, r.nd.length ≤ 3 ∧ r.dd.length ≤ 3) L.length ⟨0, StIs.of (by exact rfl), by omega, fun r hr => by simp at hr⟩ ?_
    rintro n s ⟨k, hs, hn, hk⟩
    obtain ⟨z, rfl⟩ := hs.out
    try dsimp only
    clear hs
    by_cases hlt : k < L.length
    rotate_left
    · obtain rfl : k = L.length := by omega
      have b2 : decide ((L.length : Int) < (L.length : Int)) = false := decide_eq_false (by omega)
      refine Gx.a (by kernel_rfl) fun K hK => ?_
      simp only [XA, XB, b2]
      refine hK _ ?_
      refine XWP.seq (Gx.f rfl ?_)
      refine XWP.exit ?_
      rw [List.take_length] at hk
      refine fun f => ⟨V, StIs.of (by exact rfl), ?_⟩
      unfold fewB
      rw [decide_eq_true (by omega), Bool.true_and, List.all_eq_true]
      intro r hr
      have := hk r hr
      rw [decide_eq_true this.1, decide_eq_true this.2]; rfl
    have b2 : decide ((k : Int) < (L.length : Int)) = true := decide_eq_true (by omega)
    refine Gx.a (by kernel_rfl) fun K hK => ?_
    simp only [XA, XB, b2]
    refine hK _ ?_
    refine XWP.seq (Gx.t rfl ?_)
    refine XWP.skip ?_
    obtain ⟨b, o, rfl⟩ := SlAt.addr h (by omega)
    obtain ⟨n1, c1, A1, n2, c2, A2, l1, l2, e1, e2, q1, q2, q3, q4⟩ := Raws.fld h k hlt
    have hmem : L[k] ∈ L := List.getElem_mem hlt
    have et : L.take (k + 1) = L.take k ++ [L[k]] := by rw [List.take_succ_eq_append_getElem hlt]
    refine XWP.seq ?_
    refine XWP.block ?_
    refine Gx.a (by kernel_rfl) fun K hK => ?_
    simp only [XA]
    refine hK _ ?_
    refine Gx.a (by kernel_rfl) fun K hK => ?_
    simp only [XA, XB]
    refine ⟨by omega, by omega, ld_mem (l1 _) ?_⟩
    by_cases d1 : 3 < n1
    · have b3 : decide ((3 : Int) < (n1 : Int)) = true := decide_eq_true (by omega)
      simp only [XA, XB, gateX, ↓reduceIte, b3]
      refine hK _ ?_
      refine Gx.t rfl ?_
      refine Gx.a (by kernel_rfl) fun K hK => ?_
      simp only [XA]
      refine hK _ (XWP.ret ?_)
      try simp only [thenX_ret, inBlockX_ret]
      refine ret_go _ rfl ?_
      rw [fewB_bad hmem (by omega)]; rfl
    have b3 : decide ((3 : Int) < (n1 : Int)) = false := decide_eq_false (by omega)
    simp only [XA, XB, gateX, ↓reduceIte, beq_self_eq_true, b3]
    refine ⟨by omega, by omega, ld_mem (l2 _) ?_⟩
    by_cases d2 : 3 < n2
    · have b4 : decide ((3 : Int) < (n2 : Int)) = true := decide_eq_true (by omega)
      simp only [XA, XB, gateX, ↓reduceIte, beq_self_eq_true, b4]
      refine hK _ ?_
      refine Gx.t rfl ?_
      refine Gx.a (by kernel_rfl) fun K hK => ?_
      simp only [XA]
      refine hK _ (XWP.ret ?_)
      try simp only [thenX_ret, inBlockX_ret]
      refine ret_go _ rfl ?_
      rw [fewB_bad hmem (by omega)]; rfl
    have b4 : decide ((3 : Int) < (n2 : Int)) = false := decide_eq_false (by omega)
    simp only [XA, XB, gateX, ↓reduceIte, beq_self_eq_true, b4]
    refine hK _ ?_
    refine Gx.f rfl ?_
    refine XWP.skip ?_
    refine Gx.c (by kernel_rfl) fun K hK => ?_
    simp only [XA, XB, i64_succ k (by omega)]
    refine hK _ ⟨n - 1, by omega, fun f => ⟨k + 1, StIs.of (by exact rfl), by omega, fun r hr => ?_⟩⟩
    rw [et, List.mem_append] at hr
    rcases hr with hr | hr
    · exact hk r hr
    · rw [List.mem_singleton.1 hr]; omega
  rintro s ⟨V2, hs, hf⟩
  obtain ⟨z, rfl⟩ := hs.out
  try dsimp only
  refine Gx.a (by kernel_rfl) fun K hK => ?_
  simp only [XA]
  refine hK _ (XWP.ret ?_)
  try simp only [thenX_ret, inBlockX_ret]
  refine ret_go _ rfl ?_
  rw [hf]; rfl
def fineB (r c : Int) (L : List Raw) : Bool := decide (r ≤ 8) && decide (c ≤ 8) && fewB L
theorem fine34_c (V : View) (s : Value) (r c : Int) (L : List Raw) (h : Raws V s L) : Spec Tryz.prog 12 [.agg #[.int .i64 r, .int .i64 c, s]] V fun v' V' => v' = .bool (fineB r c L) := by
  obtain ⟨A, cp, rfl, hc, hm⟩ := h.form
  refine (Spec.enter Tryz.func12 rfl fun Γ => ?_)
  simp only [Tryz.ntmps12, List.map_cons, List.map_nil, List.length_cons, List.length_nil, Nat.reduceAdd, Nat.reduceSub, List.replicate_succ, List.replicate_zero, List.cons_append, List.nil_append]
  refine Gx.a (by kernel_rfl) fun K hK => ?_
  simp only [XA]
  refine hK _ ?_
  unfold fineB
  cases b1 : decide (r ≤ 8)
  · refine Gx.a (by kernel_rfl) fun K hK => ?_
    simp only [XM, XA, XB, gateX, ↓reduceIte, b1]
    refine hK _ (XWP.ret ?_)
    try simp only [thenX_ret, inBlockX_ret]
    refine ret_go _ rfl ?_
    rfl
  cases b2 : decide (c ≤ 8)
  · refine Gx.a (by kernel_rfl) fun K hK => ?_
    simp only [XM, XA, XB, gateX, ↓reduceIte, beq_self_eq_true, b1, b2]
    refine hK _ (XWP.ret ?_)
    try simp only [thenX_ret, inBlockX_ret]
    refine ret_go _ rfl ?_
    rfl
  refine Gx.a (by kernel_rfl) fun K hK => ?_
  simp only [XM, XA, XB, gateX, ↓reduceIte, beq_self_eq_true, b1, b2]
  refine call_go (by kernel_rfl) rfl (few34_c _ _ L h) fun v1 V1 hV1 h1 => ?_
  subst h1
  simp only [XA, ↓reduceIte]
  refine hK _ (XWP.ret ?_)
  try simp only [thenX_ret, inBlockX_ret]
  refine ret_go _ rfl ?_
  rw [Bool.true_and, Bool.true_and]; rfl
theorem of34_c (V : View) (x y z : Value) (h1 : isOne x = true) (h2 : isOne y = true) (h3 : isOne z = true) : Spec Tryz.prog 15 [.agg #[x, y, z]] V fun v' V' => v' = .agg #[x, y, z] := by
  refine (Spec.enter Tryz.func15 rfl fun Γ => ?_)
  simp only [Tryz.ntmps15, List.map_cons, List.map_nil, List.length_cons, List.length_nil, Nat.reduceAdd, Nat.reduceSub, List.replicate_succ, List.replicate_zero, List.cons_append, List.nil_append]
  refine Gx.a (by kernel_rfl) fun K hK => ?_
  simp only [XM, XA]
  refine hK _ ?_
  refine Gx.a (by kernel_rfl) fun K hK => ?_
  simp only [XM, XA, Nat.reduceAdd, Nat.reduceLeDiff, ↓reduceIte]
  refine st_mat shapeT_31 rfl rfl h1 h2 h3 ?_
  simp only [XA]
  refine hK _ (XWP.ret ?_)
  try simp only [thenX_ret, inBlockX_ret]
  exact ret_go _ (by simp [resAll, resV, cellsV, shapeT_31]; rfl) rfl
theorem same34_c (V : View) (v u : Value) (l m : List Rat) (hv : Rats V v l) (hu : Rats V u m) (hl : ∀ x ∈ l, QF x) (hm : ∀ x ∈ m, QF x) : Spec Tryz.prog 21 [v, u] V fun v' V' => v' = .bool (decide (l = m)) := by
  obtain ⟨A1, c1, rfl, hc1, hm1⟩ := hv.form
  obtain ⟨A2, c2, rfl, hc2, hm2⟩ := hu.form
  refine (Spec.enter Tryz.func21 rfl fun Γ => ?_)
  simp only [Tryz.ntmps21, List.map_cons, List.map_nil, List.length_cons, List.length_nil, Nat.reduceAdd, Nat.reduceSub, List.replicate_succ, List.replicate_zero, List.cons_append, List.nil_append]
  refine Gx.a (by kernel_rfl) fun K hK => ?_
  simp only [XA]
  refine hK _ ?_
  refine XWP.seq ?_
  by_cases hlen : l.length = m.length
  · have b1 : (!decide ((l.length : Int) = (m.length : Int))) = false := by rw [decide_eq_true (by omega)]; rfl
    refine Gx.a (by kernel_rfl) fun K hK => ?_
    simp only [XA, XB, b1]
    refine hK _ ?_
    refine Gx.f rfl ?_
    refine XWP.skip ?_
    refine XWP.cut (fun s => ∃ V2, StIs (fun Z => [Z 0,Z 1,Z 2,Z 3,Z 4,Z 5,Z 6,Z 7,Z 8,Z 9,Z 10,Z 11,Z 12,Z 13,Z 14,Z 15,Z 16,Z 17,Z 18,Z 19,Z 20,Z 21,Z 22,Z 23,Z 24,Z 25,Z 26]) [] (fun _ => none) V2 s ∧ l = m) ?_ ?_
    · refine Gx.a (by kernel_rfl) fun K hK => ?_
      simp only [XA, XB]
      refine hK _ ?_
      clear hK
      refine XWP.block ?_
      refine XWP.loop (fun n s => ∃ (k : Nat) (V2 : View), StIs (fun Z => [.v (.slice A1 l.length c1), .v (.slice A2 m.length c2), Z 2,Z 3,Z 4,Z 5,Z 6,Z 7,Z 8,Z 9,Z 10,Z 11, .v (.int .i64 (l.length : Int)), .v (.int .i64 (k : Int)), Z 14,Z 15,Z 16,Z 17,Z 18,Z 19,Z 20,Z 21,Z 22,Z 23,Z 24,Z 25,Z 26]) [] (fun _ => none) V2 s ∧ V.le V2 ∧ n + k = l.length ∧ ∀ i, i < k → cf l i = cf m i) l.length ⟨0, V, StIs.of (by exact rfl), View.le_refl _, rfl, fun i hi => by omega⟩ ?_
      rintro n s ⟨k, V2, hs, hV2, hn, hk⟩
      obtain ⟨z, rfl⟩ := hs.out
      try dsimp only
      by_cases hlt : k < l.length
      · have b2 : decide ((k : Int) < (l.length : Int)) = true := decide_eq_true (by omega)
        refine Gx.a (by kernel_rfl) fun K hK => ?_
        simp only [XA, XB, b2]
        refine hK _ ?_
        refine XWP.seq (Gx.t rfl ?_)
        refine XWP.skip ?_
        refine XWP.seq ?_
        refine XWP.block ?_
        refine Gx.a (by kernel_rfl) fun K hK => ?_
        simp only [XA]
        refine hK _ ?_
        (refine XWP.drw [0, 1, 2, 3, 4, 5, 6, 7, 8, 9] (by kernel_rfl) (by kernel_rfl) (by kernel_rfl) fun K hK => ?_) <;> dsimp only [pickOps, List.getElem?_cons_zero, List.getElem?_cons_succ]
        have hv2 := Rats.up hv hV2
        have hu2 := Rats.up hu hV2
        obtain ⟨b, o, rfl⟩ := SlAt.addr hv2 (by omega)
        obtain ⟨b', o', rfl⟩ := SlAt.addr hu2 (by omega)
        obtain ⟨m3, n3, d3, hx3, ⟨p1, p2, p3⟩, hld3⟩ := Rats.get hv2 k (by omega)
        obtain ⟨m4, n4, d4, hx4, ⟨r1, r2, r3⟩, hld4⟩ := Rats.get hu2 k (by omega)
        simp only [XA, XB]
        refine ⟨by omega, by omega, ld_mem (hld3 _) ?_⟩
        simp only [XA, XB]
        refine ⟨by omega, by omega, ld_mem (hld4 _) ?_⟩
        simp only [XA]
        have f3 := hl _ (cf_mem hlt)
        have f4 := hm _ (cf_mem (show k < m.length by omega))
        refine call_go (by kernel_rfl) rfl (psame_c _ _ _ _ _ (hx3.toV f3) (hx4.toV f4) f3 f4) fun v5 V5 hV5 h5 => ?_
        subst h5
        by_cases he : cf l k = cf m k
        · have b3 : decide (cf l k = cf m k) = true := decide_eq_true he
          simp only [XA, b3]
          refine hK _ ?_
          refine Gx.f rfl ?_
          refine XWP.skip ?_
          refine Gx.c (by kernel_rfl) fun K hK => ?_
          simp only [XA, XB, i64_succ k (by omega)]
          refine hK _ ⟨n - 1, by omega, k + 1, V5, StIs.of (by exact rfl), View.le_trans hV2 hV5, by omega, fun i hi => ?_⟩
          by_cases e : i = k
          · rw [e]; exact he
          · exact hk i (by omega)
        · have b3 : decide (cf l k = cf m k) = false := decide_eq_false he
          simp only [XA, b3]
          refine hK _ ?_
          refine Gx.t rfl ?_
          refine Gx.a (by kernel_rfl) fun K hK => ?_
          simp only [XA]
          refine hK _ (XWP.ret ?_)
          try simp only [thenX_ret, inBlockX_ret]
          refine ret_go _ rfl ?_
          rw [decide_eq_false (fun e => he (by rw [e]))]; rfl
      · have b2 : decide ((k : Int) < (l.length : Int)) = false := decide_eq_false (by omega)
        refine Gx.a (by kernel_rfl) fun K hK => ?_
        simp only [XA, XB, b2]
        refine hK _ ?_
        refine XWP.seq (Gx.f rfl ?_)
        refine XWP.exit ?_
        refine ⟨V2, StIs.of (by exact rfl), List.ext_getElem hlen fun i h1 h2 => ?_⟩
        rw [cf_get h1, cf_get h2]; exact hk i (by omega)
    rintro s ⟨V2, hs, he⟩
    obtain ⟨z, rfl⟩ := hs.out
    try dsimp only
    refine Gx.a (by kernel_rfl) fun K hK => ?_
    simp only [XA]
    refine hK _ (XWP.ret ?_)
    try simp only [thenX_ret, inBlockX_ret]
    refine ret_go _ rfl ?_
    rw [decide_eq_true he]; rfl
  · have b1 : (!decide ((l.length : Int) = (m.length : Int))) = true := by rw [decide_eq_false (by omega)]; rfl
    refine Gx.a (by kernel_rfl) fun K hK => ?_
    simp only [XA, XB, b1]
    refine hK _ ?_
    refine Gx.t rfl ?_
    refine Gx.a (by kernel_rfl) fun K hK => ?_
    simp only [XA]
    refine hK _ (XWP.ret ?_)
    try simp only [thenX_ret, inBlockX_ret]
    refine ret_go _ rfl ?_
    rw [decide_eq_false (fun e => hlen (by rw [e]))]; rfl
end Go.Proofs.YtkgmicakfmllmaaGreat
end
section
namespace Go.Proofs.YtkgmicakfmllmaaGreat
open Go Go.RowKit
set_option linter.unusedSimpArgs false
set_option linter.unusedVariables false
attribute [local irreducible] XWP Spec SpecO XPub XCall seqX clX apX stX ldX iaX slX
theorem sgI_lt (q : Rat) : decide (sgI q < 0) = ng q := by
  unfold sgI
  split
  · rename_i h; subst h; rfl
  · cases h : ng q
    · rfl
    · rfl
theorem psum_c (V : View) (v : Value) (l : List Rat) (B : Nat) (h : Rats V v l) (hq : ∀ x ∈ l, QB B x) (ll : l.length ≤ 1000) (hB : 1001 * (B + 1) ≤ 17592186044416) : Spec Tryz.prog 62 [v] V fun v' V' => RatC V' v' (sumL l l.length) := by
  obtain ⟨A, c, rfl, hc, hm⟩ := h.form
  have hS : ∀ k, k ≤ l.length → QB (1000 * (B + 1)) (sumL l k) := fun k hk => (sumL_QB hq k hk).mono (Nat.mul_le_mul_right _ (by omega))
  have hf : 1000 * (B + 1) ≤ 17592186044416 := by omega
  refine (Spec.enter Tryz.func62 rfl fun Γ => ?_)
  simp only [Tryz.ntmps62, List.map_cons, List.map_nil, List.length_cons, List.length_nil, Nat.reduceAdd, Nat.reduceSub, List.replicate_succ, List.replicate_zero, List.cons_append, List.nil_append]
  refine Gx.a (by kernel_rfl) fun K hK => ?_
  simp only [XA, XB]
  refine hK _ ?_
  refine Gx.a (by kernel_rfl) fun K hK => ?_
  simp only [XA]
  refine call_go (by kernel_rfl) rfl (pzero_c _) fun v1 V1 hV1 h1 => ?_
  obtain ⟨x1, y1, rfl, o1, o2⟩ := h1.form
  simp only [XA, XB]
  refine st_rat rfl rfl rfl o1 o2 ?_
  simp only [XA]
  refine hK _ ?_
  refine XWP.cutD 2 (fun s => ∃ (V2 : View) (m : Bool) (x y : Value), StIs (fun Z => [Z 0,Z 1, .p 0 0, .p 1 0, Z 4,Z 5,Z 6,Z 7,Z 8,Z 9,Z 10,Z 11,Z 12,Z 13,Z 14,Z 15,Z 16,Z 17,Z 18]) [[.bool false, .slice none 0 0, .slice none 0 0], [.bool m, x, y]] (fun _ => none) V2 s ∧ RatC V2 (.agg #[.bool m, x, y]) (sumL l l.length) ∧ isOne x = true ∧ isOne y = true) ?_ ?_
  · refine Gx.a (by kernel_rfl) fun K hK => ?_
    simp only [XA]
    refine hK _ ?_
    clear hK
    refine XWP.block ?_
    refine XWP.loopD 2 (fun n s => ∃ (k : Nat) (V2 : View) (m : Bool) (x y : Value), StIs (fun Z => [.v (.slice A l.length c), Z 1, .p 0 0, .p 1 0, .v (.int .i64 (k : Int)), Z 5,Z 6,Z 7,Z 8,Z 9,Z 10,Z 11,Z 12,Z 13,Z 14,Z 15,Z 16,Z 17,Z 18]) [[.bool false, .slice none 0 0, .slice none 0 0], [.bool m, x, y]] (fun _ => none) V2 s ∧ n + k = l.length ∧ V.le V2 ∧ RatC V2 (.agg #[.bool m, x, y]) (sumL l k) ∧ isOne x = true ∧ isOne y = true) l.length ⟨0, V1, _, _, _, StIs.of (by exact rfl), by omega, hV1, h1, o1, o2⟩ ?_
    clear h1 o1 o2
    rintro n s ⟨k, V2, m, x, y, hs, hn, hV2, h2, o1, o2⟩
    obtain ⟨z, rfl⟩ := hs.out
    try dsimp only
    clear hs
    by_cases hk : k < l.length
    rotate_left
    · obtain rfl : k = l.length := by omega
      have b1 : decide ((l.length : Int) < (l.length : Int)) = false := decide_eq_false (by omega)
      refine XWP.seq ?_
      refine Gx.a (by kernel_rfl) fun K hK => ?_
      simp only [XA, XB, b1]
      refine hK _ ?_
      refine Gx.f rfl ?_
      refine XWP.exit ?_
      exact fun f => ⟨V2, m, x, y, StIs.of (by exact rfl), h2, o1, o2⟩
    have b1 : decide ((k : Int) < (l.length : Int)) = true := decide_eq_true (by omega)
    have hv2 := h.up hV2
    obtain ⟨b, o, rfl⟩ := SlAt.addr hv2 (by omega)
    obtain ⟨m3, n3, d3, hx, ⟨p1, p2, p3⟩, hld⟩ := Rats.get hv2 k hk
    refine XWP.seq ?_
    refine Gx.a (by kernel_rfl) fun K hK => ?_
    simp only [XA, XB, b1]
    refine hK _ ?_
    refine Gx.t rfl ?_
    refine XWP.skip ?_
    refine XWP.seq ?_
    refine XWP.block ?_
    (refine XWP.drw1 [0, 1, 2, 3, 4, 5, 6] (by kernel_rfl) (by kernel_rfl) (by kernel_rfl) fun K hK => ?_) <;> dsimp only [pickOps, List.getElem?_cons_zero, List.getElem?_cons_succ]
    simp only [XA, XB, Nat.reduceAdd, Nat.reduceLeDiff, ↓reduceIte]
    refine ⟨by omega, by omega, ld_mem (hld _) ?_⟩
    simp only [XA]
    have q1 := (hS k (by omega)).qf hf
    have q2 := (hq _ (cf_mem hk)).qf (by omega)
    refine call_go (by kernel_rfl) rfl (padd_c _ _ _ _ _ (h2.toV q1) (hx.toV q2) q1 q2) fun v3 V3 hV3 h3 => ?_
    obtain ⟨x3, y3, rfl, o3, o4⟩ := h3.form
    simp only [XA]
    refine st_rat rfl rfl rfl o3 o4 ?_
    simp only [XA]
    refine hK _ ?_
    refine Gx.c (by kernel_rfl) fun K hK => ?_
    simp only [XA, XB, i64_succ k (by omega)]
    exact hK _ ⟨n - 1, by omega, fun f => ⟨k + 1, V3, _, x3, y3, StIs.of (by exact rfl), by omega, View.le_trans hV2 hV3, h3, o3, o4⟩⟩
  rintro s ⟨V2, m, x, y, hs, h2, o1, o2⟩
  obtain ⟨z, rfl⟩ := hs.out
  try dsimp only
  refine Gx.a (by kernel_rfl) fun K hK => ?_
  simp only [XA, XB, Nat.reduceAdd, Nat.reduceLeDiff, ↓reduceIte]
  refine st_rat rfl rfl rfl o1 o2 ?_
  simp only [XA]
  refine hK _ (XWP.ret ?_)
  try simp only [thenX_ret, inBlockX_ret]
  exact ret_rat1 rfl rfl rfl h2
end Go.Proofs.YtkgmicakfmllmaaGreat
end
section
namespace Go.Proofs.YtkgmicakfmllmaaGreat
open Go Go.RowKit
set_option linter.unusedSimpArgs false
set_option linter.unusedVariables false
attribute [local irreducible] XWP Spec SpecO XPub XCall seqX clX apX stX ldX iaX slX
theorem ratsE_ok : ElOk Rats := fun _ _ _ _ hV h => Rats.up h hV
theorem own_off {H : Heap} {e sz n b : Nat} {v : Value} {xs : List Value} {r : Option Row} (h : Own H e sz v n xs) (hb : v.ownBlock ≠ some b) : Own (upd H b r) e sz v n xs := by
  refine ⟨h.1, ?_⟩
  rcases h.2 with h1 | ⟨g, cap, rfl, hg, h2⟩
  · exact .inl h1
  · exact .inr ⟨g, cap, rfl, (upd_off fun e => hb (by rw [← e]; rfl)).trans hg, h2⟩
/-- a list that is filled from the first on -/
def prt {α : Type} (n : Nat) (f : Nat → α) (k : Nat) : List (Option α) := (List.range n).map fun i => if i < k then some (f i) else none
theorem prt_len {α : Type} (n : Nat) (f : Nat → α) (k : Nat) : (prt n f k).length = n := by simp [prt]
theorem prt_get {α : Type} {n : Nat} {f : Nat → α} {k i : Nat} (hi : i < n) : (prt n f k)[i]? = some (if i < k then some (f i) else none) := by simp [prt, hi]
theorem prt_zero {α : Type} (n : Nat) (f : Nat → α) : prt n f 0 = List.replicate n none := by
  refine List.ext_getElem? fun i => ?_
  by_cases hi : i < n
  · rw [prt_get hi, if_neg (by omega), List.getElem?_replicate, if_pos hi]
  · rw [List.getElem?_eq_none (by rw [prt_len]; omega), List.getElem?_eq_none (by simp; omega)]
theorem prt_step {α : Type} (n : Nat) (f : Nat → α) {k : Nat} (hk : k < n) : (prt n f k).set k (some (f k)) = prt n f (k + 1) := by
  refine List.ext_getElem? fun i => ?_
  by_cases hi : i < n
  · by_cases e : k = i
    · subst e
      rw [List.getElem?_set_self (by rw [prt_len]; exact hi), prt_get hi, if_pos (by omega)]
    · rw [List.getElem?_set_ne e, prt_get hi, prt_get hi]
      by_cases h : i < k
      · rw [if_pos h, if_pos (by omega)]
      · rw [if_neg h, if_neg (by omega)]
  · rw [List.getElem?_eq_none (by rw [List.length_set, prt_len]; omega), List.getElem?_eq_none (by rw [prt_len]; omega)]
theorem R1At.prt_all {α : Type} {E : El α} {V : View} {cells : List Value} {n : Nat} {f : Nat → α} (h : R1At (optE E) V cells (prt n f n)) : R1At E V cells ((List.range n).map f) := by
  refine ⟨by rw [h.1, prt_len]; simp, fun i x hi => ?_⟩
  have hlt : i < n := by
    rcases Nat.lt_or_ge i n with g | g
    · exact g
    · rw [List.getElem?_eq_none (by simpa using g)] at hi; cases hi
  have hx : x = f i := by simpa [hlt] using hi.symm
  obtain ⟨u, a, b, c⟩ := h.2 i (some (f i)) (by rw [prt_get hlt, if_pos hlt])
  exact ⟨u, a, b, by rw [hx]; exact c⟩
/-- the rows of a matrix -/
def rowL (l : List Rat) (C i : Nat) : List Rat := (l.take ((i + 1) * C)).drop (i * C)
theorem drows_c (V : View) (s : Value) (R C : Nat) (l : List Rat) (h : Rats V s l) (ll : l.length = R * C) (hR : R ≤ 60) (hC : C ≤ 60) :
    Spec Tryz.prog 61 [.agg #[.int .i64 (R : Int), .int .i64 (C : Int), s]] V fun v' V' => Sl1 Rats V' v' ((List.range R).map (rowL l C)) := by
  obtain ⟨A, cp, rfl, hc, hm⟩ := h.form
  have hRC : R * C ≤ 3600 := Nat.le_trans (Nat.mul_le_mul hR hC) (by decide)
  refine (Spec.enter Tryz.func61 rfl fun Γ => ?_)
  simp only [Tryz.ntmps61, List.map_cons, List.map_nil, List.length_cons, List.length_nil, Nat.reduceAdd, Nat.reduceSub, List.replicate_succ, List.replicate_zero, List.cons_append, List.nil_append]
  refine Gx.a (by kernel_rfl) fun K hK => ?_
  simp only [XA]
  refine hK _ ?_
  refine Gx.a (by kernel_rfl) fun K hK => ?_
  simp only [XM, XA, XB]
  refine mk_go rfl rfl elemT_38 zeroT_22 (by omega) (by omega) (by omega) (by omega) rfl (by omega) fun go hgo1 hgo2 => ?_
  simp only [XA, flat_one]
  refine hK _ ?_
  clear hK
  refine XWP.cutD 1 (fun s => ∃ (V2 : View) (H2 : Heap) (co : List Value), StIs (fun Z => [Z 0,Z 1,Z 2, .v (.slice (some ⟨go, 0, none⟩) R R), Z 4,Z 5,Z 6,Z 7,Z 8,Z 9,Z 10,Z 11,Z 12,Z 13,Z 14,Z 15,Z 16,Z 17,Z 18,Z 19,Z 20,Z 21,Z 22,Z 23,Z 24,Z 25,Z 26,Z 27,Z 28,Z 29,Z 30,Z 31]) [[.int .i64 (R : Int), .int .i64 (C : Int), .slice A l.length cp]] H2 V2 s ∧ H2 go = some ⟨22, co, R⟩ ∧ R1At Rats V2 co ((List.range R).map (rowL l C))) ?_ ?_
  · refine Gx.a (by kernel_rfl) fun K hK => ?_
    simp only [XN, XA]
    refine hK _ ?_
    clear hK
    refine XWP.block ?_
    refine XWP.loopD 1 (fun q s => ∃ (i : Nat) (V2 : View) (H2 : Heap) (co : List Value), StIs (fun Z => [Z 0, .p 0 0, Z 2, .v (.slice (some ⟨go, 0, none⟩) R R), Z 4,Z 5,Z 6,Z 7,Z 8, .v (.int .i64 (R : Int)), .v (.int .i64 (i : Int)), Z 11,Z 12,Z 13,Z 14,Z 15,Z 16,Z 17,Z 18,Z 19,Z 20,Z 21,Z 22,Z 23,Z 24,Z 25,Z 26,Z 27,Z 28,Z 29,Z 30,Z 31]) [[.int .i64 (R : Int), .int .i64 (C : Int), .slice A l.length cp]] H2 V2 s ∧ q + i = R ∧ V.le V2 ∧ H2 go = some ⟨22, co, R⟩ ∧ R1At (optE Rats) V2 co (prt R (rowL l C) i)) R ⟨0, V, _, _, StIs.of (by exact rfl), by omega, View.le_refl _, upd_at _ _ _, by rw [prt_zero]; exact R1At.rep (u := .slice none 0 0) _ rfl trivial⟩ ?_
    clear hgo1 hgo2
    rintro q s ⟨i, V2, H2, co, hs, hq, hV2, hH, hrow⟩
    obtain ⟨z, rfl⟩ := hs.out
    try dsimp only
    clear hs
    by_cases hi : i < R
    rotate_left
    · obtain rfl : i = R := by omega
      have b1 : decide ((i : Int) < (i : Int)) = false := decide_eq_false (by omega)
      refine Gx.a (by kernel_rfl) fun K hK => ?_
      simp only [XA, XB, b1]
      refine hK _ ?_
      refine XWP.seq (Gx.f rfl ?_)
      refine XWP.exit ?_
      exact fun f => ⟨V2, H2, co, StIs.of (by exact rfl), hH, hrow.prt_all⟩
    have b1 : decide ((i : Int) < (R : Int)) = true := decide_eq_true (by omega)
    refine Gx.a (by kernel_rfl) fun K hK => ?_
    simp only [XA, XB, b1]
    refine hK _ ?_
    refine XWP.seq (Gx.t rfl ?_)
    refine XWP.skip ?_
    have w1 := wr_mul (i := i) (C := C) (by omega) (by omega)
    have w2 := wr_mul (i := i + 1) (C := C) (by omega) (by omega)
    have w3 := i64_succ i (by omega)
    have hle : i * C ≤ (i + 1) * C := Nat.mul_le_mul_right C (by omega)
    have hle2 : (i + 1) * C ≤ l.length := by rw [ll]; exact Nat.mul_le_mul_right C (by omega)
    have hsl : Rats V2 (sliceV A cp 3 (i * C) ((i + 1) * C)) (rowL l C i) := Rats.up (SlAt.drop (SlAt.take h hle2) (by rw [List.length_take, Nat.min_eq_left hle2]; exact hle)) hV2
    have hrl : (rowL l C i).length = C := row_len ll hi
    obtain ⟨cells, hcells, hsrc⟩ := SlAt.src hsl
    rw [hrl] at hsrc
    have hlr := hrow.1
    rw [prt_len] at hlr
    refine XWP.cutD 1 (fun s => ∃ (H3 : Heap) (v' : Value), StIs (fun Z => [Z 0, .p 0 0, Z 2, .v (.slice (some ⟨go, 0, none⟩) R R), Z 4,Z 5,Z 6,Z 7,Z 8, .v (.int .i64 (R : Int)), .v (.int .i64 (i : Int)), Z 11,Z 12,Z 13,Z 14,Z 15,Z 16,Z 17,Z 18,Z 19,Z 20,Z 21,Z 22,Z 23,Z 24,Z 25,Z 26,Z 27,Z 28,Z 29,Z 30,Z 31]) [[.int .i64 (R : Int), .int .i64 (C : Int), .slice A l.length cp]] H3 V2 s ∧ H3 go = some ⟨22, co.set i v', R⟩ ∧ Own H3 49 3 v' C cells ∧ v'.ownBlock ≠ some go) ?_ ?_
    · refine XWP.block ?_
      refine Gx.a (by kernel_rfl) fun K hK => ?_
      simp only [XA]
      refine hK _ ?_
      refine Gx.c (by kernel_rfl) fun K hK => ?_
      simp only [XA]
      refine bs_go (by kernel_rfl) #[] (by simp) (bs_zero elemT_22 zeroT_49) fun b hb1 hb2 => ?_
      simp only [XM, XA, XB, w1, w2, w3]
      refine ⟨by omega, by omega, by omega, ?_⟩
      have hne : go ≠ b := fun e => by rw [e] at hH; rw [show H2 b = none from hb1] at hH; cases hH
      have hgo3 : upd H2 b (some ⟨49, [], 0⟩) go = some ⟨22, co, R⟩ := (upd_off hne).trans hH
      refine ap_go elemT_22 (by kernel_rfl) zeroT_49 rfl (by omega) (own3 (n := 0) (cap := 0) (xs := []) (by simp only [upd_at]) rfl (Nat.le_refl _) (by omega)) (hsrc _) (by omega) (by omega) fun v' H' hres => ?_
      have hk2 := app_keep hres hgo3 (fun e => hne (by simpa [Value.ownBlock] using e.symm))
      have hon := hres.1
      rw [Nat.zero_add, List.nil_append] at hon
      obtain ⟨A', c', rfl⟩ := own_form hon
      simp only [XN, XA, XB]
      refine ⟨by omega, by omega, ?_⟩
      refine st_row shapeT_22 rfl rfl hk2.1 (by dsimp only; omega) ?_
      simp only [XA]
      exact hK _ fun f => ⟨_, .slice A' C c', StIs.of (by exact rfl), by simp only [upd_at], own_off hon hk2.2, hk2.2⟩
    rintro s ⟨H3, v', hs, hH3, hon, hne⟩
    obtain ⟨z, rfl⟩ := hs.out
    try dsimp only
    clear hs
    refine XWP.pubR ratE_ok hon hcells fun H4 V4 hV4 hs4 hk4 => ?_
    have hrow4 := (hrow.mono (optE_ok ratsE_ok) hV4).set i (by rw [prt_len]; exact hi) (x := some (rowL l C i)) (SlAt.one hs4) hs4
    rw [prt_step R (rowL l C) hi] at hrow4
    refine Gx.c (by kernel_rfl) fun K hK => ?_
    simp only [XA, XB, i64_succ i (by omega)]
    exact hK _ ⟨q - 1, by omega, fun f => ⟨i + 1, V4, H4, _, StIs.of (by exact rfl), by omega, View.le_trans hV2 hV4, (hk4 go hne).trans hH3, hrow4⟩⟩
  rintro s ⟨V2, H2, co, hs', hH, hrow⟩
  obtain ⟨z, rfl⟩ := hs'.out
  try dsimp only
  refine Gx.a (by kernel_rfl) fun K hK => ?_
  simp only [XA]
  refine hK _ (XWP.ret ?_)
  try simp only [thenX_ret, inBlockX_ret]
  refine ret_pub go _ hH fun o ho hle' => ret_go _ rfl ?_
  exact hrow.pub ratsE_ok ho hle' (by simp) (Nat.le_refl _) (by omega)
end Go.Proofs.YtkgmicakfmllmaaGreat
end
section
namespace Go.Proofs.YtkgmicakfmllmaaGreat
open Go Go.RowKit
set_option linter.unusedSimpArgs false
set_option linter.unusedVariables false
attribute [local irreducible] XWP Spec SpecO XPub XCall seqX clX apX stX ldX iaX slX
end Go.Proofs.YtkgmicakfmllmaaGreat
end
section
namespace Go.Proofs.YtkgmicakfmllmaaGreat
open Go Go.RowKit
set_option linter.unusedSimpArgs false
set_option linter.unusedVariables false
attribute [local irreducible] XWP Spec SpecO XPub XCall seqX clX apX stX ldX iaX slX
end Go.Proofs.YtkgmicakfmllmaaGreat
end
section
namespace Go.Proofs.YtkgmicakfmllmaaGreat
open Go Go.RowKit
set_option linter.unusedSimpArgs false
set_option linter.unusedVariables false
attribute [local irreducible] XWP Spec SpecO XPub XCall seqX clX apX stX ldX iaX slX
end Go.Proofs.YtkgmicakfmllmaaGreat
end
section
namespace Go.Proofs.YtkgmicakfmllmaaGreat
open Go Go.RowKit
set_option linter.unusedSimpArgs false
set_option linter.unusedVariables false
attribute [local irreducible] XWP Spec SpecO XPub XCall seqX clX apX stX ldX iaX slX
end Go.Proofs.YtkgmicakfmllmaaGreat
end
section
namespace Go.Proofs.YtkgmicakfmllmaaGreat
open Go Go.RowKit
set_option linter.unusedSimpArgs false
set_option linter.unusedVariables false
attribute [local irreducible] XWP Spec SpecO XPub XCall seqX clX apX stX ldX iaX slX
end Go.Proofs.YtkgmicakfmllmaaGreat
end
section
namespace Go.Proofs.YtkgmicakfmllmaaGreat
open Go Go.RowKit
set_option linter.unusedSimpArgs false
set_option linter.unusedVariables false
attribute [local irreducible] XWP Spec SpecO XPub XCall seqX clX apX stX ldX iaX slX
theorem stoB_bad {n : Nat} {L : List Raw} {i : Nat} (hi : i < n) (h : rowOk (qs L) n i = false) : stoB (n : Int) (n : Int) L = false := by
  unfold stoB
  have : (List.range (n : Int).toNat).all (rowOk (qs L) (n : Int).toNat) = false := by
    rw [Int.toNat_natCast, List.all_eq_false]
    exact ⟨i, List.mem_range.2 hi, by rw [h]; simp⟩
  rw [this, Bool.and_false]
set_option maxHeartbeats 4000000 in
theorem dsto_c (V : View) (s : Value) (r c : Int) (L : List Raw) (B : Nat) (h : Raws V s L) (f : fitR L) (ll : L.length ≤ 100000) (hq : ∀ x ∈ qs L, QB B x) (hB : 1001 * (B + 1) ≤ 17592186044416) :
    Spec Tryz.prog 24 [.agg #[.int .i64 r, .int .i64 c, s]] V fun v' V' => v' = .bool (stoB r c L) := by
  obtain ⟨A, cp, rfl, hc, hm⟩ := h.form
  refine (Spec.enter Tryz.func24 rfl fun Γ => ?_)
  simp only [Tryz.ntmps24, List.map_cons, List.map_nil, List.length_cons, List.length_nil, Nat.reduceAdd, Nat.reduceSub, List.replicate_succ, List.replicate_zero, List.cons_append, List.nil_append]
  refine Gx.a (by kernel_rfl) fun K hK => ?_
  simp only [XA]
  refine hK _ ?_
  refine XWP.seq ?_
  refine Gx.a (by kernel_rfl) fun K hK => ?_
  simp only [XM, XA, Nat.reduceAdd, Nat.reduceLeDiff, ↓reduceIte]
  refine call_go (by kernel_rfl) rfl (dmright_c _ _ _ _ L h f (by omega)) fun v1 V1 hV1 h1 => ?_
  subst h1
  cases e1 : matR r c L
  · simp only [XA, gateX, ↓reduceIte]
    refine hK _ ?_
    refine Gx.t rfl ?_
    refine Gx.a (by kernel_rfl) fun K hK => ?_
    simp only [XA]
    refine hK _ (XWP.ret ?_)
    try simp only [thenX_ret, inBlockX_ret]
    refine ret_go _ rfl ?_
    unfold stoB
    rw [e1]; rfl
  by_cases e2 : r = c
  rotate_left
  · have b1 : decide (r = c) = false := decide_eq_false e2
    simp only [XM, XA, XB, gateX, ↓reduceIte, beq_self_eq_true, b1]
    refine hK _ ?_
    refine Gx.t rfl ?_
    refine Gx.a (by kernel_rfl) fun K hK => ?_
    simp only [XA]
    refine hK _ (XWP.ret ?_)
    try simp only [thenX_ret, inBlockX_ret]
    refine ret_go _ rfl ?_
    unfold stoB
    rw [e1, b1]; rfl
  subst e2
  have hmat := e1
  unfold matR at e1
  rw [Bool.and_eq_true, decide_eq_true_eq] at e1
  obtain ⟨⟨k1, k2, _, _, k5⟩, ok⟩ := e1
  obtain ⟨n, rfl⟩ : ∃ n : Nat, r = n := ⟨r.toNat, by omega⟩
  have kl : L.length = n * n := by rw [← Int.natCast_mul] at k5; omega
  have hn : n ≤ 60 := by omega
  have hr := (Raws.rats h ok).up hV1
  have hlen := qs_len L
  have lln : (qs L).length = n * n := by omega
  simp only [XM, XA, XB, gateX, ↓reduceIte, beq_self_eq_true, decide_true]
  refine hK _ ?_
  refine Gx.f rfl ?_
  refine XWP.skip ?_
  refine XWP.cutD 1 (fun s => StIs (fun Z => [Z 0,Z 1,Z 2,Z 3,Z 4,Z 5,Z 6,Z 7,Z 8,Z 9,Z 10,Z 11,Z 12,Z 13,Z 14,Z 15,Z 16,Z 17,Z 18,Z 19,Z 20,Z 21,Z 22,Z 23,Z 24,Z 25,Z 26,Z 27,Z 28,Z 29,Z 30,Z 31,Z 32,Z 33,Z 34,Z 35,Z 36,Z 37,Z 38,Z 39]) [[.int .i64 (n : Int), .int .i64 (n : Int), .slice A L.length cp]] (fun _ => none) s.V s ∧ stoB (n : Int) (n : Int) L = true) ?_ ?_
  · refine Gx.a (by kernel_rfl) fun K hK => ?_
    simp only [XM, XA, Nat.reduceAdd, Nat.reduceLeDiff, ↓reduceIte]
    refine call_go (by kernel_rfl) rfl (drows_c _ _ n n (qs L) hr lln hn hn) fun v2 V2 hV2 h2 => ?_
    obtain ⟨A2, c2, rfl, hc2, hm2⟩ := h2.form
    have el : ((List.range n).map (rowL (qs L) n)).length = n := by simp
    rw [el] at h2 hc2 ⊢
    simp only [XN, XA]
    refine hK _ ?_
    clear hK
    refine XWP.block ?_
    refine XWP.loopD 1 (fun q s => ∃ (i : Nat) (V3 : View), StIs (fun Z => [Z 0, .p 0 0, Z 2,Z 3,Z 4,Z 5,Z 6,Z 7,Z 8,Z 9,Z 10,Z 11,Z 12,Z 13,Z 14,Z 15,Z 16,Z 17, .v (.slice A2 n c2), .v (.int .i64 (n : Int)), .v (.int .i64 (i : Int)), Z 21,Z 22,Z 23,Z 24,Z 25,Z 26,Z 27,Z 28,Z 29,Z 30,Z 31,Z 32,Z 33,Z 34,Z 35,Z 36,Z 37,Z 38,Z 39]) [[.int .i64 (n : Int), .int .i64 (n : Int), .slice A L.length cp]] (fun _ => none) V3 s ∧ q + i = n ∧ V2.le V3 ∧ (List.range i).all (rowOk (qs L) n) = true) n ⟨0, V2, StIs.of (by exact rfl), by omega, View.le_refl _, rfl⟩ ?_
    rintro q s ⟨i, V3, hs, hqi, hV3, hall⟩
    obtain ⟨z, rfl⟩ := hs.out
    try dsimp only
    clear hs
    by_cases hi : i < n
    rotate_left
    · obtain rfl : i = n := by omega
      have b1 : decide ((i : Int) < (i : Int)) = false := decide_eq_false (by omega)
      refine Gx.a (by kernel_rfl) fun K hK => ?_
      simp only [XA, XB, b1]
      refine hK _ ?_
      refine XWP.seq (Gx.f rfl ?_)
      refine XWP.exit ?_
      refine fun f => ⟨StIs.of (by exact rfl), ?_⟩
      unfold stoB
      rw [hmat, decide_eq_true rfl, Int.toNat_natCast, hall]; rfl
    have b1 : decide ((i : Int) < (n : Int)) = true := decide_eq_true (by omega)
    refine Gx.a (by kernel_rfl) fun K hK => ?_
    simp only [XA, XB, b1]
    refine hK _ ?_
    refine XWP.seq (Gx.t rfl ?_)
    refine XWP.skip ?_
    obtain ⟨bw, ow, rfl⟩ := h2.addr (by simp; omega)
    obtain ⟨u, g1, _, g2⟩ := Sl1.load (n := n) (h2.mono ratsE_ok hV3) i (by simp; omega)
    have eg : ((List.range n).map (rowL (qs L) n))[i]'(by simp; omega) = rowL (qs L) n i := by simp
    rw [eg] at g1
    have g3 := fun H => g2 H _ _ shapeT_22
    clear g2
    have hrl : (rowL (qs L) n i).length = n := row_len lln hi
    obtain ⟨A3, c3, rfl, hc3, hm3⟩ := SlAt.form g1
    rw [hrl] at g1 hc3 g3
    have hcf : ∀ k, k < n → cf (rowL (qs L) n i) k = cf (qs L) (i * n + k) := fun k hk => cf_row lln hi hk
    have hQr : ∀ x ∈ rowL (qs L) n i, QB B x := fun x hx => hq x (List.mem_of_mem_take (List.mem_of_mem_drop hx))
    generalize rowL (qs L) n i = R at *
    have g1 : Rats V3 (.slice A3 n c3) R := g1
    refine XWP.cutD 1 (fun s => ∃ (V4 : View), StIs (fun Z => [Z 0, .p 0 0, Z 2,Z 3,Z 4,Z 5,Z 6,Z 7,Z 8,Z 9,Z 10,Z 11,Z 12,Z 13,Z 14,Z 15,Z 16,Z 17, .v (.slice (some ⟨bw, ow, none⟩) n c2), .v (.int .i64 (n : Int)), .v (.int .i64 (i : Int)), Z 21,Z 22,Z 23,Z 24,Z 25,Z 26,Z 27,Z 28,Z 29,Z 30,Z 31,Z 32,Z 33,Z 34,Z 35,Z 36,Z 37,Z 38,Z 39]) [[.int .i64 (n : Int), .int .i64 (n : Int), .slice A L.length cp]] (fun _ => none) V4 s ∧ V3.le V4 ∧ rowOk (qs L) n i = true) ?_ ?_
    · refine XWP.block ?_
      refine Gx.a (by kernel_rfl) fun K hK => ?_
      simp only [XN, XA, XB]
      refine ⟨by omega, by omega, ?_⟩
      refine ld_mem (by simpa using g3 _) ?_
      simp only [XA]
      refine hK _ ?_
      refine XWP.cutD 1 (fun s => ∃ (V4 : View), StIs (fun Z => [Z 0, .p 0 0, Z 2,Z 3, .v (.slice A3 n c3), Z 5,Z 6,Z 7,Z 8,Z 9,Z 10,Z 11,Z 12,Z 13,Z 14,Z 15,Z 16,Z 17, .v (.slice (some ⟨bw, ow, none⟩) n c2), .v (.int .i64 (n : Int)), .v (.int .i64 (i : Int)), Z 21,Z 22,Z 23,Z 24,Z 25,Z 26,Z 27,Z 28,Z 29,Z 30,Z 31,Z 32,Z 33,Z 34,Z 35,Z 36,Z 37,Z 38,Z 39]) [[.int .i64 (n : Int), .int .i64 (n : Int), .slice A L.length cp]] (fun _ => none) V4 s ∧ V3.le V4 ∧ (List.range n).all (fun k => !ng (cf (qs L) (i * n + k))) = true) ?_ ?_
      · refine Gx.a (by kernel_rfl) fun K hK => ?_
        simp only [XA, XB]
        refine hK _ ?_
        clear hK
        refine XWP.block ?_
        refine XWP.loopD 1 (fun p s => ∃ (k : Nat) (V4 : View), StIs (fun Z => [Z 0, .p 0 0, Z 2,Z 3, .v (.slice A3 n c3), Z 5,Z 6,Z 7,Z 8,Z 9,Z 10,Z 11,Z 12,Z 13,Z 14,Z 15,Z 16,Z 17, .v (.slice (some ⟨bw, ow, none⟩) n c2), .v (.int .i64 (n : Int)), .v (.int .i64 (i : Int)), Z 21,Z 22,Z 23, .v (.slice A3 n c3), .v (.int .i64 (n : Int)), .v (.int .i64 (k : Int)), Z 27,Z 28,Z 29,Z 30,Z 31,Z 32,Z 33,Z 34,Z 35,Z 36,Z 37,Z 38,Z 39]) [[.int .i64 (n : Int), .int .i64 (n : Int), .slice A L.length cp]] (fun _ => none) V4 s ∧ p + k = n ∧ V3.le V4 ∧ (List.range k).all (fun k => !ng (cf (qs L) (i * n + k))) = true) n ⟨0, V3, StIs.of (by exact rfl), by omega, View.le_refl _, rfl⟩ ?_
        rintro p s ⟨k, V4, hs, hp, hV4, hk⟩
        obtain ⟨z, rfl⟩ := hs.out
        try dsimp only
        clear hs
        by_cases hkn : k < n
        rotate_left
        · obtain rfl : k = n := by omega
          have b3 : decide ((k : Int) < (k : Int)) = false := decide_eq_false (by omega)
          refine Gx.a (by kernel_rfl) fun K hK => ?_
          simp only [XA, XB, b3]
          refine hK _ ?_
          refine XWP.seq (Gx.f rfl ?_)
          refine XWP.exit ?_
          exact fun f => ⟨V4, StIs.of (by exact rfl), hV4, hk⟩
        have b3 : decide ((k : Int) < (n : Int)) = true := decide_eq_true (by omega)
        refine Gx.a (by kernel_rfl) fun K hK => ?_
        simp only [XA, XB, b3]
        refine hK _ ?_
        refine XWP.seq (Gx.t rfl ?_)
        refine XWP.skip ?_
        have hrow3 := g1.up hV4
        obtain ⟨bb, oo, rfl⟩ := SlAt.addr hrow3 (by omega)
        obtain ⟨m3, n3, d3, hx, ⟨p1, p2, p3⟩, hld⟩ := Rats.get hrow3 k (by omega)
        have qx : QF (cf (qs L) (i * n + k)) := by rw [← hcf k hkn]; exact (hQr _ (cf_mem (by omega))).qf (by omega)
        rw [hcf k hkn] at hx
        refine XWP.seq ?_
        refine XWP.block ?_
        refine Gx.a (by kernel_rfl) fun K hK => ?_
        simp only [XA, XB]
        refine ⟨by omega, by omega, ld_mem (hld _) ?_⟩
        simp only [XA, XB]
        refine st_rat rfl rfl p1 p2 p3 ?_
        simp only [XA]
        refine hK _ ?_
        have en := sgI_lt (cf (qs L) (i * n + k))
        refine Gx.a (by kernel_rfl) fun K hK => ?_
        simp only [XA, XB, Nat.reduceAdd, Nat.reduceLeDiff, ↓reduceIte]
        refine call_go (by kernel_rfl) rfl (psign_c _ _ _ (hx.toV qx)) fun v5 V5 hV5 h5 => ?_
        subst h5
        cases hng : ng (cf (qs L) (i * n + k))
        · rw [hng] at en
          simp only [XA, XB, en]
          refine hK _ ?_
          refine Gx.f rfl ?_
          refine XWP.skip ?_
          refine Gx.c (by kernel_rfl) fun K hK => ?_
          simp only [XA, XB, i64_succ k (by omega)]
          exact hK _ ⟨p - 1, by omega, fun f => ⟨k + 1, V5, StIs.of (by exact rfl), by omega, View.le_trans hV4 hV5, by rw [List.range_succ, List.all_append, hk]; simp [hng]⟩⟩
        · rw [hng] at en
          simp only [XA, XB, en]
          refine hK _ ?_
          refine Gx.t rfl ?_
          refine Gx.a (by kernel_rfl) fun K hK => ?_
          simp only [XA]
          refine hK _ (XWP.ret ?_)
          try simp only [thenX_ret, inBlockX_ret]
          refine ret_go _ rfl ?_
          have : rowOk (qs L) n i = false := by
            unfold rowOk
            have : ((List.range n).all fun k => !ng (cf (qs L) (i * n + k))) = false := by
              rw [List.all_eq_false]
              exact ⟨k, List.mem_range.2 hkn, by rw [hng]; simp⟩
            rw [this]; rfl
          rw [stoB_bad hi this]; rfl
      rintro s ⟨V4, hs, hV4, hall2⟩
      obtain ⟨z, rfl⟩ := hs.out
      try dsimp only
      clear hs
      have hrow4 := g1.up hV4
      refine Gx.a (by kernel_rfl) fun K hK => ?_
      simp only [XA]
      refine call_go (by kernel_rfl) rfl (psum_c _ _ _ B hrow4 hQr (by omega) hB) fun v5 V5 hV5 h5 => ?_
      rw [hrl] at h5
      have esum : sumL R n = Sm (fun k => cf (qs L) (i * n + k)) n := Sm_congr n fun k hk => hcf k hk
      have qsum : QF (sumL R n) := (sumL_QB hQr n (by omega)).qf (Nat.le_trans (Nat.mul_le_mul_right _ (show n ≤ 1001 by omega)) hB)
      simp only [XA]
      refine call_go (by kernel_rfl) rfl (pone_c _) fun v6 V6 hV6 h6 => ?_
      simp only [XA]
      refine call_go (by kernel_rfl) rfl (psame_c _ _ _ _ _ ((h5.mono hV6).toV qsum) (h6.toV QF_one) qsum QF_one) fun v7 V7 hV7 h7 => ?_
      subst h7
      rw [esum]
      have hle7 := View.le_trans hV4 (View.le_trans hV5 (View.le_trans hV6 hV7))
      by_cases hs1 : Sm (fun k => cf (qs L) (i * n + k)) n = 1
      · have b3 : decide (Sm (fun k => cf (qs L) (i * n + k)) n = 1) = true := decide_eq_true hs1
        simp only [XA, b3]
        refine hK _ ?_
        refine Gx.f rfl ?_
        refine XWP.skip ?_
        exact fun f => ⟨V7, StIs.of (by exact rfl), hle7, by unfold rowOk; rw [hall2, b3]; rfl⟩
      · have b3 : decide (Sm (fun k => cf (qs L) (i * n + k)) n = 1) = false := decide_eq_false hs1
        simp only [XA, b3]
        refine hK _ ?_
        refine Gx.t rfl ?_
        refine Gx.a (by kernel_rfl) fun K hK => ?_
        simp only [XA]
        refine hK _ (XWP.ret ?_)
        try simp only [thenX_ret, inBlockX_ret]
        refine ret_go _ rfl ?_
        have : rowOk (qs L) n i = false := by unfold rowOk; rw [b3, Bool.and_false]
        rw [stoB_bad hi this]; rfl
    rintro s ⟨V4, hs, hV4, hro⟩
    obtain ⟨z, rfl⟩ := hs.out
    try dsimp only
    refine Gx.c (by kernel_rfl) fun K hK => ?_
    simp only [XA, XB, i64_succ i (by omega)]
    exact hK _ ⟨q - 1, by omega, fun f => ⟨i + 1, V4, StIs.of (by exact rfl), by omega, View.le_trans hV3 hV4, by rw [List.range_succ, List.all_append, hall]; simp [hro]⟩⟩
  rintro s ⟨hs, e⟩
  obtain ⟨t, bx, H, V2⟩ := s
  obtain ⟨z, e3⟩ := hs.out
  cases e3
  try dsimp only
  refine Gx.a (by kernel_rfl) fun K hK => ?_
  simp only [XA]
  refine hK _ (XWP.ret ?_)
  try simp only [thenX_ret, inBlockX_ret]
  refine ret_go _ rfl ?_
  rw [e]; rfl
end Go.Proofs.YtkgmicakfmllmaaGreat
end
section
namespace Go.Proofs.YtkgmicakfmllmaaGreat
open Go Go.RowKit
set_option linter.unusedSimpArgs false
set_option linter.unusedVariables false
attribute [local irreducible] XWP Spec SpecO XPub XCall seqX clX apX stX ldX iaX slX
end Go.Proofs.YtkgmicakfmllmaaGreat
end
section
namespace Go.Proofs.YtkgmicakfmllmaaGreat
open Go Go.RowKit
set_option linter.unusedSimpArgs false
set_option linter.unusedVariables false
attribute [local irreducible] XWP Spec SpecO XPub XCall seqX clX apX stX ldX iaX slX
end Go.Proofs.YtkgmicakfmllmaaGreat
end
section
namespace Go.Proofs.YtkgmicakfmllmaaGreat
open Go Go.RowKit
set_option linter.unusedSimpArgs false
set_option linter.unusedVariables false
attribute [local irreducible] XWP Spec SpecO XPub XCall seqX clX apX stX ldX iaX slX
end Go.Proofs.YtkgmicakfmllmaaGreat
end
section
namespace Go.Proofs.YtkgmicakfmllmaaGreat
open Go Go.RowKit
set_option linter.unusedSimpArgs false
set_option linter.unusedVariables false
attribute [local irreducible] XWP Spec SpecO XPub XCall seqX clX apX stX ldX iaX slX
theorem dZero_o (V : View) (r c : Nat) (hr : r ≤ 60) (hc : c ≤ 60) : SpecO Tryz.prog 99 [.int .i64 (r : Int), .int .i64 (c : Int)] V fun v' V' o => ∃ sl cells, v' = .tuple #[.agg #[.int .i64 (r : Int), .int .i64 (c : Int), sl], .int .i64 0] ∧ Own (addRow (fun _ => none) o) 49 3 sl (r * c) cells ∧ RowAt ratE V' cells (mk (r * c) fun _ => 0) := by
  have b1 : decide ((r : Int) < 0) = false := decide_eq_false (by omega)
  have b2 : decide ((c : Int) < 0) = false := decide_eq_false (by omega)
  have b3 : decide ((60 : Int) < (r : Int)) = false := decide_eq_false (by omega)
  have b4 : decide ((60 : Int) < (c : Int)) = false := decide_eq_false (by omega)
  refine (SpecO.enter Tryz.func99 rfl fun Γ => ?_)
  simp only [Tryz.ntmps99, List.map_cons, List.map_nil, List.length_cons, List.length_nil, Nat.reduceAdd, Nat.reduceSub, List.replicate_succ, List.replicate_zero, List.cons_append, List.nil_append]
  refine Gx.a (by kernel_rfl) fun K hK => ?_
  simp only [XM, XA]
  refine hK _ ?_
  refine XWP.cut (fun s => StIs (fun Z => [.v (.int .i64 (r : Int)), .v (.int .i64 (c : Int)), Z 2,Z 3, .p 0 0, .v (.int .i64 0), Z 6,Z 7,Z 8,Z 9,Z 10,Z 11,Z 12,Z 13,Z 14,Z 15,Z 16,Z 17,Z 18,Z 19,Z 20,Z 21,Z 22,Z 23,Z 24]) [[.int .i64 0, .int .i64 0, .slice none 0 0]] (fun _ => none) V s ∧ True) ?_ ?_
  · refine XWP.block ?_
    refine XWP.seq ?_
    refine Gx.c (by kernel_rfl) fun K hK => ?_
    simp only [XA, XB, gateX, ↓reduceIte, beq_self_eq_true, b1, b2]
    refine hK _ ?_
    refine Gx.f rfl ?_
    refine Gx.a (by kernel_rfl) fun K hK => ?_
    simp only [XA, XB, gateX, ↓reduceIte, beq_self_eq_true, b3, b4]
    refine hK _ ?_
    refine Gx.f rfl ?_
    refine XWP.skip ?_
    exact ⟨StIs.of (by exact rfl), trivial⟩
  rintro s ⟨hs, _⟩
  obtain ⟨z, rfl⟩ := hs.out
  try dsimp only
  refine Gx.a (by kernel_rfl) fun K hK => ?_
  simp only [XA]
  refine call_own (by kernel_rfl) rfl (dzeros_o _ r c hr hc) fun v1 V1 o1 hV1 hs1 h1 => ?_
  obtain ⟨sl, cells, rfl, hown, hrow⟩ := h1
  have osl := own_isOne hown
  simp only [XA]
  refine st_mat shapeT_31 rfl rfl rfl rfl osl ?_
  simp only [XA]
  refine hK _ (XWP.ret ?_)
  try simp only [thenX_ret, inBlockX_ret]
  rcases own_parts hown with ⟨rfl, h0, rfl⟩ | ⟨g, cap, rfl, hg, hle, hcap, hcl⟩
  · refine ret_own _ none (by simp [resAll, resV, cellsV, shapeT_31]; rfl) (fun g' q e => by cases e) ⟨_, [], rfl, ⟨by rw [h0]; rfl, .inl ⟨rfl, h0⟩⟩, hrow⟩
  · refine ret_own _ (some (g, _)) (by simp [resAll, resV, cellsV, shapeT_31]; rfl) (fun g' q e => by cases e; exact hg) ⟨_, cells, rfl, own3 (show upd (fun _ => none) g (some _) g = some _ from upd_at _ _ _) hcl hle (by unfold maxLen at hcap; omega), hrow⟩
end Go.Proofs.YtkgmicakfmllmaaGreat
end
section
namespace Go.Proofs.YtkgmicakfmllmaaGreat
open Go Go.RowKit
set_option linter.unusedSimpArgs false
set_option linter.unusedVariables false
attribute [local irreducible] XWP Spec SpecO XPub XCall seqX clX apX stX ldX iaX slX
def fillF (f : Nat → Rat) (p0 : Nat) : Nat → Rat := fun p => if p < p0 then f p else 0
theorem fill_put {R : Nat} (f : Nat → Rat) {p : Nat} (hp : p < R) : (mk R (fillF f p)).set p (f p) = mk R (fillF f (p + 1)) := by
  rw [mk_put hp]
  refine mk_eq fun j _ => ?_
  unfold fillF
  by_cases e : j = p
  · rw [if_pos e, if_pos (by omega), e]
  · rw [if_neg e]
    by_cases h : j < p
    · rw [if_pos h, if_pos (by omega)]
    · rw [if_neg h, if_neg (by omega)]
theorem fill_none (R : Nat) (f : Nat → Rat) : (mk R fun _ => 0) = mk R (fillF f 0) := mk_eq fun j _ => by unfold fillF; rw [if_neg (by omega)]
theorem fill_all (R : Nat) (f : Nat → Rat) : mk R (fillF f R) = mk R f := mk_eq fun j hj => by unfold fillF; rw [if_pos hj]
end Go.Proofs.YtkgmicakfmllmaaGreat
end
section
namespace Go.Proofs.YtkgmicakfmllmaaGreat
set_option linter.unusedVariables false
def hf : Rat := 1 / 2
def pw : Nat → Rat
  | 0 => 1
  | k + 1 => pw k * hf
theorem hf_mk : hf = mkRat 1 2 := by decide +kernel
theorem pw_mk (k : Nat) : pw k = mkRat 1 (2 ^ k) := by
  induction k with
  | zero => decide +kernel
  | succ k ih => rw [pw, ih, hf_mk, Rat.mkRat_mul_mkRat, Nat.pow_succ]; rfl
theorem pw_over {n k : Nat} (h : k ≤ n) : Over (2 ^ n) n (pw k) := by
  refine ⟨((2 ^ (n - k) : Nat) : Int), ?_, ?_⟩
  · rw [Int.natAbs_natCast]; exact two_mono (by omega)
  · have e : 2 ^ n = 2 ^ k * 2 ^ (n - k) := by rw [← Nat.pow_add]; congr 1; omega
    have h2 : 2 ^ (n - k) ≠ 0 := by have := two_pos (n - k); omega
    rw [pw_mk, e]
    have := Rat.mkRat_mul_right (n := 1) (d := 2 ^ k) h2
    rw [Int.one_mul] at this
    exact this.symm
theorem pw_CB1 (n : Nat) : CB n [pw n] := by
  refine ⟨2 ^ n, two_pos n, Nat.le_refl _, fun i => ?_⟩
  cases i with
  | zero => exact pw_over (Nat.le_refl _)
  | succ i => rw [cf_none (by simp)]; exact Over.zero _ _
theorem hf_QB : QB 1 hf := by
  have := (pw_CB1 1).at 0
  have e : cf [pw 1] 0 = hf := by decide +kernel
  rw [e] at this; exact this
end Go.Proofs.YtkgmicakfmllmaaGreat
end
section
namespace Go.Proofs.YtkgmicakfmllmaaGreat
open Go Go.RowKit
set_option linter.unusedSimpArgs false
set_option linter.unusedVariables false
attribute [local irreducible] XWP Spec SpecO XPub XCall seqX clX apX stX ldX iaX slX
theorem dsize_c (V : View) (n : Nat) (hn : n < 4611686018427387904) : Spec Tryz.prog 64 [.int .i64 (n : Int)] V fun v' V' => ∃ w, v' = .tuple #[w, .bool false] ∧ NatC V' w n := by
  have b1 : decide ((n : Int) < 0) = false := decide_eq_false (by omega)
  have w1 : IntKind.u64.wrap (n : Int) = (n : Int) := w64_id (by omega) (by omega)
  refine (Spec.enter Tryz.func64 rfl fun Γ => ?_)
  simp only [Tryz.ntmps64, List.map_cons, List.map_nil, List.length_cons, List.length_nil, Nat.reduceAdd, Nat.reduceSub, List.replicate_succ, List.replicate_zero, List.cons_append, List.nil_append]
  refine Gx.a (by kernel_rfl) fun K hK => ?_
  simp only [XA]
  refine hK _ ?_
  refine XWP.seq ?_
  refine Gx.a (by kernel_rfl) fun K hK => ?_
  simp only [XA, XB, b1]
  refine hK _ ?_
  refine Gx.f rfl ?_
  refine XWP.skip ?_
  refine Gx.a (by kernel_rfl) fun K hK => ?_
  simp only [XA, XB, w1]
  refine call_go (by kernel_rfl) rfl (rof_c _ n (by omega)) fun v1 V1 hV1 h1 => ?_
  simp only [XA]
  refine hK _ (XWP.ret ?_)
  try simp only [thenX_ret, inBlockX_ret]
  refine ret_go _ rfl ?_
  exact ⟨_, rfl, h1⟩
theorem dmake_c (V : View) : Spec Tryz.prog 25 [.int .i64 1, .int .i64 2] V fun v' V' => ∃ w, v' = .tuple #[w, .int .i64 0] ∧ RatC V' w hf := by
  refine (Spec.enter Tryz.func25 rfl fun Γ => ?_)
  simp only [Tryz.ntmps25, List.map_cons, List.map_nil, List.length_cons, List.length_nil, Nat.reduceAdd, Nat.reduceSub, List.replicate_succ, List.replicate_zero, List.cons_append, List.nil_append]
  refine Gx.a (by kernel_rfl) fun K hK => ?_
  simp only [XA, XB]
  refine hK _ ?_
  refine Gx.a (by kernel_rfl) fun K hK => ?_
  simp only [XA]
  refine call_go (by kernel_rfl) rfl (dsize_c _ 1 (by omega)) fun v1 V1 hV1 h1 => ?_
  obtain ⟨w1, rfl, h1⟩ := h1
  simp only [XA]
  refine hK _ ?_
  refine Gx.a (by kernel_rfl) fun K hK => ?_
  simp only [XA]
  refine call_go (by kernel_rfl) rfl (dsize_c _ 2 (by omega)) fun v2 V2 hV2 h2 => ?_
  obtain ⟨w2, rfl, h2⟩ := h2
  simp only [XA]
  refine hK _ ?_
  refine Gx.a (by kernel_rfl) fun K hK => ?_
  simp only [XA, XB, beq_self_eq_true]
  refine call_go (by kernel_rfl) rfl (pof_c _ _ _ _ 1 2 (h1.mono hV2) h2 (Fit1.of_two (B := 1) (by decide) (by omega)) (Fit1.of_two (B := 1) (by decide) (by omega))) fun v3 V3 hV3 h3 => ?_
  obtain ⟨w3, rfl, r3⟩ := h3.2 (by omega)
  clear h3
  obtain ⟨x3, y3, rfl, o1, o2⟩ := r3.form
  simp only [XA]
  refine st_rat rfl rfl rfl o1 o2 ?_
  simp only [XA]
  refine hK _ (XWP.ret ?_)
  try simp only [thenX_ret, inBlockX_ret]
  refine ret_rat2 rfl rfl rfl rfl ⟨_, rfl, ?_⟩
  rw [show hf = rv false 1 2 by decide +kernel]
  exact r3
end Go.Proofs.YtkgmicakfmllmaaGreat
end
section
namespace Go.Proofs.YtkgmicakfmllmaaGreat
open Go Go.RowKit
set_option linter.unusedSimpArgs false
set_option linter.unusedVariables false
attribute [local irreducible] XWP Spec SpecO XPub XCall seqX clX apX stX ldX iaX slX
def swpL : List Rat := [0, 1, 1, 0]
theorem shutL_congr {w w' : Nat → Nat → Bool} {op : Nat → Bool} {n : Nat} (h : ∀ i k, i < n → k < n → w i k = w' i k) : shutL w op n = shutL w' op n := by
  have hr : ∀ x, x ∈ List.range n → x < n := fun x hx => List.mem_range.1 hx
  have e1 : ∀ i, i < n → (List.range n).filter (w i) = (List.range n).filter (w' i) := fun i hi => List.filter_congr fun k hk => h i k hi (hr k hk)
  have e2 : ∀ i, i < n → ((List.range n).all fun k => !w i k || (w k i && !op k && decide (i ≤ k))) = ((List.range n).all fun k => !w' i k || (w' k i && !op k && decide (i ≤ k))) := fun i hi => by
    rw [Bool.eq_iff_iff, List.all_eq_true, List.all_eq_true]
    exact ⟨fun g k hk => by rw [← h i k hi (hr k hk), ← h k i (hr k hk) hi]; exact g k hk, fun g k hk => by rw [h i k hi (hr k hk), h k i (hr k hk) hi]; exact g k hk⟩
  have gen : ∀ l : List Nat, (∀ x ∈ l, x < n) → (l.filterMap fun i => if ((List.range n).all fun k => !w i k || (w k i && !op k && decide (i ≤ k))) = true then some ((List.range n).filter (w i)) else none) = l.filterMap fun i => if ((List.range n).all fun k => !w' i k || (w' k i && !op k && decide (i ≤ k))) = true then some ((List.range n).filter (w' i)) else none := by
    intro l hl
    induction l with
    | nil => rfl
    | cons x l ih =>
      have hx := hl x (by simp)
      rw [List.filterMap_cons, List.filterMap_cons, e1 x hx, e2 x hx, ih fun y hy => hl y (by simp [hy])]
  exact gen _ hr
theorem swp_e : eM swpL 2 0 1 = true ∧ eM swpL 2 1 0 = true := by decide +kernel
theorem swp_w : ∀ i k, i < 2 → k < 2 → wR (eM swpL 2) 2 i k = true := fun i k hi hk => by
  rw [wR_iff]
  have h01 : Rch (fun a b => eM swpL 2 a b = true) 2 0 1 := .step (.refl (by omega)) (by omega) swp_e.1
  have h10 : Rch (fun a b => eM swpL 2 a b = true) 2 1 0 := .step (.refl (by omega)) (by omega) swp_e.2
  have : (i = 0 ∨ i = 1) ∧ (k = 0 ∨ k = 1) := by omega
  rcases this with ⟨rfl | rfl, rfl | rfl⟩
  · exact .refl (by omega)
  · exact h01
  · exact h10
  · exact .refl (by omega)
theorem swp_cls : clsL swpL 2 = [[0, 1]] := by
  unfold clsL
  rw [shutL_congr (w' := fun _ _ => true) swp_w]; rfl
theorem swp_sto : stoB 2 2 (swpL.map toRaw) = true := by
  unfold stoB
  rw [show matR 2 2 (swpL.map toRaw) = true from matR_rats (n := 2) (m := 2) rfl (by omega) (by omega), qs_toRaw]
  decide +kernel
theorem swp_law : lawC swpL 2 [0, 1] = [hf, hf] := by
  obtain ⟨n, h1, h2, _, _, _, hS⟩ := stoB_parts swp_sto
  obtain rfl : n = 2 := by omega
  rw [qs_toRaw] at hS
  have hc := cls_irr hS (C := [0, 1]) (by rw [swp_cls]; simp)
  have hX : LinG (lawG (subG (gridL swpL 2) [0, 1]) [0, 1].length) [0, 1].length [0, 1].length (oneB [0, 1].length) (fun _ => hf) := fun i hi => by
    have hi : i < 2 := hi
    have : i = 0 ∨ i = 1 := by omega
    rcases this with rfl | rfl
    · decide +kernel
    · decide +kernel
  have e := theX_eq (law_uni hc.sto hc.irr) hX
  unfold lawC
  rw [← scat_congr [0, 1].length e]
  decide +kernel
theorem swp_QB : ∀ x ∈ swpL, QB 2 x := by
  intro x hx
  simp only [swpL, List.mem_cons, List.not_mem_nil, or_false] at hx
  rcases hx with rfl | rfl | rfl | rfl
  · exact QB_zero 2
  · exact QB_one 2
  · exact QB_one 2
  · exact QB_zero 2
theorem hf2_law : lawB ([hf, hf].map toRaw) = true := by
  have h : wtB 2 ([hf, hf].map toRaw) = true := wtB_raw (n := 2) rfl fun j hj => by
    have : j = 0 ∨ j = 1 := by omega
    rcases this with rfl | rfl
    · decide +kernel
    · decide +kernel
  unfold wtB at h
  rw [Bool.and_eq_true] at h
  unfold lawB
  rw [h.2, qs_toRaw, Bool.true_and]
  decide +kernel
theorem swap34_c (V : View) : Spec Tryz.prog 59 [] V fun v' V' => ∃ w, v' = .agg #[.int .i64 2, .int .i64 2, w] ∧ Rats V' w swpL := by
  refine (Spec.enter Tryz.func59 rfl fun Γ => ?_)
  simp only [Tryz.ntmps59, List.map_nil, List.length_nil, Nat.reduceSub, List.replicate_succ, List.replicate_zero, List.nil_append]
  refine Gx.a (by kernel_rfl) fun K hK => ?_
  simp only [XM, XA]
  refine hK _ ?_
  refine Gx.a (by kernel_rfl) fun K hK => ?_
  simp only [XA]
  refine call_go (by kernel_rfl) rfl (pzero_c _) fun v1 V1 hV1 h1 => ?_
  simp only [XA]
  refine call_go (by kernel_rfl) rfl (pone_c _) fun v2 V2 hV2 h2 => ?_
  simp only [XA]
  refine call_go (by kernel_rfl) rfl (pone_c _) fun v3 V3 hV3 h3 => ?_
  simp only [XA]
  refine call_go (by kernel_rfl) rfl (pzero_c _) fun v4 V4 hV4 h4 => ?_
  have h1 := ((h1.mono hV2).mono hV3).mono hV4
  have h2 := (h2.mono hV3).mono hV4
  have h3 := h3.mono hV4
  obtain ⟨x1, y1, rfl, o1, q1⟩ := h1.form
  obtain ⟨x2, y2, rfl, o2, q2⟩ := h2.form
  obtain ⟨x3, y3, rfl, o3, q3⟩ := h3.form
  obtain ⟨x4, y4, rfl, o4, q4⟩ := h4.form
  simp only [XA]
  refine bs_go (by kernel_rfl) #[(0, .agg #[.bool (ng 0), x1, y1]), (1, .agg #[.bool (ng 1), x2, y2]), (2, .agg #[.bool (ng 1), x3, y3]), (3, .agg #[.bool (ng 0), x4, y4])] (by simp [ev_tmp, SV.val]) (bs_rat4 elemT_22) fun b hb1 hb2 => ?_
  simp only [XA, Nat.reduceAdd]
  refine bd_go (by kernel_rfl) #[(0, .int .i64 2), (1, .int .i64 2), (2, .slice (some ⟨b, 0, none⟩) 4 4)] (by simp [ev_tmp, ev_const, SV.val]) (bd_mtx3 rfl rfl rfl) ?_
  simp only [XA]
  refine st_mat shapeT_24 rfl rfl rfl rfl rfl ?_
  simp only [XA]
  have hrow := ((((RowAt.nil (E := ratE) V4).snoc (x := 0) (show isOne (.bool (ng 0)) = true from rfl) o1 q1 h1).snoc (x := 1) (show isOne (.bool (ng 1)) = true from rfl) o2 q2 h2).snoc (x := 1) (show isOne (.bool (ng 1)) = true from rfl) o3 q3 h3).snoc (x := 0) (show isOne (.bool (ng 0)) = true from rfl) o4 q4 h4
  simp only [List.nil_append, List.cons_append] at hrow
  refine hK _ (XWP.ret ?_)
  try simp only [thenX_ret, inBlockX_ret]
  refine ret_pub b ⟨49, [.bool (ng 0), x1, y1, .bool (ng 1), x2, y2, .bool (ng 1), x3, y3, .bool (ng 0), x4, y4], 12⟩ (by simp only [upd_at]) fun o ho hle => ret_go _ (by simp [resAll, resV, cellsV, shapeT_24]; rfl) ⟨_, rfl, ?_⟩
  exact hrow.pub ratE_ok ho hle (n := 4) (c := 4) rfl (Nat.le_refl _) (by omega)
attribute [local irreducible] swpL
theorem alive34_c (V : View) : Spec Tryz.prog 22 [] V fun v' V' => v' = .bool true := by
  have hl4 : (swpL.map toRaw).length = 4 := by rw [List.length_map]; with_unfolding_all rfl
  refine (Spec.enter Tryz.func22 rfl fun Γ => ?_)
  simp only [Tryz.ntmps22, List.map_nil, List.length_nil, Nat.reduceSub, List.replicate_succ, List.replicate_zero, List.nil_append]
  refine Gx.a (by kernel_rfl) fun K hK => ?_
  simp only [XA]
  refine hK _ ?_
  refine Gx.a (by kernel_rfl) fun K hK => ?_
  simp only [XA]
  refine call_go (by kernel_rfl) rfl (swap34_c _) fun v1 V1 hV1 h1 => ?_
  obtain ⟨w, rfl, hw⟩ := h1
  simp only [XA]
  refine call_go (by kernel_rfl) rfl (balone1_c _ _ 2 2 (swpL.map toRaw) 2 (Rats.raws hw) (fitR_toRaw fun x hx => (swp_QB x hx).qf (by omega)) (by omega) (fun _ => by rw [qs_toRaw]; exact swp_QB) (by omega) (fun _ => by decide)) fun v2 V2 hV2 h2 => ?_
  have h2 := (h2.2 swp_sto).2.2
  rw [qs_toRaw] at h2
  obtain ⟨w2, rfl, hw2⟩ := h2 [0, 1] swp_cls
  have hw2 : Rats V2 w2 [hf, hf] := by have e := swp_law; rw [← e]; exact hw2
  obtain ⟨A2, c2, rfl, q1, q2⟩ := SlAt.form hw2
  simp only [XA, Nat.reduceAdd]
  refine hK _ ?_
  refine Gx.a (by kernel_rfl) fun K hK => ?_
  simp only [XA]
  refine call_go (by kernel_rfl) rfl (dmake_c _) fun v3 V3 hV3 h3 => ?_
  obtain ⟨w3, rfl, h3⟩ := h3
  obtain ⟨x3, y3, rfl, o1, o2⟩ := h3.form
  simp only [XA, XB]
  refine st_rat rfl rfl rfl o1 o2 ?_
  simp only [XA]
  refine hK _ ?_
  have hw3 := hw2.up hV3
  obtain ⟨b, o, rfl⟩ := SlAt.addr hw3 (by simp)
  obtain ⟨m4, n4, d4, hx4, ⟨r1, r2, r3⟩, hld⟩ := Rats.get hw3 0 (by simp)
  have hx4 : RatC V3 (.agg #[m4, n4, d4]) hf := hx4
  have qh : QF hf := hf_QB.qf (by omega)
  (refine XWP.drw [0, 1, 2, 3, 4, 5, 6, 7, 8, 9, 10, 11, 12, 13, 14, 15, 16, 17, 18] (by kernel_rfl) (by kernel_rfl) (by kernel_rfl) fun K hK => ?_) <;> dsimp only [pickOps, List.getElem?_cons_zero, List.getElem?_cons_succ]
  have b2 : decide (((2 : Nat) : Int) = 2) = true := rfl
  simp only [XA, XB, gateX, Nat.reduceAdd, Nat.reduceLeDiff, Nat.reduceMul, ↓reduceIte, Int.reduceLE, b2]
  refine ⟨by omega, ?_⟩
  refine ld_mem (by simpa using hld _) ?_
  simp only [XA, XB, gateX, Nat.reduceAdd, Nat.reduceLeDiff, ↓reduceIte]
  refine call_go (by kernel_rfl) rfl (psame_c _ _ _ _ _ (hx4.toV qh) (h3.toV qh) qh qh) fun v5 V5 hV5 h5 => ?_
  subst h5
  simp only [XA, gateX, ↓reduceIte, beq_self_eq_true, decide_true, beq_self_eq_true]
  refine call_go (by kernel_rfl) rfl (blaw_c _ _ ([hf, hf].map toRaw) 1 (Rats.raws (hw3.up hV5)) (fitR_toRaw fun x hx => by (simp only [List.mem_cons, List.not_mem_nil, or_false, or_self] at hx; rw [hx]; exact qh)) (by simp) (fun _ => by rw [qs_toRaw]; exact fun x hx => by (simp only [List.mem_cons, List.not_mem_nil, or_false, or_self] at hx; rw [hx]; exact hf_QB)) (by omega)) fun v6 V6 hV6 h6 => ?_
  subst h6
  rw [hf2_law]
  simp only [XA, ↓reduceIte]
  refine hK _ (XWP.ret ?_)
  try simp only [thenX_ret, inBlockX_ret]
  refine ret_go _ rfl ?_
  rfl
end Go.Proofs.YtkgmicakfmllmaaGreat
end
section
namespace Go.Proofs.YtkgmicakfmllmaaGreat
open Go Go.RowKit
set_option linter.unusedSimpArgs false
set_option linter.unusedVariables false
attribute [local irreducible] XWP Spec SpecO XPub XCall seqX clX apX stX ldX iaX slX
theorem fineB_few {r c : Int} {M : List Raw} (h : fineB r c M = true) : r ≤ 8 ∧ c ≤ 8 ∧ M.length ≤ 70 ∧ fewR M := by
  unfold fineB at h
  rw [Bool.and_eq_true, Bool.and_eq_true, decide_eq_true_eq, decide_eq_true_eq] at h
  have := fewB_few h.2
  exact ⟨h.1.1, h.1.2, this.1, this.2⟩
end Go.Proofs.YtkgmicakfmllmaaGreat
end
section
namespace Go.Proofs.YtkgmicakfmllmaaGreat
open Go Go.RowKit
set_option linter.unusedSimpArgs false
set_option linter.unusedVariables false
attribute [local irreducible] XWP Spec SpecO XPub XCall seqX clX apX stX ldX iaX slX
end Go.Proofs.YtkgmicakfmllmaaGreat
end
section
namespace Go.Proofs.YtkgmicakfmllmaaGreat
open Go Go.RowKit
set_option linter.unusedSimpArgs false
set_option linter.unusedVariables false
attribute [local irreducible] XWP Spec SpecO XPub XCall seqX clX apX stX ldX iaX slX
end Go.Proofs.YtkgmicakfmllmaaGreat
end
section
namespace Go.Proofs.YtkgmicakfmllmaaGreat
open Go Go.RowKit
set_option linter.unusedSimpArgs false
set_option linter.unusedVariables false
attribute [local irreducible] XWP Spec SpecO XPub XCall seqX clX apX stX ldX iaX slX
theorem sgI_pos {q : Rat} (h : 0 ≤ q) : decide (0 < sgI q) = decide (q ≠ 0) := by
  unfold sgI
  have e := (ng_iff q).2 h
  rw [e]
  by_cases h0 : q = 0
  · rw [if_pos h0, h0]; rfl
  · rw [if_neg h0, decide_eq_true h0]; rfl
/-- an element of a row that is read -/
theorem sl1_at {α : Type} {E : El α} (hE : ElOk E) {V : View} {b o n c : Nat} {xs : List α} (h : Sl1 E V (.slice (some ⟨b, o, none⟩) n c) xs) {a : Nat} (ha : a < xs.length) : ∃ u, isOne u = true ∧ ∀ V', V.le V' → E V' u xs[a] ∧ ∀ H (t m : Nat), shapeT Tryz.prog t = some (false, m) → Loads Tryz.prog H V' t b (o + a) u := by
  obtain ⟨A', c', e', _, _, h3⟩ := h
  cases e'
  rcases h3 with rfl | ⟨b', o', arr, ty, fr, e1, e2, h4⟩
  · simp at ha
  · cases e1
    obtain ⟨u, g1, g2, g3⟩ := h4 a xs[a] (List.getElem?_eq_getElem ha)
    exact ⟨u, g2, fun V' hV => ⟨hE _ _ _ _ hV g3, fun H t m ht => ⟨false, m, ht, .inr ⟨rfl, .inr ⟨arr, ty, fr, hV _ _ e2, g1⟩⟩⟩⟩⟩
end Go.Proofs.YtkgmicakfmllmaaGreat
end
section
namespace Go.Proofs.YtkgmicakfmllmaaGreat
set_option linter.unusedVariables false
structure PassI (e : Nat → Nat → Bool) (n i c0 : Nat) (r : Nat → Bool) (more : Bool) (a b : Nat) : Prop where
  lt : i < n
  root : r i = true
  sound : ∀ k, k < n → r k = true → Rch (fun a b => e a b = true) n i k
  clos : more = false → ∀ a' b', a' < n → b' < n → (a' < a ∨ (a' = a ∧ b' < b)) → r a' = true → e a' b' = true → r b' = true
  cnt : cntF r n + (if more = true then 1 else 0) ≤ c0
theorem PassI.start (e : Nat → Nat → Bool) {n i : Nat} (hi : i < n) : PassI e n i (cntF (bset (fun _ => false) i) n) (bset (fun _ => false) i) false 0 0 := by
  have h := DfsI.start e hi
  exact ⟨hi, h.root, h.sound, fun _ a' b' _ _ h => by omega, by simp⟩
theorem PassI.again {e : Nat → Nat → Bool} {n i c0 a b : Nat} {r : Nat → Bool} {m : Bool} (h : PassI e n i c0 r m a b) : PassI e n i (cntF r n) r false 0 0 :=
  ⟨h.lt, h.root, h.sound, fun _ a' b' _ _ h => by omega, by simp⟩
theorem PassI.skip {e : Nat → Nat → Bool} {n i c0 a b : Nat} {r : Nat → Bool} {m : Bool} (h : PassI e n i c0 r m a b) (hs : r a = true → r b = false → e a b = false) : PassI e n i c0 r m a (b + 1) :=
  ⟨h.lt, h.root, h.sound, fun hm a' b' ha hb hp hr he => by
    rcases hp with hp | ⟨rfl, hp⟩
    · exact h.clos hm a' b' ha hb (.inl hp) hr he
    · by_cases e1 : b' = b
      · subst e1
        cases e2 : r b'
        · rw [hs hr e2] at he; cases he
        · rfl
      · exact h.clos hm a' b' ha hb (.inr ⟨rfl, by omega⟩) hr he, h.cnt⟩
theorem PassI.put {e : Nat → Nat → Bool} {n i c0 a b : Nat} {r : Nat → Bool} {m : Bool} (h : PassI e n i c0 r m a b) (ha : a < n) (hb : b < n) (h1 : r a = true) (h2 : r b = false) (h3 : e a b = true) : PassI e n i c0 (bset r b) true a (b + 1) := by
  have up : ∀ j, r j = true → bset r b j = true := fun j hj => by unfold bset; split <;> simp_all
  refine ⟨h.lt, up _ h.root, fun k hk hr => ?_, fun hm => (by cases hm), ?_⟩
  · unfold bset at hr
    split at hr
    · rename_i e1; subst e1; exact .step (h.sound a ha h1) hk h3
    · exact h.sound k hk hr
  · have c1 := cntF_set hb h2
    have c2 := h.cnt
    rw [if_pos rfl]
    split at c2 <;> omega
theorem PassI.row {e : Nat → Nat → Bool} {n i c0 a : Nat} {r : Nat → Bool} {m : Bool} (h : PassI e n i c0 r m a n) : PassI e n i c0 r m (a + 1) 0 :=
  ⟨h.lt, h.root, h.sound, fun hm a' b' ha hb hp => h.clos hm a' b' ha hb (by omega), h.cnt⟩
theorem PassI.all {e : Nat → Nat → Bool} {n i c0 : Nat} {r : Nat → Bool} (h : PassI e n i c0 r false n 0) : ∀ k, k < n → (r k = true ↔ Rch (fun a b => e a b = true) n i k) := fun k hk =>
  ⟨h.sound k hk, fun hr => (Rch.sub (S := fun k => k < n ∧ r k = true) ⟨h.lt, h.root⟩ (fun a b ha hb hab => ⟨hb, h.clos rfl a b ha.1 hb (.inl ha.1) ha.2 hab⟩) hr).2⟩
/-- elimination under way: the columns before k are unit columns -/
structure UnitG (G0 G : Grid) (n k : Nat) : Prop where
  unit : ∀ c, c < k → ∀ i, i < n → G i c = if i = c then 1 else 0
  req : REq G0 G n n
theorem UnitG.zero (G : Grid) (n : Nat) : UnitG G G n 0 := ⟨fun c hc => by omega, REq.refl _ _ _⟩
/-- a column that has no pivot -/
theorem UnitG.pivot {G0 G : Grid} {n k : Nat} (h : UnitG G0 G n k) (hu : UniG G0 n n) (hk : k < n) (hz : ∀ i, k ≤ i → i < n → G i k = 0) : False := by
  have hG := (UniG.req h.req).2 hu
  have hx : LinG G n n (fun _ => 0) (fun j => if j < k then -G j k else if j = k then 1 else 0) := fun i hi => by
    have hs : ∀ m, m ≤ k → Sm (fun j => G i j * (if j < k then -G j k else if j = k then 1 else 0)) m = if i < m then -G i k else 0 := by
      intro m
      induction m with
      | zero => intro _; rfl
      | succ m ih =>
        intro hm
        show Sm (fun j => G i j * (if j < k then -G j k else if j = k then 1 else 0)) m + G i m * (if m < k then -G m k else if m = k then 1 else 0) = _
        rw [ih (by omega), h.unit m (by omega) i hi, if_pos (show m < k by omega)]
        by_cases e1 : i = m
        · subst e1
          rw [if_neg (by omega), if_pos rfl, if_pos (by omega)]; grind
        · by_cases e2 : i < m
          · rw [if_pos e2, if_neg e1, if_pos (by omega)]; grind
          · rw [if_neg e2, if_neg e1, if_neg (by omega)]; grind
    show Sm (fun j => G i j * (if j < k then -G j k else if j = k then 1 else 0)) n = 0
    rw [Sm_more (show k + 1 ≤ n by omega) (fun j h1 h2 => by rw [if_neg (show ¬ j < k by omega), if_neg (show ¬ j = k by omega), Rat.mul_zero])]
    show Sm (fun j => G i j * (if j < k then -G j k else if j = k then 1 else 0)) k + G i k * (if k < k then -G k k else if k = k then 1 else 0) = 0
    rw [hs k (Nat.le_refl _), if_neg (show ¬ k < k by omega), if_pos (show k = k from rfl), Rat.mul_one]
    by_cases e1 : i < k
    · rw [if_pos e1]; grind
    · rw [if_neg e1, hz i (by omega) hi]; grind
  have := hG _ hx k hk
  rw [if_neg (show ¬ k < k by omega), if_pos (show k = k from rfl)] at this
  exact absurd this (by decide)
theorem UnitG.step {G0 G : Grid} {n k p : Nat} (h : UnitG G0 G n k) (hk : k < n) (h1 : k ≤ p) (h2 : p < n) (hd : G p k ≠ 0) : UnitG G0 (gcol (gsw G p k) k k) n (k + 1) := by
  have et : swp p k k = p := by unfold swp; split <;> (try split) <;> omega
  have e0 : gsw G p k k k = G p k := by unfold gsw; rw [et]
  refine ⟨fun c hc i hi => ?_, h.req.trans ((REq.swap G h2 hk).trans (REq.gcol _ hk (by rw [e0]; exact hd)))⟩
  by_cases e1 : c = k
  · subst e1
    unfold gcol
    by_cases e2 : i = c
    · rw [if_pos e2, if_pos e2]
      rw [e0, Rat.div_def, Rat.mul_inv_cancel _ hd]
    · rw [if_neg e2, if_neg e2, e0, Rat.div_def, Rat.mul_inv_cancel _ hd]; grind
  · have hc' : c < k := by omega
    have hu : ∀ i, i < n → gsw G p k i c = if i = c then 1 else 0 := fun i hi => by
      unfold gsw
      rw [h.unit c hc' _ (swp_lt h2 hk hi)]
      unfold swp
      split
      · rename_i e; subst e; rw [if_neg (by omega), if_neg (by omega)]
      · split
        · rename_i e; subst e; rw [if_neg (by omega), if_neg (by omega)]
        · rfl
    unfold gcol
    rw [hu k hk, if_neg (show ¬ k = c by omega), hu i hi]
    by_cases e2 : i = k
    · rw [if_pos e2, if_neg (by omega)]; grind
    · rw [if_neg e2]; grind
theorem UnitG.sol {G0 G : Grid} {n c : Nat} (h : UnitG G0 G n n) : LinG G0 n n (fun i => G0 i c) (fun i => G i c) := by
  refine (h.req.col c _).1 fun i hi => ?_
  rw [Sm_one hi fun j hj hne => by rw [h.unit j hj i hi, if_neg (fun e => hne e.symm), Rat.zero_mul], h.unit i hi i hi, if_pos rfl, Rat.one_mul]
end Go.Proofs.YtkgmicakfmllmaaGreat
end
section
namespace Go.Proofs.YtkgmicakfmllmaaGreat
open Go Go.RowKit
set_option linter.unusedSimpArgs false
set_option linter.unusedVariables false
attribute [local irreducible] XWP Spec SpecO XPub XCall seqX clX apX stX ldX iaX slX
set_option maxHeartbeats 4000000 in
theorem dreach_c (V : View) (s : Value) (n B : Nat) (l : List Rat) (h : Rats V s l) (ll : l.length = n * n) (hn : n ≤ 60) (hS : StoG (gridL l n) n) (ql : ∀ x ∈ l, QB B x) (hB : B ≤ 17592186044416) :
    Spec Tryz.prog 122 [.agg #[.int .i64 (n : Int), .int .i64 (n : Int), s]] V fun v' V' => Sl1 (Sl1 booE) V' v' (mkB n (wR (eM l n) n)) := by
  obtain ⟨A, c, rfl, hc, hm⟩ := h.form
  have hnn : n * n ≤ 3600 := Nat.le_trans (Nat.mul_le_mul hn hn) (by decide)
  refine (Spec.enter Tryz.func122 rfl fun Γ => ?_)
  simp only [Tryz.ntmps122, List.map_cons, List.map_nil, List.length_cons, List.length_nil, Nat.reduceAdd, Nat.reduceSub, List.replicate_succ, List.replicate_zero, List.cons_append, List.nil_append]
  refine Gx.a (by kernel_rfl) fun K hK => ?_
  simp only [XA]
  refine hK _ ?_
  refine Gx.a (by kernel_rfl) fun K hK => ?_
  simp only [XM, XA, XB]
  refine mk_go rfl rfl elemT_138 zeroT_117 (by omega) (by omega) (by omega) (by omega) rfl (by omega) fun b3 hb1 hb2 => ?_
  simp only [XA, flat_one]
  refine hK _ ?_
  refine XWP.cutD 1 (fun s => ∃ (V2 : View) (H2 : Heap) (outs : List Value), StIs (fun Z => [Z 0,Z 1,Z 2, .v (.slice (some ⟨b3, 0, none⟩) n n), Z 4,Z 5,Z 6,Z 7,Z 8,Z 9,Z 10,Z 11,Z 12,Z 13,Z 14,Z 15,Z 16,Z 17,Z 18,Z 19,Z 20,Z 21,Z 22,Z 23,Z 24,Z 25,Z 26,Z 27,Z 28,Z 29,Z 30,Z 31,Z 32,Z 33,Z 34,Z 35,Z 36,Z 37,Z 38,Z 39,Z 40,Z 41,Z 42,Z 43,Z 44,Z 45,Z 46,Z 47,Z 48,Z 49,Z 50,Z 51,Z 52,Z 53,Z 54,Z 55,Z 56,Z 57,Z 58,Z 59,Z 60,Z 61,Z 62,Z 63,Z 64,Z 65,Z 66,Z 67,Z 68,Z 69,Z 70,Z 71,Z 72,Z 73,Z 74,Z 75,Z 76,Z 77,Z 78,Z 79]) [[.int .i64 (n : Int), .int .i64 (n : Int), .slice A l.length c]] H2 V2 s ∧ H2 b3 = some ⟨117, outs, n⟩ ∧ outs.length = n ∧ ∀ j, j < n → ∃ v, outs[j]? = some v ∧ Sl1 booE V2 v ((List.range n).map (wR (eM l n) n j))) ?_ ?_
  · refine Gx.a (by kernel_rfl) fun K hK => ?_
    simp only [XN, XA]
    refine hK _ ?_
    clear hK
    refine XWP.block ?_
    refine XWP.loopD 1 (fun q s => ∃ (i : Nat) (V2 : View) (H2 : Heap) (outs : List Value), StIs (fun Z => [Z 0, .p 0 0, Z 2, .v (.slice (some ⟨b3, 0, none⟩) n n), Z 4,Z 5,Z 6,Z 7,Z 8,Z 9,Z 10,Z 11, .v (.int .i64 (n : Int)), .v (.int .i64 (i : Int)), Z 14,Z 15,Z 16,Z 17,Z 18,Z 19,Z 20,Z 21,Z 22,Z 23,Z 24,Z 25,Z 26,Z 27,Z 28,Z 29,Z 30,Z 31,Z 32,Z 33,Z 34,Z 35,Z 36,Z 37,Z 38,Z 39,Z 40,Z 41,Z 42,Z 43,Z 44,Z 45,Z 46,Z 47,Z 48,Z 49,Z 50,Z 51,Z 52,Z 53,Z 54,Z 55,Z 56,Z 57,Z 58,Z 59,Z 60,Z 61,Z 62,Z 63,Z 64,Z 65,Z 66,Z 67,Z 68,Z 69,Z 70,Z 71,Z 72,Z 73,Z 74,Z 75,Z 76,Z 77,Z 78,Z 79]) [[.int .i64 (n : Int), .int .i64 (n : Int), .slice A l.length c]] H2 V2 s ∧ q + i = n ∧ V.le V2 ∧ H2 b3 = some ⟨117, outs, n⟩ ∧ outs.length = n ∧ ∀ j, j < i → ∃ v, outs[j]? = some v ∧ Sl1 booE V2 v ((List.range n).map (wR (eM l n) n j))) n ⟨0, V, _, _, StIs.of (by exact rfl), by omega, View.le_refl _, upd_at _ _ _, List.length_replicate, fun j hj => by omega⟩ ?_
    rintro q s ⟨i, V2, H2, outs, hs, hq, hV2, hH, hol, hout⟩
    obtain ⟨z, rfl⟩ := hs.out
    try dsimp only
    clear hs
    by_cases hi : i < n
    rotate_left
    · obtain rfl : i = n := by omega
      have b1 : decide ((i : Int) < (i : Int)) = false := decide_eq_false (by omega)
      refine Gx.a (by kernel_rfl) fun K hK => ?_
      simp only [XA, XB, b1]
      refine hK _ ?_
      refine XWP.seq (Gx.f rfl ?_)
      refine XWP.exit ?_
      exact fun f => ⟨V2, H2, outs, StIs.of (by exact rfl), hH, hol, hout⟩
    have b1 : decide ((i : Int) < (n : Int)) = true := decide_eq_true (by omega)
    refine Gx.a (by kernel_rfl) fun K hK => ?_
    simp only [XA, XB, b1]
    refine hK _ ?_
    refine XWP.seq (Gx.t rfl ?_)
    refine XWP.skip ?_
    refine XWP.cutD 1 (fun s => ∃ (V3 : View) (H3 : Heap) (outs : List Value) (bi : Nat) (r : Nat → Bool), StIs (fun Z => [Z 0, .p 0 0, Z 2, .v (.slice (some ⟨b3, 0, none⟩) n n), Z 4,Z 5,Z 6,Z 7,Z 8,Z 9,Z 10,Z 11, .v (.int .i64 (n : Int)), .v (.int .i64 (i : Int)), Z 14,Z 15,Z 16,Z 17,Z 18,Z 19,Z 20,Z 21,Z 22,Z 23,Z 24,Z 25,Z 26,Z 27,Z 28,Z 29,Z 30,Z 31,Z 32,Z 33,Z 34,Z 35,Z 36,Z 37,Z 38,Z 39,Z 40,Z 41,Z 42,Z 43,Z 44,Z 45,Z 46,Z 47,Z 48,Z 49,Z 50,Z 51,Z 52,Z 53,Z 54,Z 55,Z 56,Z 57,Z 58,Z 59,Z 60,Z 61,Z 62,Z 63,Z 64,Z 65,Z 66,Z 67,Z 68,Z 69,Z 70,Z 71,Z 72,Z 73,Z 74,Z 75,Z 76,Z 77,Z 78,Z 79]) [[.int .i64 (n : Int), .int .i64 (n : Int), .slice A l.length c]] H3 V3 s ∧ V2.le V3 ∧ H3 b3 = some ⟨117, outs, n⟩ ∧ outs.length = n ∧ (∀ j, j < i → ∃ v, outs[j]? = some v ∧ Sl1 booE V3 v ((List.range n).map (wR (eM l n) n j))) ∧ outs[i]? = some (.slice (some ⟨bi, 0, none⟩) n n) ∧ H3 bi = some ⟨4, bvs n r, n⟩ ∧ ∀ k, k < n → r k = wR (eM l n) n i k) ?_ ?_
    · refine XWP.block ?_
      refine Gx.a (by kernel_rfl) fun K hK => ?_
      simp only [XA]
      refine hK _ ?_
      refine Gx.a (by kernel_rfl) fun K hK => ?_
      simp only [XM, XA, XB]
      refine mk_go rfl rfl elemT_117 zeroT_4 (by omega) (by omega) (by omega) (by omega) rfl (by omega) fun bi hbi1 hbi2 => ?_
      have n3i := new_ne hbi1 hH
      simp only [XN, XA, bvs_none]
      refine ⟨by omega, by omega, ?_⟩
      refine st_row shapeT_117 rfl rfl ((upd_off n3i).trans hH) (by dsimp only; omega) ?_
      simp only [XA]
      refine hK _ ?_
      have hg1 : (outs.set i (.slice (some ⟨bi, 0, none⟩) n n))[i]? = some (.slice (some ⟨bi, 0, none⟩) n n) := List.getElem?_set_self (by omega)
      refine Gx.a (by kernel_rfl) fun K hK => ?_
      simp only [XN, XA]
      refine ⟨by omega, by omega, ?_⟩
      refine ld_mem (ldH1 (upd_at _ _ _) hg1 shapeT_117) ?_
      simp only [XN, XA, XB]
      refine ⟨by omega, by omega, ?_⟩
      refine st_row shapeT_4 rfl rfl ((upd_off (Ne.symm n3i)).trans (upd_at _ _ _)) (by dsimp only; rw [bvs_len]; omega) ?_
      simp only [XA, bvs_set]
      refine hK _ ?_
      have f3 : upd (upd (upd H2 bi (some ⟨4, bvs n fun _ => false, n⟩)) b3 (some ⟨117, outs.set i (.slice (some ⟨bi, 0, none⟩) n n), n⟩)) bi (some ⟨4, bvs n (bset (fun _ => false) i), n⟩) b3 = some ⟨117, outs.set i (.slice (some ⟨bi, 0, none⟩) n n), n⟩ := (upd_off n3i).trans (upd_at _ _ _)
      have fi : upd (upd (upd H2 bi (some ⟨4, bvs n fun _ => false, n⟩)) b3 (some ⟨117, outs.set i (.slice (some ⟨bi, 0, none⟩) n n), n⟩)) bi (some ⟨4, bvs n (bset (fun _ => false) i), n⟩) bi = some ⟨4, bvs n (bset (fun _ => false) i), n⟩ := upd_at _ _ _
      generalize upd (upd (upd H2 bi _) b3 _) bi _ = H4 at *
      have hout2 : ∀ j, j < i → ∃ v, (outs.set i (.slice (some ⟨bi, 0, none⟩) n n))[j]? = some v ∧ Sl1 booE V2 v ((List.range n).map (wR (eM l n) n j)) := fun j hj => by
        rw [List.getElem?_set_ne (by omega)]; exact hout j hj
      have hol2 : (outs.set i (.slice (some ⟨bi, 0, none⟩) n n)).length = n := by rw [List.length_set]; exact hol
      generalize outs.set i (.slice (some ⟨bi, 0, none⟩) n n) = outs2 at *
      clear hbi1 hbi2 hH hol hout
      have hP0 := PassI.start (eM l n) hi
      generalize bset (fun _ => false) i = r0 at *
      refine Gx.a (by kernel_rfl) fun K hK => ?_
      simp only [XA]
      refine hK _ ?_
      refine XWP.block ?_
      refine XWP.loopD 1 (fun m s => ∃ (V4 : View) (H4 : Heap) (r : Nat → Bool) (more mf : Bool) (c0 a b : Nat), StIs (fun Z => [Z 0, .p 0 0, Z 2, .v (.slice (some ⟨b3, 0, none⟩) n n), .v (.int .i64 (i : Int)), .v (.bool more), Z 6,Z 7,Z 8,Z 9,Z 10,Z 11, .v (.int .i64 (n : Int)), .v (.int .i64 (i : Int)), Z 14,Z 15,Z 16,Z 17,Z 18,Z 19,Z 20,Z 21,Z 22,Z 23,Z 24,Z 25,Z 26,Z 27,Z 28,Z 29,Z 30,Z 31,Z 32,Z 33,Z 34,Z 35,Z 36,Z 37,Z 38,Z 39,Z 40,Z 41,Z 42,Z 43,Z 44,Z 45,Z 46,Z 47,Z 48,Z 49,Z 50,Z 51,Z 52,Z 53,Z 54,Z 55,Z 56,Z 57,Z 58,Z 59,Z 60,Z 61,Z 62,Z 63,Z 64,Z 65,Z 66,Z 67,Z 68,Z 69,Z 70,Z 71,Z 72,Z 73,Z 74,Z 75,Z 76,Z 77,Z 78,Z 79]) [[.int .i64 (n : Int), .int .i64 (n : Int), .slice A l.length c]] H4 V4 s ∧ (more = true → cntF r n + 1 ≤ m) ∧ V2.le V4 ∧ H4 b3 = some ⟨117, outs2, n⟩ ∧ H4 bi = some ⟨4, bvs n r, n⟩ ∧ PassI (eM l n) n i c0 r mf a b ∧ (more = false → mf = false ∧ a = n ∧ b = 0)) (cntF r0 n + 1) ⟨V2, H4, r0, true, false, _, 0, 0, StIs.of (by exact rfl), fun _ => Nat.le_refl _, View.le_refl _, f3, fi, hP0, fun h => by cases h⟩ ?_
      clear f3 fi hP0
      rintro m s ⟨V4, H4, r, more, mf, c0, a0, b0, hs, hm, hV4, f3, fi, hI, hfin⟩
      obtain ⟨z, rfl⟩ := hs.out
      try dsimp only
      clear hs
      refine XWP.seq ?_
      cases more
      · obtain ⟨q1, q2, q3⟩ := hfin rfl
        rw [q1, q2, q3] at hI
        refine Gx.a (by kernel_rfl) fun K hK => ?_
        simp only [XA]
        refine hK _ ?_
        refine Gx.f rfl ?_
        refine XWP.exit ?_
        exact fun f => ⟨V4, H4, outs2, bi, r, StIs.of (by exact rfl), hV4, f3, hol2, fun j hj => by obtain ⟨v, h1, h2⟩ := hout2 j hj; exact ⟨v, h1, h2.mono booE_ok hV4⟩, hg1, fi, fun k hk => by
          have := hI.all k hk
          rw [← wR_iff] at this
          cases h1 : r k <;> cases h2 : wR (eM l n) n i k <;> simp_all⟩
      have hm := hm rfl
      have hI := hI.again
      clear hfin
      refine Gx.a (by kernel_rfl) fun K hK => ?_
      simp only [XA]
      refine hK _ ?_
      refine Gx.t rfl ?_
      refine XWP.skip ?_
      refine XWP.block ?_
      refine Gx.a (by kernel_rfl) fun K hK => ?_
      simp only [XA]
      refine hK _ ?_
      refine Gx.a (by kernel_rfl) fun K hK => ?_
      simp only [XN, XA]
      refine hK _ ?_
      clear hK
      refine XWP.block ?_
      refine XWP.loopD 1 (fun p s => ∃ (a : Nat) (V5 : View) (H5 : Heap) (r2 : Nat → Bool) (mf : Bool), StIs (fun Z => [Z 0, .p 0 0, Z 2, .v (.slice (some ⟨b3, 0, none⟩) n n), .v (.int .i64 (i : Int)), .v (.bool mf), Z 6,Z 7,Z 8,Z 9,Z 10,Z 11, .v (.int .i64 (n : Int)), .v (.int .i64 (i : Int)), Z 14,Z 15,Z 16,Z 17,Z 18,Z 19,Z 20,Z 21,Z 22,Z 23,Z 24,Z 25,Z 26,Z 27,Z 28,Z 29, .v (.int .i64 (n : Int)), .v (.int .i64 (a : Int)), Z 32,Z 33,Z 34,Z 35,Z 36,Z 37,Z 38,Z 39,Z 40,Z 41,Z 42,Z 43,Z 44,Z 45,Z 46,Z 47,Z 48,Z 49,Z 50,Z 51,Z 52,Z 53,Z 54,Z 55,Z 56,Z 57,Z 58,Z 59,Z 60,Z 61,Z 62,Z 63,Z 64,Z 65,Z 66,Z 67,Z 68,Z 69,Z 70,Z 71,Z 72,Z 73,Z 74,Z 75,Z 76,Z 77,Z 78,Z 79]) [[.int .i64 (n : Int), .int .i64 (n : Int), .slice A l.length c]] H5 V5 s ∧ p + a = n ∧ V2.le V5 ∧ H5 b3 = some ⟨117, outs2, n⟩ ∧ H5 bi = some ⟨4, bvs n r2, n⟩ ∧ PassI (eM l n) n i (cntF r n) r2 mf a 0) n ⟨0, V4, H4, r, false, StIs.of (by exact rfl), by omega, hV4, f3, fi, hI⟩ ?_
      clear f3 fi hI
      rintro p s ⟨a, V5, H5, r2, mf, hs, hp, hV5, f3, fi, hI⟩
      obtain ⟨z, rfl⟩ := hs.out
      try dsimp only
      clear hs
      by_cases ha : a < n
      rotate_left
      · obtain rfl : a = n := by omega
        have b4 : decide ((a : Int) < (a : Int)) = false := decide_eq_false (by omega)
        refine Gx.a (by kernel_rfl) fun K hK => ?_
        simp only [XA, XB, b4]
        refine hK _ ?_
        refine XWP.seq (Gx.f rfl ?_)
        refine XWP.exit ?_
        have hcnt := hI.cnt
        exact ⟨m - 1, by omega, fun f => ⟨V5, H5, r2, mf, mf, _, _, _, StIs.of (by exact rfl), fun e => by rw [e, if_pos rfl] at hcnt; omega, hV5, f3, fi, hI, fun e => ⟨e, rfl, rfl⟩⟩⟩
      have b4 : decide ((a : Int) < (n : Int)) = true := decide_eq_true (by omega)
      refine Gx.a (by kernel_rfl) fun K hK => ?_
      simp only [XA, XB, b4]
      refine hK _ ?_
      refine XWP.seq (Gx.t rfl ?_)
      refine XWP.skip ?_
      refine XWP.cutD 1 (fun s => ∃ (V6 : View) (H6 : Heap) (r2 : Nat → Bool) (mf : Bool), StIs (fun Z => [Z 0, .p 0 0, Z 2, .v (.slice (some ⟨b3, 0, none⟩) n n), .v (.int .i64 (i : Int)), .v (.bool mf), Z 6,Z 7,Z 8,Z 9,Z 10,Z 11, .v (.int .i64 (n : Int)), .v (.int .i64 (i : Int)), Z 14,Z 15,Z 16,Z 17,Z 18,Z 19,Z 20,Z 21,Z 22,Z 23,Z 24,Z 25,Z 26,Z 27,Z 28,Z 29, .v (.int .i64 (n : Int)), .v (.int .i64 (a : Int)), Z 32,Z 33,Z 34,Z 35,Z 36,Z 37,Z 38,Z 39,Z 40,Z 41,Z 42,Z 43,Z 44,Z 45,Z 46,Z 47,Z 48,Z 49,Z 50,Z 51,Z 52,Z 53,Z 54,Z 55,Z 56,Z 57,Z 58,Z 59,Z 60,Z 61,Z 62,Z 63,Z 64,Z 65,Z 66,Z 67,Z 68,Z 69,Z 70,Z 71,Z 72,Z 73,Z 74,Z 75,Z 76,Z 77,Z 78,Z 79]) [[.int .i64 (n : Int), .int .i64 (n : Int), .slice A l.length c]] H6 V6 s ∧ V2.le V6 ∧ H6 b3 = some ⟨117, outs2, n⟩ ∧ H6 bi = some ⟨4, bvs n r2, n⟩ ∧ PassI (eM l n) n i (cntF r n) r2 mf (a + 1) 0) ?_ ?_
      · refine XWP.block ?_
        refine Gx.a (by kernel_rfl) fun K hK => ?_
        simp only [XA]
        refine hK _ ?_
        refine Gx.a (by kernel_rfl) fun K hK => ?_
        simp only [XN, XA]
        refine hK _ ?_
        clear hK
        refine XWP.block ?_
        refine XWP.loopD 1 (fun p s => ∃ (b : Nat) (V5 : View) (H5 : Heap) (r2 : Nat → Bool) (mf : Bool), StIs (fun Z => [Z 0, .p 0 0, Z 2, .v (.slice (some ⟨b3, 0, none⟩) n n), .v (.int .i64 (i : Int)), .v (.bool mf), .v (.int .i64 (a : Int)), Z 7,Z 8,Z 9,Z 10,Z 11, .v (.int .i64 (n : Int)), .v (.int .i64 (i : Int)), Z 14,Z 15,Z 16,Z 17,Z 18,Z 19,Z 20,Z 21,Z 22,Z 23,Z 24,Z 25,Z 26,Z 27,Z 28,Z 29, .v (.int .i64 (n : Int)), .v (.int .i64 (a : Int)), Z 32,Z 33,Z 34, .v (.int .i64 (n : Int)), .v (.int .i64 (b : Int)), Z 37,Z 38,Z 39,Z 40,Z 41,Z 42,Z 43,Z 44,Z 45,Z 46,Z 47,Z 48,Z 49,Z 50,Z 51,Z 52,Z 53,Z 54,Z 55,Z 56,Z 57,Z 58,Z 59,Z 60,Z 61,Z 62,Z 63,Z 64,Z 65,Z 66,Z 67,Z 68,Z 69,Z 70,Z 71,Z 72,Z 73,Z 74,Z 75,Z 76,Z 77,Z 78,Z 79]) [[.int .i64 (n : Int), .int .i64 (n : Int), .slice A l.length c]] H5 V5 s ∧ p + b = n ∧ V2.le V5 ∧ H5 b3 = some ⟨117, outs2, n⟩ ∧ H5 bi = some ⟨4, bvs n r2, n⟩ ∧ PassI (eM l n) n i (cntF r n) r2 mf a b) n ⟨0, V5, H5, r2, mf, StIs.of (by exact rfl), by omega, hV5, f3, fi, hI⟩ ?_
        clear f3 fi hI hV5
        rintro p s ⟨b, V5, H5, r2, mf, hs, hp, hV5, f3, fi, hI⟩
        obtain ⟨z, rfl⟩ := hs.out
        try dsimp only
        clear hs
        by_cases hb : b < n
        rotate_left
        · obtain rfl : b = n := by omega
          have b5 : decide ((b : Int) < (b : Int)) = false := decide_eq_false (by omega)
          refine Gx.a (by kernel_rfl) fun K hK => ?_
          simp only [XA, XB, b5]
          refine hK _ ?_
          refine XWP.seq (Gx.f rfl ?_)
          refine XWP.exit ?_
          exact fun f => ⟨V5, H5, r2, mf, StIs.of (by exact rfl), hV5, f3, fi, hI.row⟩
        have b5 : decide ((b : Int) < (n : Int)) = true := decide_eq_true (by omega)
        refine Gx.a (by kernel_rfl) fun K hK => ?_
        simp only [XA, XB, b5]
        refine hK _ ?_
        refine XWP.seq (Gx.t rfl ?_)
        refine XWP.skip ?_
        refine XWP.cutD 1 (fun s => ∃ (V6 : View) (H6 : Heap) (r2 : Nat → Bool) (mf : Bool), StIs (fun Z => [Z 0, .p 0 0, Z 2, .v (.slice (some ⟨b3, 0, none⟩) n n), .v (.int .i64 (i : Int)), .v (.bool mf), .v (.int .i64 (a : Int)), Z 7,Z 8,Z 9,Z 10,Z 11, .v (.int .i64 (n : Int)), .v (.int .i64 (i : Int)), Z 14,Z 15,Z 16,Z 17,Z 18,Z 19,Z 20,Z 21,Z 22,Z 23,Z 24,Z 25,Z 26,Z 27,Z 28,Z 29, .v (.int .i64 (n : Int)), .v (.int .i64 (a : Int)), Z 32,Z 33,Z 34, .v (.int .i64 (n : Int)), .v (.int .i64 (b : Int)), Z 37,Z 38,Z 39,Z 40,Z 41,Z 42,Z 43,Z 44,Z 45,Z 46,Z 47,Z 48,Z 49,Z 50,Z 51,Z 52,Z 53,Z 54,Z 55,Z 56,Z 57,Z 58,Z 59,Z 60,Z 61,Z 62,Z 63,Z 64,Z 65,Z 66,Z 67,Z 68,Z 69,Z 70,Z 71,Z 72,Z 73,Z 74,Z 75,Z 76,Z 77,Z 78,Z 79]) [[.int .i64 (n : Int), .int .i64 (n : Int), .slice A l.length c]] H6 V6 s ∧ V2.le V6 ∧ H6 b3 = some ⟨117, outs2, n⟩ ∧ H6 bi = some ⟨4, bvs n r2, n⟩ ∧ PassI (eM l n) n i (cntF r n) r2 mf a (b + 1)) ?_ ?_
        · refine XWP.block ?_
          refine Gx.a (by kernel_rfl) fun K hK => ?_
          simp only [XA]
          refine hK _ ?_
          have hp2 := pos_lt ha hb
          have hv5 := (h.up hV2).up hV5
          obtain ⟨bA, oA, rfl⟩ := SlAt.addr hv5 (by omega)
          obtain ⟨m8, n8, d8, hx8, _, hld8⟩ := Rats.get hv5 (a * n + b) (by omega)
          have w1 := wr_mul (i := a) (C := n) (by omega) (by omega)
          have w2 := wr_add (p := a * n) (k := b) (by omega) (by omega)
          have q8 := (ql _ (cf_mem (l := l) (i := a * n + b) (by omega))).qf hB
          refine Gx.a (by kernel_rfl) fun K hK => ?_
          simp only [XN, XA]
          refine ⟨by omega, by omega, ?_⟩
          refine ld_mem (ldH1 f3 (by simpa using hg1) shapeT_117) ?_
          simp only [XN, XA, XB]
          refine ⟨by omega, by omega, ?_⟩
          refine ld_mem (ldH1 fi (by simpa using bvs_get (r := r2) ha) shapeT_4) ?_
          cases hra : r2 a
          · simp only [XA, gateX, ↓reduceIte]
            refine hK _ ?_
            refine Gx.f rfl ?_
            refine XWP.skip ?_
            exact fun f => ⟨V5, H5, r2, mf, StIs.of (by exact rfl), hV5, f3, fi, hI.skip fun e => by rw [hra] at e; cases e⟩
          simp only [XN, XA, gateX, ↓reduceIte, beq_self_eq_true]
          refine ⟨by omega, by omega, ?_⟩
          refine ld_mem (ldH1 f3 (by simpa using hg1) shapeT_117) ?_
          simp only [XN, XA, XB, gateX, ↓reduceIte, beq_self_eq_true]
          refine ⟨by omega, by omega, ?_⟩
          refine ld_mem (ldH1 fi (by simpa using bvs_get (r := r2) hb) shapeT_4) ?_
          cases hrb : r2 b
          rotate_left
          · simp only [XA, gateX, ↓reduceIte, beq_self_eq_true]
            refine hK _ ?_
            refine Gx.f rfl ?_
            refine XWP.skip ?_
            exact fun f => ⟨V5, H5, r2, mf, StIs.of (by exact rfl), hV5, f3, fi, hI.skip fun _ e => by rw [hrb] at e; cases e⟩
          simp only [XM, XA, XB, gateX, ↓reduceIte, beq_self_eq_true, w1, w2]
          refine ⟨by omega, by omega, ld_mem (hld8 _) ?_⟩
          simp only [XA, gateX, ↓reduceIte, beq_self_eq_true]
          refine call_go (by kernel_rfl) rfl (psign_c _ _ _ (hx8.toV q8)) fun v6 V6 hV6 h6 => ?_
          subst h6
          have es := sgI_pos (hS.nn a b ha hb)
          unfold gridL at es
          have hV6 := View.le_trans hV5 hV6
          by_cases hz : cf l (a * n + b) = 0
          · rw [show decide (cf l (a * n + b) ≠ 0) = false from decide_eq_false (fun g => g hz)] at es
            simp only [XA, XB, gateX, ↓reduceIte, beq_self_eq_true, es]
            refine hK _ ?_
            refine Gx.f rfl ?_
            refine XWP.skip ?_
            exact fun f => ⟨V6, H5, r2, mf, StIs.of (by exact rfl), hV6, f3, fi, hI.skip fun _ _ => by unfold eM; exact decide_eq_false (fun h => h hz)⟩
          rw [show decide (cf l (a * n + b) ≠ 0) = true from decide_eq_true hz] at es
          simp only [XA, XB, gateX, ↓reduceIte, beq_self_eq_true, es]
          refine hK _ ?_
          refine Gx.t rfl ?_
          refine Gx.a (by kernel_rfl) fun K hK => ?_
          simp only [XN, XA]
          refine ⟨by omega, by omega, ?_⟩
          refine ld_mem (ldH1 f3 (by simpa using hg1) shapeT_117) ?_
          simp only [XN, XA, XB]
          refine ⟨by omega, by omega, ?_⟩
          refine st_row shapeT_4 rfl rfl fi (by dsimp only; rw [bvs_len]; omega) ?_
          simp only [XA, bvs_set]
          refine hK _ ?_
          have n3i : b3 ≠ bi := fun e => by rw [e, fi] at f3; cases f3
          have f3' : upd H5 bi (some ⟨4, bvs n (bset r2 b), n⟩) b3 = some ⟨117, outs2, n⟩ := (upd_off n3i).trans f3
          have fi' := upd_at H5 bi (some ⟨4, bvs n (bset r2 b), n⟩)
          generalize upd H5 bi (some ⟨4, bvs n (bset r2 b), n⟩) = H6 at *
          refine Gx.c (by kernel_rfl) fun K hK => ?_
          simp only [XA]
          exact hK _ fun f => ⟨V6, H6, bset r2 b, true, StIs.of (by exact rfl), hV6, f3', fi', hI.put ha hb hra hrb (by unfold eM; exact decide_eq_true hz)⟩
        clear f3 fi hI
        rintro s ⟨V6, H6, r2, mf, hs, hV6, f3, fi, hI⟩
        obtain ⟨z, rfl⟩ := hs.out
        try dsimp only
        refine Gx.c (by kernel_rfl) fun K hK => ?_
        simp only [XA, XB, i64_succ b (by omega)]
        exact hK _ ⟨p - 1, by omega, fun f => ⟨b + 1, V6, H6, r2, mf, StIs.of (by exact rfl), by omega, hV6, f3, fi, hI⟩⟩
      clear f3 fi hI
      rintro s ⟨V6, H6, r2, mf, hs, hV6, f3, fi, hI⟩
      obtain ⟨z, rfl⟩ := hs.out
      try dsimp only
      refine Gx.c (by kernel_rfl) fun K hK => ?_
      simp only [XA, XB, i64_succ a (by omega)]
      exact hK _ ⟨p - 1, by omega, fun f => ⟨a + 1, V6, H6, r2, mf, StIs.of (by exact rfl), by omega, hV6, f3, fi, hI⟩⟩
    rintro s ⟨V3, H3, outs, bi, r, hs, hV3, hH, hol, hout, hoi, hbi, hr⟩
    obtain ⟨z, rfl⟩ := hs.out
    try dsimp only
    clear hs
    have n3i : b3 ≠ bi := fun e => by rw [e, hbi] at hH; cases hH
    refine XWP.pub bi _ hbi fun o ho hle => ?_
    have er : (List.range n).map r = (List.range n).map (wR (eM l n) n i) := List.map_congr_left fun k hk => hr k (List.mem_range.1 hk)
    have hpub := (R1At.bvs V3 n r).pub booE_ok ho hle (n := n) (c := n) (by simp) (Nat.le_refl _) (by omega)
    rw [er] at hpub
    refine Gx.c (by kernel_rfl) fun K hK => ?_
    simp only [XA, XB, i64_succ i (by omega)]
    exact hK _ ⟨q - 1, by omega, fun f => ⟨i + 1, _, _, outs, StIs.of (by exact rfl), by omega, View.le_trans hV2 (View.le_trans hV3 hle), (upd_off n3i).trans hH, hol, fun j hj => by
      by_cases e : j = i
      · subst e; exact ⟨_, hoi, hpub⟩
      · obtain ⟨v, h1, h2⟩ := hout j (by omega)
        exact ⟨v, h1, h2.mono booE_ok hle⟩⟩⟩
  rintro s ⟨V2, H2, outs, hs, hH, hol, hout⟩
  obtain ⟨z, rfl⟩ := hs.out
  try dsimp only
  refine Gx.a (by kernel_rfl) fun K hK => ?_
  simp only [XA]
  refine hK _ (XWP.ret ?_)
  try simp only [thenX_ret, inBlockX_ret]
  have hrow : R1At (Sl1 booE) V2 outs (mkB n (wR (eM l n) n)) := by
    refine ⟨by rw [hol]; simp [mkB], fun i x hx => ?_⟩
    have hlt : i < n := by
      rcases Nat.lt_or_ge i n with h | h
      · exact h
      · rw [List.getElem?_eq_none (by simpa [mkB] using h)] at hx; cases hx
    have : x = (List.range n).map (wR (eM l n) n i) := by simpa [mkB, hlt] using hx.symm
    obtain ⟨v, h1, h2⟩ := hout i hlt
    exact ⟨v, h1, h2.one, by rw [this]; exact h2⟩
  refine ret_pub b3 _ hH fun o ho hle => ret_go _ rfl ?_
  exact hrow.pub (Sl1_ok booE_ok) ho hle (by simp [mkB]) (Nat.le_refl _) (by omega)
end Go.Proofs.YtkgmicakfmllmaaGreat
end
section
namespace Go.Proofs.YtkgmicakfmllmaaGreat
open Go Go.RowKit
set_option linter.unusedSimpArgs false
set_option linter.unusedVariables false
attribute [local irreducible] XWP Spec SpecO XPub XCall seqX clX apX stX ldX iaX slX
end Go.Proofs.YtkgmicakfmllmaaGreat
end
section
namespace Go.Proofs.YtkgmicakfmllmaaGreat
open Go Go.RowKit
set_option linter.unusedSimpArgs false
set_option linter.unusedVariables false
attribute [local irreducible] XWP Spec SpecO XPub XCall seqX clX apX stX ldX iaX slX
/-- rows in memory, each with a block of its own; those before k are made -/
structure RowsK (H : Heap) (V : View) (R k : Nat) (mm : Nat → Nat) (G : Grid) (cells : List Value) : Prop where
  len : cells.length = R
  row : ∀ i, i < k → ∃ b c cs, cells[i]? = some (.slice (some ⟨b, 0, none⟩) (mm i) c) ∧ H b = some ⟨49, cs, c * 3⟩ ∧ RowAt ratE V cs (mk (mm i) (G i)) ∧ mm i ≤ c ∧ c ≤ maxLen
  inj : ∀ (i j b m c m' c' : Nat), i < k → j < k → cells[i]? = some (Value.slice (some ⟨b, 0, none⟩) m c) → cells[j]? = some (Value.slice (some ⟨b, 0, none⟩) m' c') → i = j
/-- a row is put in place -/
theorem RowsK.put {H H' : Heap} {V : View} {R k i : Nat} {mm : Nat → Nat} {G : Grid} {cells cs : List Value} {b c : Nat} {m : Nat} {f : Nat → Rat} (h : RowsK H V R k mm G cells) (hi : i < R) (hik : i ≤ k)
    (hb : H' b = some ⟨49, cs, c * 3⟩) (hr : RowAt ratE V cs (Go.Proofs.YtkgmicakfmllmaaGreat.mk m f)) (hc : m ≤ c) (hm : c ≤ maxLen)
    (keep : ∀ j b' m' c', j < k → j ≠ i → cells[j]? = some (Value.slice (some ⟨b', 0, none⟩) m' c') → b' ≠ b ∧ H' b' = H b') :
    RowsK H' V R (if i = k then k + 1 else k) (fun j => if j = i then m else mm j) (fun j => if j = i then f else G j) (cells.set i (.slice (some ⟨b, 0, none⟩) m c)) := by
  have hlt : i < cells.length := by rw [h.len]; exact hi
  have lim : ∀ j, j < (if i = k then k + 1 else k) → j = i ∨ (j < k ∧ j ≠ i) := fun j hj => by
    split at hj <;> omega
  refine ⟨by rw [List.length_set]; exact h.len, fun j hj => ?_, fun j j' b1 m1 c1 m2 c2 hj hj' h1 h2 => ?_⟩
  · rcases lim j hj with rfl | ⟨h1, h2⟩
    · refine ⟨b, c, cs, ?_, hb, ?_, ?_, hm⟩
      · rw [List.getElem?_set_self hlt, if_pos rfl]
      · rw [if_pos rfl, if_pos rfl]; exact hr
      · rw [if_pos rfl]; exact hc
    · obtain ⟨b', c', cs', a1, a2, a3, a4, a5⟩ := h.row j h1
      obtain ⟨k1, k2⟩ := keep j b' _ c' h1 h2 a1
      refine ⟨b', c', cs', ?_, by rw [k2]; exact a2, ?_, ?_, a5⟩
      · rw [List.getElem?_set_ne (Ne.symm h2), if_neg h2]; exact a1
      · rw [if_neg h2, if_neg h2]; exact a3
      · rw [if_neg h2]; exact a4
  · rcases lim j hj with rfl | ⟨g1, g2⟩ <;> rcases lim j' hj' with rfl | ⟨g3, g4⟩
    · rfl
    · rw [List.getElem?_set_self hlt] at h1
      rw [List.getElem?_set_ne (Ne.symm g4)] at h2
      cases h1
      exact absurd rfl (keep j' _ _ _ g3 g4 h2).1
    · rw [List.getElem?_set_self hlt] at h2
      rw [List.getElem?_set_ne (Ne.symm g2)] at h1
      cases h2
      exact absurd rfl (keep j _ _ _ g1 g2 h1).1
    · rw [List.getElem?_set_ne (Ne.symm g2)] at h1
      rw [List.getElem?_set_ne (Ne.symm g4)] at h2
      exact h.inj j j' b1 m1 c1 m2 c2 g1 g3 h1 h2
theorem RowsK.congr {H : Heap} {V : View} {R k : Nat} {mm mm' : Nat → Nat} {G G' : Grid} {cells : List Value} (h : RowsK H V R k mm G cells) (em : ∀ i, i < k → mm i = mm' i) (e : ∀ i j, i < k → j < mm i → G i j = G' i j) : RowsK H V R k mm' G' cells :=
  ⟨h.len, fun i hi => by
    obtain ⟨b, c, cs, a1, a2, a3, a4, a5⟩ := h.row i hi
    refine ⟨b, c, cs, by rw [← em i hi]; exact a1, a2, ?_, by rw [← em i hi]; exact a4, a5⟩
    rw [← em i hi, ← mk_congr (e i · hi)]; exact a3, h.inj⟩
theorem RowsK.frame {H H' : Heap} {V : View} {R k : Nat} {mm : Nat → Nat} {G : Grid} {cells : List Value} (h : RowsK H V R k mm G cells) (e : ∀ b cs tot, H b = some ⟨49, cs, tot⟩ → H' b = H b) : RowsK H' V R k mm G cells :=
  ⟨h.len, fun i hi => by
    obtain ⟨b, c, cs, a1, a2, a3⟩ := h.row i hi
    exact ⟨b, c, cs, a1, by rw [e b _ _ a2]; exact a2, a3⟩, h.inj⟩
/-- all rows of one length: a grid -/
theorem RowsK.grid {H : Heap} {V : View} {R m g cap : Nat} {G : Grid} {cells : List Value} {av : List Nat} (h : RowsK H V R R (fun _ => m) G cells) (hg : H g = some ⟨22, cells, cap * 1⟩) (hc : R ≤ cap) (hm : cap ≤ maxLen) (hav : ∀ (i b m' c' : Nat), i < R → cells[i]? = some (Value.slice (some ⟨b, 0, none⟩) m' c') → b ∉ av) : GridAt H V (.slice (some ⟨g, 0, none⟩) R cap) R m G av := by
  refine ⟨cells, ⟨by rw [h.len, Nat.mul_one], .inr ⟨g, cap, rfl, hg, hc, hm⟩⟩, h.len, fun i v hv => ?_, fun i j b c c' h1 h2 => ?_⟩
  · have hi : i < R := by rw [← h.len]; exact (List.getElem?_eq_some_iff.1 hv).1
    obtain ⟨b, c, cs, a1, a2, a3, a4, a5⟩ := h.row i hi
    have hn := hav i b _ _ hi a1
    rw [hv] at a1
    cases a1
    exact ⟨b, c, cs, rfl, a2, a3, a4, a5, hn⟩
  · have hi : i < R := by rw [← h.len]; exact (List.getElem?_eq_some_iff.1 h1).1
    have hj : j < R := by rw [← h.len]; exact (List.getElem?_eq_some_iff.1 h2).1
    exact h.inj i j b m c m c' hi hj h1 h2
theorem row_nat {H : Heap} {V : View} {e c n : Nat} {v' : Value} {xs : List Value} (h : Own H e 3 v' n xs) (hn : 1 ≤ n) : ∃ b cap, v' = .slice (some ⟨b, 0, none⟩) n cap ∧ H b = some ⟨e, xs, cap * 3⟩ ∧ n ≤ cap ∧ cap ≤ maxLen := by
  rcases own_parts h with ⟨_, h0, _⟩ | ⟨b, cap, e1, e2, e3, e4, _⟩
  · omega
  · exact ⟨b, cap, e1, e2, e3, e4⟩
set_option maxHeartbeats 4000000 in
theorem drows_m (H0 : Heap) (V : View) (s : Value) (n c : Nat) (l : List Rat) (h : Rats V s l) (ll : l.length = n * c) (h1 : 1 ≤ n) (hn : n ≤ 60) (hc1 : 1 ≤ c) (hc : c ≤ 60) :
    MSpec Tryz.prog 61 [.agg #[.int .i64 (n : Int), .int .i64 (c : Int), s]] H0 V fun v' H' V' => V' = V ∧ (∀ k r, H0 k = some r → H' k = some r) ∧ ∃ g cells, v' = .slice (some ⟨g, 0, none⟩) n n ∧ H0 g = none ∧ H' g = some ⟨22, cells, n⟩ ∧
      RowsK H' V n n (fun _ => c) (gridL l c) cells ∧ ∀ i, i < n → ∀ b m' c', cells[i]? = some (Value.slice (some ⟨b, 0, none⟩) m' c') → H0 b = none := by
  obtain ⟨A, cp, rfl, hcp, hm⟩ := h.form
  have hnc : n * c ≤ 3600 := Nat.le_trans (Nat.mul_le_mul hn hc) (by decide)
  refine (MSpec.enter Tryz.func61 rfl fun Γ hΓ => ?_)
  simp only [Tryz.ntmps61, List.map_cons, List.map_nil, List.length_cons, List.length_nil, Nat.reduceAdd, Nat.reduceSub, List.replicate_succ, List.replicate_zero, List.cons_append, List.nil_append]
  refine Gx.a (by kernel_rfl) fun K hK => ?_
  simp only [XA]
  refine hK _ ?_
  refine Gx.a (by kernel_rfl) fun K hK => ?_
  simp only [XM, XA, XB]
  refine mk_go rfl rfl elemT_38 zeroT_22 (by omega) (by omega) (by omega) (by omega) rfl (by omega) fun g hg1 hg2 => ?_
  have hg1 : H0 g = none := hg1
  simp only [XA, flat_one]
  refine hK _ ?_
  refine XWP.cut (fun s => ∃ (H2 : Heap) (outs : List Value), StIs (fun Z => [Z 0,Z 1,Z 2, .v (.slice (some ⟨g, 0, none⟩) n n), Z 4,Z 5,Z 6,Z 7,Z 8,Z 9,Z 10,Z 11,Z 12,Z 13,Z 14,Z 15,Z 16,Z 17,Z 18,Z 19,Z 20,Z 21,Z 22,Z 23,Z 24,Z 25,Z 26,Z 27,Z 28,Z 29,Z 30,Z 31]) [[.int .i64 (n : Int), .int .i64 (c : Int), .slice A l.length cp]] H2 V s ∧ (∀ k r, H0 k = some r → H2 k = some r) ∧ H2 g = some ⟨22, outs, n⟩ ∧ RowsK H2 V n n (fun _ => c) (gridL l c) outs ∧ ∀ i, i < n → ∀ b m' c', outs[i]? = some (Value.slice (some ⟨b, 0, none⟩) m' c') → H0 b = none) ?_ ?_
  · refine Gx.a (by kernel_rfl) fun K hK => ?_
    simp only [XN, XA]
    refine hK _ ?_
    clear hK
    refine XWP.block ?_
    refine XWP.loop (fun q s => ∃ (i : Nat) (H2 : Heap) (outs : List Value), StIs (fun Z => [Z 0, .p 0 0, Z 2, .v (.slice (some ⟨g, 0, none⟩) n n), Z 4,Z 5,Z 6,Z 7,Z 8, .v (.int .i64 (n : Int)), .v (.int .i64 (i : Int)), Z 11,Z 12,Z 13,Z 14,Z 15,Z 16,Z 17,Z 18,Z 19,Z 20,Z 21,Z 22,Z 23,Z 24,Z 25,Z 26,Z 27,Z 28,Z 29,Z 30,Z 31]) [[.int .i64 (n : Int), .int .i64 (c : Int), .slice A l.length cp]] H2 V s ∧ q + i = n ∧ (∀ k r, H0 k = some r → H2 k = some r) ∧ H2 g = some ⟨22, outs, n⟩ ∧ RowsK H2 V n i (fun _ => c) (gridL l c) outs ∧ ∀ j, j < i → ∀ b m' c', outs[j]? = some (Value.slice (some ⟨b, 0, none⟩) m' c') → H0 b = none) n ⟨0, _, _, StIs.of (by exact rfl), by omega, fun k r hk => (upd_off (new_ne hg1 hk)).trans hk, upd_at _ _ _, ⟨List.length_replicate, fun i hi => by omega, fun i j _ _ _ _ _ hi => by omega⟩, fun j hj => by omega⟩ ?_
    rintro q s ⟨i, H2, outs, hs, hq, hkeep, hg, hrows, hfr⟩
    obtain ⟨z, rfl⟩ := hs.out
    try dsimp only
    clear hs
    by_cases hi : i < n
    rotate_left
    · obtain rfl : i = n := by omega
      have b1 : decide ((i : Int) < (i : Int)) = false := decide_eq_false (by omega)
      refine Gx.a (by kernel_rfl) fun K hK => ?_
      simp only [XA, XB, b1]
      refine hK _ ?_
      refine XWP.seq (Gx.f rfl ?_)
      refine XWP.exit ?_
      exact ⟨H2, outs, StIs.of (by exact rfl), hkeep, hg, hrows, hfr⟩
    have b1 : decide ((i : Int) < (n : Int)) = true := decide_eq_true (by omega)
    refine Gx.a (by kernel_rfl) fun K hK => ?_
    simp only [XA, XB, b1]
    refine hK _ ?_
    refine XWP.seq (Gx.t rfl ?_)
    refine XWP.skip ?_
    have w1 := wr_mul (i := i) (C := c) (by omega) (by omega)
    have w2 := wr_mul (i := i + 1) (C := c) (by omega) (by omega)
    have w3 := i64_succ i (by omega)
    have hle : i * c ≤ (i + 1) * c := Nat.mul_le_mul_right c (by omega)
    have hle2 : (i + 1) * c ≤ l.length := by rw [ll]; exact Nat.mul_le_mul_right c (by omega)
    have hrow : Rats V (sliceV A cp 3 (i * c) ((i + 1) * c)) ((l.take ((i + 1) * c)).drop (i * c)) := SlAt.drop (SlAt.take h hle2) (by rw [List.length_take, Nat.min_eq_left hle2]; exact hle)
    have hrl := row_len ll hi
    have hcf : ∀ k, k < c → cf ((l.take ((i + 1) * c)).drop (i * c)) k = gridL l c i k := fun k hk => cf_row ll hi hk
    generalize (l.take ((i + 1) * c)).drop (i * c) = R at *
    obtain ⟨cs, hcs, hsrc⟩ := hrow.src
    have eR : R = mk c (gridL l c i) := List.ext_getElem (by rw [mk_len, hrl]) fun k a b => by rw [cf_get a, cf_get b, cf_mk, if_pos (by omega)]; exact hcf k (by omega)
    rw [eR] at hcs
    rw [hrl] at hsrc
    refine XWP.seq ?_
    refine XWP.block ?_
    refine Gx.a (by kernel_rfl) fun K hK => ?_
    simp only [XA]
    refine hK _ ?_
    refine Gx.c (by kernel_rfl) fun K hK => ?_
    simp only [XA]
    refine bs_go (by kernel_rfl) #[] (by simp) (bs_zero elemT_22 zeroT_49) fun b0 hb0 hb0' => ?_
    simp only [XM, XA, XB, w1, w2, w3]
    refine ⟨by omega, by omega, by omega, ?_⟩
    try simp only [XM, XN, XA, XB, gateX, Nat.reduceAdd, Nat.reduceLeDiff, Nat.reduceSub, Nat.reduceMul, ↓reduceIte, Int.reduceToNat, Int.reduceLE, beq_self_eq_true]
    have own0 : Own (upd H2 b0 (some ⟨49, [], 0⟩)) 49 3 (.slice (some ⟨b0, 0, none⟩) 0 0) 0 [] := ⟨rfl, .inr ⟨b0, 0, rfl, upd_at _ _ _, Nat.le_refl _, by unfold maxLen; omega⟩⟩
    refine ap_go elemT_22 (by kernel_rfl) zeroT_49 rfl (by omega) own0 (hsrc _) (by omega) (by omega) fun v' H3 hres => ?_
    obtain ⟨ho, hk3, hg3⟩ := hres
    rw [Nat.zero_add, List.nil_append] at ho
    obtain ⟨b, cap, rfl, hb, hcap, hmax⟩ := row_nat (V := V) (c := c) ho hc1
    have hbn : H2 b = none := by
      rcases hg3 b rfl with e | ⟨e, _⟩
      · have : b0 = b := by simpa [Value.ownBlock] using e
        rw [← this]; exact hb0
      · have e' : upd H2 b0 (some ⟨49, [], 0⟩) b = none := e
        by_cases e2 : b = b0
        · rw [e2]; exact hb0
        · rwa [upd_off e2] at e'
    have hk4 : ∀ k r, H2 k = some r → k ≠ b ∧ H3 k = some r := fun k r hk => by
      have n1 : k ≠ b := new_ne hbn hk
      have n2 : k ≠ b0 := new_ne hb0 hk
      exact ⟨n1, (hk3 k (fun e => n1 (by simpa [Value.ownBlock] using e.symm))).trans ((upd_off n2).trans hk)⟩
    have hgb := (hk4 g _ hg).2
    have ngb := (hk4 g _ hg).1
    simp only [XN, XA, XB]
    refine ⟨by omega, by omega, ?_⟩
    refine st_row shapeT_22 rfl rfl hgb (by have := hrows.len; dsimp only; omega) ?_
    simp only [XA]
    refine hK _ ?_
    refine Gx.c (by kernel_rfl) fun K hK => ?_
    simp only [XA, XB, w3]
    have hput := hrows.put (H' := upd H3 g (some ⟨22, outs.set i (.slice (some ⟨b, 0, none⟩) c cap), n⟩)) (i := i) (f := gridL l c i) hi (Nat.le_refl _) ((upd_off (Ne.symm ngb)).trans hb) hcs hcap hmax fun j b' m' c' hj hne hjc => by
      obtain ⟨b2, c2, cs2, a1, a2, _⟩ := hrows.row j hj
      rw [hjc] at a1
      cases a1
      obtain ⟨n1, n2⟩ := hk4 b' _ a2
      exact ⟨n1, by rw [upd_off (fun e => by rw [e, hg] at a2; cases a2), n2, a2]⟩
    rw [if_pos rfl] at hput
    refine hK _ ⟨q - 1, by omega, i + 1, _, _, StIs.of (by exact rfl), by omega, fun k r hk => ?_, upd_at _ _ _, hput.congr (fun j _ => by split <;> rfl) (fun j k _ _ => by split <;> simp_all), fun j hj b' m' c' hjc => ?_⟩
    · by_cases e : k = g
      · rw [e, hg1] at hk; cases hk
      · rw [upd_off e]; exact (hk4 k r (hkeep k r hk)).2
    · by_cases e : j = i
      · rw [e, List.getElem?_set_self (by rw [hrows.len]; exact hi)] at hjc
        cases hjc
        cases e2 : H0 b
        · rfl
        · rw [hkeep b _ e2] at hbn; cases hbn
      · rw [List.getElem?_set_ne (Ne.symm e)] at hjc
        exact hfr j (by omega) b' m' c' hjc
  rintro s ⟨H2, outs, hs, hkeep, hg, hrows, hfr⟩
  obtain ⟨z, rfl⟩ := hs.out
  try dsimp only
  refine Gx.a (by kernel_rfl) fun K hK => ?_
  simp only [XA]
  refine hK _ (XWP.ret ?_)
  try simp only [thenX_ret, inBlockX_ret]
  exact retM_go _ rfl ⟨rfl, hkeep, g, outs, rfl, hg1, hg, hrows, hfr⟩
end Go.Proofs.YtkgmicakfmllmaaGreat
end
