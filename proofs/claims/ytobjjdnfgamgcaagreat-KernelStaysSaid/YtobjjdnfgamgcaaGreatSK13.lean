/- The transition matrix of each of the four kernels is stochastic, leaves the posterior invariant and satisfies detailed balance, at every input. (part 13 of 13) -/
import Derived.OrdersHeld
import Derived.Below
import Derived.Tactics
import Derived.KernelRfl
import Derived.RangeFuncCalls
import Derived.RangeFuncFrom
import Derived.RangeFuncLeaves
import Derived.OrdersIn
import Derived.Laws.AppendOwn
import Derived.Laws.MakeOwn
import Derived.Laws.CopyRow
import Derived.Laws.Cells
import Derived.Laws.World
import Derived.Laws.Alloc2
import Derived.Laws.NewBlocks
import Derived.Maps.AppendAt
import Derived.Test.YtobjjdnfgamgcaaGreatProg
import Init.Data.List.Lemmas
import Init.Omega
import Derived.WalkKit
import Derived.ProofKit
import Derived.OpenShut
import Derived.ChangeOld
import Derived.SizedLaws
import Derived.ChangeSlices
import Derived.ChangeArms
import Derived.Deep.Slices
import Derived.MapKept
import Derived.Maps.RangeRun
import Derived.Shelf.SlSortCmp.WholeK
import Derived.Lib.QuietBelow
import Derived.Test.YtobjjdnfgamgcaaGreatRows
import Derived.ShutString
import Derived.Test.YtobjjdnfgamgcaaGreatSK12
section
namespace Go.Proofs.YtobjjdnfgamgcaaGreat
open Go Go.RowKit
set_option linter.unusedSimpArgs false
set_option linter.unusedVariables false
attribute [local irreducible] XWP Spec SpecO XPub XCall seqX clX apX stX ldX iaX slX
theorem stoB_bad {n : Nat} {L : List Raw} {i : Nat} (hi : i < n) (h : rowOk (qs L) n i = false) : stoB (n : Int) (n : Int) L = false := by
  unfold stoB
  have : (List.range (n : Int).toNat).all (rowOk (qs L) (n : Int).toNat) = false := by
    rw [Int.toNat_natCast, List.all_eq_false]
    exact ⟨i, List.mem_range.2 hi, by rw [h]; simp⟩
  rw [this, Bool.and_false]
set_option maxHeartbeats 4000000 in
theorem dsto_c (V : View) (s : Value) (r c : Int) (L : List Raw) (B : Nat) (h : Raws V s L) (f : fitR L) (ll : L.length ≤ 100000) (hq : ∀ x ∈ qs L, QB B x) (hB : 1001 * (B + 1) ≤ 17592186044416) :
    Spec Tryz.prog 14 [.agg #[.int .i64 r, .int .i64 c, s]] V fun v' V' => v' = .bool (stoB r c L) := by
  obtain ⟨A, cp, rfl, hc, hm⟩ := h.form
  refine (Spec.enter Tryz.func14 rfl fun Γ => ?_)
  simp only [Tryz.ntmps14, List.map_cons, List.map_nil, List.length_cons, List.length_nil, Nat.reduceAdd, Nat.reduceSub, List.replicate_succ, List.replicate_zero, List.cons_append, List.nil_append]
  refine Gx.a (by kernel_rfl) fun K hK => ?_
  simp only [XA]
  refine hK _ ?_
  refine XWP.seq ?_
  refine Gx.a (by kernel_rfl) fun K hK => ?_
  simp only [XM, XA, Nat.reduceAdd, Nat.reduceLeDiff, ↓reduceIte]
  refine call_go (by kernel_rfl) rfl (dmright_c _ _ _ _ L h f (by omega)) fun v1 V1 hV1 h1 => ?_
  subst h1
  cases e1 : matR r c L
  · simp only [XA, gateX, ↓reduceIte]
    refine hK _ ?_
    refine Gx.t rfl ?_
    refine Gx.a (by kernel_rfl) fun K hK => ?_
    simp only [XA]
    refine hK _ (XWP.ret ?_)
    try simp only [thenX_ret, inBlockX_ret]
    refine ret_go _ rfl ?_
    unfold stoB
    rw [e1]; rfl
  by_cases e2 : r = c
  rotate_left
  · have b1 : decide (r = c) = false := decide_eq_false e2
    simp only [XM, XA, XB, gateX, ↓reduceIte, beq_self_eq_true, b1]
    refine hK _ ?_
    refine Gx.t rfl ?_
    refine Gx.a (by kernel_rfl) fun K hK => ?_
    simp only [XA]
    refine hK _ (XWP.ret ?_)
    try simp only [thenX_ret, inBlockX_ret]
    refine ret_go _ rfl ?_
    unfold stoB
    rw [e1, b1]; rfl
  subst e2
  have hmat := e1
  unfold matR at e1
  rw [Bool.and_eq_true, decide_eq_true_eq] at e1
  obtain ⟨⟨k1, k2, _, _, k5⟩, ok⟩ := e1
  obtain ⟨n, rfl⟩ : ∃ n : Nat, r = n := ⟨r.toNat, by omega⟩
  have kl : L.length = n * n := by rw [← Int.natCast_mul] at k5; omega
  have hn : n ≤ 60 := by omega
  have hr := (Raws.rats h ok).up hV1
  have hlen := qs_len L
  have lln : (qs L).length = n * n := by omega
  simp only [XM, XA, XB, gateX, ↓reduceIte, beq_self_eq_true, decide_true]
  refine hK _ ?_
  refine Gx.f rfl ?_
  refine XWP.skip ?_
  refine XWP.cutD 1 (fun s => StIs (fun Z => [Z 0,Z 1,Z 2,Z 3,Z 4,Z 5,Z 6,Z 7,Z 8,Z 9,Z 10,Z 11,Z 12,Z 13,Z 14,Z 15,Z 16,Z 17,Z 18,Z 19,Z 20,Z 21,Z 22,Z 23,Z 24,Z 25,Z 26,Z 27,Z 28,Z 29,Z 30,Z 31,Z 32,Z 33,Z 34,Z 35,Z 36,Z 37,Z 38,Z 39]) [[.int .i64 (n : Int), .int .i64 (n : Int), .slice A L.length cp]] (fun _ => none) s.V s ∧ stoB (n : Int) (n : Int) L = true) ?_ ?_
  · refine Gx.a (by kernel_rfl) fun K hK => ?_
    simp only [XM, XA, Nat.reduceAdd, Nat.reduceLeDiff, ↓reduceIte]
    refine call_go (by kernel_rfl) rfl (drows_c _ _ n n (qs L) hr lln hn hn) fun v2 V2 hV2 h2 => ?_
    obtain ⟨A2, c2, rfl, hc2, hm2⟩ := h2.form
    have el : ((List.range n).map (rowL (qs L) n)).length = n := by simp
    rw [el] at h2 hc2 ⊢
    simp only [XN, XA]
    refine hK _ ?_
    clear hK
    refine XWP.block ?_
    refine XWP.loopD 1 (fun q s => ∃ (i : Nat) (V3 : View), StIs (fun Z => [Z 0, .p 0 0, Z 2,Z 3,Z 4,Z 5,Z 6,Z 7,Z 8,Z 9,Z 10,Z 11,Z 12,Z 13,Z 14,Z 15,Z 16,Z 17, .v (.slice A2 n c2), .v (.int .i64 (n : Int)), .v (.int .i64 (i : Int)), Z 21,Z 22,Z 23,Z 24,Z 25,Z 26,Z 27,Z 28,Z 29,Z 30,Z 31,Z 32,Z 33,Z 34,Z 35,Z 36,Z 37,Z 38,Z 39]) [[.int .i64 (n : Int), .int .i64 (n : Int), .slice A L.length cp]] (fun _ => none) V3 s ∧ q + i = n ∧ V2.le V3 ∧ (List.range i).all (rowOk (qs L) n) = true) n ⟨0, V2, StIs.of (by exact rfl), by omega, View.le_refl _, rfl⟩ ?_
    rintro q s ⟨i, V3, hs, hqi, hV3, hall⟩
    obtain ⟨z, rfl⟩ := hs.out
    try dsimp only
    clear hs
    by_cases hi : i < n
    rotate_left
    · obtain rfl : i = n := by omega
      have b1 : decide ((i : Int) < (i : Int)) = false := decide_eq_false (by omega)
      refine Gx.a (by kernel_rfl) fun K hK => ?_
      simp only [XA, XB, b1]
      refine hK _ ?_
      refine XWP.seq (Gx.f rfl ?_)
      refine XWP.exit ?_
      refine fun f => ⟨StIs.of (by exact rfl), ?_⟩
      unfold stoB
      rw [hmat, decide_eq_true rfl, Int.toNat_natCast, hall]; rfl
    have b1 : decide ((i : Int) < (n : Int)) = true := decide_eq_true (by omega)
    refine Gx.a (by kernel_rfl) fun K hK => ?_
    simp only [XA, XB, b1]
    refine hK _ ?_
    refine XWP.seq (Gx.t rfl ?_)
    refine XWP.skip ?_
    obtain ⟨bw, ow, rfl⟩ := h2.addr (by simp; omega)
    obtain ⟨u, g1, _, g2⟩ := Sl1.load (n := n) (h2.mono ratsE_ok hV3) i (by simp; omega)
    have eg : ((List.range n).map (rowL (qs L) n))[i]'(by simp; omega) = rowL (qs L) n i := by simp
    rw [eg] at g1
    have g3 := fun H => g2 H _ _ shapeT_24
    clear g2
    have hrl : (rowL (qs L) n i).length = n := row_len lln hi
    obtain ⟨A3, c3, rfl, hc3, hm3⟩ := SlAt.form g1
    rw [hrl] at g1 hc3 g3
    have hcf : ∀ k, k < n → cf (rowL (qs L) n i) k = cf (qs L) (i * n + k) := fun k hk => cf_row lln hi hk
    have hQr : ∀ x ∈ rowL (qs L) n i, QB B x := fun x hx => hq x (List.mem_of_mem_take (List.mem_of_mem_drop hx))
    generalize rowL (qs L) n i = R at *
    have g1 : Rats V3 (.slice A3 n c3) R := g1
    refine XWP.cutD 1 (fun s => ∃ (V4 : View), StIs (fun Z => [Z 0, .p 0 0, Z 2,Z 3,Z 4,Z 5,Z 6,Z 7,Z 8,Z 9,Z 10,Z 11,Z 12,Z 13,Z 14,Z 15,Z 16,Z 17, .v (.slice (some ⟨bw, ow, none⟩) n c2), .v (.int .i64 (n : Int)), .v (.int .i64 (i : Int)), Z 21,Z 22,Z 23,Z 24,Z 25,Z 26,Z 27,Z 28,Z 29,Z 30,Z 31,Z 32,Z 33,Z 34,Z 35,Z 36,Z 37,Z 38,Z 39]) [[.int .i64 (n : Int), .int .i64 (n : Int), .slice A L.length cp]] (fun _ => none) V4 s ∧ V3.le V4 ∧ rowOk (qs L) n i = true) ?_ ?_
    · refine XWP.block ?_
      refine Gx.a (by kernel_rfl) fun K hK => ?_
      simp only [XN, XA, XB]
      refine ⟨by omega, by omega, ?_⟩
      refine ld_mem (by simpa using g3 _) ?_
      simp only [XA]
      refine hK _ ?_
      refine XWP.cutD 1 (fun s => ∃ (V4 : View), StIs (fun Z => [Z 0, .p 0 0, Z 2,Z 3, .v (.slice A3 n c3), Z 5,Z 6,Z 7,Z 8,Z 9,Z 10,Z 11,Z 12,Z 13,Z 14,Z 15,Z 16,Z 17, .v (.slice (some ⟨bw, ow, none⟩) n c2), .v (.int .i64 (n : Int)), .v (.int .i64 (i : Int)), Z 21,Z 22,Z 23,Z 24,Z 25,Z 26,Z 27,Z 28,Z 29,Z 30,Z 31,Z 32,Z 33,Z 34,Z 35,Z 36,Z 37,Z 38,Z 39]) [[.int .i64 (n : Int), .int .i64 (n : Int), .slice A L.length cp]] (fun _ => none) V4 s ∧ V3.le V4 ∧ (List.range n).all (fun k => !ng (cf (qs L) (i * n + k))) = true) ?_ ?_
      · refine Gx.a (by kernel_rfl) fun K hK => ?_
        simp only [XA, XB]
        refine hK _ ?_
        clear hK
        refine XWP.block ?_
        refine XWP.loopD 1 (fun p s => ∃ (k : Nat) (V4 : View), StIs (fun Z => [Z 0, .p 0 0, Z 2,Z 3, .v (.slice A3 n c3), Z 5,Z 6,Z 7,Z 8,Z 9,Z 10,Z 11,Z 12,Z 13,Z 14,Z 15,Z 16,Z 17, .v (.slice (some ⟨bw, ow, none⟩) n c2), .v (.int .i64 (n : Int)), .v (.int .i64 (i : Int)), Z 21,Z 22,Z 23, .v (.slice A3 n c3), .v (.int .i64 (n : Int)), .v (.int .i64 (k : Int)), Z 27,Z 28,Z 29,Z 30,Z 31,Z 32,Z 33,Z 34,Z 35,Z 36,Z 37,Z 38,Z 39]) [[.int .i64 (n : Int), .int .i64 (n : Int), .slice A L.length cp]] (fun _ => none) V4 s ∧ p + k = n ∧ V3.le V4 ∧ (List.range k).all (fun k => !ng (cf (qs L) (i * n + k))) = true) n ⟨0, V3, StIs.of (by exact rfl), by omega, View.le_refl _, rfl⟩ ?_
        rintro p s ⟨k, V4, hs, hp, hV4, hk⟩
        obtain ⟨z, rfl⟩ := hs.out
        try dsimp only
        clear hs
        by_cases hkn : k < n
        rotate_left
        · obtain rfl : k = n := by omega
          have b3 : decide ((k : Int) < (k : Int)) = false := decide_eq_false (by omega)
          refine Gx.a (by kernel_rfl) fun K hK => ?_
          simp only [XA, XB, b3]
          refine hK _ ?_
          refine XWP.seq (Gx.f rfl ?_)
          refine XWP.exit ?_
          exact fun f => ⟨V4, StIs.of (by exact rfl), hV4, hk⟩
        have b3 : decide ((k : Int) < (n : Int)) = true := decide_eq_true (by omega)
        refine Gx.a (by kernel_rfl) fun K hK => ?_
        simp only [XA, XB, b3]
        refine hK _ ?_
        refine XWP.seq (Gx.t rfl ?_)
        refine XWP.skip ?_
        have hrow3 := g1.up hV4
        obtain ⟨bb, oo, rfl⟩ := SlAt.addr hrow3 (by omega)
        obtain ⟨m3, n3, d3, hx, ⟨p1, p2, p3⟩, hld⟩ := Rats.get hrow3 k (by omega)
        have qx : QF (cf (qs L) (i * n + k)) := by rw [← hcf k hkn]; exact (hQr _ (cf_mem (by omega))).qf (by omega)
        rw [hcf k hkn] at hx
        refine XWP.seq ?_
        refine XWP.block ?_
        refine Gx.a (by kernel_rfl) fun K hK => ?_
        simp only [XA, XB]
        refine ⟨by omega, by omega, ld_mem (hld _) ?_⟩
        simp only [XA, XB]
        refine st_rat rfl rfl p1 p2 p3 ?_
        simp only [XA]
        refine hK _ ?_
        have en := sgI_lt (cf (qs L) (i * n + k))
        refine Gx.a (by kernel_rfl) fun K hK => ?_
        simp only [XA, XB, Nat.reduceAdd, Nat.reduceLeDiff, ↓reduceIte]
        refine call_go (by kernel_rfl) rfl (psign_c _ _ _ (hx.toV qx)) fun v5 V5 hV5 h5 => ?_
        subst h5
        cases hng : ng (cf (qs L) (i * n + k))
        · rw [hng] at en
          simp only [XA, XB, en]
          refine hK _ ?_
          refine Gx.f rfl ?_
          refine XWP.skip ?_
          refine Gx.c (by kernel_rfl) fun K hK => ?_
          simp only [XA, XB, i64_succ k (by omega)]
          exact hK _ ⟨p - 1, by omega, fun f => ⟨k + 1, V5, StIs.of (by exact rfl), by omega, View.le_trans hV4 hV5, by rw [List.range_succ, List.all_append, hk]; simp [hng]⟩⟩
        · rw [hng] at en
          simp only [XA, XB, en]
          refine hK _ ?_
          refine Gx.t rfl ?_
          refine Gx.a (by kernel_rfl) fun K hK => ?_
          simp only [XA]
          refine hK _ (XWP.ret ?_)
          try simp only [thenX_ret, inBlockX_ret]
          refine ret_go _ rfl ?_
          have : rowOk (qs L) n i = false := by
            unfold rowOk
            have : ((List.range n).all fun k => !ng (cf (qs L) (i * n + k))) = false := by
              rw [List.all_eq_false]
              exact ⟨k, List.mem_range.2 hkn, by rw [hng]; simp⟩
            rw [this]; rfl
          rw [stoB_bad hi this]; rfl
      rintro s ⟨V4, hs, hV4, hall2⟩
      obtain ⟨z, rfl⟩ := hs.out
      try dsimp only
      clear hs
      have hrow4 := g1.up hV4
      refine Gx.a (by kernel_rfl) fun K hK => ?_
      simp only [XA]
      refine call_go (by kernel_rfl) rfl (psum_c _ _ _ B hrow4 hQr (by omega) hB) fun v5 V5 hV5 h5 => ?_
      rw [hrl] at h5
      have esum : sumL R n = Sm (fun k => cf (qs L) (i * n + k)) n := Sm_congr n fun k hk => hcf k hk
      have qsum : QF (sumL R n) := (sumL_QB hQr n (by omega)).qf (Nat.le_trans (Nat.mul_le_mul_right _ (show n ≤ 1001 by omega)) hB)
      simp only [XA]
      refine call_go (by kernel_rfl) rfl (pone_c _) fun v6 V6 hV6 h6 => ?_
      simp only [XA]
      refine call_go (by kernel_rfl) rfl (psame_c _ _ _ _ _ ((h5.mono hV6).toV qsum) (h6.toV QF_one) qsum QF_one) fun v7 V7 hV7 h7 => ?_
      subst h7
      rw [esum]
      have hle7 := View.le_trans hV4 (View.le_trans hV5 (View.le_trans hV6 hV7))
      by_cases hs1 : Sm (fun k => cf (qs L) (i * n + k)) n = 1
      · have b3 : decide (Sm (fun k => cf (qs L) (i * n + k)) n = 1) = true := decide_eq_true hs1
        simp only [XA, b3]
        refine hK _ ?_
        refine Gx.f rfl ?_
        refine XWP.skip ?_
        exact fun f => ⟨V7, StIs.of (by exact rfl), hle7, by unfold rowOk; rw [hall2, b3]; rfl⟩
      · have b3 : decide (Sm (fun k => cf (qs L) (i * n + k)) n = 1) = false := decide_eq_false hs1
        simp only [XA, b3]
        refine hK _ ?_
        refine Gx.t rfl ?_
        refine Gx.a (by kernel_rfl) fun K hK => ?_
        simp only [XA]
        refine hK _ (XWP.ret ?_)
        try simp only [thenX_ret, inBlockX_ret]
        refine ret_go _ rfl ?_
        have : rowOk (qs L) n i = false := by unfold rowOk; rw [b3, Bool.and_false]
        rw [stoB_bad hi this]; rfl
    rintro s ⟨V4, hs, hV4, hro⟩
    obtain ⟨z, rfl⟩ := hs.out
    try dsimp only
    refine Gx.c (by kernel_rfl) fun K hK => ?_
    simp only [XA, XB, i64_succ i (by omega)]
    exact hK _ ⟨q - 1, by omega, fun f => ⟨i + 1, V4, StIs.of (by exact rfl), by omega, View.le_trans hV3 hV4, by rw [List.range_succ, List.all_append, hall]; simp [hro]⟩⟩
  rintro s ⟨hs, e⟩
  obtain ⟨t, bx, H, V2⟩ := s
  obtain ⟨z, e3⟩ := hs.out
  cases e3
  try dsimp only
  refine Gx.a (by kernel_rfl) fun K hK => ?_
  simp only [XA]
  refine hK _ (XWP.ret ?_)
  try simp only [thenX_ret, inBlockX_ret]
  refine ret_go _ rfl ?_
  rw [e]; rfl
end Go.Proofs.YtobjjdnfgamgcaaGreat
end
section
namespace Go.Proofs.YtobjjdnfgamgcaaGreat
open Go Go.RowKit
set_option linter.unusedSimpArgs false
set_option linter.unusedVariables false
attribute [local irreducible] XWP Spec SpecO XPub XCall seqX clX apX stX ldX iaX slX
theorem OfR.qbG {l : List Rn} {c : Int} {od : Nat → Nat → Rat} (h : OfR l c od) (hl : ∀ r ∈ l, r.small) (ll : l.length ≤ 60) {i k : Nat} (hi : i < l.length) (hk : k < l.length) : QB 40000000 (moveG od l.length i k) := by
  have hqb := h.qb hl ll
  unfold moveG
  split
  · have h1 := offQ_QB (od := od) (B := 600000) (n := l.length) (i := i) (fun k hk _ => hqb i k hi hk) l.length (Nat.le_refl _)
    have h2 : l.length * (600000 + 1) ≤ 60 * 600001 := Nat.mul_le_mul_right _ ll
    exact ((QB_one 0).sub h1).mono (by omega)
  · exact (hqb i k hi hk).mono (by omega)
theorem OfR.sto {l : List Rn} {c : Int} {od : Nat → Nat → Rat} (h : OfR l c od) (hr : rightR l = true) (hl : ∀ r ∈ l, r.small) (ll : l.length ≤ 60) : stoB (l.length : Int) (l.length : Int) ((flatG (moveG od l.length) l.length l.length).map toRaw) = true := by
  have hm : matR (l.length : Int) (l.length : Int) ((flatG (moveG od l.length) l.length l.length).map toRaw) = true := by
    unfold matR
    rw [Bool.and_eq_true, okR_toRaw, List.length_map, flatG_len]
    refine ⟨decide_eq_true ⟨by omega, by omega, by omega, by omega, ?_⟩, rfl⟩
    exact Int.natCast_mul _ _
  unfold stoB
  rw [hm, decide_eq_true rfl, Int.toNat_natCast, qs_toRaw, Bool.true_and, Bool.true_and, List.all_eq_true]
  intro i hi
  have hi := List.mem_range.1 hi
  unfold rowOk
  rw [Bool.and_eq_true, List.all_eq_true]
  refine ⟨fun k hk => ?_, decide_eq_true ?_⟩
  · have hk := List.mem_range.1 hk
    rw [flatG_at _ hi hk]
    have := h.ge hr hl hi hk
    have h2 : ng (moveG od l.length i k) = false := by
      unfold ng
      exact decide_eq_false (Int.not_lt.2 (Rat.num_nonneg.2 this))
    rw [h2]; rfl
  · rw [Sm_congr _ fun k hk => flatG_at (moveG od l.length) hi hk]
    exact row_one od hi
theorem OfR.stP {l : List Rn} {c : Int} {od : Nat → Nat → Rat} (h : OfR l c od) (hl : ∀ r ∈ l, r.small) : ∀ k, k < l.length → Sm (fun i => cf (posL l) i * moveG od l.length i k) l.length = cf (posL l) k := fun k hk => by
  have e : ∀ i, i < l.length → cf (posL l) i * moveG od l.length i k = (totQ l)⁻¹ * (wOf l i * moveG od l.length i k) := fun i hi => by
    unfold posL
    rw [cf_mk, if_pos hi, Rat.div_def]; grind
  rw [Sm_congr _ e, Sm_mul, h.stays hl hk]
  unfold posL
  rw [cf_mk, if_pos hk, Rat.div_def, Rat.mul_comm]
theorem OfR.blP {l : List Rn} {c : Int} {od : Nat → Nat → Rat} (h : OfR l c od) (hl : ∀ r ∈ l, r.small) : ∀ i k, i < l.length → k < l.length → cf (posL l) i * moveG od l.length i k = cf (posL l) k * moveG od l.length k i := fun i k hi hk => by
  have e := h.balG hl hi hk
  unfold posL
  rw [cf_mk, cf_mk, if_pos hi, if_pos hk, Rat.div_def, Rat.div_def]
  grind
set_option maxHeartbeats 4000000 in
set_option maxRecDepth 100000 in
theorem kstays_c (V : View) (v : Value) (l : List Rn) (kv : Int) (h : SlK 9 rvE V v l) : Spec Tryz.prog 4 [v, .int .i64 kv] V fun v' V' => v' = .bool true := by
  obtain ⟨A, cL, rfl, hc, hm⟩ := h.form
  have hr := h.rn
  refine (Spec.enter Tryz.func4 rfl fun Γ => ?_)
  simp only [Tryz.ntmps4, List.map_cons, List.map_nil, List.length_cons, List.length_nil, Nat.reduceAdd, Nat.reduceSub, List.replicate_succ, List.replicate_zero, List.cons_append, List.nil_append]
  refine Gx.a (by kernel_rfl) fun K hK => ?_
  simp only [XA]
  refine hK _ ?_
  refine XWP.seq ?_
  refine Gx.a (by kernel_rfl) fun K hK => ?_
  simp only [XA]
  refine call_go (by kernel_rfl) rfl (short33_c _ _ l h) fun v1 V1 hV1 h1 => ?_
  obtain ⟨b, rfl, hb⟩ := h1
  cases b
  · simp only [XA, gateX, ↓reduceIte]
    refine hK _ ?_
    refine Gx.t rfl ?_
    refine Gx.a (by kernel_rfl) fun K hK => ?_
    simp only [XA]
    refine hK _ (XWP.ret ?_)
    try simp only [thenX_ret, inBlockX_ret]
    refine ret_go _ rfl ?_
    rfl
  obtain ⟨f1, f2, f3⟩ := short_fits hr (hb rfl)
  simp only [XA, gateX, ↓reduceIte, beq_self_eq_true]
  refine call_go (by kernel_rfl) rfl (kref_right_c _ _ l (hr.mono rnE_ok hV1) f1 f3) fun v2 V2 hV2 h2 => ?_
  subst h2
  have hV02 := View.le_trans hV1 hV2
  cases hrr : rightR l
  · simp only [XA, gateX, ↓reduceIte, beq_self_eq_true]
    refine hK _ ?_
    refine Gx.t rfl ?_
    refine Gx.a (by kernel_rfl) fun K hK => ?_
    simp only [XA]
    refine hK _ (XWP.ret ?_)
    try simp only [thenX_ret, inBlockX_ret]
    refine ret_go _ rfl ?_
    rfl
  obtain ⟨g1, g2, g3⟩ := right_small hrr f2
  simp only [XA, gateX, ↓reduceIte, beq_self_eq_true]
  refine hK _ ?_
  refine Gx.f rfl ?_
  refine XWP.skip ?_
  refine Gx.a (by kernel_rfl) fun K hK => ?_
  simp only [XA]
  refine call_go (by kernel_rfl) rfl (cof_c _ _ kv l (hr.mono rnE_ok hV02) f1 f2 f3) fun v3 V3 hV3 h3 => ?_
  obtain ⟨od, sv, hod, rfl, hM⟩ := h3.2 hrr
  obtain ⟨As, cs, rfl, _, _⟩ := hM.form
  have hV03 := View.le_trans hV02 hV3
  simp only [XM, XA]
  refine st_mat shapeT_26 rfl rfl rfl rfl rfl ?_
  simp only [XA]
  refine hK _ ?_
  refine Gx.a (by kernel_rfl) fun K hK => ?_
  simp only [XA]
  refine call_go (by kernel_rfl) rfl (cpost_c _ _ l (hr.mono rnE_ok hV03) g3 g1 g2) fun v4 V4 hV4 h4 => ?_
  simp only [XA]
  refine hK _ ?_
  have hM4 := hM.up hV4
  have hq1 : ∀ x ∈ flatG (moveG od l.length) l.length l.length, QB 40000000 x := fun x hx => by
    obtain ⟨i, k, hi, hk, rfl⟩ := flatG_mem hx
    exact hod.qbG g3 g2 hi hk
  have hnn : l.length * l.length ≤ 3600 := Nat.le_trans (Nat.mul_le_mul g2 g2) (by decide)
  have bl : decide ((l.length : Int) = (l.length : Int)) = true := decide_eq_true (by omega)
  refine Gx.a (by kernel_rfl) fun K hK => ?_
  simp only [XM, XU, XA, XB, gateX, Nat.reduceAdd, Nat.reduceLeDiff, ↓reduceIte]
  refine call_go (by kernel_rfl) rfl (dsto_c _ _ (l.length : Int) (l.length : Int) _ 40000000 hM4.raws (fitR_toRaw (hod.qf g3 g2)) (by rw [List.length_map, flatG_len]; omega) (by rw [qs_toRaw]; exact hq1) (by omega)) fun v5 V5 hV5 h5 => ?_
  rw [hod.sto hrr g3 g2] at h5
  subst h5
  simp only [XM, XA, gateX, Nat.reduceAdd, Nat.reduceLeDiff, ↓reduceIte]
  refine call_go (by kernel_rfl) rfl (cstays_c _ _ _ (posL l) (moveG od l.length) l.length 7868 40000000 (h4.up hV5) (hM4.up hV5) (mk_len _ _) g1 g2 (posL_QB g3 g2) (fun i k hi hk => hod.qbG g3 g2 hi hk) (by omega) (hod.stP g3)) fun v6 V6 hV6 h6 => ?_
  subst h6
  simp only [XM, XA, gateX, Nat.reduceAdd, Nat.reduceLeDiff, ↓reduceIte]
  have hV56 := View.le_trans hV5 hV6
  refine call_go (by kernel_rfl) rfl (cbal_c _ _ _ (posL l) (moveG od l.length) l.length 7868 40000000 (h4.up hV56) (hM4.up hV56) (mk_len _ _) g1 g2 (posL_QB g3 g2) (fun i k hi hk => hod.qbG g3 g2 hi hk) (by omega) (hod.blP g3)) fun v7 V7 hV7 h7 => ?_
  subst h7
  simp only [XA, gateX]
  refine call_go (by kernel_rfl) rfl (alive33_c _) fun v8 V8 hV8 h8 => ?_
  subst h8
  simp only [XA]
  refine hK _ (XWP.ret ?_)
  try simp only [thenX_ret, inBlockX_ret]
  refine ret_go _ rfl ?_
  rfl
end Go.Proofs.YtobjjdnfgamgcaaGreat
end
section
namespace Go.Proofs.YtobjjdnfgamgcaaGreat.kernelStays
open Go.ChangeShapes Go.WideShapes Go.ChangeAt Go.RowKit
set_option linter.unusedVariables false
theorem own : ownKnob Tryz.prog.godebug = none := by kernel_rfl
theorem laidOut : laidOutB Tryz.prog = true := by kernel_rfl
set_option maxHeartbeats 4000000 in
set_option maxRecDepth 100000 in
theorem lifted (os : Os) (started : os.Started) (H : Type) (enc : TypeId × Value → H) :
    ReturnsInHanded {} Tryz.checked os 4 .any (Rows.kernelStaysSpec.pre6 enc Tryz.prog Tryz.f4 Rows.kernelStaysRow.domain false) (Rows.kernelStaysSpec.post enc Tryz.prog Tryz.f4 false true false false) := by
  refine returnsInHanded_of_change_sized (C := Tryz.checked) own started (by kernel_rfl) Tryz.func4
    (ChangeSpec.witness6 (enc := enc) (C := Tryz.checked) false ⟨#[], #[.slice none 0 0, .int .i64 0], []⟩ 8 (by kernel_rfl) (by kernel_rfl) (by kernel_rfl) (by kernel_rfl)) ?_
  intro W base args ds gs before hval0 hW hcnd hsz0 _
  have hval : ∀ (j : Nat) t v, Tryz.f4.params[j]? = some t → args[j]? = some v → Value.okWide Tryz.prog W .any base t v := hval0
  have hW' := hW
  obtain ⟨p, q, hA0, hV, rfl, hfz, hnd⟩ := hW
  have hA : DataW.TrodAll enc Tryz.prog W 0 (fun _ => true) true Tryz.f4.params.toList args.toList ds p := hA0
  rw [Tryz.params4] at hA hval
  obtain ⟨v0, vs0, d0, ds0, p0, q0, hargs, rfl, rfl, h0, r0⟩ := trodAll_cons hA
  obtain ⟨v1, vs1, d1, ds1, p1, q1, rfl, rfl, rfl, h1, r1⟩ := trodAll_cons r0
  obtain ⟨rfl, rfl, rfl⟩ := trodAll_nil r1
  obtain rfl : args = #[v0, v1] := by cases args; simp_all
  obtain ⟨rfl, rfl⟩ := trodVars_none hV
  obtain ⟨a0, len0, cap0, rfl⟩ := okWide_slice (und_elem (P := Tryz.prog) (e := 51) (by kernel_rfl)) (hval 0 22 v0 rfl rfl)
  have k0 := h0
  have lt0 : ∀ x ∈ p0, x.block < W.heap.size := by obtain ⟨m, hm⟩ := k0; exact DataW.trod_lt m _ _ _ hm
  obtain ⟨fuel0, hf0⟩ := h0
  obtain ⟨L0, hL0⟩ := open_runs (by kernel_rfl) hf0
  obtain ⟨a1, rfl, rfl, rfl, w1⟩ := open_int (k := .i64) (by kernel_rfl) (hval 1 3 v1 rfl rfl) h1
  clear hA0 hval0 hsz0
  refine (kstays_c (viewW W) _ L0 a1 hL0 W (viewW_sub W)).mono fun e W' ⟨v, V', he, _, _, _, bel, hv⟩ => ?_
  subst hv
  subst he
  exact ⟨_, rfl, _, _, _, [], _, [], hW', trodAll_mk1 (shut_bool Tryz.underlying4 _), (trodAll_cons_mk (Below.trod laidOut (by kernel_rfl) (of_decide_eq_true (by kernel_rfl)) k0 bel.toBelow lt0) (trodAll_cons_mk (shut_int (k := .i64) (by kernel_rfl) w1) trodAll_mk0)), rfl, bel.frame _, fun h => by cases h⟩
theorem over : Rows.kernelStaysRow.holds Tryz.pinned (OpenSpec.ofChange Rows.kernelStaysSpec) :=
  OpenClaim.holds_of_wide 4 Tryz.f4 rfl rfl rfl rfl rfl rfl rfl ⟨rfl, rfl, rfl, rfl, rfl⟩ rfl rfl rfl rfl rfl (by kernel_rfl) Tryz.func4 (by kernel_rfl)
    (of_decide_eq_true (by kernel_rfl)) (by unfold Func.isWrapper; first | (rw [if_pos (by decide +kernel)]; kernel_rfl) | (rw [if_neg (by decide +kernel)]; exact ⟨rfl, rfl⟩))
    (fun os started H enc _ => lifted os started H enc)
theorem proved : Rows.KernelStaysSaid := over
#print axioms proved
end Go.Proofs.YtobjjdnfgamgcaaGreat.kernelStays
namespace Go.Proofs.YtobjjdnfgamgcaaGreat
/-- The row, under a short name, for the claim. -/
theorem kernelStays_holds : Rows.KernelStaysSaid := kernelStays.proved
end Go.Proofs.YtobjjdnfgamgcaaGreat
end
