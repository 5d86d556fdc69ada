/- The recurrence package's Fraction, Series and Sum agree with the reference's, errors included. (part 10 of 12) -/
import Derived.OrdersHeld
import Derived.Below
import Derived.Tactics
import Derived.KernelRfl
import Derived.RangeFuncCalls
import Derived.RangeFuncFrom
import Derived.RangeFuncLeaves
import Derived.OrdersIn
import Derived.Laws.AppendOwn
import Derived.Laws.MakeOwn
import Derived.Laws.CopyRow
import Derived.Laws.Cells
import Derived.Laws.World
import Derived.Laws.Alloc2
import Derived.Laws.NewBlocks
import Derived.Maps.AppendAt
import Derived.Test.YthoboehbadmlmaaProg
import Init.Data.List.Lemmas
import Init.Omega
import Derived.WalkKit
import Derived.ProofKit
import Derived.OpenShut
import Derived.ChangeOld
import Derived.SizedLaws
import Derived.ChangeSlices
import Derived.ChangeArms
import Derived.Deep.Slices
import Derived.Test.YthoboehbadmlmaaFR9
section
namespace Go.Proofs.Ythoboehbadmlmaa
open Go Go.RowKit
set_option linter.unusedSimpArgs false
set_option linter.unusedVariables false
attribute [local irreducible] XWP Spec SpecO XPub XCall seqX clX apX stX ldX iaX slX
theorem min_3 (n : Nat) : (if (3 : Int) < (n : Int) then (3 : Int) else (n : Int)) = ((min n 3 : Nat) : Int) := by split <;> omega
theorem min_nat (a b : Nat) : (if (b : Int) < (a : Int) then (b : Int) else (a : Int)) = ((min a b : Nat) : Int) := by split <;> omega
theorem lnat_c (V : View) (v : Value) (ds : List Nat) (h : NatAt V v ds) : Spec Try.prog 50 [v] V fun v' V' => NatAt V' v' (ds.take 3) := by
  obtain ⟨A, c, rfl, hc, hm⟩ := h.form
  refine (Spec.enter Try.func50 rfl fun Γ => ?_)
  simp only [Try.ntmps50, List.map_cons, List.map_nil, List.length_cons, List.length_nil, Nat.reduceAdd, Nat.reduceSub, List.replicate_succ, List.replicate_zero, List.cons_append, List.nil_append]
  first | refine Gx.a (by kernel_rfl) fun K hK => ?_ | refine Gx.b (by kernel_rfl) fun K hK => ?_ | refine Gx.c (by kernel_rfl) fun K hK => ?_
  simp only [XA, XB, gateX, Nat.reduceAdd, Nat.reduceLeDiff, Nat.reduceSub, Nat.reduceMul, ↓reduceIte, Int.reduceToNat, Int.reduceLE, beq_self_eq_true]
  refine hK _ ?_
  first | refine Gx.a (by kernel_rfl) fun K hK => ?_ | refine Gx.b (by kernel_rfl) fun K hK => ?_ | refine Gx.c (by kernel_rfl) fun K hK => ?_
  simp only [XA, XB, gateX, Nat.reduceAdd, Nat.reduceLeDiff, Nat.reduceSub, Nat.reduceMul, ↓reduceIte, Int.reduceToNat, Int.reduceLE, beq_self_eq_true, min_3]
  refine ⟨by omega, by omega, by omega, ?_⟩
  refine hK _ (XWP.ret ?_)
  try simp only [thenX_ret, inBlockX_ret]
  refine ret_go _ rfl ?_
  have := NatAt.take h (k := min ds.length 3) (by omega)
  have e : ds.take (min ds.length 3) = ds.take 3 := by
    by_cases h3 : ds.length ≤ 3
    · rw [Nat.min_eq_left h3, List.take_of_length_le h3, List.take_of_length_le (Nat.le_refl _)]
    · rw [Nat.min_eq_right (by omega)]
  rw [e] at this
  exact this
def cutR (r : Raw) : Raw := ⟨r.m, r.nd.take 3, r.dd.take 3⟩
def fewL (L : List Raw) (n : Nat) : List Raw := (L.take n).map cutR
/-- few digits -/
def fewR (l : List Raw) : Prop := ∀ r ∈ l, r.nd.length ≤ 3 ∧ r.dd.length ≤ 3
theorem fewL_few (L : List Raw) (n : Nat) : fewR (fewL L n) := fun r hr => by
  obtain ⟨x, _, rfl⟩ := List.mem_map.1 hr
  exact ⟨by simp [cutR]; omega, by simp [cutR]; omega⟩
theorem fewR.fit {l : List Raw} (h : fewR l) : fitR l := fun r hr => ⟨by have := (h r hr).1; omega, by have := (h r hr).2; omega⟩
theorem fewL_len (L : List Raw) (n : Nat) : (fewL L n).length ≤ n := by simp [fewL]; omega
theorem BB_two : BB = 2 ^ 32 := rfl
theorem dig3 {ds : List Nat} (h : Dig ds) (hl : ds.length ≤ 3) : nv ds ≤ 2 ^ 96 := by
  have h1 := nv_lt h
  have h2 : BB ^ ds.length ≤ BB ^ 3 := Nat.pow_le_pow_right (by unfold BB; omega) hl
  have h3 : BB ^ 3 = 2 ^ 96 := by rw [BB_two, ← Nat.pow_mul]
  omega
/-- digits are digits -/
def digR (l : List Raw) : Prop := ∀ r ∈ l, Dig r.nd ∧ Dig r.dd
theorem Raws.dig {V : View} {v : Value} {l : List Raw} (h : Raws V v l) : digR l := fun r hr => by
  obtain ⟨A, c, rfl, h1, h2, h3⟩ := h
  rcases h3 with rfl | ⟨b, o, arr, ty, fr, e1, e2, h4⟩
  · cases hr
  · obtain ⟨i, hi⟩ := List.getElem?_of_mem hr
    obtain ⟨m, n, d, g1, g2, g3, o1, o2, o3, hE⟩ := h4 i r hi
    obtain ⟨n', d', _, k1, k2⟩ := hE
    exact ⟨k1.dig, k2.dig⟩
theorem fewR_QB {l : List Raw} (h : fewR l) (hd : digR l) : ∀ x ∈ qs l, QB 96 x := fun x hx => by
  obtain ⟨r, hr, rfl⟩ := List.mem_map.1 hx
  exact QB_rv _ (dig3 (hd r hr).1 (h r hr).1) (dig3 (hd r hr).2 (h r hr).2)
theorem fewR_CB {l : List Raw} (h : fewR l) (hd : digR l) : CB (l.length * 96) (qs l) := by
  have := CB_of (qs l) (fewR_QB h hd)
  rwa [qs_len] at this
theorem lfew_c (V : View) (v : Value) (L : List Raw) (n : Nat) (hv : Raws V v L) (hn : n ≤ 1000000) : Spec Try.prog 12 [v, .int .i64 (n : Int)] V fun v' V' => Raws V' v' (fewL L n) := by
  obtain ⟨A1, c1, rfl, hc1, hm1⟩ := hv.form
  refine (Spec.enter Try.func12 rfl fun Γ => ?_)
  simp only [Try.ntmps12, List.map_cons, List.map_nil, List.length_cons, List.length_nil, Nat.reduceAdd, Nat.reduceSub, List.replicate_succ, List.replicate_zero, List.cons_append, List.nil_append]
  first | refine Gx.a (by kernel_rfl) fun K hK => ?_ | refine Gx.b (by kernel_rfl) fun K hK => ?_ | refine Gx.c (by kernel_rfl) fun K hK => ?_
  simp only [XA, XB, gateX, Nat.reduceAdd, Nat.reduceLeDiff, Nat.reduceSub, Nat.reduceMul, ↓reduceIte, Int.reduceToNat, Int.reduceLE, beq_self_eq_true]
  refine hK _ ?_
  first | refine Gx.a (by kernel_rfl) fun K hK => ?_ | refine Gx.b (by kernel_rfl) fun K hK => ?_ | refine Gx.c (by kernel_rfl) fun K hK => ?_
  refine bs_go (by kernel_rfl) #[] (by simp) (bs_zero elemT_22 zeroT_34) fun b hb1 hb2 => ?_
  simp only [XA, XB, gateX, Nat.reduceAdd, Nat.reduceLeDiff, Nat.reduceSub, Nat.reduceMul, ↓reduceIte, Int.reduceToNat, Int.reduceLE, beq_self_eq_true]
  refine hK _ ?_
  clear hK
  obtain ⟨N, hN⟩ : ∃ N, N = min L.length n := ⟨_, rfl⟩
  have eN : L.take N = L.take n := by
    rw [hN]
    by_cases h : L.length ≤ n
    · rw [Nat.min_eq_left h, List.take_of_length_le h, List.take_of_length_le (Nat.le_refl _)]
    · rw [Nat.min_eq_right (by omega)]
  have hvN := SlAt.take hv (k := N) (by omega)
  have hlN : (L.take N).length = N := by simp; omega
  refine XWP.cutD 0 (fun s => ∃ (V6 : View) (H5 : Heap) (cells : List Value) (wo : Value), StIs (fun Z => [Z 0,Z 1,Z 2,Z 3,Z 4, .v wo, Z 6,Z 7,Z 8,Z 9,Z 10,Z 11,Z 12,Z 13,Z 14,Z 15,Z 16,Z 17,Z 18,Z 19,Z 20,Z 21,Z 22,Z 23,Z 24,Z 25,Z 26,Z 27,Z 28,Z 29,Z 30,Z 31,Z 32,Z 33]) [] H5 V6 s ∧ Own H5 34 3 wo N cells ∧ RowAt rawE V6 cells ((L.take N).map cutR)) ?_ ?_
  · first | refine Gx.a (by kernel_rfl) fun K hK => ?_ | refine Gx.b (by kernel_rfl) fun K hK => ?_ | refine Gx.c (by kernel_rfl) fun K hK => ?_
    simp only [XA, XB, gateX, Nat.reduceAdd, Nat.reduceLeDiff, Nat.reduceSub, Nat.reduceMul, ↓reduceIte, Int.reduceToNat, Int.reduceLE, beq_self_eq_true, min_nat]
    rw [← hN]
    refine ⟨by omega, by omega, by omega, ?_⟩
    refine hK _ ?_
    clear hK
    first | refine XWP.block ?_ | refine XWP.seq (XWP.block ?_)
    refine XWP.loopD 0 (fun m s => ∃ (k : Nat) (V6 : View) (H5 : Heap) (cells : List Value) (wo : Value), StIs (fun Z => [Z 0,Z 1,Z 2,Z 3,Z 4, .v wo, Z 6,Z 7,Z 8,Z 9,Z 10,Z 11,Z 12,Z 13, .v (.slice A1 N c1), .v (.int .i64 (N : Int)), .v (.int .i64 (k : Int)), Z 17,Z 18,Z 19,Z 20,Z 21,Z 22,Z 23,Z 24,Z 25,Z 26,Z 27,Z 28,Z 29,Z 30,Z 31,Z 32,Z 33]) [] H5 V6 s ∧ V.le V6 ∧ m + k = N ∧ Own H5 34 3 wo k cells ∧ RowAt rawE V6 cells ((L.take k).map cutR)) N ⟨0, V, _, [], _, StIs.of (by exact rfl), View.le_refl _, rfl, own3 (by simp [upd]) rfl (Nat.le_refl _) (by omega), RowAt.nil _⟩ ?_
    rintro m s ⟨k, V6, H5, cells, wo, hs, hV6, hm, hown, hrow⟩
    obtain ⟨z, rfl⟩ := hs.out
    try dsimp only
    by_cases hk : k < N
    · have b1 : decide ((k : Int) < (N : Int)) = true := decide_eq_true (by omega)
      first | refine Gx.a (by kernel_rfl) fun K hK => ?_ | refine Gx.b (by kernel_rfl) fun K hK => ?_ | refine Gx.c (by kernel_rfl) fun K hK => ?_
      simp only [XA, XB, gateX, Nat.reduceAdd, Nat.reduceLeDiff, Nat.reduceSub, Nat.reduceMul, ↓reduceIte, Int.reduceToNat, Int.reduceLE, beq_self_eq_true, b1]
      refine hK _ ?_
      first | refine Gx.t rfl ?_ | refine XWP.seq (Gx.t rfl ?_)
      refine XWP.skip ?_
      refine XWP.seq ?_
      first | refine XWP.block ?_ | refine XWP.seq (XWP.block ?_)
      first | refine Gx.a (by kernel_rfl) fun K hK => ?_ | refine Gx.b (by kernel_rfl) fun K hK => ?_ | refine Gx.c (by kernel_rfl) fun K hK => ?_
      have hv6 := Raws.up hvN hV6
      obtain ⟨b', o', rfl⟩ := SlAt.addr hv6 (by omega)
      obtain ⟨x, hx, ⟨m3, n3, d3, rfl, p1, p2, p3⟩, hld⟩ := SlAt.load hv6 k (by omega)
      obtain ⟨n4, d4, e4, hn4, hd4⟩ := hx
      cases e4
      have ek : (L.take N)[k]'(by omega) = L[k]'(by omega) := by simp
      rw [ek] at hn4 hd4
      simp only [XA, XB, gateX, Nat.reduceAdd, Nat.reduceLeDiff, Nat.reduceSub, Nat.reduceMul, ↓reduceIte, Int.reduceToNat, Int.reduceLE, beq_self_eq_true]
      refine ⟨by omega, by omega, ld_mem (hld _) ?_⟩
      simp only [XA, XB, gateX, Nat.reduceAdd, Nat.reduceLeDiff, Nat.reduceSub, Nat.reduceMul, ↓reduceIte, Int.reduceToNat, Int.reduceLE, beq_self_eq_true]
      refine st_rat rfl rfl rfl p2 p3 ?_
      simp only [XA, XB, gateX, Nat.reduceAdd, Nat.reduceLeDiff, Nat.reduceSub, Nat.reduceMul, ↓reduceIte, Int.reduceToNat, Int.reduceLE, beq_self_eq_true]
      refine hK _ ?_
      (first | refine XWP.drw [0, 1, 2, 3, 4, 6, 7, 5, 8, 9, 10, 11, 12] (by kernel_rfl) (by kernel_rfl) (by kernel_rfl) fun K hK => ?_ | refine XWP.seq (XWP.drw [0, 1, 2, 3, 4, 6, 7, 5, 8, 9, 10, 11, 12] (by kernel_rfl) (by kernel_rfl) (by kernel_rfl) fun K hK => ?_) | refine XWP.drw1 [0, 1, 2, 3, 4, 6, 7, 5, 8, 9, 10, 11, 12] (by kernel_rfl) (by kernel_rfl) (by kernel_rfl) fun K hK => ?_) <;> dsimp only [pickOps, List.getElem?_cons_zero, List.getElem?_cons_succ]
      simp only [XA, XB, gateX, Nat.reduceAdd, Nat.reduceLeDiff, Nat.reduceSub, Nat.reduceMul, ↓reduceIte, Int.reduceToNat, Int.reduceLE, beq_self_eq_true]
      refine call_go (by kernel_rfl) rfl (lnat_c _ _ _ hn4) fun v7 V7 hV7 h7 => ?_
      simp only [XA, XB, gateX, Nat.reduceAdd, Nat.reduceLeDiff, Nat.reduceSub, Nat.reduceMul, ↓reduceIte, Int.reduceToNat, Int.reduceLE, beq_self_eq_true]
      refine call_go (by kernel_rfl) rfl (lnat_c _ _ _ (hd4.mono hV7)) fun v8 V8 hV8 h8 => ?_
      have h7 := h7.mono hV8
      simp only [XA, XB, gateX, Nat.reduceAdd, Nat.reduceLeDiff, Nat.reduceSub, Nat.reduceMul, ↓reduceIte, Int.reduceToNat, Int.reduceLE, beq_self_eq_true]
      rw [ek]
      refine bd_go (by kernel_rfl) #[(0, .bool (L[k]'(by omega)).m), (1, v7), (2, v8)] (by simp [ev_tmp, SV.val]) (bd_rat3 rfl h7.one h8.one) ?_
      simp only [XA, XB, gateX, Nat.reduceAdd, Nat.reduceLeDiff, Nat.reduceSub, Nat.reduceMul, ↓reduceIte, Int.reduceToNat, Int.reduceLE, beq_self_eq_true]
      refine bs_go (by kernel_rfl) #[(0, .agg #[.bool (L[k]'(by omega)).m, v7, v8])] (by simp [ev_tmp, SV.val]) (bs_rat elemT_22) fun b3 hb3 hb4 => ?_
      simp only [XA, XB, gateX, Nat.reduceAdd, Nat.reduceLeDiff, Nat.reduceSub, Nat.reduceMul, ↓reduceIte, Int.reduceToNat, Int.reduceLE, beq_self_eq_true]
      refine ap_go elemT_22 (by kernel_rfl) zeroT_34 rfl (by omega) (own_upd hown hb3) (src3 (upd_at _ _ _) rfl h7.one h8.one) (by omega) (by omega) fun v' H' hres => ?_
      simp only [XA, XB, gateX, Nat.reduceAdd, Nat.reduceLeDiff, Nat.reduceSub, Nat.reduceMul, ↓reduceIte, Int.reduceToNat, Int.reduceLE, beq_self_eq_true]
      refine hK _ ?_
      first | refine Gx.a (by kernel_rfl) fun K hK => ?_ | refine Gx.b (by kernel_rfl) fun K hK => ?_ | refine Gx.c (by kernel_rfl) fun K hK => ?_
      simp only [XA, XB, gateX, Nat.reduceAdd, Nat.reduceLeDiff, Nat.reduceSub, Nat.reduceMul, ↓reduceIte, Int.reduceToNat, Int.reduceLE, beq_self_eq_true, i64_succ k (by omega)]
      have hrow' := (hrow.mono rawE_ok (View.le_trans hV7 hV8)).snoc (x := cutR (L[k]'(by omega))) (show isOne (.bool (L[k]'(by omega)).m) = true from rfl) h7.one h8.one ⟨_, _, rfl, h7, h8⟩
      have em : (L.take (k + 1)).map cutR = (L.take k).map cutR ++ [cutR (L[k]'(by omega))] := by rw [List.take_succ_eq_append_getElem (by omega), List.map_append]; rfl
      rw [← em] at hrow'
      exact hK _ ⟨m - 1, by omega, fun f => ⟨k + 1, V8, _, _, _, StIs.of (by exact rfl), View.le_trans hV6 (View.le_trans hV7 hV8), by omega, hres.1, hrow'⟩⟩
    · have b1 : decide ((k : Int) < (N : Int)) = false := decide_eq_false (by omega)
      obtain rfl : k = N := by omega
      first | refine Gx.a (by kernel_rfl) fun K hK => ?_ | refine Gx.b (by kernel_rfl) fun K hK => ?_ | refine Gx.c (by kernel_rfl) fun K hK => ?_
      simp only [XA, XB, gateX, Nat.reduceAdd, Nat.reduceLeDiff, Nat.reduceSub, Nat.reduceMul, ↓reduceIte, Int.reduceToNat, Int.reduceLE, beq_self_eq_true, b1]
      refine hK _ ?_
      first | refine Gx.f rfl ?_ | refine XWP.seq (Gx.f rfl ?_)
      refine XWP.exit ?_
      exact fun f => ⟨V6, H5, cells, wo, StIs.of (by exact rfl), hown, hrow⟩
  rintro s ⟨V6, H5, cells, wo, hs, hown, hrow⟩
  obtain ⟨z, rfl⟩ := hs.out
  try dsimp only
  rw [eN] at hrow
  have hl : ((L.take n).map cutR).length = N := by rw [List.length_map, ← eN, hlN]
  first | refine Gx.a (by kernel_rfl) fun K hK => ?_ | refine Gx.b (by kernel_rfl) fun K hK => ?_ | refine Gx.c (by kernel_rfl) fun K hK => ?_
  simp only [XA, XB, gateX, Nat.reduceAdd, Nat.reduceLeDiff, Nat.reduceSub, Nat.reduceMul, ↓reduceIte, Int.reduceToNat, Int.reduceLE, beq_self_eq_true]
  refine hK _ (XWP.ret ?_)
  try simp only [thenX_ret, inBlockX_ret]
  rcases own_parts hown with ⟨rfl, hn0, rfl⟩ | ⟨g, cap, rfl, hg, hle, hcap, _⟩
  · refine ret_go _ rfl ?_
    have : fewL L n = [] := List.length_eq_zero_iff.1 (by unfold fewL; rw [hl]; exact hn0)
    rw [this]; exact SlAt.nil _
  · refine ret_pub g _ hg fun o ho hle' => ret_go _ rfl ?_
    exact hrow.pub rawE_ok ho hle' hl hle (by unfold maxLen at hcap; omega)
theorem lsame_c (V : View) (v u : Value) (l m : List Rat) (hv : Rats V v l) (hu : Rats V u m) (hl : ∀ x ∈ l, QF x) (hm : ∀ x ∈ m, QF x) : Spec Try.prog 17 [v, u] V fun v' V' => v' = .bool (decide (l = m)) := by
  obtain ⟨A1, c1, rfl, hc1, hm1⟩ := hv.form
  obtain ⟨A2, c2, rfl, hc2, hm2⟩ := hu.form
  refine (Spec.enter Try.func17 rfl fun Γ => ?_)
  simp only [Try.ntmps17, List.map_cons, List.map_nil, List.length_cons, List.length_nil, Nat.reduceAdd, Nat.reduceSub, List.replicate_succ, List.replicate_zero, List.cons_append, List.nil_append]
  first | refine Gx.a (by kernel_rfl) fun K hK => ?_ | refine Gx.b (by kernel_rfl) fun K hK => ?_ | refine Gx.c (by kernel_rfl) fun K hK => ?_
  simp only [XA, XB, gateX, Nat.reduceAdd, Nat.reduceLeDiff, Nat.reduceSub, Nat.reduceMul, ↓reduceIte, Int.reduceToNat, Int.reduceLE, beq_self_eq_true]
  refine hK _ ?_
  refine XWP.seq ?_
  by_cases hlen : l.length = m.length
  · have b1 : (!decide ((l.length : Int) = (m.length : Int))) = false := by rw [decide_eq_true (by omega)]; rfl
    first | refine Gx.a (by kernel_rfl) fun K hK => ?_ | refine Gx.b (by kernel_rfl) fun K hK => ?_ | refine Gx.c (by kernel_rfl) fun K hK => ?_
    simp only [XA, XB, gateX, Nat.reduceAdd, Nat.reduceLeDiff, Nat.reduceSub, Nat.reduceMul, ↓reduceIte, Int.reduceToNat, Int.reduceLE, beq_self_eq_true, b1]
    refine hK _ ?_
    first | refine Gx.f rfl ?_ | refine XWP.seq (Gx.f rfl ?_)
    refine XWP.skip ?_
    refine XWP.cut (fun s => ∃ V2, StIs (fun Z => [Z 0,Z 1,Z 2,Z 3,Z 4,Z 5,Z 6,Z 7,Z 8,Z 9,Z 10,Z 11,Z 12,Z 13,Z 14,Z 15,Z 16,Z 17,Z 18,Z 19,Z 20,Z 21,Z 22,Z 23,Z 24,Z 25,Z 26]) [] (fun _ => none) V2 s ∧ l = m) ?_ ?_
    · first | refine Gx.a (by kernel_rfl) fun K hK => ?_ | refine Gx.b (by kernel_rfl) fun K hK => ?_ | refine Gx.c (by kernel_rfl) fun K hK => ?_
      simp only [XA, XB, gateX, Nat.reduceAdd, Nat.reduceLeDiff, Nat.reduceSub, Nat.reduceMul, ↓reduceIte, Int.reduceToNat, Int.reduceLE, beq_self_eq_true]
      refine hK _ ?_
      clear hK
      first | refine XWP.block ?_ | refine XWP.seq (XWP.block ?_)
      refine XWP.loop (fun n s => ∃ (k : Nat) (V2 : View), StIs (fun Z => [.v (.slice A1 l.length c1), .v (.slice A2 m.length c2), Z 2,Z 3,Z 4,Z 5,Z 6,Z 7,Z 8,Z 9,Z 10,Z 11, .v (.int .i64 (l.length : Int)), .v (.int .i64 (k : Int)), Z 14,Z 15,Z 16,Z 17,Z 18,Z 19,Z 20,Z 21,Z 22,Z 23,Z 24,Z 25,Z 26]) [] (fun _ => none) V2 s ∧ V.le V2 ∧ n + k = l.length ∧ ∀ i, i < k → cf l i = cf m i) l.length ⟨0, V, StIs.of (by exact rfl), View.le_refl _, rfl, fun i hi => by omega⟩ ?_
      rintro n s ⟨k, V2, hs, hV2, hn, hk⟩
      obtain ⟨z, rfl⟩ := hs.out
      try dsimp only
      by_cases hlt : k < l.length
      · have b2 : decide ((k : Int) < (l.length : Int)) = true := decide_eq_true (by omega)
        first | refine Gx.a (by kernel_rfl) fun K hK => ?_ | refine Gx.b (by kernel_rfl) fun K hK => ?_ | refine Gx.c (by kernel_rfl) fun K hK => ?_
        simp only [XA, XB, gateX, Nat.reduceAdd, Nat.reduceLeDiff, Nat.reduceSub, Nat.reduceMul, ↓reduceIte, Int.reduceToNat, Int.reduceLE, beq_self_eq_true, b2]
        refine hK _ ?_
        first | refine Gx.t rfl ?_ | refine XWP.seq (Gx.t rfl ?_)
        refine XWP.skip ?_
        refine XWP.seq ?_
        first | refine XWP.block ?_ | refine XWP.seq (XWP.block ?_)
        first | refine Gx.a (by kernel_rfl) fun K hK => ?_ | refine Gx.b (by kernel_rfl) fun K hK => ?_ | refine Gx.c (by kernel_rfl) fun K hK => ?_
        simp only [XA, XB, gateX, Nat.reduceAdd, Nat.reduceLeDiff, Nat.reduceSub, Nat.reduceMul, ↓reduceIte, Int.reduceToNat, Int.reduceLE, beq_self_eq_true]
        refine hK _ ?_
        (first | refine XWP.drw [0, 1, 2, 3, 4, 5, 6, 7, 8, 9] (by kernel_rfl) (by kernel_rfl) (by kernel_rfl) fun K hK => ?_ | refine XWP.seq (XWP.drw [0, 1, 2, 3, 4, 5, 6, 7, 8, 9] (by kernel_rfl) (by kernel_rfl) (by kernel_rfl) fun K hK => ?_) | refine XWP.drw1 [0, 1, 2, 3, 4, 5, 6, 7, 8, 9] (by kernel_rfl) (by kernel_rfl) (by kernel_rfl) fun K hK => ?_) <;> dsimp only [pickOps, List.getElem?_cons_zero, List.getElem?_cons_succ]
        have hv2 := Rats.up hv hV2
        have hu2 := Rats.up hu hV2
        obtain ⟨b, o, rfl⟩ := SlAt.addr hv2 (by omega)
        obtain ⟨b', o', rfl⟩ := SlAt.addr hu2 (by omega)
        obtain ⟨m3, n3, d3, hx3, ⟨p1, p2, p3⟩, hld3⟩ := Rats.get hv2 k (by omega)
        obtain ⟨m4, n4, d4, hx4, ⟨r1, r2, r3⟩, hld4⟩ := Rats.get hu2 k (by omega)
        simp only [XA, XB, gateX, Nat.reduceAdd, Nat.reduceLeDiff, Nat.reduceSub, Nat.reduceMul, ↓reduceIte, Int.reduceToNat, Int.reduceLE, beq_self_eq_true]
        refine ⟨by omega, by omega, ld_mem (hld3 _) ?_⟩
        simp only [XA, XB, gateX, Nat.reduceAdd, Nat.reduceLeDiff, Nat.reduceSub, Nat.reduceMul, ↓reduceIte, Int.reduceToNat, Int.reduceLE, beq_self_eq_true]
        refine ⟨by omega, by omega, ld_mem (hld4 _) ?_⟩
        simp only [XA, XB, gateX, Nat.reduceAdd, Nat.reduceLeDiff, Nat.reduceSub, Nat.reduceMul, ↓reduceIte, Int.reduceToNat, Int.reduceLE, beq_self_eq_true]
        have f3 := hl _ (cf_mem hlt)
        have f4 := hm _ (cf_mem (show k < m.length by omega))
        refine call_go (by kernel_rfl) rfl (psame_c _ _ _ _ _ (hx3.toV f3) (hx4.toV f4) f3 f4) fun v5 V5 hV5 h5 => ?_
        subst h5
        by_cases he : cf l k = cf m k
        · have b3 : decide (cf l k = cf m k) = true := decide_eq_true he
          simp only [XA, XB, gateX, Nat.reduceAdd, Nat.reduceLeDiff, Nat.reduceSub, Nat.reduceMul, ↓reduceIte, Int.reduceToNat, Int.reduceLE, beq_self_eq_true, b3]
          refine hK _ ?_
          first | refine Gx.f rfl ?_ | refine XWP.seq (Gx.f rfl ?_)
          refine XWP.skip ?_
          first | refine Gx.a (by kernel_rfl) fun K hK => ?_ | refine Gx.b (by kernel_rfl) fun K hK => ?_ | refine Gx.c (by kernel_rfl) fun K hK => ?_
          simp only [XA, XB, gateX, Nat.reduceAdd, Nat.reduceLeDiff, Nat.reduceSub, Nat.reduceMul, ↓reduceIte, Int.reduceToNat, Int.reduceLE, beq_self_eq_true, i64_succ k (by omega)]
          refine hK _ ⟨n - 1, by omega, k + 1, V5, StIs.of (by exact rfl), View.le_trans hV2 hV5, by omega, fun i hi => ?_⟩
          by_cases e : i = k
          · rw [e]; exact he
          · exact hk i (by omega)
        · have b3 : decide (cf l k = cf m k) = false := decide_eq_false he
          simp only [XA, XB, gateX, Nat.reduceAdd, Nat.reduceLeDiff, Nat.reduceSub, Nat.reduceMul, ↓reduceIte, Int.reduceToNat, Int.reduceLE, beq_self_eq_true, b3]
          refine hK _ ?_
          first | refine Gx.t rfl ?_ | refine XWP.seq (Gx.t rfl ?_)
          first | refine Gx.a (by kernel_rfl) fun K hK => ?_ | refine Gx.b (by kernel_rfl) fun K hK => ?_ | refine Gx.c (by kernel_rfl) fun K hK => ?_
          simp only [XA, XB, gateX, Nat.reduceAdd, Nat.reduceLeDiff, Nat.reduceSub, Nat.reduceMul, ↓reduceIte, Int.reduceToNat, Int.reduceLE, beq_self_eq_true]
          refine hK _ (XWP.ret ?_)
          try simp only [thenX_ret, inBlockX_ret]
          refine ret_go _ rfl ?_
          rw [decide_eq_false (fun e => he (by rw [e]))]; rfl
      · have b2 : decide ((k : Int) < (l.length : Int)) = false := decide_eq_false (by omega)
        first | refine Gx.a (by kernel_rfl) fun K hK => ?_ | refine Gx.b (by kernel_rfl) fun K hK => ?_ | refine Gx.c (by kernel_rfl) fun K hK => ?_
        simp only [XA, XB, gateX, Nat.reduceAdd, Nat.reduceLeDiff, Nat.reduceSub, Nat.reduceMul, ↓reduceIte, Int.reduceToNat, Int.reduceLE, beq_self_eq_true, b2]
        refine hK _ ?_
        first | refine Gx.f rfl ?_ | refine XWP.seq (Gx.f rfl ?_)
        refine XWP.exit ?_
        refine ⟨V2, StIs.of (by exact rfl), List.ext_getElem hlen fun i h1 h2 => ?_⟩
        rw [cf_get h1, cf_get h2]; exact hk i (by omega)
    rintro s ⟨V2, hs, he⟩
    obtain ⟨z, rfl⟩ := hs.out
    try dsimp only
    first | refine Gx.a (by kernel_rfl) fun K hK => ?_ | refine Gx.b (by kernel_rfl) fun K hK => ?_ | refine Gx.c (by kernel_rfl) fun K hK => ?_
    simp only [XA, XB, gateX, Nat.reduceAdd, Nat.reduceLeDiff, Nat.reduceSub, Nat.reduceMul, ↓reduceIte, Int.reduceToNat, Int.reduceLE, beq_self_eq_true]
    refine hK _ (XWP.ret ?_)
    try simp only [thenX_ret, inBlockX_ret]
    refine ret_go _ rfl ?_
    rw [decide_eq_true he]; rfl
  · have b1 : (!decide ((l.length : Int) = (m.length : Int))) = true := by rw [decide_eq_false (by omega)]; rfl
    first | refine Gx.a (by kernel_rfl) fun K hK => ?_ | refine Gx.b (by kernel_rfl) fun K hK => ?_ | refine Gx.c (by kernel_rfl) fun K hK => ?_
    simp only [XA, XB, gateX, Nat.reduceAdd, Nat.reduceLeDiff, Nat.reduceSub, Nat.reduceMul, ↓reduceIte, Int.reduceToNat, Int.reduceLE, beq_self_eq_true, b1]
    refine hK _ ?_
    first | refine Gx.t rfl ?_ | refine XWP.seq (Gx.t rfl ?_)
    first | refine Gx.a (by kernel_rfl) fun K hK => ?_ | refine Gx.b (by kernel_rfl) fun K hK => ?_ | refine Gx.c (by kernel_rfl) fun K hK => ?_
    simp only [XA, XB, gateX, Nat.reduceAdd, Nat.reduceLeDiff, Nat.reduceSub, Nat.reduceMul, ↓reduceIte, Int.reduceToNat, Int.reduceLE, beq_self_eq_true]
    refine hK _ (XWP.ret ?_)
    try simp only [thenX_ret, inBlockX_ret]
    refine ret_go _ rfl ?_
    rw [decide_eq_false (fun e => hlen (by rw [e]))]; rfl
theorem lsameP_c (V : View) (v u : Value) (e f : Int) (l m : List Rat) (hv : Rats V v l) (hu : Rats V u m) (hl : ∀ x ∈ l, QF x) (hm : ∀ x ∈ m, QF x) : Spec Try.prog 25 [v, .int .i64 e, u, .int .i64 f] V fun v' V' => v' = .bool (decide (e = f) && decide (l = m)) := by
  refine (Spec.enter Try.func25 rfl fun Γ => ?_)
  simp only [Try.ntmps25, List.map_cons, List.map_nil, List.length_cons, List.length_nil, Nat.reduceAdd, Nat.reduceSub, List.replicate_succ, List.replicate_zero, List.cons_append, List.nil_append]
  first | refine Gx.a (by kernel_rfl) fun K hK => ?_ | refine Gx.b (by kernel_rfl) fun K hK => ?_ | refine Gx.c (by kernel_rfl) fun K hK => ?_
  simp only [XA, XB, gateX, Nat.reduceAdd, Nat.reduceLeDiff, Nat.reduceSub, Nat.reduceMul, ↓reduceIte, Int.reduceToNat, Int.reduceLE, beq_self_eq_true]
  refine hK _ ?_
  first | refine Gx.a (by kernel_rfl) fun K hK => ?_ | refine Gx.b (by kernel_rfl) fun K hK => ?_ | refine Gx.c (by kernel_rfl) fun K hK => ?_
  by_cases h : e = f
  · have b1 : decide (e = f) = true := decide_eq_true h
    simp only [XA, XB, gateX, Nat.reduceAdd, Nat.reduceLeDiff, Nat.reduceSub, Nat.reduceMul, ↓reduceIte, Int.reduceToNat, Int.reduceLE, beq_self_eq_true, b1]
    refine call_go (by kernel_rfl) rfl (lsame_c _ _ _ _ _ hv hu hl hm) fun v3 V3 hV3 h3 => ?_
    subst h3
    simp only [XA, XB, gateX, Nat.reduceAdd, Nat.reduceLeDiff, Nat.reduceSub, Nat.reduceMul, ↓reduceIte, Int.reduceToNat, Int.reduceLE, beq_self_eq_true]
    refine hK _ (XWP.ret ?_)
    try simp only [thenX_ret, inBlockX_ret]
    refine ret_go _ rfl ?_
    rw [b1]; rfl
  · have b1 : decide (e = f) = false := decide_eq_false h
    simp only [XA, XB, gateX, Nat.reduceAdd, Nat.reduceLeDiff, Nat.reduceSub, Nat.reduceMul, ↓reduceIte, Int.reduceToNat, Int.reduceLE, beq_self_eq_true, b1]
    refine hK _ (XWP.ret ?_)
    try simp only [thenX_ret, inBlockX_ret]
    refine ret_go _ rfl ?_
    rw [b1]; rfl
end Go.Proofs.Ythoboehbadmlmaa
end
section
namespace Go.Proofs.Ythoboehbadmlmaa
open Go Go.RowKit
set_option linter.unusedSimpArgs false
set_option linter.unusedVariables false
attribute [local irreducible] XWP Spec SpecO XPub XCall seqX clX apX stX ldX iaX slX
theorem CB.qfR {A : Nat} {P : List Raw} (h : okR P = true → CB A (qs P)) (hA : A ≤ 17592186044416) : qfR P := fun hk => (h hk).qf hA
end Go.Proofs.Ythoboehbadmlmaa
end
section
namespace Go.Proofs.Ythoboehbadmlmaa
set_option linter.unusedVariables false
theorem pAdd_nil (p : List Rat) : pAdd p [] 1 0 = trimQ p := by
  refine PolQ.ext (pAdd_pol _ _ _ _) (trimQ_pol _) fun i => ?_
  rw [cf_pAdd, cf_trimQ]
  unfold pAt
  rw [if_pos (Nat.zero_le _), cf_none (l := []) (by simp), Rat.zero_mul, Rat.add_zero]
theorem div_part_rest (q : List Rat) : ∀ (n : Nat) (rest out quo : List Rat), (divF q n rest out).2 = (partF q n quo rest).2 := by
  intro n
  induction n with
  | zero => intro rest out quo; rfl
  | succ n ih =>
    intro rest out quo
    rw [divF, partF]
    split
    · exact ih _ _ _
    · rfl
theorem cf_set (l : List Rat) (k : Nat) (x : Rat) (i : Nat) (hk : k < l.length) : cf (l.set k x) i = if i = k then x else cf l i := by
  unfold cf
  simp only [List.getD_eq_getElem?_getD]
  by_cases e : i = k
  · subst e; rw [List.getElem?_set_self hk, if_pos rfl]; rfl
  · rw [List.getElem?_set_ne (fun h => e h.symm), if_neg e]
theorem cf_one (i : Nat) : cf [1] i = if i = 0 then 1 else 0 := by
  cases i with
  | zero => rfl
  | succ i => rw [cf_none (by simp)]; rfl
theorem div_part_quo {q : List Rat} (hq : 0 < q.length) (hl : cf q (q.length - 1) ≠ 0) : ∀ (n : Nat) (rest out quo : List Rat), PolQ quo → (∀ i, cf out i = cf quo i) → (∀ i, i + q.length ≤ rest.length → cf out i = 0) → (q.length ≤ rest.length → rest.length - q.length < out.length) → trimQ (divF q n rest out).1 = (partF q n quo rest).1 := by
  intro n
  induction n with
  | zero =>
    intro rest out quo hp h1 _ _
    exact PolQ.ext (trimQ_pol _) hp fun i => by rw [cf_trimQ]; exact h1 i
  | succ n ih =>
    intro rest out quo hp h1 h2 h3
    rw [divF, partF]
    split
    · rename_i hle
      have hlt := div_less hq hl hle
      refine ih _ _ _ (pAdd_pol _ _ _ _) (fun i => ?_) (fun i hi => ?_) (fun h => by rw [List.length_set]; have := h3 hle; omega)
      · rw [cf_set _ _ _ _ (h3 hle), cf_pAdd]
        unfold pAt
        by_cases e : i = rest.length - q.length
        · rw [if_pos e, if_pos (by omega), ← h1 i, h2 i (by omega), cf_one, if_pos (by omega), Rat.one_mul, Rat.zero_add]
        · rw [if_neg e, h1 i]
          split
          · rw [cf_one, if_neg (by omega), Rat.zero_mul, Rat.add_zero]
          · rw [Rat.add_zero]
      · rw [cf_set _ _ _ _ (h3 hle), if_neg (by omega)]
        exact h2 i (by omega)
    · exact PolQ.ext (trimQ_pol _) hp fun i => by rw [cf_trimQ]; exact h1 i
theorem cf_replicate (n i : Nat) : cf (List.replicate n 0) i = 0 := by
  unfold cf
  simp only [List.getD_eq_getElem?_getD, List.getElem?_replicate]
  split <;> rfl
/-- the two quotients -/
theorem div_part {p q : List Rat} (hq : 0 < q.length) (hl : cf q (q.length - 1) ≠ 0) : divP p q = partP p q := by
  unfold divP partP
  dsimp only
  rw [pAdd_nil]
  refine Prod.ext ?_ ?_
  · refine div_part_quo hq hl _ _ _ _ (fun h => by simp at h) (fun i => ?_) (fun i _ => ?_) (fun h => ?_)
    · split
      · rw [cf_replicate, cf_none (by simp)]
      · rfl
    · split
      · exact cf_replicate _ _
      · exact cf_none (by simp)
    · rw [if_pos h]; simp
  · exact div_part_rest q _ _ _ _
theorem top_scaled {q : List Rat} (hq : PolQ q) (h0 : 0 < q.length) (rest : List Rat) (k : Nat) : pAdd rest (scaledP q) (-topQ rest (scaledP q)) k = pAdd rest q (-topQ rest q) k := by
  refine PolQ.ext (pAdd_pol _ _ _ _) (pAdd_pol _ _ _ _) fun i => ?_
  rw [cf_pAdd, cf_pAdd]
  unfold pAt
  congr 1
  split
  · rw [cf_scaledP]
    unfold topQ
    rw [scaledP_last hq h0]
    simp only [Rat.div_def]
    have : (1 : Rat)⁻¹ = 1 := Rat.inv_eq_of_mul_eq_one (Rat.mul_one 1)
    rw [this]
    grind
  · rfl
theorem scaled_rest {q : List Rat} (hq : PolQ q) (h0 : 0 < q.length) : ∀ (n : Nat) (rest out quo : List Rat), (divF (scaledP q) n rest out).2 = (partF q n quo rest).2 := by
  intro n
  induction n with
  | zero => intro rest out quo; rfl
  | succ n ih =>
    intro rest out quo
    rw [divF, partF, scaledP_len hq]
    split
    · rw [top_scaled hq h0]; exact ih _ _ _
    · rfl
theorem com_rest {p q : List Rat} (hq : PolQ q) (h0 : 0 < q.length) : (divP p (scaledP q)).2 = (partP p q).2 := by
  unfold divP partP
  dsimp only
  rw [pAdd_nil]
  exact scaled_rest hq h0 _ _ _ _
theorem com_same : ∀ (n : Nat) (p q : List Rat), PolQ q → comF n p q = comR n p q := by
  intro n
  induction n with
  | zero => intro p q _; rfl
  | succ n ih =>
    intro p q hq
    rw [comF, comR]
    split
    · rename_i h0
      rw [com_rest hq h0]
      exact ih _ _ (partP_rest hq h0).2
    · rfl
theorem comP_same {p q : List Rat} (hq : PolQ q) : comP p q = comRP p q := by unfold comP comRP; rw [com_same _ _ _ hq]

/-! the product -/
/-- the sum of the products that meet at a place -/
def meet (p q : List Rat) (i : Nat) : Nat → Rat
  | 0 => 0
  | k + 1 => meet p q i k + if k ≤ i then cf p k * cf q (i - k) else 0
theorem mul_meet (p q : List Rat) (i k : Nat) : cf (mulI p q k) i = meet p q i k := by
  induction k with
  | zero => exact cf_none (by simp [mulI])
  | succ k ih =>
    rw [mulI, meet]
    split
    · rename_i h
      rw [ih, h]
      split
      · rw [Rat.zero_mul, Rat.add_zero]
      · rw [Rat.add_zero]
    · rw [cf_pAdd]
      unfold pAt
      rw [ih]
      congr 1
      split
      · rw [Rat.mul_comm]
      · rfl
theorem off_meet (p q : List Rat) (i k : Nat) (hk : k ≤ i + 1) : offS q p i k = meet p q i k := by
  induction k with
  | zero => rfl
  | succ k ih => rw [offS, meet, ih (by omega), if_pos (by omega)]
theorem meet_more (p q : List Rat) (i : Nat) {k m : Nat} (hk : k ≤ m) (h : ∀ j, k ≤ j → j < m → i < j ∨ p.length ≤ j) : meet p q i m = meet p q i k := by
  induction m with
  | zero => have : k = 0 := by omega
            rw [this]
  | succ m ih =>
    rcases Nat.eq_or_lt_of_le hk with e | e
    · rw [e]
    · rw [meet, ih (by omega) fun j h1 h2 => h j h1 (by omega)]
      have : (if m ≤ i then cf p m * cf q (i - m) else 0) = 0 := by
        split
        · rcases h m (by omega) (by omega) with h1 | h1
          · omega
          · rw [cf_none h1, Rat.zero_mul]
        · rfl
      rw [this, Rat.add_zero]
theorem meet_all (p q : List Rat) (i : Nat) : meet p q i p.length = meet p q i (i + 1) := by
  rcases Nat.le_total p.length (i + 1) with h | h
  · exact (meet_more p q i h fun j h1 _ => .inr h1).symm
  · exact meet_more p q i h fun j h1 _ => .inl (by omega)
theorem meet_zero (p q : List Rat) (i k : Nat) (h : p.length + q.length ≤ i + 1) : meet p q i k = 0 := by
  induction k with
  | zero => rfl
  | succ k ih =>
    rw [meet, ih, Rat.zero_add]
    split
    · by_cases hk : k < p.length
      · rw [cf_none (l := q) (by omega), Rat.mul_zero]
      · rw [cf_none (l := p) (by omega), Rat.zero_mul]
    · rfl
theorem cf_mulP (p q : List Rat) (i : Nat) : cf (mulP p q) i = meet p q i p.length := mul_meet p q i _
theorem mulP_pol (p q : List Rat) : PolQ (mulP p q) := mulI_pol _ _ _
theorem mul_prod (p q : List Rat) : mulP p q = prodP p q := by
  refine PolQ.ext (mulP_pol _ _) (trimQ_pol _) fun i => ?_
  unfold prodP
  rw [cf_trimQ, cf_mk, cf_mulP]
  split
  · rw [off_meet _ _ _ _ (Nat.le_refl _), meet_all]
  · rename_i h
    exact meet_zero p q i _ (by omega)
theorem mul_none (p q : List Rat) (h : p.length = 0 ∨ q.length = 0) : mulP p q = [] := by
  refine PolQ.ext (mulP_pol _ _) (fun h => by simp at h) fun i => ?_
  rw [cf_mulP, cf_none (l := []) (by simp)]
  rcases h with h | h
  · rw [h]; rfl
  · have : q = [] := List.length_eq_zero_iff.1 h
    subst this
    have : ∀ k, meet p [] i k = 0 := by
      intro k
      induction k with
      | zero => rfl
      | succ k ih =>
        rw [meet, ih, Rat.zero_add]
        split
        · rw [cf_none (l := []) (by simp), Rat.mul_zero]
        · rfl
    exact this _
end Go.Proofs.Ythoboehbadmlmaa
end
section
namespace Go.Proofs.Ythoboehbadmlmaa
open Go Go.RowKit
set_option linter.unusedSimpArgs false
set_option linter.unusedVariables false
attribute [local irreducible] XWP Spec SpecO XPub XCall seqX clX apX stX ldX iaX slX
theorem bs_rat2 {t : Nat} {a b c a' b' c' : Value} (he : elemT Try.prog t = some 34) : BuildsSlice Try.prog t 2 #[(0, .agg #[a, b, c]), (1, .agg #[a', b', c'])] 34 [a, b, c, a', b', c'] := by
  obtain ⟨i, zv, hi, hzv, h1, h2, _⟩ := zero_parts zeroT_34
  have hc : zv.cells = #[.bool false, .slice none 0 0, .slice none 0 0] := Array.toList_inj.1 h1
  refine bs_run (cells := #[a, b, c, a', b', c']) he hi hzv (by omega) (by omega) ?_
  rw [h2, hc]
  have : madeCells #[.bool false, .slice none 0 0, .slice none 0 0] (2 * 3) = #[.bool false, .slice none 0 0, .slice none 0 0, .bool false, .slice none 0 0, .slice none 0 0] := Array.toList_inj.1 (by rw [made_flat _ 3 rfl (by omega)]; rfl)
  rw [this, fill_three (off := 0) rfl (by simp), fill_three (off := 3) rfl (by simp)]; rfl
theorem bs_rat4 {t : Nat} {a b c a' b' c' d e f d' e' f' : Value} (he : elemT Try.prog t = some 34) : BuildsSlice Try.prog t 4 #[(0, .agg #[a, b, c]), (1, .agg #[a', b', c']), (2, .agg #[d, e, f]), (3, .agg #[d', e', f'])] 34 [a, b, c, a', b', c', d, e, f, d', e', f'] := by
  obtain ⟨i, zv, hi, hzv, h1, h2, _⟩ := zero_parts zeroT_34
  have hc : zv.cells = #[.bool false, .slice none 0 0, .slice none 0 0] := Array.toList_inj.1 h1
  refine bs_run (cells := #[a, b, c, a', b', c', d, e, f, d', e', f']) he hi hzv (by omega) (by omega) ?_
  rw [h2, hc]
  have : madeCells #[.bool false, .slice none 0 0, .slice none 0 0] (4 * 3) = #[.bool false, .slice none 0 0, .slice none 0 0, .bool false, .slice none 0 0, .slice none 0 0, .bool false, .slice none 0 0, .slice none 0 0, .bool false, .slice none 0 0, .slice none 0 0] := Array.toList_inj.1 (by rw [made_flat _ 3 rfl (by omega)]; rfl)
  rw [this, fill_three (off := 0) rfl (by simp), fill_three (off := 3) rfl (by simp), fill_three (off := 6) rfl (by simp), fill_three (off := 9) rfl (by simp)]
  simp [Instr.fill]
def fib : List Rat := [1, 1, 1 + 1, 1 + (1 + 1)]
theorem fib_bm : bmOut (bmI fib 4) = [1, 1] ∧ (bmI fib 4).size = 2 := by
  have s1 : bmI fib 1 = ⟨[1, -1], [1], 1, 1, 1⟩ := by
    show bmStep fib ⟨[1], [1], 0, 1, 1⟩ 0 = _
    decide +kernel
  have s2 : bmI fib 2 = ⟨[1, -1], [1], 1, 2, 1⟩ := by rw [bmI, s1]; decide +kernel
  have s3 : bmI fib 3 = ⟨[1, -1, -1], [1, -1], 2, 1, 1⟩ := by rw [bmI, s2]; decide +kernel
  have s4 : bmI fib 4 = ⟨[1, -1, -1], [1, -1], 2, 2, 1⟩ := by rw [bmI, s3]; decide +kernel
  rw [s4]
  decide +kernel
theorem fib_QB : ∀ x ∈ fib, QB 2 x := by
  intro x hx
  have h2 : QB 1 ((1 : Rat) + 1) := (QB_one 0).add (QB_one 0)
  simp only [fib, List.mem_cons, List.not_mem_nil, or_false] at hx
  rcases hx with rfl | rfl | rfl | rfl
  · exact QB_one 2
  · exact QB_one 2
  · exact h2.mono (by omega)
  · exact (QB_one 0).add h2
theorem fib_CB : CB 8 fib := CB_of fib fib_QB
theorem fib_fit (i : Nat) (hi : i < 4) : BMFit fib (bmI fib i) i := bm_fit (e := 2) fib_CB (by simp [fib]) (by simp [bb, fib]) i (by simpa [fib] using hi)
theorem fib_q (i : Nat) : QF (cf (bmI fib 4).q i) := by
  obtain ⟨h1, _, _⟩ := bm_CB (e := 2) fib_CB 4 (by omega) 4 (by omega)
  exact QF.of (h1.at i) (by simp [bb])
theorem fib_len : fib.length = 4 := rfl
theorem fib_eq : [] ++ [1] ++ [1] ++ [1 + 1] ++ [1 + (1 + 1)] = fib := rfl
theorem fib_rec (V : View) (v : Value) (hl : Rats V v fib) : Spec Try.prog 13 [v] V fun v' V' => ∃ w, v' = .tuple #[w, .int .i64 0] ∧ Rats V' w [1, 1] := by
  have eq : qs (fib.map toRaw) = fib := qs_toRaw fib
  have el : (fib.map toRaw).length = 4 := by rw [List.length_map]; exact fib_len
  refine (crec_c V v (fib.map toRaw) (Rats.raws hl) (fitR_toRaw (fun x hx => QF.of (fib_QB x hx) (by omega))) (by omega) (fun _ i hi => ?_) (fun _ x hx => ?_) (fun _ i => ?_)).mono fun v' V' hV h => ?_
  · rw [eq]; exact fib_fit i (by omega)
  · rw [eq] at hx; exact QF.of (fib_QB x hx) (by omega)
  · rw [eq, el]; exact fib_q i
  · have h5 := h.2.2 (okR_toRaw _)
    rw [eq, el, fib_bm.1, fib_bm.2] at h5
    exact h5 (by omega)
attribute [local irreducible] fib
theorem alive_c (V : View) : Spec Try.prog 18 [] V fun v' V' => v' = .bool true := by
  refine (Spec.enter Try.func18 rfl fun Γ => ?_)
  simp only [Try.ntmps18, List.map_cons, List.map_nil, List.length_cons, List.length_nil, Nat.reduceAdd, Nat.reduceSub, List.replicate_succ, List.replicate_zero, List.cons_append, List.nil_append]
  first | refine Gx.a (by kernel_rfl) fun K hK => ?_ | refine Gx.b (by kernel_rfl) fun K hK => ?_ | refine Gx.c (by kernel_rfl) fun K hK => ?_
  simp only [XA, XB, gateX, Nat.reduceAdd, Nat.reduceLeDiff, Nat.reduceSub, Nat.reduceMul, ↓reduceIte, Int.reduceToNat, Int.reduceLE, beq_self_eq_true]
  refine hK _ ?_
  first | refine Gx.a (by kernel_rfl) fun K hK => ?_ | refine Gx.b (by kernel_rfl) fun K hK => ?_ | refine Gx.c (by kernel_rfl) fun K hK => ?_
  simp only [XA, XB, gateX, Nat.reduceAdd, Nat.reduceLeDiff, Nat.reduceSub, Nat.reduceMul, ↓reduceIte, Int.reduceToNat, Int.reduceLE, beq_self_eq_true]
  refine call_go (by kernel_rfl) rfl (pone_c _) fun v1 V1 hV1 h1 => ?_
  obtain ⟨x1, y1, rfl, o1, o2⟩ := h1.form
  simp only [XA, XB, gateX, Nat.reduceAdd, Nat.reduceLeDiff, Nat.reduceSub, Nat.reduceMul, ↓reduceIte, Int.reduceToNat, Int.reduceLE, beq_self_eq_true]
  refine st_rat rfl rfl rfl o1 o2 ?_
  simp only [XA, XB, gateX, Nat.reduceAdd, Nat.reduceLeDiff, Nat.reduceSub, Nat.reduceMul, ↓reduceIte, Int.reduceToNat, Int.reduceLE, beq_self_eq_true]
  refine hK _ ?_
  (first | refine XWP.drw [0, 1, 2, 3, 5, 6, 7, 4, 8, 9, 10, 11, 12, 13, 14, 15, 16] (by kernel_rfl) (by kernel_rfl) (by kernel_rfl) fun K hK => ?_ | refine XWP.seq (XWP.drw [0, 1, 2, 3, 5, 6, 7, 4, 8, 9, 10, 11, 12, 13, 14, 15, 16] (by kernel_rfl) (by kernel_rfl) (by kernel_rfl) fun K hK => ?_) | refine XWP.drw1 [0, 1, 2, 3, 5, 6, 7, 4, 8, 9, 10, 11, 12, 13, 14, 15, 16] (by kernel_rfl) (by kernel_rfl) (by kernel_rfl) fun K hK => ?_) <;> dsimp only [pickOps, List.getElem?_cons_zero, List.getElem?_cons_succ]
  simp only [XA, XB, gateX, Nat.reduceAdd, Nat.reduceLeDiff, Nat.reduceSub, Nat.reduceMul, ↓reduceIte, Int.reduceToNat, Int.reduceLE, beq_self_eq_true]
  refine call_go (by kernel_rfl) rfl (padd_c _ _ _ _ _ (h1.toV QF_one) (h1.toV QF_one) QF_one QF_one) fun v2 V2 hV2 h2 => ?_
  have h1 := h1.mono hV2
  simp only [XA, XB, gateX, Nat.reduceAdd, Nat.reduceLeDiff, Nat.reduceSub, Nat.reduceMul, ↓reduceIte, Int.reduceToNat, Int.reduceLE, beq_self_eq_true]
  refine call_go (by kernel_rfl) rfl (padd_c _ _ _ _ _ (h1.toV QF_one) (h1.toV QF_one) QF_one QF_one) fun v3 V3 hV3 h3 => ?_
  have h1 := h1.mono hV3
  have h2 := h2.mono hV3
  have f2 : QF ((1 : Rat) + 1) := QF.of ((QB_one 0).add (QB_one 0)) (by omega)
  simp only [XA, XB, gateX, Nat.reduceAdd, Nat.reduceLeDiff, Nat.reduceSub, Nat.reduceMul, ↓reduceIte, Int.reduceToNat, Int.reduceLE, beq_self_eq_true]
  refine call_go (by kernel_rfl) rfl (padd_c _ _ _ _ _ (h1.toV QF_one) (h3.toV f2) QF_one f2) fun v4 V4 hV4 h4 => ?_
  have h1 := h1.mono hV4
  have h2 := h2.mono hV4
  obtain ⟨x2, y2, rfl, o3, o4⟩ := h2.form
  obtain ⟨x4, y4, rfl, o5, o6⟩ := h4.form
  simp only [XA, XB, gateX, Nat.reduceAdd, Nat.reduceLeDiff, Nat.reduceSub, Nat.reduceMul, ↓reduceIte, Int.reduceToNat, Int.reduceLE, beq_self_eq_true]
  refine bs_go (by kernel_rfl) #[(0, .agg #[.bool (ng 1), x1, y1]), (1, .agg #[.bool (ng 1), x1, y1]), (2, .agg #[.bool (ng (1 + 1)), x2, y2]), (3, .agg #[.bool (ng (1 + (1 + 1))), x4, y4])] (by simp [ev_tmp, SV.val]) (bs_rat4 elemT_22) fun b hb1 hb2 => ?_
  simp only [XA, XB, gateX, Nat.reduceAdd, Nat.reduceLeDiff, Nat.reduceSub, Nat.reduceMul, ↓reduceIte, Int.reduceToNat, Int.reduceLE, beq_self_eq_true]
  refine call_pub b ⟨34, [.bool (ng 1), x1, y1, .bool (ng 1), x1, y1, .bool (ng (1 + 1)), x2, y2, .bool (ng (1 + (1 + 1))), x4, y4], 12⟩ (by simp only [upd_at]) (fun o ho hle' => ?_) (by kernel_rfl) rfl
  have hrow := ((((RowAt.nil (E := ratE) V4).snoc (x := 1) (show isOne (.bool (ng 1)) = true from rfl) o1 o2 h1).snoc (x := 1) (show isOne (.bool (ng 1)) = true from rfl) o1 o2 h1).snoc (x := 1 + 1) (show isOne (.bool (ng (1 + 1))) = true from rfl) o3 o4 h2).snoc (x := 1 + (1 + 1)) (show isOne (.bool (ng (1 + (1 + 1)))) = true from rfl) o5 o6 h4
  rw [fib_eq] at hrow
  simp only [List.nil_append, List.cons_append] at hrow
  have hl := hrow.pub ratE_ok ho hle' (n := 4) (c := 4) fib_len (Nat.le_refl _) (by omega)
  refine call_go (by kernel_rfl) rfl (fib_rec _ _ hl) fun v5 V5 hV5 h5 => ?_
  obtain ⟨w, rfl, hw⟩ := h5
  simp only [XA, XB, gateX, Nat.reduceAdd, Nat.reduceLeDiff, Nat.reduceSub, Nat.reduceMul, ↓reduceIte, Int.reduceToNat, Int.reduceLE, beq_self_eq_true]
  refine hK _ ?_
  have h1 := (h1.mono hle').mono hV5
  first | refine Gx.a (by kernel_rfl) fun K hK => ?_ | refine Gx.b (by kernel_rfl) fun K hK => ?_ | refine Gx.c (by kernel_rfl) fun K hK => ?_
  simp only [XA, XB, gateX, Nat.reduceAdd, Nat.reduceLeDiff, Nat.reduceSub, Nat.reduceMul, ↓reduceIte, Int.reduceToNat, Int.reduceLE, beq_self_eq_true, decide_true]
  refine bs_go (by kernel_rfl) #[(0, .agg #[.bool (ng 1), x1, y1]), (1, .agg #[.bool (ng 1), x1, y1])] (by simp [ev_tmp, SV.val]) (bs_rat2 elemT_22) fun b3 hb3 hb4 => ?_
  simp only [XA, XB, gateX, Nat.reduceAdd, Nat.reduceLeDiff, Nat.reduceSub, Nat.reduceMul, ↓reduceIte, Int.reduceToNat, Int.reduceLE, beq_self_eq_true]
  refine call_pub b3 ⟨34, [.bool (ng 1), x1, y1, .bool (ng 1), x1, y1], 6⟩ (by simp only [upd_at]) (fun o2' ho2 hle2 => ?_) (by kernel_rfl) rfl
  have hrow2 := (((RowAt.nil (E := ratE) V5).snoc (x := 1) (show isOne (.bool (ng 1)) = true from rfl) o1 o2 h1).snoc (x := 1) (show isOne (.bool (ng 1)) = true from rfl) o1 o2 h1)
  simp only [List.nil_append, List.cons_append] at hrow2
  have q11 : ∀ x ∈ [(1 : Rat), 1], QF x := fun x hx => by
    simp only [List.mem_cons, List.not_mem_nil, or_false, or_self] at hx
    rw [hx]; exact QF_one
  refine call_go (by kernel_rfl) rfl (lsame_c _ _ _ [1, 1] [1, 1] (hw.up hle2) (hrow2.pub ratE_ok ho2 hle2 (n := 2) (c := 2) rfl (Nat.le_refl _) (by omega)) q11 q11) fun v6 V6 hV6 h6 => ?_
  subst h6
  simp only [XA, XB, gateX, Nat.reduceAdd, Nat.reduceLeDiff, Nat.reduceSub, Nat.reduceMul, ↓reduceIte, Int.reduceToNat, Int.reduceLE, beq_self_eq_true]
  refine hK _ (XWP.ret ?_)
  try simp only [thenX_ret, inBlockX_ret]
  refine ret_go _ rfl ?_
  show Value.bool _ = _
  simp
theorem cut_take (P : List Raw) {a b : Nat} (h : a ≤ b) : fewL P a = (fewL P b).take a := by
  unfold fewL
  rw [← List.map_take, List.take_take, Nat.min_eq_left h]
theorem fewR_qf {l : List Raw} (h : fewR l) (hd : digR l) : ∀ x ∈ qs l, QF x := fun x hx => QF.of (fewR_QB h hd x hx) (by omega)
theorem lpoly_c (V : View) (v : Value) (P : List Raw) (n : Nat) (hv : Raws V v P) (hn : n ≤ 1000) : Spec Try.prog 20 [v, .int .i64 (n : Int)] V fun v' V' => ∃ R, Raws V' v' R ∧ R.length ≤ n ∧ fewR R := by
  obtain ⟨A1, c1, rfl, hc1, hm1⟩ := hv.form
  refine (Spec.enter Try.func20 rfl fun Γ => ?_)
  simp only [Try.ntmps20, List.map_cons, List.map_nil, List.length_cons, List.length_nil, Nat.reduceAdd, Nat.reduceSub, List.replicate_succ, List.replicate_zero, List.cons_append, List.nil_append]
  first | refine Gx.a (by kernel_rfl) fun K hK => ?_ | refine Gx.b (by kernel_rfl) fun K hK => ?_ | refine Gx.c (by kernel_rfl) fun K hK => ?_
  simp only [XA, XB, gateX, Nat.reduceAdd, Nat.reduceLeDiff, Nat.reduceSub, Nat.reduceMul, ↓reduceIte, Int.reduceToNat, Int.reduceLE, beq_self_eq_true]
  refine hK _ ?_
  first | refine Gx.a (by kernel_rfl) fun K hK => ?_ | refine Gx.b (by kernel_rfl) fun K hK => ?_ | refine Gx.c (by kernel_rfl) fun K hK => ?_
  simp only [XA, XB, gateX, Nat.reduceAdd, Nat.reduceLeDiff, Nat.reduceSub, Nat.reduceMul, ↓reduceIte, Int.reduceToNat, Int.reduceLE, beq_self_eq_true]
  refine call_go (by kernel_rfl) rfl (lfew_c _ _ P n hv (by omega)) fun v1 V1 hV1 h1 => ?_
  simp only [XA, XB, gateX, Nat.reduceAdd, Nat.reduceLeDiff, Nat.reduceSub, Nat.reduceMul, ↓reduceIte, Int.reduceToNat, Int.reduceLE, beq_self_eq_true]
  refine hK _ ?_
  clear hK
  obtain ⟨A2, c2, rfl, hc2, hm2⟩ := h1.form
  have hlen := fewL_len P n
  have hfew := fewL_few P n
  have hdig := Raws.dig h1
  generalize hL : fewL P n = L at *
  refine XWP.cut (fun s => ∃ (k : Nat) (V2 : View), StIs (fun Z => [Z 0,Z 1,Z 2,Z 3,Z 4, .v (.slice A2 k c2), Z 6,Z 7,Z 8,Z 9,Z 10,Z 11,Z 12,Z 13,Z 14,Z 15,Z 16,Z 17,Z 18,Z 19,Z 20,Z 21,Z 22,Z 23,Z 24,Z 25,Z 26,Z 27,Z 28,Z 29,Z 30,Z 31,Z 32,Z 33,Z 34,Z 35,Z 36]) [] (fun _ => none) V2 s ∧ Raws V2 (.slice A2 k c2) (L.take k) ∧ k ≤ L.length) ?_ ?_
  · first | refine Gx.a (by kernel_rfl) fun K hK => ?_ | refine Gx.b (by kernel_rfl) fun K hK => ?_ | refine Gx.c (by kernel_rfl) fun K hK => ?_
    by_cases h0 : n < P.length
    · have b1 : decide ((n : Int) < (P.length : Int)) = true := decide_eq_true (by omega)
      simp only [XA, XB, gateX, Nat.reduceAdd, Nat.reduceLeDiff, Nat.reduceSub, Nat.reduceMul, ↓reduceIte, Int.reduceToNat, Int.reduceLE, beq_self_eq_true, b1]
      refine call_go (by kernel_rfl) rfl (lfew_c _ _ P 1000 (hv.up hV1) (by omega)) fun v3 V3 hV3 h3 => ?_
      simp only [XA, XB, gateX, Nat.reduceAdd, Nat.reduceLeDiff, Nat.reduceSub, Nat.reduceMul, ↓reduceIte, Int.reduceToNat, Int.reduceLE, beq_self_eq_true]
      have f3 := fewL_few P 1000
      have d3 := Raws.dig h3
      have l3 := fewL_len P 1000
      refine call_go (by kernel_rfl) rfl (dright_c _ _ _ h3 f3.fit (by omega) (fun _ => fewR_qf f3 d3)) fun v4 V4 hV4 h4 => ?_
      subst h4
      cases hr : rightP (fewL P 1000)
      · simp only [XA, XB, gateX, Nat.reduceAdd, Nat.reduceLeDiff, Nat.reduceSub, Nat.reduceMul, ↓reduceIte, Int.reduceToNat, Int.reduceLE, beq_self_eq_true]
        refine hK _ ?_
        first | refine Gx.f rfl ?_ | refine XWP.seq (Gx.f rfl ?_)
        refine XWP.skip ?_
        exact ⟨L.length, V4, StIs.of (by exact rfl), by rw [List.take_length]; exact (h1.up hV3).up hV4, Nat.le_refl _⟩
      · simp only [XA, XB, gateX, Nat.reduceAdd, Nat.reduceLeDiff, Nat.reduceSub, Nat.reduceMul, ↓reduceIte, Int.reduceToNat, Int.reduceLE, beq_self_eq_true]
        refine hK _ ?_
        first | refine Gx.t rfl ?_ | refine XWP.seq (Gx.t rfl ?_)
        clear hK
        have hok : okR L = true := by
          have := (rightP_parts hr).1
          rw [← hL, cut_take P hn]
          unfold okR at this ⊢
          exact List.all_eq_true.2 fun r hr => List.all_eq_true.1 this r (List.mem_of_mem_take hr)
        first | refine XWP.block ?_ | refine XWP.seq (XWP.block ?_)
        refine XWP.loop (fun k s => ∃ (V2 : View), StIs (fun Z => [Z 0,Z 1,Z 2,Z 3,Z 4, .v (.slice A2 k c2), Z 6,Z 7,Z 8,Z 9,Z 10,Z 11,Z 12,Z 13,Z 14,Z 15,Z 16,Z 17,Z 18,Z 19,Z 20,Z 21,Z 22,Z 23,Z 24,Z 25,Z 26,Z 27,Z 28,Z 29,Z 30,Z 31,Z 32,Z 33,Z 34,Z 35,Z 36]) [] (fun _ => none) V2 s ∧ V1.le V2 ∧ k ≤ L.length) L.length ⟨V4, StIs.of (by exact rfl), View.le_trans hV3 hV4, Nat.le_refl _⟩ ?_
        rintro k s ⟨V2, hs, hV2, hk⟩
        obtain ⟨z, rfl⟩ := hs.out
        try dsimp only
        have hv2 := Raws.up h1 hV2
        refine XWP.seq ?_
        by_cases hk0 : k = 0
        · subst hk0
          have b2 : decide ((0 : Int) < ((0 : Nat) : Int)) = false := decide_eq_false (by omega)
          first | refine Gx.a (by kernel_rfl) fun K hK => ?_ | refine Gx.b (by kernel_rfl) fun K hK => ?_ | refine Gx.c (by kernel_rfl) fun K hK => ?_
          simp only [XA, XB, gateX, Nat.reduceAdd, Nat.reduceLeDiff, Nat.reduceSub, Nat.reduceMul, ↓reduceIte, Int.reduceToNat, Int.reduceLE, beq_self_eq_true, b2]
          refine hK _ ?_
          first | refine Gx.f rfl ?_ | refine XWP.seq (Gx.f rfl ?_)
          refine XWP.exit ?_
          exact ⟨0, V2, StIs.of (by exact rfl), SlAt.take hv2 hk, hk⟩
        · have b2 : decide ((0 : Int) < (k : Int)) = true := decide_eq_true (by omega)
          have hr2 := Raws.rats hv2 hok
          obtain ⟨b, o, rfl⟩ := SlAt.addr hv2 (by omega)
          obtain ⟨m3, n3, d3', hx, ⟨p1, p2, p3⟩, hld⟩ := Rats.get hr2 (k - 1) (by rw [qs_len]; omega)
          have w1 := i64_pred k (by omega) (by omega)
          first | refine Gx.a (by kernel_rfl) fun K hK => ?_ | refine Gx.b (by kernel_rfl) fun K hK => ?_ | refine Gx.c (by kernel_rfl) fun K hK => ?_
          simp only [XA, XB, gateX, Nat.reduceAdd, Nat.reduceLeDiff, Nat.reduceSub, Nat.reduceMul, ↓reduceIte, Int.reduceToNat, Int.reduceLE, beq_self_eq_true, b2, w1]
          refine ⟨by omega, by omega, ld_mem (hld _) ?_⟩
          simp only [XA, XB, gateX, Nat.reduceAdd, Nat.reduceLeDiff, Nat.reduceSub, Nat.reduceMul, ↓reduceIte, Int.reduceToNat, Int.reduceLE, beq_self_eq_true]
          refine call_go (by kernel_rfl) rfl (psign_c _ _ _ (hx.toV (fewR_qf hfew hdig _ (cf_mem (by rw [qs_len]; omega))))) fun v5 V5 hV5 h5 => ?_
          subst h5
          by_cases hz : cf (qs L) (k - 1) = 0
          · have b3 : decide (cf (qs L) (k - 1) = 0) = true := decide_eq_true hz
            simp only [XA, XB, gateX, Nat.reduceAdd, Nat.reduceLeDiff, Nat.reduceSub, Nat.reduceMul, ↓reduceIte, Int.reduceToNat, Int.reduceLE, beq_self_eq_true, sgI_zero, b3]
            refine hK _ ?_
            first | refine Gx.t rfl ?_ | refine XWP.seq (Gx.t rfl ?_)
            refine XWP.skip ?_
            first | refine XWP.block ?_ | refine XWP.seq (XWP.block ?_)
            first | refine Gx.a (by kernel_rfl) fun K hK => ?_ | refine Gx.b (by kernel_rfl) fun K hK => ?_ | refine Gx.c (by kernel_rfl) fun K hK => ?_
            simp only [XA, XB, gateX, Nat.reduceAdd, Nat.reduceLeDiff, Nat.reduceSub, Nat.reduceMul, ↓reduceIte, Int.reduceToNat, Int.reduceLE, beq_self_eq_true, w1]
            refine ⟨by omega, by omega, by omega, ?_⟩
            exact hK _ ⟨k - 1, by omega, V5, StIs.of (by exact rfl), View.le_trans hV2 hV5, by omega⟩
          · have b3 : decide (cf (qs L) (k - 1) = 0) = false := decide_eq_false hz
            simp only [XA, XB, gateX, Nat.reduceAdd, Nat.reduceLeDiff, Nat.reduceSub, Nat.reduceMul, ↓reduceIte, Int.reduceToNat, Int.reduceLE, beq_self_eq_true, sgI_zero, b3]
            refine hK _ ?_
            first | refine Gx.f rfl ?_ | refine XWP.seq (Gx.f rfl ?_)
            refine XWP.exit ?_
            exact ⟨k, V5, StIs.of (by exact rfl), SlAt.take (hv2.up hV5) hk, hk⟩
    · have b1 : decide ((n : Int) < (P.length : Int)) = false := decide_eq_false (by omega)
      simp only [XA, XB, gateX, Nat.reduceAdd, Nat.reduceLeDiff, Nat.reduceSub, Nat.reduceMul, ↓reduceIte, Int.reduceToNat, Int.reduceLE, beq_self_eq_true, b1]
      refine hK _ ?_
      first | refine Gx.f rfl ?_ | refine XWP.seq (Gx.f rfl ?_)
      refine XWP.skip ?_
      exact ⟨L.length, V1, StIs.of (by exact rfl), by rw [List.take_length]; exact h1, Nat.le_refl _⟩
  rintro s ⟨k, V2, hs, hk, hkl⟩
  obtain ⟨z, rfl⟩ := hs.out
  try dsimp only
  first | refine Gx.a (by kernel_rfl) fun K hK => ?_ | refine Gx.b (by kernel_rfl) fun K hK => ?_ | refine Gx.c (by kernel_rfl) fun K hK => ?_
  simp only [XA, XB, gateX, Nat.reduceAdd, Nat.reduceLeDiff, Nat.reduceSub, Nat.reduceMul, ↓reduceIte, Int.reduceToNat, Int.reduceLE, beq_self_eq_true]
  refine hK _ (XWP.ret ?_)
  try simp only [thenX_ret, inBlockX_ret]
  refine ret_go _ rfl ?_
  exact ⟨_, hk, by simp; omega, fun r hr => hfew r (List.mem_of_mem_take hr)⟩
end Go.Proofs.Ythoboehbadmlmaa
end
section
namespace Go.Proofs.Ythoboehbadmlmaa
open Go Go.RowKit
set_option linter.unusedSimpArgs false
set_option linter.unusedVariables false
attribute [local irreducible] XWP Spec SpecO XPub XCall seqX clX apX stX ldX iaX slX
theorem bad2_false {P Q : List Raw} (h : bad2 P Q = false) : rightP P = true ∧ rightP Q = true := by
  unfold bad2 at h
  rw [Bool.or_eq_false_iff] at h
  exact ⟨by simpa using h.1, by simpa using h.2⟩
theorem fewR_CB' {P : List Raw} {n : Nat} (h : fewR P) (hd : digR P) (hl : P.length ≤ n) : CB (n * 96) (qs P) := (fewR_CB h hd).mono (Nat.mul_le_mul_right _ hl)
end Go.Proofs.Ythoboehbadmlmaa
end
section
namespace Go.Proofs.Ythoboehbadmlmaa
open Go Go.RowKit Go.ChangeShapes
set_option linter.unusedVariables false
/-- the whole world, as what is published -/
def viewW (w : World) : View := fun k => w.heap[k]?
theorem viewW_sub (w : World) : View.sub (viewW w) w := fun _ _ h => h
theorem cell_view {w : World} {a : Addr} {v : Value} (h : w.cell? a = some v) : a.spot = none ∧ ∃ arr ty fr, viewW w a.block = some (.cells arr ty fr) ∧ arr[a.off]? = some v := by
  unfold World.cell? at h
  split at h
  · rename_i c t f hb
    split at h
    · cases h
    · rename_i hs
      refine ⟨?_, c, t, f, hb, h⟩
      cases hsp : a.spot with
      | none => rfl
      | some x => rw [hsp] at hs; simp at hs
  · cases h
theorem add_off (a : Addr) (n : Nat) : (a.add n).block = a.block ∧ (a.add n).off = a.off + n := by
  unfold Addr.add; split
  · rename_i h; subst h; exact ⟨rfl, rfl⟩
  · exact ⟨rfl, rfl⟩
theorem cells_view {w : World} {a : Addr} {n : Nat} {f : Nat → Value} (hn : 0 < n) (h : ∀ i, i < n → w.cell? (a.add i) = some (f i)) : a.spot = none ∧ ∃ arr ty fr, viewW w a.block = some (.cells arr ty fr) ∧ ∀ i, i < n → arr[a.off + i]? = some (f i) := by
  have h0 := h 0 hn
  have e0 : a.add 0 = a := by simp [Addr.add]
  rw [e0] at h0
  obtain ⟨hs, arr, ty, fr, hb, _⟩ := cell_view h0
  refine ⟨hs, arr, ty, fr, hb, fun i hi => ?_⟩
  obtain ⟨_, arr', ty', fr', hb', hv⟩ := cell_view (h i hi)
  obtain ⟨e1, e2⟩ := add_off a i
  rw [e1, hb] at hb'
  cases hb'
  rw [e2] at hv; exact hv
theorem addr_eta (a : Addr) (h : a.spot = none) : a = ⟨a.block, a.off, none⟩ := by cases a; simp at h; subst h; rfl
section
variable {H : Type} {enc : TypeId × Value → H} {w : World} {base : Nat} {spare : Nat → Bool} {held : Bool}
theorem und_nat : (Try.prog).underlying 32 = some (.slice 129) := und_elem elemT_32
theorem und_u32 : (Try.prog).underlying 129 = some (.int .u32) := by kernel_rfl
theorem cells_u32 : (Try.prog).cellsOf 129 = 1 := by kernel_rfl
theorem cells_rat : (Try.prog).cellsOf 34 = 3 := by kernel_rfl
theorem open_nat {fuel : Nat} {v : Value} {x : DataW H × List MemPlace} (h : DataW.trod enc Try.prog w base spare held fuel 32 [v] = some x) : ∃ ds, NatAt (viewW w) v ds := by
  rcases open_ints und_nat und_u32 cells_u32 h with ⟨hcs, _⟩ | ⟨a, len, cap, zs, hcs, _, hl, hm, hz, _, hcell, hwz⟩
  · cases hcs; exact ⟨[], NatAt.nil _⟩
  · cases hcs
    have hzl : len ≤ zs.length := by rw [hz]; split <;> omega
    have hwf : ∀ z ∈ zs, 0 ≤ z ∧ z < 4294967296 := fun z hz => by
      have := hwz z hz
      simp [Lit.wf, IntKind.min, IntKind.max, IntKind.signed, IntKind.bits] at this
      omega
    refine ⟨(zs.take len).map Int.toNat, some a, cap, by simp [Nat.min_eq_left hzl], by simp; omega, by unfold maxLen at hm; omega, fun d hd => ?_, ?_⟩
    · obtain ⟨z, hz, rfl⟩ := List.mem_map.1 hd
      have := hwf z (List.mem_of_mem_take hz)
      unfold BB; omega
    · rcases Nat.eq_zero_or_pos len with h0 | h0
      · subst h0; exact .inl (by simp)
      · obtain ⟨hs, arr, ty, fr, hb, hv⟩ := cells_view (f := fun i => .int .u32 (zs.getD i 0)) (by omega) hcell
        refine .inr ⟨a.block, a.off, arr, ty, fr, by rw [← addr_eta a hs], hb, fun i d hd => ?_⟩
        rw [List.getElem?_map, List.getElem?_take] at hd
        split at hd
        · rename_i hi
          rw [hv i (by omega)]
          have hiz : i < zs.length := by omega
          rw [List.getElem?_eq_getElem hiz] at hd
          simp at hd
          have := hwf zs[i] (List.getElem_mem hiz)
          simp [hiz]
          omega
        · cases hd
noncomputable def ratFields : Array Field := match (Try.prog).underlying 34 with
  | some (.struct fs) => fs
  | _ => #[]
theorem und_rat : (Try.prog).underlying 34 = some (.struct ratFields) := by kernel_rfl
theorem ratFields_map : ratFields.toList.map (fun f => (f.type, f.offset)) = [(4, 0), (32, 1), (32, 2)] := by kernel_rfl
theorem und_bool : (Try.prog).underlying 4 = some .bool := by kernel_rfl
theorem cells_bool : (Try.prog).cellsOf 4 = 1 := by kernel_rfl
theorem cells_nat : (Try.prog).cellsOf 32 = 1 := by kernel_rfl
theorem ratField (i : Nat) (t o : Nat) (h : [(4, 0), (32, 1), (32, 2)][i]? = some (t, o)) : ∃ f, ratFields[i]? = some f ∧ f.type = t ∧ f.offset = o := by
  rw [← ratFields_map, List.getElem?_map] at h
  cases hf : ratFields.toList[i]? with
  | none => rw [hf] at h; cases h
  | some f =>
    rw [hf] at h
    simp at h
    exact ⟨f, by rw [← Array.getElem?_toList]; exact hf, h.1, h.2⟩
theorem three_of {α : Type} {l : List α} (h : l.length = 3) : ∃ a b c, l = [a, b, c] := by
  rcases l with _ | ⟨a, _ | ⟨b, _ | ⟨c, _ | ⟨d, l⟩⟩⟩⟩ <;> simp at h
  exact ⟨a, b, c, rfl⟩
theorem open_rat {fuel : Nat} {cs : List Value} {x : DataW H × List MemPlace} (h : DataW.trod enc Try.prog w base spare held fuel 34 cs = some x) : ∃ (r : Raw) (n d : Value), cs = [.bool r.m, n, d] ∧ NatAt (viewW w) n r.nd ∧ NatAt (viewW w) d r.dd := by
  obtain ⟨xs, m, _, _, hl, hxl, hf⟩ := DataW.trod_struct und_rat h
  rw [cells_rat] at hl
  have hsz : ratFields.size = 3 := by
    have := congrArg List.length ratFields_map
    simpa using this
  obtain ⟨c0, c1, c2, rfl⟩ := three_of hl
  obtain ⟨f0, a0, t0, o0⟩ := ratField 0 _ _ rfl
  obtain ⟨f1, a1, t1, o1⟩ := ratField 1 _ _ rfl
  obtain ⟨f2, a2, t2, o2⟩ := ratField 2 _ _ rfl
  have h0 := hf 0 f0 a0
  have h1 := hf 1 f1 a1
  have h2 := hf 2 f2 a2
  rw [t0, o0, cells_bool, List.getElem?_eq_getElem (by omega)] at h0
  rw [t1, o1, cells_nat, List.getElem?_eq_getElem (by omega)] at h1
  rw [t2, o2, cells_nat, List.getElem?_eq_getElem (by omega)] at h2
  obtain ⟨b, e, _⟩ := DataW.trod_bool und_bool h0
  have e' : c0 = .bool b := by simpa using e
  subst e'
  obtain ⟨ds, hn⟩ := open_nat h1
  obtain ⟨es, hd⟩ := open_nat h2
  exact ⟨⟨b, ds, es⟩, c1, c2, rfl, hn, hd⟩
theorem choose_list {α : Type} {Q : Nat → α → Prop} : ∀ n, (∀ i, i < n → ∃ x, Q i x) → ∃ xs : List α, xs.length = n ∧ ∀ i x, xs[i]? = some x → Q i x
  | 0, _ => ⟨[], rfl, fun i x h => by simp at h⟩
  | n + 1, h => by
    obtain ⟨xs, hl, hq⟩ := choose_list n fun i hi => h i (by omega)
    obtain ⟨x, hx⟩ := h n (by omega)
    refine ⟨xs ++ [x], by simp [hl], fun i y hi => ?_⟩
    by_cases hlt : i < n
    · rw [List.getElem?_append_left (by omega)] at hi; exact hq i y hi
    · rw [List.getElem?_append_right (by omega)] at hi
      have : i = n := by
        rcases Nat.eq_zero_or_pos (i - xs.length) with h0 | h0
        · omega
        · rw [List.getElem?_eq_none (by simp; omega)] at hi; cases hi
      subst this
      rw [hl, Nat.sub_self] at hi
      simp at hi
      subst hi; exact hx
theorem open_raws {t fuel : Nat} {v : Value} {x : DataW H × List MemPlace} (ht : elemT Try.prog t = some 34) (h : DataW.trod enc Try.prog w base spare held fuel t [v] = some x) : ∃ l, Raws (viewW w) v l := by
  rcases Go.Deep.open_slice (und_elem ht) h with ⟨hcs, _⟩ | ⟨a, len, cap, m, n, D, Pl, hcs, _, hl, hm, hmm, _, hel⟩
  · cases hcs; exact ⟨[], SlAt.nil _⟩
  · cases hcs
    have hlm : len ≤ m := by rw [hmm]; split <;> omega
    have key : ∀ i, i < len → ∃ r : Raw, ∃ n d : Value, w.cell? (a.add (i * 3)) = some (.bool r.m) ∧ w.cell? (a.add (i * 3 + 1)) = some n ∧ w.cell? (a.add (i * 3 + 2)) = some d ∧ NatAt (viewW w) n r.nd ∧ NatAt (viewW w) d r.dd := fun i hi => by
      obtain ⟨cs', h1, h2⟩ := hel i (by omega)
      obtain ⟨r, n', d, rfl, k1, k2⟩ := open_rat h2
      rw [cells_rat] at h1
      obtain ⟨_, _, h3⟩ := World.cells?_some h1
      have g0 := h3 0 (by omega)
      have g1 := h3 1 (by omega)
      have g2 := h3 2 (by omega)
      rw [Go.Deep.add_add] at g0 g1 g2
      exact ⟨r, n', d, g0, g1, g2, k1, k2⟩
    obtain ⟨l, hll, hq⟩ := choose_list len key
    refine ⟨l, some a, cap, by rw [hll], by omega, by unfold maxLen at hm; omega, ?_⟩
    rcases Nat.eq_zero_or_pos len with h0 | h0
    · exact .inl (List.length_eq_zero_iff.1 (by omega))
    · obtain ⟨nn, dd, g0, _⟩ := hq 0 l[0] (List.getElem?_eq_getElem (by omega))
      have e0 : a.add (0 * 3) = a := by simp [Addr.add]
      rw [e0] at g0
      obtain ⟨hs, arr, ty, fr, hb, _⟩ := cell_view g0
      refine .inr ⟨a.block, a.off, arr, ty, fr, by rw [← addr_eta a hs], hb, fun i x hi => ?_⟩
      obtain ⟨n', d, g0, g1, g2, k1, k2⟩ := hq i x hi
      have at_ : ∀ k v, w.cell? (a.add k) = some v → arr[a.off + k]? = some v := fun k v hk => by
        obtain ⟨_, arr', ty', fr', hb', hv⟩ := cell_view hk
        obtain ⟨e1, e2⟩ := add_off a k
        rw [e1, hb] at hb'
        cases hb'
        rw [e2] at hv; exact hv
      exact ⟨.bool x.m, n', d, at_ _ _ g0, at_ _ _ g1, at_ _ _ g2, rfl, k1.one, k2.one, n', d, rfl, k1, k2⟩
end
end Go.Proofs.Ythoboehbadmlmaa
end
section
namespace Go.Proofs.Ythoboehbadmlmaa
def Sm (f : Nat → Rat) : Nat → Rat
  | 0 => 0
  | n + 1 => Sm f n + f n
theorem Sm_congr {f g : Nat → Rat} : ∀ (n : Nat), (∀ j, j < n → f j = g j) → Sm f n = Sm g n
  | 0, _ => rfl
  | n + 1, h => by
    have := Sm_congr n (fun j hj => h j (by omega))
    simp only [Sm, this, h n (by omega)]
theorem Sm_zero {f : Nat → Rat} (n : Nat) (h : ∀ j, j < n → f j = 0) : Sm f n = 0 := by
  induction n with
  | zero => rfl
  | succ n ih =>
    simp only [Sm, ih fun j hj => h j (by omega), h n (by omega)]
    grind
theorem Sm_add (f g : Nat → Rat) (n : Nat) : Sm (fun j => f j + g j) n = Sm f n + Sm g n := by
  induction n with
  | zero => simp only [Sm]; grind
  | succ n ih => simp only [Sm, ih]; grind
theorem Sm_mul (c : Rat) (f : Nat → Rat) (n : Nat) : Sm (fun j => c * f j) n = c * Sm f n := by
  induction n with
  | zero => simp only [Sm]; grind
  | succ n ih => simp only [Sm, ih]; grind
theorem Sm_front (f : Nat → Rat) (n : Nat) : Sm f (n + 1) = f 0 + Sm (fun j => f (j + 1)) n := by
  induction n with
  | zero => simp only [Sm]; grind
  | succ n ih =>
    have e : Sm f (n + 1 + 1) = Sm f (n + 1) + f (n + 1) := rfl
    rw [e, ih]; simp only [Sm]; grind
theorem Sm_rev (f : Nat → Rat) (n : Nat) : Sm (fun j => f (n - 1 - j)) n = Sm f n := by
  induction n with
  | zero => rfl
  | succ n ih =>
    rw [Sm_front]
    have h : Sm (fun j => f (n + 1 - 1 - (j + 1))) n = Sm (fun j => f (n - 1 - j)) n := Sm_congr n fun j hj => by congr 1; omega
    rw [h, ih]
    simp only [Sm, Nat.add_sub_cancel, Nat.sub_zero]; grind
theorem Sm_one {f : Nat → Rat} {n k : Nat} (hk : k < n) (h : ∀ j, j < n → j ≠ k → f j = 0) : Sm f n = f k := by
  induction n with
  | zero => omega
  | succ n ih =>
    by_cases hn : k = n
    · subst hn
      simp only [Sm, Sm_zero k fun j hj => h j (by omega) (by omega)]; grind
    · simp only [Sm, ih (by omega) fun j hj => h j (by omega), h n (by omega) (by omega)]; grind
theorem Sm_more {f : Nat → Rat} {n m : Nat} (hn : n ≤ m) (h : ∀ j, n ≤ j → j < m → f j = 0) : Sm f m = Sm f n := by
  induction m with
  | zero => rw [show n = 0 by omega]
  | succ m ih =>
    by_cases hm : n = m + 1
    · rw [hm]
    · simp only [Sm, ih (by omega) fun j h1 h2 => h j h1 (by omega), h m (by omega) (by omega)]; grind
theorem Sm_tri (F : Nat → Nat → Rat) (n : Nat) : Sm (fun i => Sm (F i) (i + 1)) n = Sm (fun j => Sm (fun k => F (j + k) j) (n - j)) n := by
  induction n with
  | zero => rfl
  | succ n ih =>
    have e : Sm (fun i => Sm (F i) (i + 1)) (n + 1) = Sm (fun i => Sm (F i) (i + 1)) n + Sm (F n) (n + 1) := rfl
    have h : Sm (fun j => Sm (fun k => F (j + k) j) (n + 1 - j)) (n + 1) = Sm (fun j => Sm (fun k => F (j + k) j) (n - j) + F n j) (n + 1) := Sm_congr _ fun j hj => by
      have hs : n + 1 - j = (n - j) + 1 := by omega
      have hn : j + (n - j) = n := by omega
      rw [hs]; simp only [Sm, hn]
    have h2 : Sm (fun j => Sm (fun k => F (j + k) j) (n - j)) (n + 1) = Sm (fun j => Sm (fun k => F (j + k) j) (n - j)) n := by
      simp only [Sm, Nat.sub_self]; grind
    rw [e, ih, h, Sm_add, h2]
/-- the product of two series -/
def cv (f g : Nat → Rat) (n : Nat) : Rat := Sm (fun j => f j * g (n - j)) (n + 1)
def un (i : Nat) : Rat := if i = 0 then 1 else 0
def mon (t : Rat) (k i : Nat) : Rat := if i = k then t else 0
theorem cv_comm (f g : Nat → Rat) : cv f g = cv g f := by
  funext n
  unfold cv
  rw [← Sm_rev]
  refine Sm_congr _ fun j hj => ?_
  have h1 : n + 1 - 1 - j = n - j := by omega
  have h2 : n - (n + 1 - 1 - j) = j := by omega
  simp only [h1, show n - (n - j) = j by omega]; grind
theorem cv_assoc (f g h : Nat → Rat) : cv (cv f g) h = cv f (cv g h) := by
  funext n
  unfold cv
  have e1 : Sm (fun i => Sm (fun j => f j * g (i - j)) (i + 1) * h (n - i)) (n + 1) = Sm (fun i => Sm (fun j => f j * g (i - j) * h (n - i)) (i + 1)) (n + 1) := Sm_congr _ fun i _ => by
    rw [show Sm (fun j => f j * g (i - j)) (i + 1) * h (n - i) = h (n - i) * Sm (fun j => f j * g (i - j)) (i + 1) by grind, ← Sm_mul]
    exact Sm_congr _ fun j _ => by grind
  rw [e1, Sm_tri (fun i j => f j * g (i - j) * h (n - i))]
  refine Sm_congr _ fun j hj => ?_
  rw [← Sm_mul, show n + 1 - j = n - j + 1 by omega]
  refine Sm_congr _ fun k hk => ?_
  rw [show j + k - j = k by omega, show n - (j + k) = n - j - k by omega]; grind
theorem cv_add (f g h : Nat → Rat) : cv f (fun i => g i + h i) = fun n => cv f g n + cv f h n := by
  funext n
  unfold cv
  rw [← Sm_add]
  exact Sm_congr _ fun j _ => by grind
theorem cv_smul (c : Rat) (f g : Nat → Rat) : cv f (fun i => c * g i) = fun n => c * cv f g n := by
  funext n
  unfold cv
  rw [← Sm_mul]
  exact Sm_congr _ fun j _ => by grind
theorem cv_mon (f : Nat → Rat) (t : Rat) (k n : Nat) : cv f (mon t k) n = if k ≤ n then t * f (n - k) else 0 := by
  unfold cv mon
  by_cases h : k ≤ n
  · rw [if_pos h, Sm_one (k := n - k) (by omega) fun j hj hne => by rw [if_neg (by omega)]; grind]
    rw [if_pos (by omega)]; grind
  · rw [if_neg h]
    exact Sm_zero _ fun j hj => by rw [if_neg (by omega)]; grind
theorem cv_un (f : Nat → Rat) : cv f un = f := by
  funext n
  have e : un = mon 1 0 := rfl
  rw [e, cv_mon, if_pos (by omega)]; simp only [Nat.sub_zero]; grind
theorem cv_zero (f : Nat → Rat) : cv f (fun _ => 0) = fun _ => 0 := by
  funext n
  exact Sm_zero _ fun j _ => by grind
theorem meet_cv (p q : List Rat) (i : Nat) : meet p q i (i + 1) = cv (cf p) (cf q) i := by
  have key : ∀ k, k ≤ i + 1 → meet p q i k = Sm (fun j => cf p j * cf q (i - j)) k := by
    intro k
    induction k with
    | zero => intro _; rfl
    | succ k ih =>
      intro hk
      simp only [meet, Sm, ih (by omega), if_pos (show k ≤ i by omega)]
  exact key _ (Nat.le_refl _)
theorem mulP_cv (p q : List Rat) : cf (mulP p q) = cv (cf p) (cf q) := by
  funext i
  rw [cf_mulP, meet_all, meet_cv]
end Go.Proofs.Ythoboehbadmlmaa
end
section
namespace Go.Proofs.Ythoboehbadmlmaa
theorem cf_nil : cf [] = fun _ => 0 := by funext i; exact cf_none (by simp)
theorem cf_un : cf [1] = un := by funext i; rw [cf_one]; rfl
theorem pAdd_cv (p q : List Rat) (c : Rat) (up i : Nat) : cf (pAdd p q c up) i = cf p i + cv (cf q) (mon c up) i := by
  rw [cf_pAdd, cv_mon]
  unfold pAt
  split
  · grind
  · rfl
theorem pAdd_one (p : List Rat) (c : Rat) (up i : Nat) : cf (pAdd p [1] c up) i = cf p i + mon c up i := by
  rw [pAdd_cv, cf_un, cv_comm, cv_un]
theorem pAdd_0 (p q : List Rat) (c : Rat) (i : Nat) : cf (pAdd p q c 0) i = cf p i + c * cf q i := by
  rw [pAdd_cv, cv_mon, if_pos (by omega), Nat.sub_zero]
theorem mon_neg (t : Rat) (k : Nat) : mon (-t) k = fun i => -1 * mon t k i := by
  funext i; unfold mon; split <;> grind
theorem part_law (q : List Rat) : ∀ (n : Nat) (quo rest : List Rat) (i : Nat), cv (cf q) (cf (partF q n quo rest).1) i + cf (partF q n quo rest).2 i = cv (cf q) (cf quo) i + cf rest i := by
  intro n
  induction n with
  | zero => intro quo rest i; rfl
  | succ n ih =>
    intro quo rest i
    rw [partF]
    split
    · rw [ih]
      have e1 : cf (pAdd quo [1] (topQ rest q) (rest.length - q.length)) = fun i => cf quo i + mon (topQ rest q) (rest.length - q.length) i := by funext j; exact pAdd_one _ _ _ _
      rw [e1, cv_add, pAdd_cv, mon_neg, cv_smul]
      grind
    · rfl
theorem partP_law (p q : List Rat) (i : Nat) : cv (cf q) (cf (partP p q).1) i + cf (partP p q).2 i = cf p i := by
  unfold partP
  rw [part_law, cf_nil, cv_zero, cf_trimQ]; grind
def Dv (d p : List Rat) : Prop := ∃ s : List Rat, cf p = cv (cf d) (cf s)
theorem Dv.refl (p : List Rat) : Dv p p := ⟨[1], by rw [cf_un, cv_un]⟩
theorem Dv.nil (p : List Rat) : Dv p [] := ⟨[], by rw [cf_nil, cv_zero]⟩
theorem Dv.comb {g p q r a : List Rat} (hq : Dv g q) (hr : Dv g r) (h : ∀ i, cv (cf q) (cf a) i + cf r i = cf p i) : Dv g p := by
  obtain ⟨s, hs⟩ := hq
  obtain ⟨t, ht⟩ := hr
  refine ⟨pAdd (mulP s a) t 1 0, ?_⟩
  have e : cf (pAdd (mulP s a) t 1 0) = fun i => cv (cf s) (cf a) i + cf t i := by
    funext i; rw [pAdd_0, mulP_cv]; grind
  funext i
  rw [e, cv_add, ← cv_assoc, ← hs, ← ht]
  exact (h i).symm
theorem comR_dv : ∀ (n : Nat) (p q : List Rat), PolQ p → PolQ q → q.length < n → Dv (comR n p q) p ∧ Dv (comR n p q) q ∧ PolQ (comR n p q) ∧ (0 < p.length ∨ 0 < q.length → 0 < (comR n p q).length) := by
  intro n
  induction n with
  | zero => intro p q _ _ h; omega
  | succ n ih =>
    intro p q hp hq hn
    rw [comR]
    split
    · rename_i h0
      obtain ⟨hl, hr⟩ := partP_rest (p := p) hq h0
      obtain ⟨h1, h2, h3, h4⟩ := ih q (partP p q).2 hq hr (by omega)
      exact ⟨h1.comb h2 (partP_law p q), h1, h3, fun _ => h4 (.inl h0)⟩
    · rename_i h0
      have e : q = [] := List.length_eq_zero_iff.1 (by omega)
      subst e
      exact ⟨Dv.refl p, Dv.nil p, hp, fun h => by simpa using h⟩
theorem Dv.scaled {d p : List Rat} (hd : PolQ d) (h0 : 0 < d.length) (h : Dv d p) : Dv (scaledP d) p := by
  obtain ⟨s, hs⟩ := h
  refine ⟨pAdd [] s (cf d (d.length - 1)) 0, ?_⟩
  have hne := hd h0
  have e1 : cf (pAdd [] s (cf d (d.length - 1)) 0) = fun i => cf d (d.length - 1) * cf s i := by
    funext i; rw [pAdd_0, cf_nil]; grind
  have e2 : cf (scaledP d) = fun i => (1 / cf d (d.length - 1)) * cf d i := by
    funext i; rw [cf_scaledP]; grind
  rw [e1, e2, cv_smul, cv_comm, cv_smul, hs, cv_comm]
  funext i
  grind
theorem comRP_dv {p q : List Rat} (hp : PolQ p) (hq : PolQ q) (h0 : 0 < p.length ∨ 0 < q.length) : Dv (comRP p q) p ∧ Dv (comRP p q) q ∧ PolQ (comRP p q) ∧ 0 < (comRP p q).length ∧ cf (comRP p q) ((comRP p q).length - 1) = 1 := by
  obtain ⟨h1, h2, h3, h4⟩ := comR_dv (q.length + 1) p q hp hq (by omega)
  have h5 := h4 h0
  unfold comRP
  exact ⟨h1.scaled h3 h5, h2.scaled h3 h5, scaledP_pol _, by rw [scaledP_len h3]; exact h5, scaledP_last h3 h5⟩
end Go.Proofs.Ythoboehbadmlmaa
end
section
namespace Go.Proofs.Ythoboehbadmlmaa
theorem partF_CB {B : Nat} {q : List Rat} (hq : 0 < q.length) (hl : cf q (q.length - 1) ≠ 0) (hB : CB B q) : ∀ (n k N : Nat) (quo rest : List Rat), rest.length + 1 ≤ q.length + k → CB N quo → CB N rest → PolQ rest →
    CB (2 ^ k * (N + 2 * B + 2)) (partF q n quo rest).1 ∧ CB (2 ^ k * (N + 2 * B + 2)) (partF q n quo rest).2 := by
  intro n
  induction n with
  | zero =>
    intro k N quo rest _ h1 h2 _
    have := Nat.le_mul_of_pos_left (N + 2 * B + 2) (two_pos k)
    exact ⟨h1.mono (by omega), h2.mono (by omega)⟩
  | succ n ih =>
    intro k N quo rest hk h1 h2 hp
    rw [partF]
    split
    · rename_i hle
      cases k with
      | zero => omega
      | succ k =>
        have ht : QB (N + B) (topQ rest q) := (h2.at _).div (hB.at _)
        have hlt := div_less hq hl hle
        have a1 : CB (2 * N + 2 * B + 1) (pAdd quo [1] (topQ rest q) (rest.length - q.length)) := (CB.padd h1 (CB_one (QB_one 0)) ht _).mono (by omega)
        have a2 : CB (2 * N + 2 * B + 1) (pAdd rest q (-topQ rest q) (rest.length - q.length)) := (CB.padd h2 hB ht.neg _).mono (by omega)
        obtain ⟨c1, c2⟩ := ih k _ _ _ (by omega) a1 a2 (pAdd_pol _ _ _ _)
        have hm : 2 ^ k * (2 * N + 2 * B + 1 + 2 * B + 2) ≤ 2 ^ (k + 1) * (N + 2 * B + 2) := by
          rw [Nat.pow_succ, Nat.mul_assoc]
          exact Nat.mul_le_mul_left _ (by omega)
        exact ⟨c1.mono hm, c2.mono hm⟩
    · have := Nat.le_mul_of_pos_left (N + 2 * B + 2) (two_pos k)
      exact ⟨h1.mono (by omega), h2.mono (by omega)⟩
theorem partP_CB {A B : Nat} {p q : List Rat} (hq : 0 < q.length) (hl : cf q (q.length - 1) ≠ 0) (hA : CB A p) (hB : CB B q) (hp : PolQ p) {k : Nat} (hk : p.length + 1 ≤ q.length + k) :
    CB (2 ^ k * (A + 2 * B + 2)) (partP p q).1 ∧ CB (2 ^ k * (A + 2 * B + 2)) (partP p q).2 := by
  unfold partP
  rw [hp.trim]
  exact partF_CB hq hl hB _ k A [] p hk (CB_nil _) hA hp
theorem partF_len (q : List Rat) (hq : 0 < q.length) (hl : cf q (q.length - 1) ≠ 0) : ∀ (n m : Nat) (quo rest : List Rat), quo.length ≤ m → rest.length ≤ m → (partF q n quo rest).1.length ≤ m := by
  intro n
  induction n with
  | zero => intro m quo rest h1 _; exact h1
  | succ n ih =>
    intro m quo rest h1 h2
    rw [partF]
    split
    · rename_i hle
      have := div_less hq hl hle
      have h3 := pAdd_len quo [1] (topQ rest q) (rest.length - q.length)
      simp only [List.length_cons, List.length_nil] at h3
      exact ih _ _ _ (by omega) (by omega)
    · exact h1
theorem partP_len {p q : List Rat} (hq : 0 < q.length) (hl : cf q (q.length - 1) ≠ 0) : (partP p q).1.length ≤ p.length := by
  have := trimQ_len p
  exact partF_len q hq hl _ _ _ _ (by simp) (by omega)
theorem mulP_len (p q : List Rat) : (mulP p q).length ≤ p.length + q.length - 1 := by
  rw [mul_prod]
  unfold prodP
  refine Nat.le_trans (trimQ_len _) ?_
  rw [mk_len]; exact Nat.le_refl _
theorem mulP_CB {A B : Nat} {p q : List Rat} (hp : CB A p) (hq : CB B q) : CB (p.length * (A + B + 1)) (mulP p q) := mulI_CB hp hq _
theorem comR_len : ∀ (n : Nat) (p q : List Rat), PolQ q → (comR n p q).length ≤ max p.length q.length := by
  intro n
  induction n with
  | zero => intro p q _; exact Nat.le_max_left _ _
  | succ n ih =>
    intro p q hq
    rw [comR]
    split
    · rename_i h0
      obtain ⟨hl, hr⟩ := partP_rest (p := p) hq h0
      have := ih q (partP p q).2 hr
      omega
    · exact Nat.le_max_left _ _
theorem scaledP_le (p : List Rat) : (scaledP p).length ≤ p.length := by
  have := pAdd_len [] p (1 / cf p (p.length - 1)) 0
  simp only [List.length_nil, Nat.zero_max, Nat.add_zero] at this
  exact this
theorem comRP_len (p : List Rat) {q : List Rat} (hq : PolQ q) : (comRP p q).length ≤ max p.length q.length := Nat.le_trans (scaledP_le _) (comR_len _ p q hq)
end Go.Proofs.Ythoboehbadmlmaa
end
section
namespace Go.Proofs.Ythoboehbadmlmaa
open Go Go.RowKit
set_option linter.unusedSimpArgs false
set_option linter.unusedVariables false
attribute [local irreducible] XWP Spec SpecO XPub XCall seqX clX apX stX ldX iaX slX
theorem CB.fitR {A : Nat} {l : List Rat} (h : CB A l) (hA : A ≤ 17592186044416) : fitR (l.map toRaw) := fitR_toRaw (h.qf hA)
end Go.Proofs.Ythoboehbadmlmaa
end
section
namespace Go.Proofs.Ythoboehbadmlmaa
set_option linter.unusedVariables false
set_option linter.unusedSimpArgs false
end Go.Proofs.Ythoboehbadmlmaa
end
section
namespace Go.Proofs.Ythoboehbadmlmaa
open Go Go.RowKit
set_option linter.unusedSimpArgs false
set_option linter.unusedVariables false
attribute [local irreducible] XWP Spec SpecO XPub XCall seqX clX apX stX ldX iaX slX
def listsE (L A : List Raw) (n : Int) : Int :=
  if okR L = false ∨ okR A = false then 1 else if 400 < (L.length : Int) ∨ 400 < (A.length : Int) ∨ 400 < n then 2 else if (L.length : Int) < (A.length : Int) ∨ n < 0 then 1 else 0
theorem lists_c (V : View) (v u : Value) (L A : List Raw) (n : Int) (hv : Raws V v L) (hu : Raws V u A) (fL : fitR L) (fA : fitR A) (lL : L.length ≤ 1000000) (lA : A.length ≤ 1000000) :
    Spec Try.prog 61 [v, u, .int .i64 n] V fun v' V' => v' = .int .i64 (listsE L A n) := by
  obtain ⟨A1, c1, rfl, hc1, hm1⟩ := hv.form
  obtain ⟨A2, c2, rfl, hc2, hm2⟩ := hu.form
  unfold listsE
  refine (Spec.enter Try.func61 rfl fun Γ => ?_)
  simp only [Try.ntmps61, List.map_cons, List.map_nil, List.length_cons, List.length_nil, Nat.reduceAdd, Nat.reduceSub, List.replicate_succ, List.replicate_zero, List.cons_append, List.nil_append]
  first | refine Gx.a (by kernel_rfl) fun K hK => ?_ | refine Gx.b (by kernel_rfl) fun K hK => ?_ | refine Gx.c (by kernel_rfl) fun K hK => ?_
  simp only [XA, XB, gateX, Nat.reduceAdd, Nat.reduceLeDiff, Nat.reduceSub, Nat.reduceMul, ↓reduceIte, Int.reduceToNat, Int.reduceLE, beq_self_eq_true]
  refine hK _ ?_
  refine XWP.seq ?_
  first | refine XWP.block ?_ | refine XWP.seq (XWP.block ?_)
  first | refine Gx.a (by kernel_rfl) fun K hK => ?_ | refine Gx.b (by kernel_rfl) fun K hK => ?_ | refine Gx.c (by kernel_rfl) fun K hK => ?_
  simp only [XA, XB, gateX, Nat.reduceAdd, Nat.reduceLeDiff, Nat.reduceSub, Nat.reduceMul, ↓reduceIte, Int.reduceToNat, Int.reduceLE, beq_self_eq_true]
  refine call_go (by kernel_rfl) rfl (fine_c _ _ _ hv fL lL) fun v1 V1 hV1 h1 => ?_
  subst h1
  cases e1 : okR L
  · simp only [XA, XB, gateX, Nat.reduceAdd, Nat.reduceLeDiff, Nat.reduceSub, Nat.reduceMul, ↓reduceIte, Int.reduceToNat, Int.reduceLE, beq_self_eq_true]
    refine hK _ ?_
    first | refine Gx.t rfl ?_ | refine XWP.seq (Gx.t rfl ?_)
    first | refine Gx.a (by kernel_rfl) fun K hK => ?_ | refine Gx.b (by kernel_rfl) fun K hK => ?_ | refine Gx.c (by kernel_rfl) fun K hK => ?_
    simp only [XA, XB, gateX, Nat.reduceAdd, Nat.reduceLeDiff, Nat.reduceSub, Nat.reduceMul, ↓reduceIte, Int.reduceToNat, Int.reduceLE, beq_self_eq_true]
    refine hK _ (XWP.ret ?_)
    try simp only [thenX_ret, inBlockX_ret]
    refine ret_go _ rfl ?_
    rw [if_pos (.inl e1)]; rfl
  simp only [XA, XB, gateX, Nat.reduceAdd, Nat.reduceLeDiff, Nat.reduceSub, Nat.reduceMul, ↓reduceIte, Int.reduceToNat, Int.reduceLE, beq_self_eq_true]
  refine call_go (by kernel_rfl) rfl (fine_c _ _ _ (hu.up hV1) fA lA) fun v2 V2 hV2 h2 => ?_
  subst h2
  cases e2 : okR A
  · simp only [XA, XB, gateX, Nat.reduceAdd, Nat.reduceLeDiff, Nat.reduceSub, Nat.reduceMul, ↓reduceIte, Int.reduceToNat, Int.reduceLE, beq_self_eq_true]
    refine hK _ ?_
    first | refine Gx.t rfl ?_ | refine XWP.seq (Gx.t rfl ?_)
    first | refine Gx.a (by kernel_rfl) fun K hK => ?_ | refine Gx.b (by kernel_rfl) fun K hK => ?_ | refine Gx.c (by kernel_rfl) fun K hK => ?_
    simp only [XA, XB, gateX, Nat.reduceAdd, Nat.reduceLeDiff, Nat.reduceSub, Nat.reduceMul, ↓reduceIte, Int.reduceToNat, Int.reduceLE, beq_self_eq_true]
    refine hK _ (XWP.ret ?_)
    try simp only [thenX_ret, inBlockX_ret]
    refine ret_go _ rfl ?_
    rw [if_pos (.inr e2)]; rfl
  simp only [XA, XB, gateX, Nat.reduceAdd, Nat.reduceLeDiff, Nat.reduceSub, Nat.reduceMul, ↓reduceIte, Int.reduceToNat, Int.reduceLE, beq_self_eq_true]
  refine hK _ ?_
  first | refine Gx.f rfl ?_ | refine XWP.seq (Gx.f rfl ?_)
  have g0 : ¬(okR L = false ∨ okR A = false) := by rw [e1, e2]; simp
  by_cases g1 : (400 : Int) < (L.length : Int) ∨ 400 < (A.length : Int) ∨ 400 < n
  · by_cases d1 : (400 : Int) < (L.length : Int)
    · have b1 : decide ((400 : Int) < (L.length : Int)) = true := decide_eq_true d1
      first | refine Gx.a (by kernel_rfl) fun K hK => ?_ | refine Gx.b (by kernel_rfl) fun K hK => ?_ | refine Gx.c (by kernel_rfl) fun K hK => ?_
      simp only [XA, XB, gateX, Nat.reduceAdd, Nat.reduceLeDiff, Nat.reduceSub, Nat.reduceMul, ↓reduceIte, Int.reduceToNat, Int.reduceLE, beq_self_eq_true, b1]
      refine hK _ ?_
      first | refine Gx.t rfl ?_ | refine XWP.seq (Gx.t rfl ?_)
      first | refine Gx.a (by kernel_rfl) fun K hK => ?_ | refine Gx.b (by kernel_rfl) fun K hK => ?_ | refine Gx.c (by kernel_rfl) fun K hK => ?_
      simp only [XA, XB, gateX, Nat.reduceAdd, Nat.reduceLeDiff, Nat.reduceSub, Nat.reduceMul, ↓reduceIte, Int.reduceToNat, Int.reduceLE, beq_self_eq_true]
      refine hK _ (XWP.ret ?_)
      try simp only [thenX_ret, inBlockX_ret]
      refine ret_go _ rfl ?_
      rw [if_neg g0, if_pos g1]; rfl
    · have b1 : decide ((400 : Int) < (L.length : Int)) = false := decide_eq_false d1
      by_cases d2 : (400 : Int) < (A.length : Int)
      · have b2 : decide ((400 : Int) < (A.length : Int)) = true := decide_eq_true d2
        first | refine Gx.a (by kernel_rfl) fun K hK => ?_ | refine Gx.b (by kernel_rfl) fun K hK => ?_ | refine Gx.c (by kernel_rfl) fun K hK => ?_
        simp only [XA, XB, gateX, Nat.reduceAdd, Nat.reduceLeDiff, Nat.reduceSub, Nat.reduceMul, ↓reduceIte, Int.reduceToNat, Int.reduceLE, beq_self_eq_true, b1, b2]
        refine hK _ ?_
        first | refine Gx.t rfl ?_ | refine XWP.seq (Gx.t rfl ?_)
        first | refine Gx.a (by kernel_rfl) fun K hK => ?_ | refine Gx.b (by kernel_rfl) fun K hK => ?_ | refine Gx.c (by kernel_rfl) fun K hK => ?_
        simp only [XA, XB, gateX, Nat.reduceAdd, Nat.reduceLeDiff, Nat.reduceSub, Nat.reduceMul, ↓reduceIte, Int.reduceToNat, Int.reduceLE, beq_self_eq_true]
        refine hK _ (XWP.ret ?_)
        try simp only [thenX_ret, inBlockX_ret]
        refine ret_go _ rfl ?_
        rw [if_neg g0, if_pos g1]; rfl
      · have b2 : decide ((400 : Int) < (A.length : Int)) = false := decide_eq_false d2
        have b3 : decide ((400 : Int) < n) = true := decide_eq_true (by omega)
        first | refine Gx.a (by kernel_rfl) fun K hK => ?_ | refine Gx.b (by kernel_rfl) fun K hK => ?_ | refine Gx.c (by kernel_rfl) fun K hK => ?_
        simp only [XA, XB, gateX, Nat.reduceAdd, Nat.reduceLeDiff, Nat.reduceSub, Nat.reduceMul, ↓reduceIte, Int.reduceToNat, Int.reduceLE, beq_self_eq_true, b1, b2, b3]
        refine hK _ ?_
        first | refine Gx.t rfl ?_ | refine XWP.seq (Gx.t rfl ?_)
        first | refine Gx.a (by kernel_rfl) fun K hK => ?_ | refine Gx.b (by kernel_rfl) fun K hK => ?_ | refine Gx.c (by kernel_rfl) fun K hK => ?_
        simp only [XA, XB, gateX, Nat.reduceAdd, Nat.reduceLeDiff, Nat.reduceSub, Nat.reduceMul, ↓reduceIte, Int.reduceToNat, Int.reduceLE, beq_self_eq_true]
        refine hK _ (XWP.ret ?_)
        try simp only [thenX_ret, inBlockX_ret]
        refine ret_go _ rfl ?_
        rw [if_neg g0, if_pos g1]; rfl
  · have b1 : decide ((400 : Int) < (L.length : Int)) = false := decide_eq_false (by omega)
    have b2 : decide ((400 : Int) < (A.length : Int)) = false := decide_eq_false (by omega)
    have b3 : decide ((400 : Int) < n) = false := decide_eq_false (by omega)
    first | refine Gx.a (by kernel_rfl) fun K hK => ?_ | refine Gx.b (by kernel_rfl) fun K hK => ?_ | refine Gx.c (by kernel_rfl) fun K hK => ?_
    simp only [XA, XB, gateX, Nat.reduceAdd, Nat.reduceLeDiff, Nat.reduceSub, Nat.reduceMul, ↓reduceIte, Int.reduceToNat, Int.reduceLE, beq_self_eq_true, b1, b2, b3]
    refine hK _ ?_
    first | refine Gx.f rfl ?_ | refine XWP.seq (Gx.f rfl ?_)
    by_cases g2 : (L.length : Int) < (A.length : Int) ∨ n < 0
    · by_cases d1 : (L.length : Int) < (A.length : Int)
      · have b4 : decide ((L.length : Int) < (A.length : Int)) = true := decide_eq_true d1
        first | refine Gx.a (by kernel_rfl) fun K hK => ?_ | refine Gx.b (by kernel_rfl) fun K hK => ?_ | refine Gx.c (by kernel_rfl) fun K hK => ?_
        simp only [XA, XB, gateX, Nat.reduceAdd, Nat.reduceLeDiff, Nat.reduceSub, Nat.reduceMul, ↓reduceIte, Int.reduceToNat, Int.reduceLE, beq_self_eq_true, b4]
        refine hK _ ?_
        first | refine Gx.t rfl ?_ | refine XWP.seq (Gx.t rfl ?_)
        first | refine Gx.a (by kernel_rfl) fun K hK => ?_ | refine Gx.b (by kernel_rfl) fun K hK => ?_ | refine Gx.c (by kernel_rfl) fun K hK => ?_
        simp only [XA, XB, gateX, Nat.reduceAdd, Nat.reduceLeDiff, Nat.reduceSub, Nat.reduceMul, ↓reduceIte, Int.reduceToNat, Int.reduceLE, beq_self_eq_true]
        refine hK _ (XWP.ret ?_)
        try simp only [thenX_ret, inBlockX_ret]
        refine ret_go _ rfl ?_
        rw [if_neg g0, if_neg g1, if_pos g2]; rfl
      · have b4 : decide ((L.length : Int) < (A.length : Int)) = false := decide_eq_false d1
        have b5 : decide (n < 0) = true := decide_eq_true (by omega)
        first | refine Gx.a (by kernel_rfl) fun K hK => ?_ | refine Gx.b (by kernel_rfl) fun K hK => ?_ | refine Gx.c (by kernel_rfl) fun K hK => ?_
        simp only [XA, XB, gateX, Nat.reduceAdd, Nat.reduceLeDiff, Nat.reduceSub, Nat.reduceMul, ↓reduceIte, Int.reduceToNat, Int.reduceLE, beq_self_eq_true, b4, b5]
        refine hK _ ?_
        first | refine Gx.t rfl ?_ | refine XWP.seq (Gx.t rfl ?_)
        first | refine Gx.a (by kernel_rfl) fun K hK => ?_ | refine Gx.b (by kernel_rfl) fun K hK => ?_ | refine Gx.c (by kernel_rfl) fun K hK => ?_
        simp only [XA, XB, gateX, Nat.reduceAdd, Nat.reduceLeDiff, Nat.reduceSub, Nat.reduceMul, ↓reduceIte, Int.reduceToNat, Int.reduceLE, beq_self_eq_true]
        refine hK _ (XWP.ret ?_)
        try simp only [thenX_ret, inBlockX_ret]
        refine ret_go _ rfl ?_
        rw [if_neg g0, if_neg g1, if_pos g2]; rfl
    · have b4 : decide ((L.length : Int) < (A.length : Int)) = false := decide_eq_false (by omega)
      have b5 : decide (n < 0) = false := decide_eq_false (by omega)
      first | refine Gx.a (by kernel_rfl) fun K hK => ?_ | refine Gx.b (by kernel_rfl) fun K hK => ?_ | refine Gx.c (by kernel_rfl) fun K hK => ?_
      simp only [XA, XB, gateX, Nat.reduceAdd, Nat.reduceLeDiff, Nat.reduceSub, Nat.reduceMul, ↓reduceIte, Int.reduceToNat, Int.reduceLE, beq_self_eq_true, b4, b5]
      refine hK _ ?_
      first | refine Gx.f rfl ?_ | refine XWP.seq (Gx.f rfl ?_)
      refine XWP.skip ?_
      first | refine Gx.a (by kernel_rfl) fun K hK => ?_ | refine Gx.b (by kernel_rfl) fun K hK => ?_ | refine Gx.c (by kernel_rfl) fun K hK => ?_
      simp only [XA, XB, gateX, Nat.reduceAdd, Nat.reduceLeDiff, Nat.reduceSub, Nat.reduceMul, ↓reduceIte, Int.reduceToNat, Int.reduceLE, beq_self_eq_true]
      refine hK _ (XWP.ret ?_)
      try simp only [thenX_ret, inBlockX_ret]
      refine ret_go _ rfl ?_
      rw [if_neg g0, if_neg g1, if_neg g2]; rfl
theorem rclone_o (V : View) (v : Value) (l : List Rat) (h : Rats V v l) (hl : l.length ≤ 1000000) :
    SpecO Try.prog 62 [v] V fun v' V' o => (v' = .slice none 0 0 ∧ l = [] ∧ o = none) ∨ ∃ g cells c, v' = .slice (some ⟨g, 0, none⟩) l.length c ∧ o = some (g, ⟨34, cells, c * 3⟩) ∧ RowAt ratE V' cells l ∧ l.length ≤ c ∧ c ≤ maxLen := by
  obtain ⟨A, c, rfl, hc, hm⟩ := h.form
  refine (SpecO.enter Try.func62 rfl fun Γ => ?_)
  simp only [Try.ntmps62, List.map_cons, List.map_nil, List.length_cons, List.length_nil, Nat.reduceAdd, Nat.reduceSub, List.replicate_succ, List.replicate_zero, List.cons_append, List.nil_append]
  first | refine Gx.a (by kernel_rfl) fun K hK => ?_ | refine Gx.b (by kernel_rfl) fun K hK => ?_ | refine Gx.c (by kernel_rfl) fun K hK => ?_
  simp only [XA, XB, gateX, Nat.reduceAdd, Nat.reduceLeDiff, Nat.reduceSub, Nat.reduceMul, ↓reduceIte, Int.reduceToNat, Int.reduceLE, beq_self_eq_true]
  refine hK _ ?_
  refine XWP.seq ?_
  first | refine Gx.a (by kernel_rfl) fun K hK => ?_ | refine Gx.b (by kernel_rfl) fun K hK => ?_ | refine Gx.c (by kernel_rfl) fun K hK => ?_
  simp only [XA, XB, gateX, Nat.reduceAdd, Nat.reduceLeDiff, Nat.reduceSub, Nat.reduceMul, ↓reduceIte, Int.reduceToNat, Int.reduceLE, beq_self_eq_true]
  refine hK _ ?_
  refine (XWP.cond (t := A.isNone) rfl (fun hA => ?_) (fun hA => XWP.skip ?_))
  · first | refine Gx.a (by kernel_rfl) fun K hK => ?_ | refine Gx.b (by kernel_rfl) fun K hK => ?_ | refine Gx.c (by kernel_rfl) fun K hK => ?_
    simp only [XA, XB, gateX, Nat.reduceAdd, Nat.reduceLeDiff, Nat.reduceSub, Nat.reduceMul, ↓reduceIte, Int.reduceToNat, Int.reduceLE, beq_self_eq_true]
    refine hK _ (XWP.ret ?_)
    try simp only [thenX_ret, inBlockX_ret]
    refine ret_own _ none rfl (fun g r e => by cases e) ?_
    cases A with
    | some a => cases hA
    | none =>
      refine .inl ⟨rfl, ?_, rfl⟩
      rcases Nat.eq_zero_or_pos l.length with h0 | h0
      · exact List.length_eq_zero_iff.1 h0
      · obtain ⟨b, o, e⟩ := SlAt.addr h h0; cases e
  · obtain ⟨cells, hrow, hsrc⟩ := SlAt.src h
    first | refine Gx.a (by kernel_rfl) fun K hK => ?_ | refine Gx.b (by kernel_rfl) fun K hK => ?_ | refine Gx.c (by kernel_rfl) fun K hK => ?_
    refine bs_go (by kernel_rfl) #[] (by simp) (bs_zero elemT_22 zeroT_34) fun b hb1 hb2 => ?_
    simp only [XA, XB, gateX, Nat.reduceAdd, Nat.reduceLeDiff, Nat.reduceSub, Nat.reduceMul, ↓reduceIte, Int.reduceToNat, Int.reduceLE, beq_self_eq_true]
    refine ap_go elemT_22 (by kernel_rfl) zeroT_34 rfl (by omega) (n := 0) (xs := []) (own3 (by simp [upd]) rfl (Nat.le_refl _) (by omega)) (hsrc _) (by omega) (by omega) fun v' H' hres => ?_
    simp only [XA, XB, gateX, Nat.reduceAdd, Nat.reduceLeDiff, Nat.reduceSub, Nat.reduceMul, ↓reduceIte, Int.reduceToNat, Int.reduceLE, beq_self_eq_true]
    refine hK _ (XWP.ret ?_)
    try simp only [thenX_ret, inBlockX_ret]
    obtain ⟨hown, _, _⟩ := hres
    simp only [List.nil_append, Nat.zero_add] at hown
    obtain ⟨hl3, ⟨rfl, hn⟩ | ⟨g, cap, rfl, hg, hle, hcap⟩⟩ := hown
    · refine ret_own _ none rfl (fun g r e => by cases e) ?_
      exact .inl ⟨rfl, List.length_eq_zero_iff.1 hn, rfl⟩
    · refine ret_own _ (some (g, _)) rfl (fun g' r e => ?_) (.inr ⟨g, cells, cap, rfl, rfl, hrow, hle, hcap⟩)
      cases e; exact hg
end Go.Proofs.Ythoboehbadmlmaa
end
section
namespace Go.Proofs.Ythoboehbadmlmaa
set_option linter.unusedVariables false
set_option linter.unusedSimpArgs false
end Go.Proofs.Ythoboehbadmlmaa
end
section
namespace Go.Proofs.Ythoboehbadmlmaa
open Go Go.RowKit
set_option linter.unusedSimpArgs false
set_option linter.unusedVariables false
attribute [local irreducible] XWP Spec SpecO XPub XCall seqX clX apX stX ldX iaX slX
theorem rowQ_load {H : Heap} {V : View} {b e tot : Nat} {cells : List Value} {xs : List Rat} (hr : H b = some ⟨e, cells, tot⟩) (h : RowAt ratE V cells xs) (i : Nat) (hi : i < xs.length) : ∃ m n d, RatC V (.agg #[m, n, d]) (cf xs i) ∧ (isOne m = true ∧ isOne n = true ∧ isOne d = true) ∧ Loads Try.prog H V 34 b (i * 3) (.agg #[m, n, d]) := by
  obtain ⟨v, h1, ⟨m, n, d, rfl, o1⟩, h2⟩ := RowAt.load hr h i hi
  rw [cf_get hi] at h1
  exact ⟨m, n, d, h1, o1, h2⟩
theorem RowAt.drop {α : Type} {E : View → Value → α → Prop} {V : View} {cells : List Value} {xs : List α} (h : RowAt E V cells xs) (k : Nat) : RowAt E V (cells.drop (k * 3)) (xs.drop k) := by
  refine ⟨by rw [List.length_drop, List.length_drop, h.1]; omega, fun i x hi => ?_⟩
  rw [List.getElem?_drop] at hi
  obtain ⟨m, n, d, g1, g2, g3, r⟩ := h.2 (k + i) x hi
  refine ⟨m, n, d, ?_, ?_, ?_, r⟩
  · show (cells.drop (k * 3))[i * 3]? = _
    rw [List.getElem?_drop, show k * 3 + i * 3 = (k + i) * 3 by omega]; exact g1
  · show (cells.drop (k * 3))[i * 3 + 1]? = _
    rw [List.getElem?_drop, show k * 3 + (i * 3 + 1) = (k + i) * 3 + 1 by omega]; exact g2
  · show (cells.drop (k * 3))[i * 3 + 2]? = _
    rw [List.getElem?_drop, show k * 3 + (i * 3 + 2) = (k + i) * 3 + 2 by omega]; exact g3
theorem listsE_zero {L A : List Raw} {N : Int} (h : listsE L A N = 0) : okR L = true ∧ okR A = true ∧ L.length ≤ 400 ∧ A.length ≤ L.length ∧ 0 ≤ N ∧ N ≤ 400 := by
  unfold listsE at h
  split at h
  · cases h
  · rename_i h1
    split at h
    · cases h
    · split at h
      · cases h
      · refine ⟨?_, ?_, by omega, by omega, by omega, by omega⟩
        · cases hk : okR L
          · exact absurd (.inl hk) h1
          · rfl
        · cases hk : okR A
          · exact absurd (.inr hk) h1
          · rfl
end Go.Proofs.Ythoboehbadmlmaa
end
section
namespace Go.Proofs.Ythoboehbadmlmaa
set_option linter.unusedVariables false
set_option linter.unusedSimpArgs false
def frQ (a : List Rat) : List Rat := [1] ++ a.map fun x => -x
def frP (l a : List Rat) : List Rat := trimQ ((mulP (trimQ (l.take a.length)) (trimQ (frQ a))).take (min (mulP (trimQ (l.take a.length)) (trimQ (frQ a))).length a.length))
theorem frQ_len (a : List Rat) : (frQ a).length = a.length + 1 := by simp [frQ]
theorem cf_frQ (a : List Rat) (j : Nat) : cf (frQ a) (j + 1) = -(cf a j) := by
  unfold frQ cf
  rw [List.getD_eq_getElem?_getD, List.getD_eq_getElem?_getD, List.singleton_append, List.getElem?_cons_succ, List.getElem?_map]
  cases a[j]? with
  | none => simp
  | some x => rfl
theorem cf_frQ0 (a : List Rat) : cf (frQ a) 0 = 1 := rfl
theorem frQ_CB {B : Nat} {a : List Rat} (h : CB B a) : CB B (frQ a) := by
  obtain ⟨D, d1, d2, d3⟩ := h
  refine ⟨D, d1, d2, fun i => ?_⟩
  cases i with
  | zero =>
    rw [cf_frQ0]
    refine ⟨(D : Int), by simpa using d2, ?_⟩
    have h : mkRat (1 * (D : Int)) (1 * D) = mkRat 1 1 := Rat.mkRat_mul_right (by omega)
    rw [Int.one_mul, Nat.one_mul] at h
    rw [h]; rfl
  | succ j => rw [cf_frQ]; exact (d3 j).neg
end Go.Proofs.Ythoboehbadmlmaa
end
section
namespace Go.Proofs.Ythoboehbadmlmaa
open Go Go.RowKit
set_option linter.unusedSimpArgs false
set_option linter.unusedVariables false
attribute [local irreducible] XWP Spec SpecO XPub XCall seqX clX apX stX ldX iaX slX
theorem upd_none_id {H : Heap} {g : Nat} {r : Option Row} (h : H g = none) : upd (upd H g r) g none = H := by
  funext k; unfold upd; split
  · rename_i e; rw [e, h]
  · rfl
theorem pub_clone {P : Program} {ops : Array Oper} {rest : List Oper} {K : XS → Prop} {d : Option Tmp} {f : FuncId} {args : List SV} {t : List SV} {bx : List (List Value)} {H : Heap} {V : View} {o : Option (Nat × Row)} {v : Value} {l : List Rat}
    (h : (v = .slice none 0 0 ∧ l = [] ∧ o = none) ∨ ∃ g cells c, v = .slice (some ⟨g, 0, none⟩) l.length c ∧ o = some (g, ⟨34, cells, c * 3⟩) ∧ RowAt ratE V cells l ∧ l.length ≤ c ∧ c ≤ maxLen)
    (hH : ∀ g r, o = some (g, r) → H g = none ∧ V g = none) (hc : callable P f = true) (hv : args.all SV.isV = true) (k : ∀ V', V.le V' → Rats V' v l → clX P ops rest K ⟨t, bx, H, V'⟩ d f args) : clX P ops rest K ⟨t, bx, addRow H o, V⟩ d f args := by
  rcases h with ⟨rfl, rfl, rfl⟩ | ⟨g, cells, c, rfl, rfl, h1, h2, h3⟩
  · exact k V (View.le_refl V) (SlAt.nil _)
  · refine call_pub g ⟨34, cells, c * 3⟩ (upd_at _ _ _) (fun ob hob hle => ?_) hc hv
    have e := upd_none_id (r := some ⟨34, cells, c * 3⟩) (hH _ _ rfl).1
    show clX P ops rest K ⟨t, bx, upd (upd H g (some _)) g none, addV V g ob⟩ d f args
    rw [e]
    exact k _ hle (h1.pub ratE_ok hob hle rfl h2 (by unfold maxLen at h3; omega))
theorem cfrac_c (V : View) (v u : Value) (L A : List Raw) (hv : Raws V v L) (hu : Raws V u A) (fL : fitR L) (fA : fitR A) (lL : L.length ≤ 1000000) (lA : A.length ≤ 1000000) (C B : Nat)
    (hC : listsE L A 0 = 0 → CB C (qs L) ∧ CB B (qs A)) (hfit : 401 * (C + B + 1) + C + B + 2 ≤ 17592186044416) :
    Spec Try.prog 35 [v, u] V fun v' V' => (listsE L A 0 ≠ 0 → v' = .tuple #[.slice none 0 0, .slice none 0 0, .int .i64 (listsE L A 0)]) ∧ (listsE L A 0 = 0 → ∃ wp wq, v' = .tuple #[wp, wq, .int .i64 0] ∧ Rats V' wp (frP (qs L) (qs A)) ∧ Rats V' wq (trimQ (frQ (qs A)))) := by
  obtain ⟨A1, c1, rfl, hc1, hm1⟩ := hv.form
  obtain ⟨A2, c2, rfl, hc2, hm2⟩ := hu.form
  refine (Spec.enter Try.func35 rfl fun Γ => ?_)
  simp only [Try.ntmps35, List.map_cons, List.map_nil, List.length_cons, List.length_nil, Nat.reduceAdd, Nat.reduceSub, List.replicate_succ, List.replicate_zero, List.cons_append, List.nil_append]
  first | refine Gx.a (by kernel_rfl) fun K hK => ?_ | refine Gx.b (by kernel_rfl) fun K hK => ?_ | refine Gx.c (by kernel_rfl) fun K hK => ?_
  simp only [XA, XB, gateX, Nat.reduceAdd, Nat.reduceLeDiff, Nat.reduceSub, Nat.reduceMul, ↓reduceIte, Int.reduceToNat, Int.reduceLE, beq_self_eq_true]
  refine hK _ ?_
  refine XWP.seq ?_
  first | refine Gx.a (by kernel_rfl) fun K hK => ?_ | refine Gx.b (by kernel_rfl) fun K hK => ?_ | refine Gx.c (by kernel_rfl) fun K hK => ?_
  simp only [XA, XB, gateX, Nat.reduceAdd, Nat.reduceLeDiff, Nat.reduceSub, Nat.reduceMul, ↓reduceIte, Int.reduceToNat, Int.reduceLE, beq_self_eq_true]
  refine call_go (by kernel_rfl) rfl (lists_c _ _ _ L A 0 hv hu fL fA lL lA) fun v1 V1 hV1 h1 => ?_
  subst h1
  simp only [XA, XB, gateX, Nat.reduceAdd, Nat.reduceLeDiff, Nat.reduceSub, Nat.reduceMul, ↓reduceIte, Int.reduceToNat, Int.reduceLE, beq_self_eq_true]
  refine hK _ ?_
  by_cases he : listsE L A 0 = 0
  rotate_left
  · have b1 : (!decide (listsE L A 0 = 0)) = true := by rw [decide_eq_false he]; rfl
    first | refine Gx.a (by kernel_rfl) fun K hK => ?_ | refine Gx.b (by kernel_rfl) fun K hK => ?_ | refine Gx.c (by kernel_rfl) fun K hK => ?_
    simp only [XA, XB, gateX, Nat.reduceAdd, Nat.reduceLeDiff, Nat.reduceSub, Nat.reduceMul, ↓reduceIte, Int.reduceToNat, Int.reduceLE, beq_self_eq_true, b1]
    refine hK _ ?_
    first | refine Gx.t rfl ?_ | refine XWP.seq (Gx.t rfl ?_)
    first | refine Gx.a (by kernel_rfl) fun K hK => ?_ | refine Gx.b (by kernel_rfl) fun K hK => ?_ | refine Gx.c (by kernel_rfl) fun K hK => ?_
    simp only [XA, XB, gateX, Nat.reduceAdd, Nat.reduceLeDiff, Nat.reduceSub, Nat.reduceMul, ↓reduceIte, Int.reduceToNat, Int.reduceLE, beq_self_eq_true]
    refine hK _ (XWP.ret ?_)
    try simp only [thenX_ret, inBlockX_ret]
    refine ret_go _ rfl ?_
    exact ⟨fun _ => rfl, fun h => absurd h he⟩
  have b1 : (!decide (listsE L A 0 = 0)) = false := by rw [decide_eq_true he]; rfl
  first | refine Gx.a (by kernel_rfl) fun K hK => ?_ | refine Gx.b (by kernel_rfl) fun K hK => ?_ | refine Gx.c (by kernel_rfl) fun K hK => ?_
  simp only [XA, XB, gateX, Nat.reduceAdd, Nat.reduceLeDiff, Nat.reduceSub, Nat.reduceMul, ↓reduceIte, Int.reduceToNat, Int.reduceLE, beq_self_eq_true, b1]
  refine hK _ ?_
  first | refine Gx.f rfl ?_ | refine XWP.seq (Gx.f rfl ?_)
  refine XWP.skip ?_
  obtain ⟨hCl, hCa⟩ := hC he
  obtain ⟨k1, k2, k3, k4, k5, k6⟩ := listsE_zero he
  have hl := (Raws.rats hv k1).up hV1
  have ha := (Raws.rats hu k2).up hV1
  have el := qs_len L
  have ea := qs_len A
  generalize listsE L A 0 = E at he
  generalize qs L = l at *
  generalize qs A = a at *
  refine XWP.cut (fun s => ∃ (V5 : View) (H5 : Heap) (w : Value) (cells : List Value), StIs (fun Z => [.v (.slice A1 L.length c1), .v (.slice A2 A.length c2), Z 2,Z 3,Z 4,Z 5,Z 6,Z 7, .v w, Z 9,Z 10,Z 11,Z 12,Z 13,Z 14,Z 15,Z 16,Z 17,Z 18,Z 19,Z 20,Z 21,Z 22,Z 23,Z 24,Z 25,Z 26,Z 27,Z 28,Z 29,Z 30,Z 31,Z 32,Z 33,Z 34,Z 35,Z 36,Z 37,Z 38,Z 39,Z 40,Z 41,Z 42,Z 43,Z 44,Z 45,Z 46,Z 47,Z 48,Z 49,Z 50]) [] H5 V5 s ∧ V1.le V5 ∧ Own H5 34 3 w 1 cells ∧ RowAt ratE V5 cells [1]) ?_ ?_
  · first | refine Gx.a (by kernel_rfl) fun K hK => ?_ | refine Gx.b (by kernel_rfl) fun K hK => ?_ | refine Gx.c (by kernel_rfl) fun K hK => ?_
    simp only [XA, XB, gateX, Nat.reduceAdd, Nat.reduceLeDiff, Nat.reduceSub, Nat.reduceMul, ↓reduceIte, Int.reduceToNat, Int.reduceLE, beq_self_eq_true]
    refine call_go (by kernel_rfl) rfl (qone_c _) fun v2 V2 hV2 h2 => ?_
    obtain ⟨x2, y2, rfl, o1, o2⟩ := h2.form
    simp only [XA, XB, gateX, Nat.reduceAdd, Nat.reduceLeDiff, Nat.reduceSub, Nat.reduceMul, ↓reduceIte, Int.reduceToNat, Int.reduceLE, beq_self_eq_true]
    refine bs_go (by kernel_rfl) #[(0, .agg #[.bool (ng 1), x2, y2])] (by simp [ev_tmp, SV.val]) (bs_rat elemT_22) fun b3 hb3 hb4 => ?_
    simp only [XA, XB, gateX, Nat.reduceAdd, Nat.reduceLeDiff, Nat.reduceSub, Nat.reduceMul, ↓reduceIte, Int.reduceToNat, Int.reduceLE, beq_self_eq_true]
    exact hK _ ⟨V2, _, _, _, StIs.of (by exact rfl), hV2, own3 (upd_at _ _ _) rfl (Nat.le_refl _) (by omega), (RowAt.nil V2).snoc (show isOne (.bool (ng 1)) = true from rfl) o1 o2 h2⟩
  rintro s ⟨V5, H5, w, cells, hs, hV5, hown, hrow⟩
  obtain ⟨z, rfl⟩ := hs.out
  try dsimp only
  refine XWP.cutD 0 (fun s => ∃ (V6 : View) (H6 : Heap) (w : Value) (cells : List Value), StIs (fun Z => [.v (.slice A1 L.length c1), .v (.slice A2 A.length c2), Z 2,Z 3,Z 4,Z 5,Z 6,Z 7, .v w, Z 9,Z 10,Z 11,Z 12,Z 13,Z 14,Z 15,Z 16,Z 17,Z 18,Z 19,Z 20,Z 21,Z 22,Z 23,Z 24,Z 25,Z 26,Z 27,Z 28,Z 29,Z 30,Z 31,Z 32,Z 33,Z 34,Z 35,Z 36,Z 37,Z 38,Z 39,Z 40,Z 41,Z 42,Z 43,Z 44,Z 45,Z 46,Z 47,Z 48,Z 49,Z 50]) [] H6 V6 s ∧ V1.le V6 ∧ Own H6 34 3 w (1 + A.length) cells ∧ RowAt ratE V6 cells (frQ a)) ?_ ?_
  · first | refine Gx.a (by kernel_rfl) fun K hK => ?_ | refine Gx.b (by kernel_rfl) fun K hK => ?_ | refine Gx.c (by kernel_rfl) fun K hK => ?_
    simp only [XA, XB, gateX, Nat.reduceAdd, Nat.reduceLeDiff, Nat.reduceSub, Nat.reduceMul, ↓reduceIte, Int.reduceToNat, Int.reduceLE, beq_self_eq_true]
    refine hK _ ?_
    clear hK
    first | refine XWP.block ?_ | refine XWP.seq (XWP.block ?_)
    refine XWP.loopD 0 (fun m s => ∃ (i : Nat) (V6 : View) (H6 : Heap) (w : Value) (cells : List Value), StIs (fun Z => [.v (.slice A1 L.length c1), .v (.slice A2 A.length c2), Z 2,Z 3,Z 4,Z 5,Z 6,Z 7, .v w, Z 9,Z 10,Z 11,Z 12,Z 13,Z 14,Z 15,Z 16,Z 17,Z 18,Z 19, .v (.slice A2 A.length c2), .v (.int .i64 (A.length : Int)), .v (.int .i64 (i : Int)), Z 23,Z 24,Z 25,Z 26,Z 27,Z 28,Z 29,Z 30,Z 31,Z 32,Z 33,Z 34,Z 35,Z 36,Z 37,Z 38,Z 39,Z 40,Z 41,Z 42,Z 43,Z 44,Z 45,Z 46,Z 47,Z 48,Z 49,Z 50]) [] H6 V6 s ∧ V1.le V6 ∧ m + i = A.length ∧ Own H6 34 3 w (1 + i) cells ∧ RowAt ratE V6 cells ([1] ++ (a.take i).map fun x => -x)) A.length ⟨0, V5, H5, w, cells, StIs.of (by exact rfl), hV5, by omega, hown, hrow⟩ ?_
    clear hown hrow
    rintro m s ⟨i, V6, H6, w, cells, hs, hV6, hm, hown, hrow⟩
    obtain ⟨z, rfl⟩ := hs.out
    try dsimp only
    by_cases hi : i < A.length
    rotate_left
    · obtain rfl : i = A.length := by omega
      have b2 : decide ((A.length : Int) < (A.length : Int)) = false := decide_eq_false (by omega)
      first | refine Gx.a (by kernel_rfl) fun K hK => ?_ | refine Gx.b (by kernel_rfl) fun K hK => ?_ | refine Gx.c (by kernel_rfl) fun K hK => ?_
      simp only [XA, XB, gateX, Nat.reduceAdd, Nat.reduceLeDiff, Nat.reduceSub, Nat.reduceMul, ↓reduceIte, Int.reduceToNat, Int.reduceLE, beq_self_eq_true, b2]
      refine hK _ ?_
      first | refine Gx.f rfl ?_ | refine XWP.seq (Gx.f rfl ?_)
      refine XWP.exit ?_
      rw [← ea, List.take_length] at hrow
      exact fun f => ⟨V6, H6, w, cells, StIs.of (by exact rfl), hV6, hown, hrow⟩
    have b2 : decide ((i : Int) < (A.length : Int)) = true := decide_eq_true (by omega)
    first | refine Gx.a (by kernel_rfl) fun K hK => ?_ | refine Gx.b (by kernel_rfl) fun K hK => ?_ | refine Gx.c (by kernel_rfl) fun K hK => ?_
    simp only [XA, XB, gateX, Nat.reduceAdd, Nat.reduceLeDiff, Nat.reduceSub, Nat.reduceMul, ↓reduceIte, Int.reduceToNat, Int.reduceLE, beq_self_eq_true, b2]
    refine hK _ ?_
    first | refine Gx.t rfl ?_ | refine XWP.seq (Gx.t rfl ?_)
    refine XWP.skip ?_
    refine XWP.seq ?_
    first | refine XWP.block ?_ | refine XWP.seq (XWP.block ?_)
    have ha6 := ha.up hV6
    obtain ⟨b, o, rfl⟩ := SlAt.addr ha6 (by omega)
    obtain ⟨m3, n3, d3, hx3, ⟨p1, p2, p3⟩, hld3⟩ := Rats.get ha6 i (by omega)
    first | refine Gx.a (by kernel_rfl) fun K hK => ?_ | refine Gx.b (by kernel_rfl) fun K hK => ?_ | refine Gx.c (by kernel_rfl) fun K hK => ?_
    simp only [XA, XB, gateX, Nat.reduceAdd, Nat.reduceLeDiff, Nat.reduceSub, Nat.reduceMul, ↓reduceIte, Int.reduceToNat, Int.reduceLE, beq_self_eq_true]
    refine ⟨by omega, by omega, ld_mem (hld3 _) ?_⟩
    simp only [XA, XB, gateX, Nat.reduceAdd, Nat.reduceLeDiff, Nat.reduceSub, Nat.reduceMul, ↓reduceIte, Int.reduceToNat, Int.reduceLE, beq_self_eq_true]
    refine st_rat rfl rfl p1 p2 p3 ?_
    simp only [XA, XB, gateX, Nat.reduceAdd, Nat.reduceLeDiff, Nat.reduceSub, Nat.reduceMul, ↓reduceIte, Int.reduceToNat, Int.reduceLE, beq_self_eq_true]
    refine hK _ ?_
    first | refine Gx.a (by kernel_rfl) fun K hK => ?_ | refine Gx.b (by kernel_rfl) fun K hK => ?_ | refine Gx.c (by kernel_rfl) fun K hK => ?_
    simp only [XA, XB, gateX, Nat.reduceAdd, Nat.reduceLeDiff, Nat.reduceSub, Nat.reduceMul, ↓reduceIte, Int.reduceToNat, Int.reduceLE, beq_self_eq_true]
    refine call_go (by kernel_rfl) rfl (qneg_c _ _ _ hx3 ((hCa.at _).qf (by omega))) fun v7 V7 hV7 h7 => ?_
    obtain ⟨x7, y7, rfl, o1, o2⟩ := h7.form
    simp only [XA, XB, gateX, Nat.reduceAdd, Nat.reduceLeDiff, Nat.reduceSub, Nat.reduceMul, ↓reduceIte, Int.reduceToNat, Int.reduceLE, beq_self_eq_true]
    refine bs_go (by kernel_rfl) #[(0, .agg #[.bool (ng (-(cf a i))), x7, y7])] (by simp [ev_tmp, SV.val]) (bs_rat elemT_22) fun b3 hb3 hb4 => ?_
    simp only [XA, XB, gateX, Nat.reduceAdd, Nat.reduceLeDiff, Nat.reduceSub, Nat.reduceMul, ↓reduceIte, Int.reduceToNat, Int.reduceLE, beq_self_eq_true]
    refine ap_go elemT_22 (by kernel_rfl) zeroT_34 rfl (by omega) (own_upd hown hb3) (src3 (upd_at _ _ _) rfl o1 o2) (by omega) (by omega) fun v' H' hres => ?_
    simp only [XA, XB, gateX, Nat.reduceAdd, Nat.reduceLeDiff, Nat.reduceSub, Nat.reduceMul, ↓reduceIte, Int.reduceToNat, Int.reduceLE, beq_self_eq_true]
    refine hK _ ?_
    first | refine Gx.a (by kernel_rfl) fun K hK => ?_ | refine Gx.b (by kernel_rfl) fun K hK => ?_ | refine Gx.c (by kernel_rfl) fun K hK => ?_
    simp only [XA, XB, gateX, Nat.reduceAdd, Nat.reduceLeDiff, Nat.reduceSub, Nat.reduceMul, ↓reduceIte, Int.reduceToNat, Int.reduceLE, beq_self_eq_true, i64_succ i (by omega)]
    have hrow' := (hrow.mono ratE_ok hV7).snoc (show isOne (.bool (ng (-(cf a i)))) = true from rfl) o1 o2 h7
    rw [List.append_assoc, show (List.map (fun x => -x) (a.take i)) ++ [-(cf a i)] = List.map (fun x => -x) (a.take (i + 1)) by rw [takeQ_snoc (by omega), List.map_append]; rfl] at hrow'
    exact hK _ ⟨m - 1, by omega, fun f => ⟨i + 1, V7, _, _, _, StIs.of (by exact rfl), View.le_trans hV6 hV7, by omega, by rw [show 1 + (i + 1) = 1 + i + 1 by omega]; exact hres.1, hrow'⟩⟩
  clear hown hrow
  rintro s ⟨V6, H6, w, cells, hs, hV6, hown, hrow⟩
  obtain ⟨z, rfl⟩ := hs.out
  try dsimp only
  rcases own_parts hown with ⟨_, h0, _⟩ | ⟨g, cap, rfl, hg, hle, hcap, _⟩
  · omega
  have hl6 := hl.up hV6
  have ht6 := SlAt.take hl6 (k := A.length) (by omega)
  first | refine Gx.a (by kernel_rfl) fun K hK => ?_ | refine Gx.b (by kernel_rfl) fun K hK => ?_ | refine Gx.c (by kernel_rfl) fun K hK => ?_
  simp only [XA, XB, gateX, Nat.reduceAdd, Nat.reduceLeDiff, Nat.reduceSub, Nat.reduceMul, ↓reduceIte, Int.reduceToNat, Int.reduceLE, beq_self_eq_true]
  refine ⟨by omega, by omega, by omega, ?_⟩
  refine call_own (by kernel_rfl) rfl (rclone_o _ _ (l.take A.length) ht6 (by simp; omega)) fun v8 V8 o8 hV8 hs8 h8 => ?_
  simp only [XA, XB, gateX, Nat.reduceAdd, Nat.reduceLeDiff, Nat.reduceSub, Nat.reduceMul, ↓reduceIte, Int.reduceToNat, Int.reduceLE, beq_self_eq_true]
  refine pub_clone h8 hs8 (by kernel_rfl) rfl fun V9 hV9 h9 => ?_
  refine call_go (by kernel_rfl) rfl (ctrim_c _ _ _ h9) fun v10 V10 hV10 h10 => ?_
  simp only [XA, XB, gateX, Nat.reduceAdd, Nat.reduceLeDiff, Nat.reduceSub, Nat.reduceMul, ↓reduceIte, Int.reduceToNat, Int.reduceLE, beq_self_eq_true]
  have hV610 := View.le_trans hV8 (View.le_trans hV9 hV10)
  refine call_pub g ⟨34, cells, cap * 3⟩ hg (fun ob hob hle' => ?_) (by kernel_rfl) rfl
  have hq : Rats _ _ (frQ a) := (hrow.mono ratE_ok hV610).pub ratE_ok hob hle' (n := 1 + A.length) (c := cap) (by rw [frQ_len]; omega) hle (by unfold maxLen at hcap; omega)
  have h10 := h10.up hle'
  refine call_go (by kernel_rfl) rfl (ctrim_c _ _ _ hq) fun v11 V11 hV11 h11 => ?_
  have h10 := h10.up hV11
  have hq := hq.up hV11
  have hlt : (l.take a.length).length ≤ 400 := by rw [List.length_take]; omega
  have cT : CB C (trimQ (l.take a.length)) := (hCl.take _).trim
  have cQ : CB B (trimQ (frQ a)) := (frQ_CB hCa).trim
  have lT := trimQ_len (l.take a.length)
  have lQ := trimQ_len (frQ a)
  have lq := frQ_len a
  have hfit2 : (trimQ (l.take a.length)).length * (C + B + 1) ≤ 400 * (C + B + 1) := Nat.mul_le_mul_right _ (by omega)
  rw [← ea] at h10
  simp only [XA, XB, gateX, Nat.reduceAdd, Nat.reduceLeDiff, Nat.reduceSub, Nat.reduceMul, ↓reduceIte, Int.reduceToNat, Int.reduceLE, beq_self_eq_true]
  refine call_go (by kernel_rfl) rfl (cmul_c _ _ _ _ _ C B h10 h11 cT cQ (by omega) (by omega)) fun v12 V12 hV12 h12 => ?_
  have hq := hq.up hV12
  obtain ⟨A4, c4, rfl, hc4, hm4⟩ := h12.form
  obtain ⟨M, hM⟩ : ∃ M, M = mulP (trimQ (l.take a.length)) (trimQ (frQ a)) := ⟨_, rfl⟩
  have hP : frP l a = trimQ (M.take (min M.length A.length)) := by unfold frP; rw [← hM, ea]
  rw [← hM] at h12 hc4
  simp only [XA, XB, gateX, Nat.reduceAdd, Nat.reduceLeDiff, Nat.reduceSub, Nat.reduceMul, ↓reduceIte, Int.reduceToNat, Int.reduceLE, beq_self_eq_true]
  refine hK _ ?_
  rw [← hM]
  first | refine Gx.a (by kernel_rfl) fun K hK => ?_ | refine Gx.b (by kernel_rfl) fun K hK => ?_ | refine Gx.c (by kernel_rfl) fun K hK => ?_
  simp only [XA, XB, gateX, Nat.reduceAdd, Nat.reduceLeDiff, Nat.reduceSub, Nat.reduceMul, ↓reduceIte, Int.reduceToNat, Int.reduceLE, beq_self_eq_true, min_nat]
  refine ⟨by omega, by omega, by omega, ?_⟩
  have ht4 := SlAt.take h12 (k := min M.length A.length) (by omega)
  refine call_go (by kernel_rfl) rfl (ctrim_c _ _ _ ht4) fun v13 V13 hV13 h13 => ?_
  simp only [XA, XB, gateX, Nat.reduceAdd, Nat.reduceLeDiff, Nat.reduceSub, Nat.reduceMul, ↓reduceIte, Int.reduceToNat, Int.reduceLE, beq_self_eq_true]
  refine call_go (by kernel_rfl) rfl (ctrim_c _ _ _ (hq.up hV13)) fun v14 V14 hV14 h14 => ?_
  simp only [XA, XB, gateX, Nat.reduceAdd, Nat.reduceLeDiff, Nat.reduceSub, Nat.reduceMul, ↓reduceIte, Int.reduceToNat, Int.reduceLE, beq_self_eq_true]
  refine hK _ (XWP.ret ?_)
  try simp only [thenX_ret, inBlockX_ret]
  refine ret_go _ rfl ?_
  exact ⟨fun h => absurd he h, fun _ => ⟨_, _, rfl, by rw [hP]; exact h13.up hV14, h14⟩⟩
end Go.Proofs.Ythoboehbadmlmaa
end
section
namespace Go.Proofs.Ythoboehbadmlmaa
set_option linter.unusedVariables false
set_option linter.unusedSimpArgs false
theorem cv_front (q y : Nat → Rat) (i : Nat) : cv q y i = q 0 * y i + Sm (fun j => q (j + 1) * y (i - (j + 1))) i := by
  unfold cv
  rw [Sm_front]; rfl
/-- the sum behind a number of the series -/
def serT (p q out : List Rat) (i : Nat) : Nat → Rat
  | 0 => cf p i
  | j + 1 => serT p q out i j - cf q (j + 1) * cf out (i - (j + 1))
def serI (p q : List Rat) : Nat → List Rat
  | 0 => []
  | k + 1 => serI p q k ++ [serT p q (serI p q k) k (min (q.length - 1) k) / cf q 0]
theorem serI_len (p q : List Rat) (n : Nat) : (serI p q n).length = n := by
  induction n with
  | zero => rfl
  | succ n ih => rw [serI, List.length_append, ih]; rfl
theorem serI_take (p q : List Rat) {k n : Nat} (h : k ≤ n) : (serI p q n).take k = serI p q k := by
  induction n with
  | zero => rw [show k = 0 by omega]; rfl
  | succ n ih =>
    rcases Nat.eq_or_lt_of_le h with h1 | h1
    · rw [h1]; exact List.take_of_length_le (by rw [serI_len]; omega)
    · rw [serI, List.take_append_of_le_length (by rw [serI_len]; omega)]
      exact ih (by omega)
theorem serT_Sm (p q out : List Rat) (i k : Nat) : serT p q out i k = cf p i - Sm (fun j => cf q (j + 1) * cf out (i - (j + 1))) k := by
  induction k with
  | zero => simp only [serT, Sm]; grind
  | succ k ih => simp only [serT, Sm, ih]; grind
end Go.Proofs.Ythoboehbadmlmaa
end
