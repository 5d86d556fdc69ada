/- The law RecurMatrix answers true at every input: the characteristic polynomial and a polynomial of a matrix agree with the reference, errors included. (part 8 of 12) -/
import Derived.OrdersHeld
import Derived.Below
import Derived.Tactics
import Derived.KernelRfl
import Derived.RangeFuncCalls
import Derived.RangeFuncFrom
import Derived.RangeFuncLeaves
import Derived.OrdersIn
import Derived.Laws.AppendOwn
import Derived.Laws.MakeOwn
import Derived.Laws.CopyRow
import Derived.Laws.Cells
import Derived.Laws.World
import Derived.Laws.Alloc2
import Derived.Laws.NewBlocks
import Derived.Maps.AppendAt
import Derived.Test.YthoboehbadmlmaaGreatProg
import Init.Data.List.Lemmas
import Init.Omega
import Derived.WalkKit
import Derived.ProofKit
import Derived.OpenShut
import Derived.ChangeOld
import Derived.SizedLaws
import Derived.ChangeSlices
import Derived.ChangeArms
import Derived.Deep.Slices
import Derived.Test.YthoboehbadmlmaaGreatMT7
section
namespace Go.Proofs.YthoboehbadmlmaaGreat
open Go Go.RowKit
set_option linter.unusedSimpArgs false
set_option linter.unusedVariables false
attribute [local irreducible] XWP Spec SpecO XPub XCall seqX clX apX stX ldX iaX slX
theorem min_3 (n : Nat) : (if (3 : Int) < (n : Int) then (3 : Int) else (n : Int)) = ((min n 3 : Nat) : Int) := by split <;> omega
theorem min_nat (a b : Nat) : (if (b : Int) < (a : Int) then (b : Int) else (a : Int)) = ((min a b : Nat) : Int) := by split <;> omega
theorem lnat_c (V : View) (v : Value) (ds : List Nat) (h : NatAt V v ds) : Spec Tryz.prog 83 [v] V fun v' V' => NatAt V' v' (ds.take 3) := by
  obtain ⟨A, c, rfl, hc, hm⟩ := h.form
  refine (Spec.enter Tryz.func83 rfl fun Γ => ?_)
  simp only [Tryz.ntmps83, List.map_cons, List.map_nil, List.length_cons, List.length_nil, Nat.reduceAdd, Nat.reduceSub, List.replicate_succ, List.replicate_zero, List.cons_append, List.nil_append]
  first | refine Gx.a (by kernel_rfl) fun K hK => ?_ | refine Gx.b (by kernel_rfl) fun K hK => ?_ | refine Gx.c (by kernel_rfl) fun K hK => ?_
  simp only [XA, XB, gateX, Nat.reduceAdd, Nat.reduceLeDiff, Nat.reduceSub, Nat.reduceMul, ↓reduceIte, Int.reduceToNat, Int.reduceLE, beq_self_eq_true]
  refine hK _ ?_
  first | refine Gx.a (by kernel_rfl) fun K hK => ?_ | refine Gx.b (by kernel_rfl) fun K hK => ?_ | refine Gx.c (by kernel_rfl) fun K hK => ?_
  simp only [XA, XB, gateX, Nat.reduceAdd, Nat.reduceLeDiff, Nat.reduceSub, Nat.reduceMul, ↓reduceIte, Int.reduceToNat, Int.reduceLE, beq_self_eq_true, min_3]
  refine ⟨by omega, by omega, by omega, ?_⟩
  refine hK _ (XWP.ret ?_)
  try simp only [thenX_ret, inBlockX_ret]
  refine ret_go _ rfl ?_
  have := NatAt.take h (k := min ds.length 3) (by omega)
  have e : ds.take (min ds.length 3) = ds.take 3 := by
    by_cases h3 : ds.length ≤ 3
    · rw [Nat.min_eq_left h3, List.take_of_length_le h3, List.take_of_length_le (Nat.le_refl _)]
    · rw [Nat.min_eq_right (by omega)]
  rw [e] at this
  exact this
def cutR (r : Raw) : Raw := ⟨r.m, r.nd.take 3, r.dd.take 3⟩
def fewL (L : List Raw) (n : Nat) : List Raw := (L.take n).map cutR
/-- few digits -/
def fewR (l : List Raw) : Prop := ∀ r ∈ l, r.nd.length ≤ 3 ∧ r.dd.length ≤ 3
theorem fewL_few (L : List Raw) (n : Nat) : fewR (fewL L n) := fun r hr => by
  obtain ⟨x, _, rfl⟩ := List.mem_map.1 hr
  exact ⟨by simp [cutR]; omega, by simp [cutR]; omega⟩
theorem fewR.fit {l : List Raw} (h : fewR l) : fitR l := fun r hr => ⟨by have := (h r hr).1; omega, by have := (h r hr).2; omega⟩
theorem fewL_len (L : List Raw) (n : Nat) : (fewL L n).length ≤ n := by simp [fewL]; omega
theorem BB_two : BB = 2 ^ 32 := rfl
theorem dig3 {ds : List Nat} (h : Dig ds) (hl : ds.length ≤ 3) : nv ds ≤ 2 ^ 96 := by
  have h1 := nv_lt h
  have h2 : BB ^ ds.length ≤ BB ^ 3 := Nat.pow_le_pow_right (by unfold BB; omega) hl
  have h3 : BB ^ 3 = 2 ^ 96 := by rw [BB_two, ← Nat.pow_mul]
  omega
/-- digits are digits -/
def digR (l : List Raw) : Prop := ∀ r ∈ l, Dig r.nd ∧ Dig r.dd
theorem Raws.dig {V : View} {v : Value} {l : List Raw} (h : Raws V v l) : digR l := fun r hr => by
  obtain ⟨A, c, rfl, h1, h2, h3⟩ := h
  rcases h3 with rfl | ⟨b, o, arr, ty, fr, e1, e2, h4⟩
  · cases hr
  · obtain ⟨i, hi⟩ := List.getElem?_of_mem hr
    obtain ⟨m, n, d, g1, g2, g3, o1, o2, o3, hE⟩ := h4 i r hi
    obtain ⟨n', d', _, k1, k2⟩ := hE
    exact ⟨k1.dig, k2.dig⟩
theorem fewR_QB {l : List Raw} (h : fewR l) (hd : digR l) : ∀ x ∈ qs l, QB 96 x := fun x hx => by
  obtain ⟨r, hr, rfl⟩ := List.mem_map.1 hx
  exact QB_rv _ (dig3 (hd r hr).1 (h r hr).1) (dig3 (hd r hr).2 (h r hr).2)
theorem lfew_c (V : View) (v : Value) (L : List Raw) (n : Nat) (hv : Raws V v L) (hn : n ≤ 1000000) : Spec Tryz.prog 34 [v, .int .i64 (n : Int)] V fun v' V' => Raws V' v' (fewL L n) := by
  obtain ⟨A1, c1, rfl, hc1, hm1⟩ := hv.form
  refine (Spec.enter Tryz.func34 rfl fun Γ => ?_)
  simp only [Tryz.ntmps34, List.map_cons, List.map_nil, List.length_cons, List.length_nil, Nat.reduceAdd, Nat.reduceSub, List.replicate_succ, List.replicate_zero, List.cons_append, List.nil_append]
  first | refine Gx.a (by kernel_rfl) fun K hK => ?_ | refine Gx.b (by kernel_rfl) fun K hK => ?_ | refine Gx.c (by kernel_rfl) fun K hK => ?_
  simp only [XA, XB, gateX, Nat.reduceAdd, Nat.reduceLeDiff, Nat.reduceSub, Nat.reduceMul, ↓reduceIte, Int.reduceToNat, Int.reduceLE, beq_self_eq_true]
  refine hK _ ?_
  first | refine Gx.a (by kernel_rfl) fun K hK => ?_ | refine Gx.b (by kernel_rfl) fun K hK => ?_ | refine Gx.c (by kernel_rfl) fun K hK => ?_
  refine bs_go (by kernel_rfl) #[] (by simp) (bs_zero elemT_22 zeroT_48) fun b hb1 hb2 => ?_
  simp only [XA, XB, gateX, Nat.reduceAdd, Nat.reduceLeDiff, Nat.reduceSub, Nat.reduceMul, ↓reduceIte, Int.reduceToNat, Int.reduceLE, beq_self_eq_true]
  refine hK _ ?_
  clear hK
  obtain ⟨N, hN⟩ : ∃ N, N = min L.length n := ⟨_, rfl⟩
  have eN : L.take N = L.take n := by
    rw [hN]
    by_cases h : L.length ≤ n
    · rw [Nat.min_eq_left h, List.take_of_length_le h, List.take_of_length_le (Nat.le_refl _)]
    · rw [Nat.min_eq_right (by omega)]
  have hvN := SlAt.take hv (k := N) (by omega)
  have hlN : (L.take N).length = N := by simp; omega
  refine XWP.cutD 0 (fun s => ∃ (V6 : View) (H5 : Heap) (cells : List Value) (wo : Value), StIs (fun Z => [Z 0,Z 1,Z 2,Z 3,Z 4, .v wo, Z 6,Z 7,Z 8,Z 9,Z 10,Z 11,Z 12,Z 13,Z 14,Z 15,Z 16,Z 17,Z 18,Z 19,Z 20,Z 21,Z 22,Z 23,Z 24,Z 25,Z 26,Z 27,Z 28,Z 29,Z 30,Z 31,Z 32,Z 33]) [] H5 V6 s ∧ Own H5 48 3 wo N cells ∧ RowAt rawE V6 cells ((L.take N).map cutR)) ?_ ?_
  · first | refine Gx.a (by kernel_rfl) fun K hK => ?_ | refine Gx.b (by kernel_rfl) fun K hK => ?_ | refine Gx.c (by kernel_rfl) fun K hK => ?_
    simp only [XA, XB, gateX, Nat.reduceAdd, Nat.reduceLeDiff, Nat.reduceSub, Nat.reduceMul, ↓reduceIte, Int.reduceToNat, Int.reduceLE, beq_self_eq_true, min_nat]
    rw [← hN]
    refine ⟨by omega, by omega, by omega, ?_⟩
    refine hK _ ?_
    clear hK
    first | refine XWP.block ?_ | refine XWP.seq (XWP.block ?_)
    refine XWP.loopD 0 (fun m s => ∃ (k : Nat) (V6 : View) (H5 : Heap) (cells : List Value) (wo : Value), StIs (fun Z => [Z 0,Z 1,Z 2,Z 3,Z 4, .v wo, Z 6,Z 7,Z 8,Z 9,Z 10,Z 11,Z 12,Z 13, .v (.slice A1 N c1), .v (.int .i64 (N : Int)), .v (.int .i64 (k : Int)), Z 17,Z 18,Z 19,Z 20,Z 21,Z 22,Z 23,Z 24,Z 25,Z 26,Z 27,Z 28,Z 29,Z 30,Z 31,Z 32,Z 33]) [] H5 V6 s ∧ V.le V6 ∧ m + k = N ∧ Own H5 48 3 wo k cells ∧ RowAt rawE V6 cells ((L.take k).map cutR)) N ⟨0, V, _, [], _, StIs.of (by exact rfl), View.le_refl _, rfl, own3 (by simp [upd]) rfl (Nat.le_refl _) (by omega), RowAt.nil _⟩ ?_
    rintro m s ⟨k, V6, H5, cells, wo, hs, hV6, hm, hown, hrow⟩
    obtain ⟨z, rfl⟩ := hs.out
    try dsimp only
    by_cases hk : k < N
    · have b1 : decide ((k : Int) < (N : Int)) = true := decide_eq_true (by omega)
      first | refine Gx.a (by kernel_rfl) fun K hK => ?_ | refine Gx.b (by kernel_rfl) fun K hK => ?_ | refine Gx.c (by kernel_rfl) fun K hK => ?_
      simp only [XA, XB, gateX, Nat.reduceAdd, Nat.reduceLeDiff, Nat.reduceSub, Nat.reduceMul, ↓reduceIte, Int.reduceToNat, Int.reduceLE, beq_self_eq_true, b1]
      refine hK _ ?_
      first | refine Gx.t rfl ?_ | refine XWP.seq (Gx.t rfl ?_)
      refine XWP.skip ?_
      refine XWP.seq ?_
      first | refine XWP.block ?_ | refine XWP.seq (XWP.block ?_)
      first | refine Gx.a (by kernel_rfl) fun K hK => ?_ | refine Gx.b (by kernel_rfl) fun K hK => ?_ | refine Gx.c (by kernel_rfl) fun K hK => ?_
      have hv6 := Raws.up hvN hV6
      obtain ⟨b', o', rfl⟩ := SlAt.addr hv6 (by omega)
      obtain ⟨x, hx, ⟨m3, n3, d3, rfl, p1, p2, p3⟩, hld⟩ := SlAt.load hv6 k (by omega)
      obtain ⟨n4, d4, e4, hn4, hd4⟩ := hx
      cases e4
      have ek : (L.take N)[k]'(by omega) = L[k]'(by omega) := by simp
      rw [ek] at hn4 hd4
      simp only [XA, XB, gateX, Nat.reduceAdd, Nat.reduceLeDiff, Nat.reduceSub, Nat.reduceMul, ↓reduceIte, Int.reduceToNat, Int.reduceLE, beq_self_eq_true]
      refine ⟨by omega, by omega, ld_mem (hld _) ?_⟩
      simp only [XA, XB, gateX, Nat.reduceAdd, Nat.reduceLeDiff, Nat.reduceSub, Nat.reduceMul, ↓reduceIte, Int.reduceToNat, Int.reduceLE, beq_self_eq_true]
      refine st_rat rfl rfl rfl p2 p3 ?_
      simp only [XA, XB, gateX, Nat.reduceAdd, Nat.reduceLeDiff, Nat.reduceSub, Nat.reduceMul, ↓reduceIte, Int.reduceToNat, Int.reduceLE, beq_self_eq_true]
      refine hK _ ?_
      (first | refine XWP.drw [0, 1, 2, 3, 4, 6, 7, 5, 8, 9, 10, 11, 12] (by kernel_rfl) (by kernel_rfl) (by kernel_rfl) fun K hK => ?_ | refine XWP.seq (XWP.drw [0, 1, 2, 3, 4, 6, 7, 5, 8, 9, 10, 11, 12] (by kernel_rfl) (by kernel_rfl) (by kernel_rfl) fun K hK => ?_) | refine XWP.drw1 [0, 1, 2, 3, 4, 6, 7, 5, 8, 9, 10, 11, 12] (by kernel_rfl) (by kernel_rfl) (by kernel_rfl) fun K hK => ?_) <;> dsimp only [pickOps, List.getElem?_cons_zero, List.getElem?_cons_succ]
      simp only [XA, XB, gateX, Nat.reduceAdd, Nat.reduceLeDiff, Nat.reduceSub, Nat.reduceMul, ↓reduceIte, Int.reduceToNat, Int.reduceLE, beq_self_eq_true]
      refine call_go (by kernel_rfl) rfl (lnat_c _ _ _ hn4) fun v7 V7 hV7 h7 => ?_
      simp only [XA, XB, gateX, Nat.reduceAdd, Nat.reduceLeDiff, Nat.reduceSub, Nat.reduceMul, ↓reduceIte, Int.reduceToNat, Int.reduceLE, beq_self_eq_true]
      refine call_go (by kernel_rfl) rfl (lnat_c _ _ _ (hd4.mono hV7)) fun v8 V8 hV8 h8 => ?_
      have h7 := h7.mono hV8
      simp only [XA, XB, gateX, Nat.reduceAdd, Nat.reduceLeDiff, Nat.reduceSub, Nat.reduceMul, ↓reduceIte, Int.reduceToNat, Int.reduceLE, beq_self_eq_true]
      rw [ek]
      refine bd_go (by kernel_rfl) #[(0, .bool (L[k]'(by omega)).m), (1, v7), (2, v8)] (by simp [ev_tmp, SV.val]) (bd_rat3 rfl h7.one h8.one) ?_
      simp only [XA, XB, gateX, Nat.reduceAdd, Nat.reduceLeDiff, Nat.reduceSub, Nat.reduceMul, ↓reduceIte, Int.reduceToNat, Int.reduceLE, beq_self_eq_true]
      refine bs_go (by kernel_rfl) #[(0, .agg #[.bool (L[k]'(by omega)).m, v7, v8])] (by simp [ev_tmp, SV.val]) (bs_rat elemT_22) fun b3 hb3 hb4 => ?_
      simp only [XA, XB, gateX, Nat.reduceAdd, Nat.reduceLeDiff, Nat.reduceSub, Nat.reduceMul, ↓reduceIte, Int.reduceToNat, Int.reduceLE, beq_self_eq_true]
      refine ap_go elemT_22 (by kernel_rfl) zeroT_48 rfl (by omega) (own_upd hown hb3) (src3 (upd_at _ _ _) rfl h7.one h8.one) (by omega) (by omega) fun v' H' hres => ?_
      simp only [XA, XB, gateX, Nat.reduceAdd, Nat.reduceLeDiff, Nat.reduceSub, Nat.reduceMul, ↓reduceIte, Int.reduceToNat, Int.reduceLE, beq_self_eq_true]
      refine hK _ ?_
      first | refine Gx.a (by kernel_rfl) fun K hK => ?_ | refine Gx.b (by kernel_rfl) fun K hK => ?_ | refine Gx.c (by kernel_rfl) fun K hK => ?_
      simp only [XA, XB, gateX, Nat.reduceAdd, Nat.reduceLeDiff, Nat.reduceSub, Nat.reduceMul, ↓reduceIte, Int.reduceToNat, Int.reduceLE, beq_self_eq_true, i64_succ k (by omega)]
      have hrow' := (hrow.mono rawE_ok (View.le_trans hV7 hV8)).snoc (x := cutR (L[k]'(by omega))) (show isOne (.bool (L[k]'(by omega)).m) = true from rfl) h7.one h8.one ⟨_, _, rfl, h7, h8⟩
      have em : (L.take (k + 1)).map cutR = (L.take k).map cutR ++ [cutR (L[k]'(by omega))] := by rw [List.take_succ_eq_append_getElem (by omega), List.map_append]; rfl
      rw [← em] at hrow'
      exact hK _ ⟨m - 1, by omega, fun f => ⟨k + 1, V8, _, _, _, StIs.of (by exact rfl), View.le_trans hV6 (View.le_trans hV7 hV8), by omega, hres.1, hrow'⟩⟩
    · have b1 : decide ((k : Int) < (N : Int)) = false := decide_eq_false (by omega)
      obtain rfl : k = N := by omega
      first | refine Gx.a (by kernel_rfl) fun K hK => ?_ | refine Gx.b (by kernel_rfl) fun K hK => ?_ | refine Gx.c (by kernel_rfl) fun K hK => ?_
      simp only [XA, XB, gateX, Nat.reduceAdd, Nat.reduceLeDiff, Nat.reduceSub, Nat.reduceMul, ↓reduceIte, Int.reduceToNat, Int.reduceLE, beq_self_eq_true, b1]
      refine hK _ ?_
      first | refine Gx.f rfl ?_ | refine XWP.seq (Gx.f rfl ?_)
      refine XWP.exit ?_
      exact fun f => ⟨V6, H5, cells, wo, StIs.of (by exact rfl), hown, hrow⟩
  rintro s ⟨V6, H5, cells, wo, hs, hown, hrow⟩
  obtain ⟨z, rfl⟩ := hs.out
  try dsimp only
  rw [eN] at hrow
  have hl : ((L.take n).map cutR).length = N := by rw [List.length_map, ← eN, hlN]
  first | refine Gx.a (by kernel_rfl) fun K hK => ?_ | refine Gx.b (by kernel_rfl) fun K hK => ?_ | refine Gx.c (by kernel_rfl) fun K hK => ?_
  simp only [XA, XB, gateX, Nat.reduceAdd, Nat.reduceLeDiff, Nat.reduceSub, Nat.reduceMul, ↓reduceIte, Int.reduceToNat, Int.reduceLE, beq_self_eq_true]
  refine hK _ (XWP.ret ?_)
  try simp only [thenX_ret, inBlockX_ret]
  rcases own_parts hown with ⟨rfl, hn0, rfl⟩ | ⟨g, cap, rfl, hg, hle, hcap, _⟩
  · refine ret_go _ rfl ?_
    have : fewL L n = [] := List.length_eq_zero_iff.1 (by unfold fewL; rw [hl]; exact hn0)
    rw [this]; exact SlAt.nil _
  · refine ret_pub g _ hg fun o ho hle' => ret_go _ rfl ?_
    exact hrow.pub rawE_ok ho hle' hl hle (by unfold maxLen at hcap; omega)
theorem lsame_c (V : View) (v u : Value) (l m : List Rat) (hv : Rats V v l) (hu : Rats V u m) (hl : ∀ x ∈ l, QF x) (hm : ∀ x ∈ m, QF x) : Spec Tryz.prog 30 [v, u] V fun v' V' => v' = .bool (decide (l = m)) := by
  obtain ⟨A1, c1, rfl, hc1, hm1⟩ := hv.form
  obtain ⟨A2, c2, rfl, hc2, hm2⟩ := hu.form
  refine (Spec.enter Tryz.func30 rfl fun Γ => ?_)
  simp only [Tryz.ntmps30, List.map_cons, List.map_nil, List.length_cons, List.length_nil, Nat.reduceAdd, Nat.reduceSub, List.replicate_succ, List.replicate_zero, List.cons_append, List.nil_append]
  first | refine Gx.a (by kernel_rfl) fun K hK => ?_ | refine Gx.b (by kernel_rfl) fun K hK => ?_ | refine Gx.c (by kernel_rfl) fun K hK => ?_
  simp only [XA, XB, gateX, Nat.reduceAdd, Nat.reduceLeDiff, Nat.reduceSub, Nat.reduceMul, ↓reduceIte, Int.reduceToNat, Int.reduceLE, beq_self_eq_true]
  refine hK _ ?_
  refine XWP.seq ?_
  by_cases hlen : l.length = m.length
  · have b1 : (!decide ((l.length : Int) = (m.length : Int))) = false := by rw [decide_eq_true (by omega)]; rfl
    first | refine Gx.a (by kernel_rfl) fun K hK => ?_ | refine Gx.b (by kernel_rfl) fun K hK => ?_ | refine Gx.c (by kernel_rfl) fun K hK => ?_
    simp only [XA, XB, gateX, Nat.reduceAdd, Nat.reduceLeDiff, Nat.reduceSub, Nat.reduceMul, ↓reduceIte, Int.reduceToNat, Int.reduceLE, beq_self_eq_true, b1]
    refine hK _ ?_
    first | refine Gx.f rfl ?_ | refine XWP.seq (Gx.f rfl ?_)
    refine XWP.skip ?_
    refine XWP.cut (fun s => ∃ V2, StIs (fun Z => [Z 0,Z 1,Z 2,Z 3,Z 4,Z 5,Z 6,Z 7,Z 8,Z 9,Z 10,Z 11,Z 12,Z 13,Z 14,Z 15,Z 16,Z 17,Z 18,Z 19,Z 20,Z 21,Z 22,Z 23,Z 24,Z 25,Z 26]) [] (fun _ => none) V2 s ∧ l = m) ?_ ?_
    · first | refine Gx.a (by kernel_rfl) fun K hK => ?_ | refine Gx.b (by kernel_rfl) fun K hK => ?_ | refine Gx.c (by kernel_rfl) fun K hK => ?_
      simp only [XA, XB, gateX, Nat.reduceAdd, Nat.reduceLeDiff, Nat.reduceSub, Nat.reduceMul, ↓reduceIte, Int.reduceToNat, Int.reduceLE, beq_self_eq_true]
      refine hK _ ?_
      clear hK
      first | refine XWP.block ?_ | refine XWP.seq (XWP.block ?_)
      refine XWP.loop (fun n s => ∃ (k : Nat) (V2 : View), StIs (fun Z => [.v (.slice A1 l.length c1), .v (.slice A2 m.length c2), Z 2,Z 3,Z 4,Z 5,Z 6,Z 7,Z 8,Z 9,Z 10,Z 11, .v (.int .i64 (l.length : Int)), .v (.int .i64 (k : Int)), Z 14,Z 15,Z 16,Z 17,Z 18,Z 19,Z 20,Z 21,Z 22,Z 23,Z 24,Z 25,Z 26]) [] (fun _ => none) V2 s ∧ V.le V2 ∧ n + k = l.length ∧ ∀ i, i < k → cf l i = cf m i) l.length ⟨0, V, StIs.of (by exact rfl), View.le_refl _, rfl, fun i hi => by omega⟩ ?_
      rintro n s ⟨k, V2, hs, hV2, hn, hk⟩
      obtain ⟨z, rfl⟩ := hs.out
      try dsimp only
      by_cases hlt : k < l.length
      · have b2 : decide ((k : Int) < (l.length : Int)) = true := decide_eq_true (by omega)
        first | refine Gx.a (by kernel_rfl) fun K hK => ?_ | refine Gx.b (by kernel_rfl) fun K hK => ?_ | refine Gx.c (by kernel_rfl) fun K hK => ?_
        simp only [XA, XB, gateX, Nat.reduceAdd, Nat.reduceLeDiff, Nat.reduceSub, Nat.reduceMul, ↓reduceIte, Int.reduceToNat, Int.reduceLE, beq_self_eq_true, b2]
        refine hK _ ?_
        first | refine Gx.t rfl ?_ | refine XWP.seq (Gx.t rfl ?_)
        refine XWP.skip ?_
        refine XWP.seq ?_
        first | refine XWP.block ?_ | refine XWP.seq (XWP.block ?_)
        first | refine Gx.a (by kernel_rfl) fun K hK => ?_ | refine Gx.b (by kernel_rfl) fun K hK => ?_ | refine Gx.c (by kernel_rfl) fun K hK => ?_
        simp only [XA, XB, gateX, Nat.reduceAdd, Nat.reduceLeDiff, Nat.reduceSub, Nat.reduceMul, ↓reduceIte, Int.reduceToNat, Int.reduceLE, beq_self_eq_true]
        refine hK _ ?_
        (first | refine XWP.drw [0, 1, 2, 3, 4, 5, 6, 7, 8, 9] (by kernel_rfl) (by kernel_rfl) (by kernel_rfl) fun K hK => ?_ | refine XWP.seq (XWP.drw [0, 1, 2, 3, 4, 5, 6, 7, 8, 9] (by kernel_rfl) (by kernel_rfl) (by kernel_rfl) fun K hK => ?_) | refine XWP.drw1 [0, 1, 2, 3, 4, 5, 6, 7, 8, 9] (by kernel_rfl) (by kernel_rfl) (by kernel_rfl) fun K hK => ?_) <;> dsimp only [pickOps, List.getElem?_cons_zero, List.getElem?_cons_succ]
        have hv2 := Rats.up hv hV2
        have hu2 := Rats.up hu hV2
        obtain ⟨b, o, rfl⟩ := SlAt.addr hv2 (by omega)
        obtain ⟨b', o', rfl⟩ := SlAt.addr hu2 (by omega)
        obtain ⟨m3, n3, d3, hx3, ⟨p1, p2, p3⟩, hld3⟩ := Rats.get hv2 k (by omega)
        obtain ⟨m4, n4, d4, hx4, ⟨r1, r2, r3⟩, hld4⟩ := Rats.get hu2 k (by omega)
        simp only [XA, XB, gateX, Nat.reduceAdd, Nat.reduceLeDiff, Nat.reduceSub, Nat.reduceMul, ↓reduceIte, Int.reduceToNat, Int.reduceLE, beq_self_eq_true]
        refine ⟨by omega, by omega, ld_mem (hld3 _) ?_⟩
        simp only [XA, XB, gateX, Nat.reduceAdd, Nat.reduceLeDiff, Nat.reduceSub, Nat.reduceMul, ↓reduceIte, Int.reduceToNat, Int.reduceLE, beq_self_eq_true]
        refine ⟨by omega, by omega, ld_mem (hld4 _) ?_⟩
        simp only [XA, XB, gateX, Nat.reduceAdd, Nat.reduceLeDiff, Nat.reduceSub, Nat.reduceMul, ↓reduceIte, Int.reduceToNat, Int.reduceLE, beq_self_eq_true]
        have f3 := hl _ (cf_mem hlt)
        have f4 := hm _ (cf_mem (show k < m.length by omega))
        refine call_go (by kernel_rfl) rfl (psame_c _ _ _ _ _ (hx3.toV f3) (hx4.toV f4) f3 f4) fun v5 V5 hV5 h5 => ?_
        subst h5
        by_cases he : cf l k = cf m k
        · have b3 : decide (cf l k = cf m k) = true := decide_eq_true he
          simp only [XA, XB, gateX, Nat.reduceAdd, Nat.reduceLeDiff, Nat.reduceSub, Nat.reduceMul, ↓reduceIte, Int.reduceToNat, Int.reduceLE, beq_self_eq_true, b3]
          refine hK _ ?_
          first | refine Gx.f rfl ?_ | refine XWP.seq (Gx.f rfl ?_)
          refine XWP.skip ?_
          first | refine Gx.a (by kernel_rfl) fun K hK => ?_ | refine Gx.b (by kernel_rfl) fun K hK => ?_ | refine Gx.c (by kernel_rfl) fun K hK => ?_
          simp only [XA, XB, gateX, Nat.reduceAdd, Nat.reduceLeDiff, Nat.reduceSub, Nat.reduceMul, ↓reduceIte, Int.reduceToNat, Int.reduceLE, beq_self_eq_true, i64_succ k (by omega)]
          refine hK _ ⟨n - 1, by omega, k + 1, V5, StIs.of (by exact rfl), View.le_trans hV2 hV5, by omega, fun i hi => ?_⟩
          by_cases e : i = k
          · rw [e]; exact he
          · exact hk i (by omega)
        · have b3 : decide (cf l k = cf m k) = false := decide_eq_false he
          simp only [XA, XB, gateX, Nat.reduceAdd, Nat.reduceLeDiff, Nat.reduceSub, Nat.reduceMul, ↓reduceIte, Int.reduceToNat, Int.reduceLE, beq_self_eq_true, b3]
          refine hK _ ?_
          first | refine Gx.t rfl ?_ | refine XWP.seq (Gx.t rfl ?_)
          first | refine Gx.a (by kernel_rfl) fun K hK => ?_ | refine Gx.b (by kernel_rfl) fun K hK => ?_ | refine Gx.c (by kernel_rfl) fun K hK => ?_
          simp only [XA, XB, gateX, Nat.reduceAdd, Nat.reduceLeDiff, Nat.reduceSub, Nat.reduceMul, ↓reduceIte, Int.reduceToNat, Int.reduceLE, beq_self_eq_true]
          refine hK _ (XWP.ret ?_)
          try simp only [thenX_ret, inBlockX_ret]
          refine ret_go _ rfl ?_
          rw [decide_eq_false (fun e => he (by rw [e]))]; rfl
      · have b2 : decide ((k : Int) < (l.length : Int)) = false := decide_eq_false (by omega)
        first | refine Gx.a (by kernel_rfl) fun K hK => ?_ | refine Gx.b (by kernel_rfl) fun K hK => ?_ | refine Gx.c (by kernel_rfl) fun K hK => ?_
        simp only [XA, XB, gateX, Nat.reduceAdd, Nat.reduceLeDiff, Nat.reduceSub, Nat.reduceMul, ↓reduceIte, Int.reduceToNat, Int.reduceLE, beq_self_eq_true, b2]
        refine hK _ ?_
        first | refine Gx.f rfl ?_ | refine XWP.seq (Gx.f rfl ?_)
        refine XWP.exit ?_
        refine ⟨V2, StIs.of (by exact rfl), List.ext_getElem hlen fun i h1 h2 => ?_⟩
        rw [cf_get h1, cf_get h2]; exact hk i (by omega)
    rintro s ⟨V2, hs, he⟩
    obtain ⟨z, rfl⟩ := hs.out
    try dsimp only
    first | refine Gx.a (by kernel_rfl) fun K hK => ?_ | refine Gx.b (by kernel_rfl) fun K hK => ?_ | refine Gx.c (by kernel_rfl) fun K hK => ?_
    simp only [XA, XB, gateX, Nat.reduceAdd, Nat.reduceLeDiff, Nat.reduceSub, Nat.reduceMul, ↓reduceIte, Int.reduceToNat, Int.reduceLE, beq_self_eq_true]
    refine hK _ (XWP.ret ?_)
    try simp only [thenX_ret, inBlockX_ret]
    refine ret_go _ rfl ?_
    rw [decide_eq_true he]; rfl
  · have b1 : (!decide ((l.length : Int) = (m.length : Int))) = true := by rw [decide_eq_false (by omega)]; rfl
    first | refine Gx.a (by kernel_rfl) fun K hK => ?_ | refine Gx.b (by kernel_rfl) fun K hK => ?_ | refine Gx.c (by kernel_rfl) fun K hK => ?_
    simp only [XA, XB, gateX, Nat.reduceAdd, Nat.reduceLeDiff, Nat.reduceSub, Nat.reduceMul, ↓reduceIte, Int.reduceToNat, Int.reduceLE, beq_self_eq_true, b1]
    refine hK _ ?_
    first | refine Gx.t rfl ?_ | refine XWP.seq (Gx.t rfl ?_)
    first | refine Gx.a (by kernel_rfl) fun K hK => ?_ | refine Gx.b (by kernel_rfl) fun K hK => ?_ | refine Gx.c (by kernel_rfl) fun K hK => ?_
    simp only [XA, XB, gateX, Nat.reduceAdd, Nat.reduceLeDiff, Nat.reduceSub, Nat.reduceMul, ↓reduceIte, Int.reduceToNat, Int.reduceLE, beq_self_eq_true]
    refine hK _ (XWP.ret ?_)
    try simp only [thenX_ret, inBlockX_ret]
    refine ret_go _ rfl ?_
    rw [decide_eq_false (fun e => hlen (by rw [e]))]; rfl
theorem lsameP_c (V : View) (v u : Value) (e f : Int) (l m : List Rat) (hv : Rats V v l) (hu : Rats V u m) (hl : ∀ x ∈ l, QF x) (hm : ∀ x ∈ m, QF x) : Spec Tryz.prog 12 [v, .int .i64 e, u, .int .i64 f] V fun v' V' => v' = .bool (decide (e = f) && decide (l = m)) := by
  refine (Spec.enter Tryz.func12 rfl fun Γ => ?_)
  simp only [Tryz.ntmps12, List.map_cons, List.map_nil, List.length_cons, List.length_nil, Nat.reduceAdd, Nat.reduceSub, List.replicate_succ, List.replicate_zero, List.cons_append, List.nil_append]
  first | refine Gx.a (by kernel_rfl) fun K hK => ?_ | refine Gx.b (by kernel_rfl) fun K hK => ?_ | refine Gx.c (by kernel_rfl) fun K hK => ?_
  simp only [XA, XB, gateX, Nat.reduceAdd, Nat.reduceLeDiff, Nat.reduceSub, Nat.reduceMul, ↓reduceIte, Int.reduceToNat, Int.reduceLE, beq_self_eq_true]
  refine hK _ ?_
  first | refine Gx.a (by kernel_rfl) fun K hK => ?_ | refine Gx.b (by kernel_rfl) fun K hK => ?_ | refine Gx.c (by kernel_rfl) fun K hK => ?_
  by_cases h : e = f
  · have b1 : decide (e = f) = true := decide_eq_true h
    simp only [XA, XB, gateX, Nat.reduceAdd, Nat.reduceLeDiff, Nat.reduceSub, Nat.reduceMul, ↓reduceIte, Int.reduceToNat, Int.reduceLE, beq_self_eq_true, b1]
    refine call_go (by kernel_rfl) rfl (lsame_c _ _ _ _ _ hv hu hl hm) fun v3 V3 hV3 h3 => ?_
    subst h3
    simp only [XA, XB, gateX, Nat.reduceAdd, Nat.reduceLeDiff, Nat.reduceSub, Nat.reduceMul, ↓reduceIte, Int.reduceToNat, Int.reduceLE, beq_self_eq_true]
    refine hK _ (XWP.ret ?_)
    try simp only [thenX_ret, inBlockX_ret]
    refine ret_go _ rfl ?_
    rw [b1]; rfl
  · have b1 : decide (e = f) = false := decide_eq_false h
    simp only [XA, XB, gateX, Nat.reduceAdd, Nat.reduceLeDiff, Nat.reduceSub, Nat.reduceMul, ↓reduceIte, Int.reduceToNat, Int.reduceLE, beq_self_eq_true, b1]
    refine hK _ (XWP.ret ?_)
    try simp only [thenX_ret, inBlockX_ret]
    refine ret_go _ rfl ?_
    rw [b1]; rfl
end Go.Proofs.YthoboehbadmlmaaGreat
end
section
namespace Go.Proofs.YthoboehbadmlmaaGreat
open Go Go.RowKit
set_option linter.unusedSimpArgs false
set_option linter.unusedVariables false
attribute [local irreducible] XWP Spec SpecO XPub XCall seqX clX apX stX ldX iaX slX
end Go.Proofs.YthoboehbadmlmaaGreat
end
section
namespace Go.Proofs.YthoboehbadmlmaaGreat
set_option linter.unusedVariables false
/-! the product -/
/-- the sum of the products that meet at a place -/
def meet (p q : List Rat) (i : Nat) : Nat → Rat
  | 0 => 0
  | k + 1 => meet p q i k + if k ≤ i then cf p k * cf q (i - k) else 0
theorem mul_meet (p q : List Rat) (i k : Nat) : cf (mulI p q k) i = meet p q i k := by
  induction k with
  | zero => exact cf_none (by simp [mulI])
  | succ k ih =>
    rw [mulI, meet]
    split
    · rename_i h
      rw [ih, h]
      split
      · rw [Rat.zero_mul, Rat.add_zero]
      · rw [Rat.add_zero]
    · rw [cf_pAdd]
      unfold pAt
      rw [ih]
      congr 1
      split
      · rw [Rat.mul_comm]
      · rfl
theorem off_meet (p q : List Rat) (i k : Nat) (hk : k ≤ i + 1) : offS q p i k = meet p q i k := by
  induction k with
  | zero => rfl
  | succ k ih => rw [offS, meet, ih (by omega), if_pos (by omega)]
theorem meet_more (p q : List Rat) (i : Nat) {k m : Nat} (hk : k ≤ m) (h : ∀ j, k ≤ j → j < m → i < j ∨ p.length ≤ j) : meet p q i m = meet p q i k := by
  induction m with
  | zero => have : k = 0 := by omega
            rw [this]
  | succ m ih =>
    rcases Nat.eq_or_lt_of_le hk with e | e
    · rw [e]
    · rw [meet, ih (by omega) fun j h1 h2 => h j h1 (by omega)]
      have : (if m ≤ i then cf p m * cf q (i - m) else 0) = 0 := by
        split
        · rcases h m (by omega) (by omega) with h1 | h1
          · omega
          · rw [cf_none h1, Rat.zero_mul]
        · rfl
      rw [this, Rat.add_zero]
theorem meet_all (p q : List Rat) (i : Nat) : meet p q i p.length = meet p q i (i + 1) := by
  rcases Nat.le_total p.length (i + 1) with h | h
  · exact (meet_more p q i h fun j h1 _ => .inr h1).symm
  · exact meet_more p q i h fun j h1 _ => .inl (by omega)
theorem meet_zero (p q : List Rat) (i k : Nat) (h : p.length + q.length ≤ i + 1) : meet p q i k = 0 := by
  induction k with
  | zero => rfl
  | succ k ih =>
    rw [meet, ih, Rat.zero_add]
    split
    · by_cases hk : k < p.length
      · rw [cf_none (l := q) (by omega), Rat.mul_zero]
      · rw [cf_none (l := p) (by omega), Rat.zero_mul]
    · rfl
theorem cf_mulP (p q : List Rat) (i : Nat) : cf (mulP p q) i = meet p q i p.length := mul_meet p q i _
theorem mulP_pol (p q : List Rat) : PolQ (mulP p q) := mulI_pol _ _ _
theorem mul_prod (p q : List Rat) : mulP p q = prodP p q := by
  refine PolQ.ext (mulP_pol _ _) (trimQ_pol _) fun i => ?_
  unfold prodP
  rw [cf_trimQ, cf_mk, cf_mulP]
  split
  · rw [off_meet _ _ _ _ (Nat.le_refl _), meet_all]
  · rename_i h
    exact meet_zero p q i _ (by omega)
end Go.Proofs.YthoboehbadmlmaaGreat
end
section
namespace Go.Proofs.YthoboehbadmlmaaGreat
open Go Go.RowKit
set_option linter.unusedSimpArgs false
set_option linter.unusedVariables false
attribute [local irreducible] XWP Spec SpecO XPub XCall seqX clX apX stX ldX iaX slX
theorem bs_rat2 {t : Nat} {a b c a' b' c' : Value} (he : elemT Tryz.prog t = some 48) : BuildsSlice Tryz.prog t 2 #[(0, .agg #[a, b, c]), (1, .agg #[a', b', c'])] 48 [a, b, c, a', b', c'] := by
  obtain ⟨i, zv, hi, hzv, h1, h2, _⟩ := zero_parts zeroT_48
  have hc : zv.cells = #[.bool false, .slice none 0 0, .slice none 0 0] := Array.toList_inj.1 h1
  refine bs_run (cells := #[a, b, c, a', b', c']) he hi hzv (by omega) (by omega) ?_
  rw [h2, hc]
  have : madeCells #[.bool false, .slice none 0 0, .slice none 0 0] (2 * 3) = #[.bool false, .slice none 0 0, .slice none 0 0, .bool false, .slice none 0 0, .slice none 0 0] := Array.toList_inj.1 (by rw [made_flat _ 3 rfl (by omega)]; rfl)
  rw [this, fill_three (off := 0) rfl (by simp), fill_three (off := 3) rfl (by simp)]; rfl
theorem bs_rat4 {t : Nat} {a b c a' b' c' d e f d' e' f' : Value} (he : elemT Tryz.prog t = some 48) : BuildsSlice Tryz.prog t 4 #[(0, .agg #[a, b, c]), (1, .agg #[a', b', c']), (2, .agg #[d, e, f]), (3, .agg #[d', e', f'])] 48 [a, b, c, a', b', c', d, e, f, d', e', f'] := by
  obtain ⟨i, zv, hi, hzv, h1, h2, _⟩ := zero_parts zeroT_48
  have hc : zv.cells = #[.bool false, .slice none 0 0, .slice none 0 0] := Array.toList_inj.1 h1
  refine bs_run (cells := #[a, b, c, a', b', c', d, e, f, d', e', f']) he hi hzv (by omega) (by omega) ?_
  rw [h2, hc]
  have : madeCells #[.bool false, .slice none 0 0, .slice none 0 0] (4 * 3) = #[.bool false, .slice none 0 0, .slice none 0 0, .bool false, .slice none 0 0, .slice none 0 0, .bool false, .slice none 0 0, .slice none 0 0, .bool false, .slice none 0 0, .slice none 0 0] := Array.toList_inj.1 (by rw [made_flat _ 3 rfl (by omega)]; rfl)
  rw [this, fill_three (off := 0) rfl (by simp), fill_three (off := 3) rfl (by simp), fill_three (off := 6) rfl (by simp), fill_three (off := 9) rfl (by simp)]
  simp [Instr.fill]
def fib : List Rat := [1, 1, 1 + 1, 1 + (1 + 1)]
theorem fib_bm : bmOut (bmI fib 4) = [1, 1] ∧ (bmI fib 4).size = 2 := by
  have s1 : bmI fib 1 = ⟨[1, -1], [1], 1, 1, 1⟩ := by
    show bmStep fib ⟨[1], [1], 0, 1, 1⟩ 0 = _
    decide +kernel
  have s2 : bmI fib 2 = ⟨[1, -1], [1], 1, 2, 1⟩ := by rw [bmI, s1]; decide +kernel
  have s3 : bmI fib 3 = ⟨[1, -1, -1], [1, -1], 2, 1, 1⟩ := by rw [bmI, s2]; decide +kernel
  have s4 : bmI fib 4 = ⟨[1, -1, -1], [1, -1], 2, 2, 1⟩ := by rw [bmI, s3]; decide +kernel
  rw [s4]
  decide +kernel
theorem fib_QB : ∀ x ∈ fib, QB 2 x := by
  intro x hx
  have h2 : QB 1 ((1 : Rat) + 1) := (QB_one 0).add (QB_one 0)
  simp only [fib, List.mem_cons, List.not_mem_nil, or_false] at hx
  rcases hx with rfl | rfl | rfl | rfl
  · exact QB_one 2
  · exact QB_one 2
  · exact h2.mono (by omega)
  · exact (QB_one 0).add h2
theorem fib_CB : CB 8 fib := CB_of fib fib_QB
theorem fib_fit (i : Nat) (hi : i < 4) : BMFit fib (bmI fib i) i := bm_fit (e := 2) fib_CB (by simp [fib]) (by simp [bb, fib]) i (by simpa [fib] using hi)
theorem fib_q (i : Nat) : QF (cf (bmI fib 4).q i) := by
  obtain ⟨h1, _, _⟩ := bm_CB (e := 2) fib_CB 4 (by omega) 4 (by omega)
  exact QF.of (h1.at i) (by simp [bb])
theorem fib_len : fib.length = 4 := rfl
theorem fib_eq : [] ++ [1] ++ [1] ++ [1 + 1] ++ [1 + (1 + 1)] = fib := rfl
theorem fib_rec (V : View) (v : Value) (hl : Rats V v fib) : Spec Tryz.prog 28 [v] V fun v' V' => ∃ w, v' = .tuple #[w, .int .i64 0] ∧ Rats V' w [1, 1] := by
  have eq : qs (fib.map toRaw) = fib := qs_toRaw fib
  have el : (fib.map toRaw).length = 4 := by rw [List.length_map]; exact fib_len
  refine (crec_c V v (fib.map toRaw) (Rats.raws hl) (fitR_toRaw (fun x hx => QF.of (fib_QB x hx) (by omega))) (by omega) (fun _ i hi => ?_) (fun _ x hx => ?_) (fun _ i => ?_)).mono fun v' V' hV h => ?_
  · rw [eq]; exact fib_fit i (by omega)
  · rw [eq] at hx; exact QF.of (fib_QB x hx) (by omega)
  · rw [eq, el]; exact fib_q i
  · have h5 := h.2.2 (okR_toRaw _)
    rw [eq, el, fib_bm.1, fib_bm.2] at h5
    exact h5 (by omega)
attribute [local irreducible] fib
theorem alive_c (V : View) : Spec Tryz.prog 14 [] V fun v' V' => v' = .bool true := by
  refine (Spec.enter Tryz.func14 rfl fun Γ => ?_)
  simp only [Tryz.ntmps14, List.map_cons, List.map_nil, List.length_cons, List.length_nil, Nat.reduceAdd, Nat.reduceSub, List.replicate_succ, List.replicate_zero, List.cons_append, List.nil_append]
  first | refine Gx.a (by kernel_rfl) fun K hK => ?_ | refine Gx.b (by kernel_rfl) fun K hK => ?_ | refine Gx.c (by kernel_rfl) fun K hK => ?_
  simp only [XA, XB, gateX, Nat.reduceAdd, Nat.reduceLeDiff, Nat.reduceSub, Nat.reduceMul, ↓reduceIte, Int.reduceToNat, Int.reduceLE, beq_self_eq_true]
  refine hK _ ?_
  first | refine Gx.a (by kernel_rfl) fun K hK => ?_ | refine Gx.b (by kernel_rfl) fun K hK => ?_ | refine Gx.c (by kernel_rfl) fun K hK => ?_
  simp only [XA, XB, gateX, Nat.reduceAdd, Nat.reduceLeDiff, Nat.reduceSub, Nat.reduceMul, ↓reduceIte, Int.reduceToNat, Int.reduceLE, beq_self_eq_true]
  refine call_go (by kernel_rfl) rfl (pone_c _) fun v1 V1 hV1 h1 => ?_
  obtain ⟨x1, y1, rfl, o1, o2⟩ := h1.form
  simp only [XA, XB, gateX, Nat.reduceAdd, Nat.reduceLeDiff, Nat.reduceSub, Nat.reduceMul, ↓reduceIte, Int.reduceToNat, Int.reduceLE, beq_self_eq_true]
  refine st_rat rfl rfl rfl o1 o2 ?_
  simp only [XA, XB, gateX, Nat.reduceAdd, Nat.reduceLeDiff, Nat.reduceSub, Nat.reduceMul, ↓reduceIte, Int.reduceToNat, Int.reduceLE, beq_self_eq_true]
  refine hK _ ?_
  (first | refine XWP.drw [0, 1, 2, 3, 5, 6, 7, 4, 8, 9, 10, 11, 12, 13, 14, 15, 16] (by kernel_rfl) (by kernel_rfl) (by kernel_rfl) fun K hK => ?_ | refine XWP.seq (XWP.drw [0, 1, 2, 3, 5, 6, 7, 4, 8, 9, 10, 11, 12, 13, 14, 15, 16] (by kernel_rfl) (by kernel_rfl) (by kernel_rfl) fun K hK => ?_) | refine XWP.drw1 [0, 1, 2, 3, 5, 6, 7, 4, 8, 9, 10, 11, 12, 13, 14, 15, 16] (by kernel_rfl) (by kernel_rfl) (by kernel_rfl) fun K hK => ?_) <;> dsimp only [pickOps, List.getElem?_cons_zero, List.getElem?_cons_succ]
  simp only [XA, XB, gateX, Nat.reduceAdd, Nat.reduceLeDiff, Nat.reduceSub, Nat.reduceMul, ↓reduceIte, Int.reduceToNat, Int.reduceLE, beq_self_eq_true]
  refine call_go (by kernel_rfl) rfl (padd_c _ _ _ _ _ (h1.toV QF_one) (h1.toV QF_one) QF_one QF_one) fun v2 V2 hV2 h2 => ?_
  have h1 := h1.mono hV2
  simp only [XA, XB, gateX, Nat.reduceAdd, Nat.reduceLeDiff, Nat.reduceSub, Nat.reduceMul, ↓reduceIte, Int.reduceToNat, Int.reduceLE, beq_self_eq_true]
  refine call_go (by kernel_rfl) rfl (padd_c _ _ _ _ _ (h1.toV QF_one) (h1.toV QF_one) QF_one QF_one) fun v3 V3 hV3 h3 => ?_
  have h1 := h1.mono hV3
  have h2 := h2.mono hV3
  have f2 : QF ((1 : Rat) + 1) := QF.of ((QB_one 0).add (QB_one 0)) (by omega)
  simp only [XA, XB, gateX, Nat.reduceAdd, Nat.reduceLeDiff, Nat.reduceSub, Nat.reduceMul, ↓reduceIte, Int.reduceToNat, Int.reduceLE, beq_self_eq_true]
  refine call_go (by kernel_rfl) rfl (padd_c _ _ _ _ _ (h1.toV QF_one) (h3.toV f2) QF_one f2) fun v4 V4 hV4 h4 => ?_
  have h1 := h1.mono hV4
  have h2 := h2.mono hV4
  obtain ⟨x2, y2, rfl, o3, o4⟩ := h2.form
  obtain ⟨x4, y4, rfl, o5, o6⟩ := h4.form
  simp only [XA, XB, gateX, Nat.reduceAdd, Nat.reduceLeDiff, Nat.reduceSub, Nat.reduceMul, ↓reduceIte, Int.reduceToNat, Int.reduceLE, beq_self_eq_true]
  refine bs_go (by kernel_rfl) #[(0, .agg #[.bool (ng 1), x1, y1]), (1, .agg #[.bool (ng 1), x1, y1]), (2, .agg #[.bool (ng (1 + 1)), x2, y2]), (3, .agg #[.bool (ng (1 + (1 + 1))), x4, y4])] (by simp [ev_tmp, SV.val]) (bs_rat4 elemT_22) fun b hb1 hb2 => ?_
  simp only [XA, XB, gateX, Nat.reduceAdd, Nat.reduceLeDiff, Nat.reduceSub, Nat.reduceMul, ↓reduceIte, Int.reduceToNat, Int.reduceLE, beq_self_eq_true]
  refine call_pub b ⟨48, [.bool (ng 1), x1, y1, .bool (ng 1), x1, y1, .bool (ng (1 + 1)), x2, y2, .bool (ng (1 + (1 + 1))), x4, y4], 12⟩ (by simp only [upd_at]) (fun o ho hle' => ?_) (by kernel_rfl) rfl
  have hrow := ((((RowAt.nil (E := ratE) V4).snoc (x := 1) (show isOne (.bool (ng 1)) = true from rfl) o1 o2 h1).snoc (x := 1) (show isOne (.bool (ng 1)) = true from rfl) o1 o2 h1).snoc (x := 1 + 1) (show isOne (.bool (ng (1 + 1))) = true from rfl) o3 o4 h2).snoc (x := 1 + (1 + 1)) (show isOne (.bool (ng (1 + (1 + 1)))) = true from rfl) o5 o6 h4
  rw [fib_eq] at hrow
  simp only [List.nil_append, List.cons_append] at hrow
  have hl := hrow.pub ratE_ok ho hle' (n := 4) (c := 4) fib_len (Nat.le_refl _) (by omega)
  refine call_go (by kernel_rfl) rfl (fib_rec _ _ hl) fun v5 V5 hV5 h5 => ?_
  obtain ⟨w, rfl, hw⟩ := h5
  simp only [XA, XB, gateX, Nat.reduceAdd, Nat.reduceLeDiff, Nat.reduceSub, Nat.reduceMul, ↓reduceIte, Int.reduceToNat, Int.reduceLE, beq_self_eq_true]
  refine hK _ ?_
  have h1 := (h1.mono hle').mono hV5
  first | refine Gx.a (by kernel_rfl) fun K hK => ?_ | refine Gx.b (by kernel_rfl) fun K hK => ?_ | refine Gx.c (by kernel_rfl) fun K hK => ?_
  simp only [XA, XB, gateX, Nat.reduceAdd, Nat.reduceLeDiff, Nat.reduceSub, Nat.reduceMul, ↓reduceIte, Int.reduceToNat, Int.reduceLE, beq_self_eq_true, decide_true]
  refine bs_go (by kernel_rfl) #[(0, .agg #[.bool (ng 1), x1, y1]), (1, .agg #[.bool (ng 1), x1, y1])] (by simp [ev_tmp, SV.val]) (bs_rat2 elemT_22) fun b3 hb3 hb4 => ?_
  simp only [XA, XB, gateX, Nat.reduceAdd, Nat.reduceLeDiff, Nat.reduceSub, Nat.reduceMul, ↓reduceIte, Int.reduceToNat, Int.reduceLE, beq_self_eq_true]
  refine call_pub b3 ⟨48, [.bool (ng 1), x1, y1, .bool (ng 1), x1, y1], 6⟩ (by simp only [upd_at]) (fun o2' ho2 hle2 => ?_) (by kernel_rfl) rfl
  have hrow2 := (((RowAt.nil (E := ratE) V5).snoc (x := 1) (show isOne (.bool (ng 1)) = true from rfl) o1 o2 h1).snoc (x := 1) (show isOne (.bool (ng 1)) = true from rfl) o1 o2 h1)
  simp only [List.nil_append, List.cons_append] at hrow2
  have q11 : ∀ x ∈ [(1 : Rat), 1], QF x := fun x hx => by
    simp only [List.mem_cons, List.not_mem_nil, or_false, or_self] at hx
    rw [hx]; exact QF_one
  refine call_go (by kernel_rfl) rfl (lsame_c _ _ _ [1, 1] [1, 1] (hw.up hle2) (hrow2.pub ratE_ok ho2 hle2 (n := 2) (c := 2) rfl (Nat.le_refl _) (by omega)) q11 q11) fun v6 V6 hV6 h6 => ?_
  subst h6
  simp only [XA, XB, gateX, Nat.reduceAdd, Nat.reduceLeDiff, Nat.reduceSub, Nat.reduceMul, ↓reduceIte, Int.reduceToNat, Int.reduceLE, beq_self_eq_true]
  refine hK _ (XWP.ret ?_)
  try simp only [thenX_ret, inBlockX_ret]
  refine ret_go _ rfl ?_
  show Value.bool _ = _
  simp
theorem cut_take (P : List Raw) {a b : Nat} (h : a ≤ b) : fewL P a = (fewL P b).take a := by
  unfold fewL
  rw [← List.map_take, List.take_take, Nat.min_eq_left h]
theorem fewR_qf {l : List Raw} (h : fewR l) (hd : digR l) : ∀ x ∈ qs l, QF x := fun x hx => QF.of (fewR_QB h hd x hx) (by omega)
theorem lpoly_c (V : View) (v : Value) (P : List Raw) (n : Nat) (hv : Raws V v P) (hn : n ≤ 1000) : Spec Tryz.prog 7 [v, .int .i64 (n : Int)] V fun v' V' => ∃ R, Raws V' v' R ∧ R.length ≤ n ∧ fewR R := by
  obtain ⟨A1, c1, rfl, hc1, hm1⟩ := hv.form
  refine (Spec.enter Tryz.func7 rfl fun Γ => ?_)
  simp only [Tryz.ntmps7, List.map_cons, List.map_nil, List.length_cons, List.length_nil, Nat.reduceAdd, Nat.reduceSub, List.replicate_succ, List.replicate_zero, List.cons_append, List.nil_append]
  first | refine Gx.a (by kernel_rfl) fun K hK => ?_ | refine Gx.b (by kernel_rfl) fun K hK => ?_ | refine Gx.c (by kernel_rfl) fun K hK => ?_
  simp only [XA, XB, gateX, Nat.reduceAdd, Nat.reduceLeDiff, Nat.reduceSub, Nat.reduceMul, ↓reduceIte, Int.reduceToNat, Int.reduceLE, beq_self_eq_true]
  refine hK _ ?_
  first | refine Gx.a (by kernel_rfl) fun K hK => ?_ | refine Gx.b (by kernel_rfl) fun K hK => ?_ | refine Gx.c (by kernel_rfl) fun K hK => ?_
  simp only [XA, XB, gateX, Nat.reduceAdd, Nat.reduceLeDiff, Nat.reduceSub, Nat.reduceMul, ↓reduceIte, Int.reduceToNat, Int.reduceLE, beq_self_eq_true]
  refine call_go (by kernel_rfl) rfl (lfew_c _ _ P n hv (by omega)) fun v1 V1 hV1 h1 => ?_
  simp only [XA, XB, gateX, Nat.reduceAdd, Nat.reduceLeDiff, Nat.reduceSub, Nat.reduceMul, ↓reduceIte, Int.reduceToNat, Int.reduceLE, beq_self_eq_true]
  refine hK _ ?_
  clear hK
  obtain ⟨A2, c2, rfl, hc2, hm2⟩ := h1.form
  have hlen := fewL_len P n
  have hfew := fewL_few P n
  have hdig := Raws.dig h1
  generalize hL : fewL P n = L at *
  refine XWP.cut (fun s => ∃ (k : Nat) (V2 : View), StIs (fun Z => [Z 0,Z 1,Z 2,Z 3,Z 4, .v (.slice A2 k c2), Z 6,Z 7,Z 8,Z 9,Z 10,Z 11,Z 12,Z 13,Z 14,Z 15,Z 16,Z 17,Z 18,Z 19,Z 20,Z 21,Z 22,Z 23,Z 24,Z 25,Z 26,Z 27,Z 28,Z 29,Z 30,Z 31,Z 32,Z 33,Z 34,Z 35,Z 36]) [] (fun _ => none) V2 s ∧ Raws V2 (.slice A2 k c2) (L.take k) ∧ k ≤ L.length) ?_ ?_
  · first | refine Gx.a (by kernel_rfl) fun K hK => ?_ | refine Gx.b (by kernel_rfl) fun K hK => ?_ | refine Gx.c (by kernel_rfl) fun K hK => ?_
    by_cases h0 : n < P.length
    · have b1 : decide ((n : Int) < (P.length : Int)) = true := decide_eq_true (by omega)
      simp only [XA, XB, gateX, Nat.reduceAdd, Nat.reduceLeDiff, Nat.reduceSub, Nat.reduceMul, ↓reduceIte, Int.reduceToNat, Int.reduceLE, beq_self_eq_true, b1]
      refine call_go (by kernel_rfl) rfl (lfew_c _ _ P 1000 (hv.up hV1) (by omega)) fun v3 V3 hV3 h3 => ?_
      simp only [XA, XB, gateX, Nat.reduceAdd, Nat.reduceLeDiff, Nat.reduceSub, Nat.reduceMul, ↓reduceIte, Int.reduceToNat, Int.reduceLE, beq_self_eq_true]
      have f3 := fewL_few P 1000
      have d3 := Raws.dig h3
      have l3 := fewL_len P 1000
      refine call_go (by kernel_rfl) rfl (dright_c _ _ _ h3 f3.fit (by omega) (fun _ => fewR_qf f3 d3)) fun v4 V4 hV4 h4 => ?_
      subst h4
      cases hr : rightP (fewL P 1000)
      · simp only [XA, XB, gateX, Nat.reduceAdd, Nat.reduceLeDiff, Nat.reduceSub, Nat.reduceMul, ↓reduceIte, Int.reduceToNat, Int.reduceLE, beq_self_eq_true]
        refine hK _ ?_
        first | refine Gx.f rfl ?_ | refine XWP.seq (Gx.f rfl ?_)
        refine XWP.skip ?_
        exact ⟨L.length, V4, StIs.of (by exact rfl), by rw [List.take_length]; exact (h1.up hV3).up hV4, Nat.le_refl _⟩
      · simp only [XA, XB, gateX, Nat.reduceAdd, Nat.reduceLeDiff, Nat.reduceSub, Nat.reduceMul, ↓reduceIte, Int.reduceToNat, Int.reduceLE, beq_self_eq_true]
        refine hK _ ?_
        first | refine Gx.t rfl ?_ | refine XWP.seq (Gx.t rfl ?_)
        clear hK
        have hok : okR L = true := by
          have := (rightP_parts hr).1
          rw [← hL, cut_take P hn]
          unfold okR at this ⊢
          exact List.all_eq_true.2 fun r hr => List.all_eq_true.1 this r (List.mem_of_mem_take hr)
        first | refine XWP.block ?_ | refine XWP.seq (XWP.block ?_)
        refine XWP.loop (fun k s => ∃ (V2 : View), StIs (fun Z => [Z 0,Z 1,Z 2,Z 3,Z 4, .v (.slice A2 k c2), Z 6,Z 7,Z 8,Z 9,Z 10,Z 11,Z 12,Z 13,Z 14,Z 15,Z 16,Z 17,Z 18,Z 19,Z 20,Z 21,Z 22,Z 23,Z 24,Z 25,Z 26,Z 27,Z 28,Z 29,Z 30,Z 31,Z 32,Z 33,Z 34,Z 35,Z 36]) [] (fun _ => none) V2 s ∧ V1.le V2 ∧ k ≤ L.length) L.length ⟨V4, StIs.of (by exact rfl), View.le_trans hV3 hV4, Nat.le_refl _⟩ ?_
        rintro k s ⟨V2, hs, hV2, hk⟩
        obtain ⟨z, rfl⟩ := hs.out
        try dsimp only
        have hv2 := Raws.up h1 hV2
        refine XWP.seq ?_
        by_cases hk0 : k = 0
        · subst hk0
          have b2 : decide ((0 : Int) < ((0 : Nat) : Int)) = false := decide_eq_false (by omega)
          first | refine Gx.a (by kernel_rfl) fun K hK => ?_ | refine Gx.b (by kernel_rfl) fun K hK => ?_ | refine Gx.c (by kernel_rfl) fun K hK => ?_
          simp only [XA, XB, gateX, Nat.reduceAdd, Nat.reduceLeDiff, Nat.reduceSub, Nat.reduceMul, ↓reduceIte, Int.reduceToNat, Int.reduceLE, beq_self_eq_true, b2]
          refine hK _ ?_
          first | refine Gx.f rfl ?_ | refine XWP.seq (Gx.f rfl ?_)
          refine XWP.exit ?_
          exact ⟨0, V2, StIs.of (by exact rfl), SlAt.take hv2 hk, hk⟩
        · have b2 : decide ((0 : Int) < (k : Int)) = true := decide_eq_true (by omega)
          have hr2 := Raws.rats hv2 hok
          obtain ⟨b, o, rfl⟩ := SlAt.addr hv2 (by omega)
          obtain ⟨m3, n3, d3', hx, ⟨p1, p2, p3⟩, hld⟩ := Rats.get hr2 (k - 1) (by rw [qs_len]; omega)
          have w1 := i64_pred k (by omega) (by omega)
          first | refine Gx.a (by kernel_rfl) fun K hK => ?_ | refine Gx.b (by kernel_rfl) fun K hK => ?_ | refine Gx.c (by kernel_rfl) fun K hK => ?_
          simp only [XA, XB, gateX, Nat.reduceAdd, Nat.reduceLeDiff, Nat.reduceSub, Nat.reduceMul, ↓reduceIte, Int.reduceToNat, Int.reduceLE, beq_self_eq_true, b2, w1]
          refine ⟨by omega, by omega, ld_mem (hld _) ?_⟩
          simp only [XA, XB, gateX, Nat.reduceAdd, Nat.reduceLeDiff, Nat.reduceSub, Nat.reduceMul, ↓reduceIte, Int.reduceToNat, Int.reduceLE, beq_self_eq_true]
          refine call_go (by kernel_rfl) rfl (psign_c _ _ _ (hx.toV (fewR_qf hfew hdig _ (cf_mem (by rw [qs_len]; omega))))) fun v5 V5 hV5 h5 => ?_
          subst h5
          by_cases hz : cf (qs L) (k - 1) = 0
          · have b3 : decide (cf (qs L) (k - 1) = 0) = true := decide_eq_true hz
            simp only [XA, XB, gateX, Nat.reduceAdd, Nat.reduceLeDiff, Nat.reduceSub, Nat.reduceMul, ↓reduceIte, Int.reduceToNat, Int.reduceLE, beq_self_eq_true, sgI_zero, b3]
            refine hK _ ?_
            first | refine Gx.t rfl ?_ | refine XWP.seq (Gx.t rfl ?_)
            refine XWP.skip ?_
            first | refine XWP.block ?_ | refine XWP.seq (XWP.block ?_)
            first | refine Gx.a (by kernel_rfl) fun K hK => ?_ | refine Gx.b (by kernel_rfl) fun K hK => ?_ | refine Gx.c (by kernel_rfl) fun K hK => ?_
            simp only [XA, XB, gateX, Nat.reduceAdd, Nat.reduceLeDiff, Nat.reduceSub, Nat.reduceMul, ↓reduceIte, Int.reduceToNat, Int.reduceLE, beq_self_eq_true, w1]
            refine ⟨by omega, by omega, by omega, ?_⟩
            exact hK _ ⟨k - 1, by omega, V5, StIs.of (by exact rfl), View.le_trans hV2 hV5, by omega⟩
          · have b3 : decide (cf (qs L) (k - 1) = 0) = false := decide_eq_false hz
            simp only [XA, XB, gateX, Nat.reduceAdd, Nat.reduceLeDiff, Nat.reduceSub, Nat.reduceMul, ↓reduceIte, Int.reduceToNat, Int.reduceLE, beq_self_eq_true, sgI_zero, b3]
            refine hK _ ?_
            first | refine Gx.f rfl ?_ | refine XWP.seq (Gx.f rfl ?_)
            refine XWP.exit ?_
            exact ⟨k, V5, StIs.of (by exact rfl), SlAt.take (hv2.up hV5) hk, hk⟩
    · have b1 : decide ((n : Int) < (P.length : Int)) = false := decide_eq_false (by omega)
      simp only [XA, XB, gateX, Nat.reduceAdd, Nat.reduceLeDiff, Nat.reduceSub, Nat.reduceMul, ↓reduceIte, Int.reduceToNat, Int.reduceLE, beq_self_eq_true, b1]
      refine hK _ ?_
      first | refine Gx.f rfl ?_ | refine XWP.seq (Gx.f rfl ?_)
      refine XWP.skip ?_
      exact ⟨L.length, V1, StIs.of (by exact rfl), by rw [List.take_length]; exact h1, Nat.le_refl _⟩
  rintro s ⟨k, V2, hs, hk, hkl⟩
  obtain ⟨z, rfl⟩ := hs.out
  try dsimp only
  first | refine Gx.a (by kernel_rfl) fun K hK => ?_ | refine Gx.b (by kernel_rfl) fun K hK => ?_ | refine Gx.c (by kernel_rfl) fun K hK => ?_
  simp only [XA, XB, gateX, Nat.reduceAdd, Nat.reduceLeDiff, Nat.reduceSub, Nat.reduceMul, ↓reduceIte, Int.reduceToNat, Int.reduceLE, beq_self_eq_true]
  refine hK _ (XWP.ret ?_)
  try simp only [thenX_ret, inBlockX_ret]
  refine ret_go _ rfl ?_
  exact ⟨_, hk, by simp; omega, fun r hr => hfew r (List.mem_of_mem_take hr)⟩
end Go.Proofs.YthoboehbadmlmaaGreat
end
section
namespace Go.Proofs.YthoboehbadmlmaaGreat
open Go Go.RowKit
set_option linter.unusedSimpArgs false
set_option linter.unusedVariables false
attribute [local irreducible] XWP Spec SpecO XPub XCall seqX clX apX stX ldX iaX slX
end Go.Proofs.YthoboehbadmlmaaGreat
end
section
namespace Go.Proofs.YthoboehbadmlmaaGreat
open Go Go.RowKit Go.ChangeShapes
set_option linter.unusedVariables false
/-- the whole world, as what is published -/
def viewW (w : World) : View := fun k => w.heap[k]?
theorem viewW_sub (w : World) : View.sub (viewW w) w := fun _ _ h => h
theorem cell_view {w : World} {a : Addr} {v : Value} (h : w.cell? a = some v) : a.spot = none ∧ ∃ arr ty fr, viewW w a.block = some (.cells arr ty fr) ∧ arr[a.off]? = some v := by
  unfold World.cell? at h
  split at h
  · rename_i c t f hb
    split at h
    · cases h
    · rename_i hs
      refine ⟨?_, c, t, f, hb, h⟩
      cases hsp : a.spot with
      | none => rfl
      | some x => rw [hsp] at hs; simp at hs
  · cases h
theorem add_off (a : Addr) (n : Nat) : (a.add n).block = a.block ∧ (a.add n).off = a.off + n := by
  unfold Addr.add; split
  · rename_i h; subst h; exact ⟨rfl, rfl⟩
  · exact ⟨rfl, rfl⟩
theorem cells_view {w : World} {a : Addr} {n : Nat} {f : Nat → Value} (hn : 0 < n) (h : ∀ i, i < n → w.cell? (a.add i) = some (f i)) : a.spot = none ∧ ∃ arr ty fr, viewW w a.block = some (.cells arr ty fr) ∧ ∀ i, i < n → arr[a.off + i]? = some (f i) := by
  have h0 := h 0 hn
  have e0 : a.add 0 = a := by simp [Addr.add]
  rw [e0] at h0
  obtain ⟨hs, arr, ty, fr, hb, _⟩ := cell_view h0
  refine ⟨hs, arr, ty, fr, hb, fun i hi => ?_⟩
  obtain ⟨_, arr', ty', fr', hb', hv⟩ := cell_view (h i hi)
  obtain ⟨e1, e2⟩ := add_off a i
  rw [e1, hb] at hb'
  cases hb'
  rw [e2] at hv; exact hv
theorem addr_eta (a : Addr) (h : a.spot = none) : a = ⟨a.block, a.off, none⟩ := by cases a; simp at h; subst h; rfl
section
variable {H : Type} {enc : TypeId × Value → H} {w : World} {base : Nat} {spare : Nat → Bool} {held : Bool}
theorem und_nat : (Tryz.prog).underlying 46 = some (.slice 147) := und_elem elemT_46
theorem und_u32 : (Tryz.prog).underlying 147 = some (.int .u32) := by kernel_rfl
theorem cells_u32 : (Tryz.prog).cellsOf 147 = 1 := by kernel_rfl
theorem cells_rat : (Tryz.prog).cellsOf 48 = 3 := by kernel_rfl
theorem open_nat {fuel : Nat} {v : Value} {x : DataW H × List MemPlace} (h : DataW.trod enc Tryz.prog w base spare held fuel 46 [v] = some x) : ∃ ds, NatAt (viewW w) v ds := by
  rcases open_ints und_nat und_u32 cells_u32 h with ⟨hcs, _⟩ | ⟨a, len, cap, zs, hcs, _, hl, hm, hz, _, hcell, hwz⟩
  · cases hcs; exact ⟨[], NatAt.nil _⟩
  · cases hcs
    have hzl : len ≤ zs.length := by rw [hz]; split <;> omega
    have hwf : ∀ z ∈ zs, 0 ≤ z ∧ z < 4294967296 := fun z hz => by
      have := hwz z hz
      simp [Lit.wf, IntKind.min, IntKind.max, IntKind.signed, IntKind.bits] at this
      omega
    refine ⟨(zs.take len).map Int.toNat, some a, cap, by simp [Nat.min_eq_left hzl], by simp; omega, by unfold maxLen at hm; omega, fun d hd => ?_, ?_⟩
    · obtain ⟨z, hz, rfl⟩ := List.mem_map.1 hd
      have := hwf z (List.mem_of_mem_take hz)
      unfold BB; omega
    · rcases Nat.eq_zero_or_pos len with h0 | h0
      · subst h0; exact .inl (by simp)
      · obtain ⟨hs, arr, ty, fr, hb, hv⟩ := cells_view (f := fun i => .int .u32 (zs.getD i 0)) (by omega) hcell
        refine .inr ⟨a.block, a.off, arr, ty, fr, by rw [← addr_eta a hs], hb, fun i d hd => ?_⟩
        rw [List.getElem?_map, List.getElem?_take] at hd
        split at hd
        · rename_i hi
          rw [hv i (by omega)]
          have hiz : i < zs.length := by omega
          rw [List.getElem?_eq_getElem hiz] at hd
          simp at hd
          have := hwf zs[i] (List.getElem_mem hiz)
          simp [hiz]
          omega
        · cases hd
noncomputable def ratFields : Array Field := match (Tryz.prog).underlying 48 with
  | some (.struct fs) => fs
  | _ => #[]
theorem und_rat : (Tryz.prog).underlying 48 = some (.struct ratFields) := by kernel_rfl
theorem ratFields_map : ratFields.toList.map (fun f => (f.type, f.offset)) = [(4, 0), (46, 1), (46, 2)] := by kernel_rfl
theorem und_bool : (Tryz.prog).underlying 4 = some .bool := by kernel_rfl
theorem cells_bool : (Tryz.prog).cellsOf 4 = 1 := by kernel_rfl
theorem cells_nat : (Tryz.prog).cellsOf 46 = 1 := by kernel_rfl
theorem ratField (i : Nat) (t o : Nat) (h : [(4, 0), (46, 1), (46, 2)][i]? = some (t, o)) : ∃ f, ratFields[i]? = some f ∧ f.type = t ∧ f.offset = o := by
  rw [← ratFields_map, List.getElem?_map] at h
  cases hf : ratFields.toList[i]? with
  | none => rw [hf] at h; cases h
  | some f =>
    rw [hf] at h
    simp at h
    exact ⟨f, by rw [← Array.getElem?_toList]; exact hf, h.1, h.2⟩
theorem three_of {α : Type} {l : List α} (h : l.length = 3) : ∃ a b c, l = [a, b, c] := by
  rcases l with _ | ⟨a, _ | ⟨b, _ | ⟨c, _ | ⟨d, l⟩⟩⟩⟩ <;> simp at h
  exact ⟨a, b, c, rfl⟩
theorem open_rat {fuel : Nat} {cs : List Value} {x : DataW H × List MemPlace} (h : DataW.trod enc Tryz.prog w base spare held fuel 48 cs = some x) : ∃ (r : Raw) (n d : Value), cs = [.bool r.m, n, d] ∧ NatAt (viewW w) n r.nd ∧ NatAt (viewW w) d r.dd := by
  obtain ⟨xs, m, _, _, hl, hxl, hf⟩ := DataW.trod_struct und_rat h
  rw [cells_rat] at hl
  have hsz : ratFields.size = 3 := by
    have := congrArg List.length ratFields_map
    simpa using this
  obtain ⟨c0, c1, c2, rfl⟩ := three_of hl
  obtain ⟨f0, a0, t0, o0⟩ := ratField 0 _ _ rfl
  obtain ⟨f1, a1, t1, o1⟩ := ratField 1 _ _ rfl
  obtain ⟨f2, a2, t2, o2⟩ := ratField 2 _ _ rfl
  have h0 := hf 0 f0 a0
  have h1 := hf 1 f1 a1
  have h2 := hf 2 f2 a2
  rw [t0, o0, cells_bool, List.getElem?_eq_getElem (by omega)] at h0
  rw [t1, o1, cells_nat, List.getElem?_eq_getElem (by omega)] at h1
  rw [t2, o2, cells_nat, List.getElem?_eq_getElem (by omega)] at h2
  obtain ⟨b, e, _⟩ := DataW.trod_bool und_bool h0
  have e' : c0 = .bool b := by simpa using e
  subst e'
  obtain ⟨ds, hn⟩ := open_nat h1
  obtain ⟨es, hd⟩ := open_nat h2
  exact ⟨⟨b, ds, es⟩, c1, c2, rfl, hn, hd⟩
theorem choose_list {α : Type} {Q : Nat → α → Prop} : ∀ n, (∀ i, i < n → ∃ x, Q i x) → ∃ xs : List α, xs.length = n ∧ ∀ i x, xs[i]? = some x → Q i x
  | 0, _ => ⟨[], rfl, fun i x h => by simp at h⟩
  | n + 1, h => by
    obtain ⟨xs, hl, hq⟩ := choose_list n fun i hi => h i (by omega)
    obtain ⟨x, hx⟩ := h n (by omega)
    refine ⟨xs ++ [x], by simp [hl], fun i y hi => ?_⟩
    by_cases hlt : i < n
    · rw [List.getElem?_append_left (by omega)] at hi; exact hq i y hi
    · rw [List.getElem?_append_right (by omega)] at hi
      have : i = n := by
        rcases Nat.eq_zero_or_pos (i - xs.length) with h0 | h0
        · omega
        · rw [List.getElem?_eq_none (by simp; omega)] at hi; cases hi
      subst this
      rw [hl, Nat.sub_self] at hi
      simp at hi
      subst hi; exact hx
theorem open_raws {t fuel : Nat} {v : Value} {x : DataW H × List MemPlace} (ht : elemT Tryz.prog t = some 48) (h : DataW.trod enc Tryz.prog w base spare held fuel t [v] = some x) : ∃ l, Raws (viewW w) v l := by
  rcases Go.Deep.open_slice (und_elem ht) h with ⟨hcs, _⟩ | ⟨a, len, cap, m, n, D, Pl, hcs, _, hl, hm, hmm, _, hel⟩
  · cases hcs; exact ⟨[], SlAt.nil _⟩
  · cases hcs
    have hlm : len ≤ m := by rw [hmm]; split <;> omega
    have key : ∀ i, i < len → ∃ r : Raw, ∃ n d : Value, w.cell? (a.add (i * 3)) = some (.bool r.m) ∧ w.cell? (a.add (i * 3 + 1)) = some n ∧ w.cell? (a.add (i * 3 + 2)) = some d ∧ NatAt (viewW w) n r.nd ∧ NatAt (viewW w) d r.dd := fun i hi => by
      obtain ⟨cs', h1, h2⟩ := hel i (by omega)
      obtain ⟨r, n', d, rfl, k1, k2⟩ := open_rat h2
      rw [cells_rat] at h1
      obtain ⟨_, _, h3⟩ := World.cells?_some h1
      have g0 := h3 0 (by omega)
      have g1 := h3 1 (by omega)
      have g2 := h3 2 (by omega)
      rw [Go.Deep.add_add] at g0 g1 g2
      exact ⟨r, n', d, g0, g1, g2, k1, k2⟩
    obtain ⟨l, hll, hq⟩ := choose_list len key
    refine ⟨l, some a, cap, by rw [hll], by omega, by unfold maxLen at hm; omega, ?_⟩
    rcases Nat.eq_zero_or_pos len with h0 | h0
    · exact .inl (List.length_eq_zero_iff.1 (by omega))
    · obtain ⟨nn, dd, g0, _⟩ := hq 0 l[0] (List.getElem?_eq_getElem (by omega))
      have e0 : a.add (0 * 3) = a := by simp [Addr.add]
      rw [e0] at g0
      obtain ⟨hs, arr, ty, fr, hb, _⟩ := cell_view g0
      refine .inr ⟨a.block, a.off, arr, ty, fr, by rw [← addr_eta a hs], hb, fun i x hi => ?_⟩
      obtain ⟨n', d, g0, g1, g2, k1, k2⟩ := hq i x hi
      have at_ : ∀ k v, w.cell? (a.add k) = some v → arr[a.off + k]? = some v := fun k v hk => by
        obtain ⟨_, arr', ty', fr', hb', hv⟩ := cell_view hk
        obtain ⟨e1, e2⟩ := add_off a k
        rw [e1, hb] at hb'
        cases hb'
        rw [e2] at hv; exact hv
      exact ⟨.bool x.m, n', d, at_ _ _ g0, at_ _ _ g1, at_ _ _ g2, rfl, k1.one, k2.one, n', d, rfl, k1, k2⟩
end
end Go.Proofs.YthoboehbadmlmaaGreat
end
section
namespace Go.Proofs.YthoboehbadmlmaaGreat
open Go Go.RowKit Go.ChangeShapes
set_option linter.unusedVariables false
section
variable {H : Type} {enc : TypeId × Value → H} {w : World} {base : Nat} {spare : Nat → Bool} {held : Bool}
noncomputable def matFields : Array Field := match (Tryz.prog).underlying 24 with
  | some (.struct fs) => fs
  | _ => #[]
theorem und_mat : (Tryz.prog).underlying 24 = some (.struct matFields) := by kernel_rfl
theorem matFields_map : matFields.toList.map (fun f => (f.type, f.offset)) = [(3, 0), (3, 1), (22, 2)] := by kernel_rfl
theorem cells_int : (Tryz.prog).cellsOf 3 = 1 := by kernel_rfl
theorem cells_rats : (Tryz.prog).cellsOf 22 = 1 := by kernel_rfl
theorem cells_mat : (Tryz.prog).cellsOf 24 = 3 := by kernel_rfl
theorem und_int : (Tryz.prog).underlying 3 = some (.int .i64) := by kernel_rfl
theorem fieldOf {fs : Array Field} {m : List (Nat × Nat)} (hm : fs.toList.map (fun f => (f.type, f.offset)) = m) (i : Nat) (t o : Nat) (h : m[i]? = some (t, o)) : ∃ f, fs[i]? = some f ∧ f.type = t ∧ f.offset = o := by
  rw [← hm, List.getElem?_map] at h
  cases hf : fs.toList[i]? with
  | none => rw [hf] at h; cases h
  | some f =>
    rw [hf] at h
    simp at h
    exact ⟨f, by rw [← Array.getElem?_toList]; exact hf, h.1, h.2⟩
theorem open_mat {fuel : Nat} {cs : List Value} {x : DataW H × List MemPlace} (h : DataW.trod enc Tryz.prog w base spare held fuel 24 cs = some x) : ∃ (r c : Int) (s : Value) (l : List Raw), cs = [.int .i64 r, .int .i64 c, s] ∧ Raws (viewW w) s l := by
  obtain ⟨xs, m, _, _, hl, hxl, hf⟩ := DataW.trod_struct und_mat h
  rw [cells_mat] at hl
  have hsz : matFields.size = 3 := by
    have := congrArg List.length matFields_map
    simpa using this
  obtain ⟨v0, v1, v2, rfl⟩ := three_of hl
  obtain ⟨f0, a0, t0, o0⟩ := fieldOf matFields_map 0 _ _ rfl
  obtain ⟨f1, a1, t1, o1⟩ := fieldOf matFields_map 1 _ _ rfl
  obtain ⟨f2, a2, t2, o2⟩ := fieldOf matFields_map 2 _ _ rfl
  have h0 := hf 0 f0 a0
  have h1 := hf 1 f1 a1
  have h2 := hf 2 f2 a2
  rw [t0, o0, cells_int, List.getElem?_eq_getElem (by omega)] at h0
  rw [t1, o1, cells_int, List.getElem?_eq_getElem (by omega)] at h1
  rw [t2, o2, cells_rats, List.getElem?_eq_getElem (by omega)] at h2
  obtain ⟨r, e0, _⟩ := DataW.trod_int und_int h0
  obtain ⟨c, e1, _⟩ := DataW.trod_int und_int h1
  have e0' : v0 = .int .i64 r := by simpa using e0
  have e1' : v1 = .int .i64 c := by simpa using e1
  subst e0'
  subst e1'
  obtain ⟨l, hl2⟩ := open_raws (v := v2) (by kernel_rfl) h2
  exact ⟨r, c, v2, l, rfl, hl2⟩
end
end Go.Proofs.YthoboehbadmlmaaGreat
end
section
namespace Go.Proofs.YthoboehbadmlmaaGreat
theorem XM : type_of% (And.intro (And.intro (And.intro (And.intro (@shapeT_24) (And.intro (@zeroT_24) (@fieldT_24_0))) (And.intro (@fieldT_24_1) (And.intro (@fieldT_24_2) (@shapeT_57)))) (And.intro (And.intro (@zeroT_57) (And.intro (@fieldT_57_0) (@fieldT_57_1))) (And.intro (@shapeT_34) (And.intro (@zeroT_34) (@fieldT_34_0))))) (And.intro (And.intro (And.intro (@fieldT_34_1) (And.intro (@fieldT_34_2) (@shapeT_62))) (And.intro (@zeroT_62) (And.intro (@fieldT_62_0) (@fieldT_62_1)))) (And.intro (And.intro (@elemT_149) (And.intro (@kindT_149) (@shapeT_149))) (And.intro (@elemT_103) (And.intro (@kindT_103) (@shapeT_103)))))) := And.intro (And.intro (And.intro (And.intro (@shapeT_24) (And.intro (@zeroT_24) (@fieldT_24_0))) (And.intro (@fieldT_24_1) (And.intro (@fieldT_24_2) (@shapeT_57)))) (And.intro (And.intro (@zeroT_57) (And.intro (@fieldT_57_0) (@fieldT_57_1))) (And.intro (@shapeT_34) (And.intro (@zeroT_34) (@fieldT_34_0))))) (And.intro (And.intro (And.intro (@fieldT_34_1) (And.intro (@fieldT_34_2) (@shapeT_62))) (And.intro (@zeroT_62) (And.intro (@fieldT_62_0) (@fieldT_62_1)))) (And.intro (And.intro (@elemT_149) (And.intro (@kindT_149) (@shapeT_149))) (And.intro (@elemT_103) (And.intro (@kindT_103) (@shapeT_103)))))
end Go.Proofs.YthoboehbadmlmaaGreat
end
section
namespace Go.Proofs.YthoboehbadmlmaaGreat
theorem XN : type_of% (And.intro (And.intro (And.intro (@elemT_155) (And.intro (@kindT_155) (@shapeT_155))) (And.intro (@zeroT_155) (And.intro (@elemT_94) (@kindT_94)))) (And.intro (And.intro (@shapeT_94) (And.intro (@zeroT_94) (@elemT_97))) (And.intro (@kindT_97) (And.intro (@shapeT_97) (@zeroT_97))))) := And.intro (And.intro (And.intro (@elemT_155) (And.intro (@kindT_155) (@shapeT_155))) (And.intro (@zeroT_155) (And.intro (@elemT_94) (@kindT_94)))) (And.intro (And.intro (@shapeT_94) (And.intro (@zeroT_94) (@elemT_97))) (And.intro (@kindT_97) (And.intro (@shapeT_97) (@zeroT_97))))
end Go.Proofs.YthoboehbadmlmaaGreat
end
section
namespace Go.Proofs.YthoboehbadmlmaaGreat
set_option linter.unusedVariables false
def Sm (f : Nat → Rat) : Nat → Rat
  | 0 => 0
  | n + 1 => Sm f n + f n
theorem Sm_congr {f g : Nat → Rat} : ∀ (n : Nat), (∀ j, j < n → f j = g j) → Sm f n = Sm g n
  | 0, _ => rfl
  | n + 1, h => by
    have := Sm_congr n (fun j hj => h j (by omega))
    simp only [Sm, this, h n (by omega)]
theorem Sm_zero {f : Nat → Rat} (n : Nat) (h : ∀ j, j < n → f j = 0) : Sm f n = 0 := by
  induction n with
  | zero => rfl
  | succ n ih =>
    simp only [Sm, ih fun j hj => h j (by omega), h n (by omega)]
    grind
theorem Sm_add (f g : Nat → Rat) (n : Nat) : Sm (fun j => f j + g j) n = Sm f n + Sm g n := by
  induction n with
  | zero => simp only [Sm]; grind
  | succ n ih => simp only [Sm, ih]; grind
theorem Sm_mul (c : Rat) (f : Nat → Rat) (n : Nat) : Sm (fun j => c * f j) n = c * Sm f n := by
  induction n with
  | zero => simp only [Sm]; grind
  | succ n ih => simp only [Sm, ih]; grind
theorem Sm_front (f : Nat → Rat) (n : Nat) : Sm f (n + 1) = f 0 + Sm (fun j => f (j + 1)) n := by
  induction n with
  | zero => simp only [Sm]; grind
  | succ n ih =>
    have e : Sm f (n + 1 + 1) = Sm f (n + 1) + f (n + 1) := rfl
    rw [e, ih]; simp only [Sm]; grind
theorem Sm_one {f : Nat → Rat} {n k : Nat} (hk : k < n) (h : ∀ j, j < n → j ≠ k → f j = 0) : Sm f n = f k := by
  induction n with
  | zero => omega
  | succ n ih =>
    by_cases hn : k = n
    · subst hn
      simp only [Sm, Sm_zero k fun j hj => h j (by omega) (by omega)]; grind
    · simp only [Sm, ih (by omega) fun j hj => h j (by omega), h n (by omega) (by omega)]; grind
theorem Sm_more {f : Nat → Rat} {n m : Nat} (hn : n ≤ m) (h : ∀ j, n ≤ j → j < m → f j = 0) : Sm f m = Sm f n := by
  induction m with
  | zero => rw [show n = 0 by omega]
  | succ m ih =>
    by_cases hm : n = m + 1
    · rw [hm]
    · simp only [Sm, ih (by omega) fun j h1 h2 => h j h1 (by omega), h m (by omega) (by omega)]; grind
/-- the product of two series -/
def cv (f g : Nat → Rat) (n : Nat) : Rat := Sm (fun j => f j * g (n - j)) (n + 1)
theorem meet_cv (p q : List Rat) (i : Nat) : meet p q i (i + 1) = cv (cf p) (cf q) i := by
  have key : ∀ k, k ≤ i + 1 → meet p q i k = Sm (fun j => cf p j * cf q (i - j)) k := by
    intro k
    induction k with
    | zero => intro _; rfl
    | succ k ih =>
      intro hk
      simp only [meet, Sm, ih (by omega), if_pos (show k ≤ i by omega)]
  exact key _ (Nat.le_refl _)
theorem mulP_cv (p q : List Rat) : cf (mulP p q) = cv (cf p) (cf q) := by
  funext i
  rw [cf_mulP, meet_all, meet_cv]
end Go.Proofs.YthoboehbadmlmaaGreat
end
section
namespace Go.Proofs.YthoboehbadmlmaaGreat
set_option linter.unusedVariables false
end Go.Proofs.YthoboehbadmlmaaGreat
end
section
namespace Go.Proofs.YthoboehbadmlmaaGreat
set_option linter.unusedVariables false
theorem mulP_CB {A B : Nat} {p q : List Rat} (hp : CB A p) (hq : CB B q) : CB (p.length * (A + B + 1)) (mulP p q) := mulI_CB hp hq _
end Go.Proofs.YthoboehbadmlmaaGreat
end
section
namespace Go.Proofs.YthoboehbadmlmaaGreat
set_option linter.unusedVariables false
set_option linter.unusedSimpArgs false
end Go.Proofs.YthoboehbadmlmaaGreat
end
section
namespace Go.Proofs.YthoboehbadmlmaaGreat
set_option linter.unusedVariables false
set_option linter.unusedSimpArgs false
end Go.Proofs.YthoboehbadmlmaaGreat
end
section
namespace Go.Proofs.YthoboehbadmlmaaGreat
set_option linter.unusedVariables false
set_option linter.unusedSimpArgs false
end Go.Proofs.YthoboehbadmlmaaGreat
end
section
namespace Go.Proofs.YthoboehbadmlmaaGreat
set_option linter.unusedVariables false
set_option linter.unusedSimpArgs false
end Go.Proofs.YthoboehbadmlmaaGreat
end
section
namespace Go.Proofs.YthoboehbadmlmaaGreat
set_option linter.unusedVariables false
end Go.Proofs.YthoboehbadmlmaaGreat
end
section
namespace Go.Proofs.YthoboehbadmlmaaGreat
set_option linter.unusedVariables false
/-- a row times a matrix of c columns -/
def tS (a M : List Rat) (c k : Nat) : Nat → Rat
  | 0 => 0
  | i + 1 => tS a M c k i + cf a i * cf M (i * c + k)
end Go.Proofs.YthoboehbadmlmaaGreat
end
section
namespace Go.Proofs.YthoboehbadmlmaaGreat
open Go Go.RowKit
set_option linter.unusedSimpArgs false
set_option linter.unusedVariables false
attribute [local irreducible] XWP Spec SpecO XPub XCall seqX clX apX stX ldX iaX slX
def matR (r c : Int) (L : List Raw) : Bool := decide (0 ≤ r ∧ r ≤ 60 ∧ 0 ≤ c ∧ c ≤ 60 ∧ (L.length : Int) = r * c) && okR L
theorem mul60 {r c : Int} (h1 : 0 ≤ r) (h2 : r ≤ 60) (h3 : 0 ≤ c) (h4 : c ≤ 60) : 0 ≤ r * c ∧ r * c ≤ 3600 :=
  ⟨Int.mul_nonneg h1 h3, Int.le_trans (Int.mul_le_mul h2 h4 h3 (by omega)) (by omega)⟩
theorem matR_bad {r c : Int} {L : List Raw} (h : ¬ (0 ≤ r ∧ r ≤ 60 ∧ 0 ≤ c ∧ c ≤ 60 ∧ (L.length : Int) = r * c)) : matR r c L = false := by unfold matR; rw [decide_eq_false h]; rfl
theorem cmright_c (V : View) (s : Value) (r c : Int) (l : List Raw) (h : Raws V s l) (f : fitR l) (ll : l.length ≤ 1000000) : Spec Tryz.prog 37 [.agg #[.int .i64 r, .int .i64 c, s]] V fun v' V' => v' = .bool (matR r c l) := by
  obtain ⟨A, cp, rfl, hc, hm⟩ := h.form
  refine (Spec.enter Tryz.func37 rfl fun Γ => ?_)
  simp only [Tryz.ntmps37, List.map_cons, List.map_nil, List.length_cons, List.length_nil, Nat.reduceAdd, Nat.reduceSub, List.replicate_succ, List.replicate_zero, List.cons_append, List.nil_append]
  refine Gx.a (by kernel_rfl) fun K hK => ?_
  simp only [XA]
  refine hK _ ?_
  refine XWP.seq ?_
  by_cases d1 : r < 0
  · have b1 : decide (r < 0) = true := decide_eq_true d1
    have e := matR_bad (r := r) (c := c) (L := l) (by omega)
    refine Gx.a (by kernel_rfl) fun K hK => ?_
    simp only [XM, XA, XB, gateX, ↓reduceIte, b1]
    refine hK _ ?_
    refine Gx.t rfl ?_
    refine Gx.a (by kernel_rfl) fun K hK => ?_
    simp only [XA]
    refine hK _ (XWP.ret ?_)
    try simp only [thenX_ret, inBlockX_ret]
    refine ret_go _ rfl ?_
    rw [e]; rfl
  have b1 : decide (r < 0) = false := decide_eq_false d1
  by_cases d2 : 60 < r
  · have b2 : decide (60 < r) = true := decide_eq_true d2
    have e := matR_bad (r := r) (c := c) (L := l) (by omega)
    refine Gx.a (by kernel_rfl) fun K hK => ?_
    simp only [XM, XA, XB, gateX, ↓reduceIte, beq_self_eq_true, b1, b2]
    refine hK _ ?_
    refine Gx.t rfl ?_
    refine Gx.a (by kernel_rfl) fun K hK => ?_
    simp only [XA]
    refine hK _ (XWP.ret ?_)
    try simp only [thenX_ret, inBlockX_ret]
    refine ret_go _ rfl ?_
    rw [e]; rfl
  have b2 : decide (60 < r) = false := decide_eq_false d2
  by_cases d3 : c < 0
  · have b3 : decide (c < 0) = true := decide_eq_true d3
    have e := matR_bad (r := r) (c := c) (L := l) (by omega)
    refine Gx.a (by kernel_rfl) fun K hK => ?_
    simp only [XM, XA, XB, gateX, ↓reduceIte, beq_self_eq_true, b1, b2, b3]
    refine hK _ ?_
    refine Gx.t rfl ?_
    refine Gx.a (by kernel_rfl) fun K hK => ?_
    simp only [XA]
    refine hK _ (XWP.ret ?_)
    try simp only [thenX_ret, inBlockX_ret]
    refine ret_go _ rfl ?_
    rw [e]; rfl
  have b3 : decide (c < 0) = false := decide_eq_false d3
  by_cases d4 : 60 < c
  · have b4 : decide (60 < c) = true := decide_eq_true d4
    have e := matR_bad (r := r) (c := c) (L := l) (by omega)
    refine Gx.a (by kernel_rfl) fun K hK => ?_
    simp only [XM, XA, XB, gateX, ↓reduceIte, beq_self_eq_true, b1, b2, b3, b4]
    refine hK _ ?_
    refine Gx.t rfl ?_
    refine Gx.a (by kernel_rfl) fun K hK => ?_
    simp only [XA]
    refine hK _ (XWP.ret ?_)
    try simp only [thenX_ret, inBlockX_ret]
    refine ret_go _ rfl ?_
    rw [e]; rfl
  have b4 : decide (60 < c) = false := decide_eq_false d4
  have hm60 := mul60 (r := r) (c := c) (by omega) (by omega) (by omega) (by omega)
  have w : IntKind.i64.wrap (r * c) = r * c := wrap_id (by omega) (by omega)
  by_cases d5 : (l.length : Int) = r * c
  rotate_left
  · have b5 : decide ((l.length : Int) = r * c) = false := decide_eq_false d5
    have e := matR_bad (r := r) (c := c) (L := l) (by omega)
    refine Gx.a (by kernel_rfl) fun K hK => ?_
    simp only [XM, XA, XB, gateX, ↓reduceIte, beq_self_eq_true, b1, b2, b3, b4, w, b5]
    refine hK _ ?_
    refine Gx.t rfl ?_
    refine Gx.a (by kernel_rfl) fun K hK => ?_
    simp only [XA]
    refine hK _ (XWP.ret ?_)
    try simp only [thenX_ret, inBlockX_ret]
    refine ret_go _ rfl ?_
    rw [e]; rfl
  have b5 : decide ((l.length : Int) = r * c) = true := decide_eq_true d5
  refine Gx.a (by kernel_rfl) fun K hK => ?_
  simp only [XM, XA, XB, gateX, ↓reduceIte, beq_self_eq_true, b1, b2, b3, b4, w, b5]
  refine hK _ ?_
  refine Gx.f rfl ?_
  refine XWP.skip ?_
  have eM : matR r c l = okR l := by unfold matR; rw [decide_eq_true ⟨by omega, by omega, by omega, by omega, d5⟩]; rfl
  rw [eM]
  clear eM
  refine XWP.cutD 1 (fun s => ∃ V2, StIs (fun Z => [Z 0,Z 1,Z 2,Z 3,Z 4,Z 5,Z 6,Z 7,Z 8,Z 9,Z 10,Z 11,Z 12,Z 13,Z 14,Z 15,Z 16,Z 17,Z 18,Z 19,Z 20,Z 21,Z 22,Z 23,Z 24,Z 25,Z 26,Z 27,Z 28,Z 29,Z 30,Z 31,Z 32,Z 33,Z 34,Z 35,Z 36,Z 37,Z 38,Z 39,Z 40,Z 41,Z 42,Z 43,Z 44]) [[.int .i64 r, .int .i64 c, .slice A l.length cp]] (fun _ => none) V2 s ∧ okR l = true) ?_ ?_
  · refine Gx.a (by kernel_rfl) fun K hK => ?_
    simp only [XM, XA, XB]
    refine hK _ ?_
    clear hK
    refine XWP.block ?_
    refine XWP.loopD 1 (fun n s => ∃ (k : Nat) (V2 : View), StIs (fun Z => [Z 0, .p 0 0, Z 2,Z 3,Z 4,Z 5,Z 6,Z 7,Z 8,Z 9,Z 10,Z 11,Z 12,Z 13,Z 14,Z 15,Z 16,Z 17,Z 18,Z 19,Z 20,Z 21,Z 22,Z 23,Z 24,Z 25,Z 26,Z 27,Z 28,Z 29,Z 30,Z 31,Z 32,Z 33,Z 34, .v (.slice A l.length cp), .v (.int .i64 (l.length : Int)), .v (.int .i64 (k : Int)), Z 38,Z 39,Z 40,Z 41,Z 42,Z 43,Z 44]) [[.int .i64 r, .int .i64 c, .slice A l.length cp]] (fun _ => none) V2 s ∧ V.le V2 ∧ n + k = l.length ∧ okR (l.take k) = true) l.length ⟨0, V, StIs.of (by exact rfl), View.le_refl _, rfl, by simp [okR]⟩ ?_
    rintro n s ⟨k, V2, hs, hV2, hn, hk⟩
    obtain ⟨u, rfl⟩ := hs.out
    try dsimp only
    by_cases hlt : k < l.length
    · have b6 : decide ((k : Int) < (l.length : Int)) = true := decide_eq_true (by omega)
      refine Gx.a (by kernel_rfl) fun K hK => ?_
      simp only [XA, XB, b6]
      refine hK _ ?_
      refine XWP.seq (Gx.t rfl ?_)
      refine XWP.skip ?_
      refine XWP.seq ?_
      refine XWP.block ?_
      refine Gx.a (by kernel_rfl) fun K hK => ?_
      have hv2 := Raws.up h hV2
      obtain ⟨b, o, rfl⟩ := SlAt.addr hv2 (by omega)
      obtain ⟨x, hx, ⟨m3, n3, d3, rfl, p1, p2, p3⟩, hld⟩ := SlAt.load hv2 k hlt
      simp only [XA, XB]
      refine ⟨by omega, by omega, ld_mem (hld _) ?_⟩
      simp only [XA, XB]
      refine st_rat rfl rfl p1 p2 p3 ?_
      simp only [XA]
      refine hK _ ?_
      have ff := f _ (List.getElem_mem hlt)
      refine Gx.a (by kernel_rfl) fun K hK => ?_
      simp only [XA, XB, Nat.reduceAdd, Nat.reduceLeDiff, ↓reduceIte]
      refine call_go (by kernel_rfl) rfl (qright_c _ _ _ _ _ hx ff.1 ff.2) fun v3 V3 hV3 h3 => ?_
      subst h3
      have et : l.take (k + 1) = l.take k ++ [l[k]] := by rw [List.take_succ_eq_append_getElem hlt]
      cases hr : rawOk l[k].m l[k].nd l[k].dd
      · simp only [XA]
        refine hK _ ?_
        refine Gx.t rfl ?_
        refine Gx.a (by kernel_rfl) fun K hK => ?_
        simp only [XA]
        refine hK _ (XWP.ret ?_)
        try simp only [thenX_ret, inBlockX_ret]
        refine ret_go _ rfl ?_
        have : okR l = false := by
          unfold okR
          rw [List.all_eq_false]
          exact ⟨l[k], List.getElem_mem hlt, by unfold Raw.ok; rw [hr]; simp⟩
        rw [this]; rfl
      · simp only [XA]
        refine hK _ ?_
        refine Gx.f rfl ?_
        refine XWP.skip ?_
        refine Gx.c (by kernel_rfl) fun K hK => ?_
        simp only [XA, XB, i64_succ k (by omega)]
        refine hK _ ⟨n - 1, by omega, fun f => ⟨k + 1, V3, StIs.of (by exact rfl), View.le_trans hV2 hV3, by omega, ?_⟩⟩
        unfold okR at hk ⊢
        rw [et, List.all_append, hk]
        simp [Raw.ok, hr]
    · have b6 : decide ((k : Int) < (l.length : Int)) = false := decide_eq_false (by omega)
      refine Gx.a (by kernel_rfl) fun K hK => ?_
      simp only [XA, XB, b6]
      refine hK _ ?_
      refine XWP.seq (Gx.f rfl ?_)
      refine XWP.exit ?_
      rw [List.take_of_length_le (by omega)] at hk
      exact fun f => ⟨V2, StIs.of (by exact rfl), hk⟩
  rintro s ⟨V2, hs, hk⟩
  obtain ⟨u, rfl⟩ := hs.out
  try dsimp only
  refine Gx.a (by kernel_rfl) fun K hK => ?_
  simp only [XA]
  refine hK _ (XWP.ret ?_)
  try simp only [thenX_ret, inBlockX_ret]
  refine ret_go _ rfl ?_
  rw [hk]; rfl
theorem dmright_c (V : View) (s : Value) (r c : Int) (l : List Raw) (h : Raws V s l) (f : fitR l) (ll : l.length ≤ 1000000) : Spec Tryz.prog 15 [.agg #[.int .i64 r, .int .i64 c, s]] V fun v' V' => v' = .bool (matR r c l) := by
  obtain ⟨A, cp, rfl, hc, hm⟩ := h.form
  refine (Spec.enter Tryz.func15 rfl fun Γ => ?_)
  simp only [Tryz.ntmps15, List.map_cons, List.map_nil, List.length_cons, List.length_nil, Nat.reduceAdd, Nat.reduceSub, List.replicate_succ, List.replicate_zero, List.cons_append, List.nil_append]
  refine Gx.a (by kernel_rfl) fun K hK => ?_
  simp only [XA]
  refine hK _ ?_
  refine XWP.seq ?_
  by_cases d1 : r < 0
  · have b1 : decide (r < 0) = true := decide_eq_true d1
    have e := matR_bad (r := r) (c := c) (L := l) (by omega)
    refine Gx.a (by kernel_rfl) fun K hK => ?_
    simp only [XM, XA, XB, gateX, ↓reduceIte, b1]
    refine hK _ ?_
    refine Gx.t rfl ?_
    refine Gx.a (by kernel_rfl) fun K hK => ?_
    simp only [XA]
    refine hK _ (XWP.ret ?_)
    try simp only [thenX_ret, inBlockX_ret]
    refine ret_go _ rfl ?_
    rw [e]; rfl
  have b1 : decide (r < 0) = false := decide_eq_false d1
  by_cases d2 : 60 < r
  · have b2 : decide (60 < r) = true := decide_eq_true d2
    have e := matR_bad (r := r) (c := c) (L := l) (by omega)
    refine Gx.a (by kernel_rfl) fun K hK => ?_
    simp only [XM, XA, XB, gateX, ↓reduceIte, beq_self_eq_true, b1, b2]
    refine hK _ ?_
    refine Gx.t rfl ?_
    refine Gx.a (by kernel_rfl) fun K hK => ?_
    simp only [XA]
    refine hK _ (XWP.ret ?_)
    try simp only [thenX_ret, inBlockX_ret]
    refine ret_go _ rfl ?_
    rw [e]; rfl
  have b2 : decide (60 < r) = false := decide_eq_false d2
  by_cases d3 : c < 0
  · have b3 : decide (c < 0) = true := decide_eq_true d3
    have e := matR_bad (r := r) (c := c) (L := l) (by omega)
    refine Gx.a (by kernel_rfl) fun K hK => ?_
    simp only [XM, XA, XB, gateX, ↓reduceIte, beq_self_eq_true, b1, b2, b3]
    refine hK _ ?_
    refine Gx.t rfl ?_
    refine Gx.a (by kernel_rfl) fun K hK => ?_
    simp only [XA]
    refine hK _ (XWP.ret ?_)
    try simp only [thenX_ret, inBlockX_ret]
    refine ret_go _ rfl ?_
    rw [e]; rfl
  have b3 : decide (c < 0) = false := decide_eq_false d3
  by_cases d4 : 60 < c
  · have b4 : decide (60 < c) = true := decide_eq_true d4
    have e := matR_bad (r := r) (c := c) (L := l) (by omega)
    refine Gx.a (by kernel_rfl) fun K hK => ?_
    simp only [XM, XA, XB, gateX, ↓reduceIte, beq_self_eq_true, b1, b2, b3, b4]
    refine hK _ ?_
    refine Gx.t rfl ?_
    refine Gx.a (by kernel_rfl) fun K hK => ?_
    simp only [XA]
    refine hK _ (XWP.ret ?_)
    try simp only [thenX_ret, inBlockX_ret]
    refine ret_go _ rfl ?_
    rw [e]; rfl
  have b4 : decide (60 < c) = false := decide_eq_false d4
  have hm60 := mul60 (r := r) (c := c) (by omega) (by omega) (by omega) (by omega)
  have w : IntKind.i64.wrap (r * c) = r * c := wrap_id (by omega) (by omega)
  by_cases d5 : (l.length : Int) = r * c
  rotate_left
  · have b5 : decide ((l.length : Int) = r * c) = false := decide_eq_false d5
    have e := matR_bad (r := r) (c := c) (L := l) (by omega)
    refine Gx.a (by kernel_rfl) fun K hK => ?_
    simp only [XM, XA, XB, gateX, ↓reduceIte, beq_self_eq_true, b1, b2, b3, b4, w, b5]
    refine hK _ ?_
    refine Gx.t rfl ?_
    refine Gx.a (by kernel_rfl) fun K hK => ?_
    simp only [XA]
    refine hK _ (XWP.ret ?_)
    try simp only [thenX_ret, inBlockX_ret]
    refine ret_go _ rfl ?_
    rw [e]; rfl
  have b5 : decide ((l.length : Int) = r * c) = true := decide_eq_true d5
  refine Gx.a (by kernel_rfl) fun K hK => ?_
  simp only [XM, XA, XB, gateX, ↓reduceIte, beq_self_eq_true, b1, b2, b3, b4, w, b5]
  refine hK _ ?_
  refine Gx.f rfl ?_
  refine XWP.skip ?_
  have eM : matR r c l = okR l := by unfold matR; rw [decide_eq_true ⟨by omega, by omega, by omega, by omega, d5⟩]; rfl
  rw [eM]
  clear eM
  refine XWP.cutD 1 (fun s => ∃ V2, StIs (fun Z => [Z 0,Z 1,Z 2,Z 3,Z 4,Z 5,Z 6,Z 7,Z 8,Z 9,Z 10,Z 11,Z 12,Z 13,Z 14,Z 15,Z 16,Z 17,Z 18,Z 19,Z 20,Z 21,Z 22,Z 23,Z 24,Z 25,Z 26,Z 27,Z 28,Z 29,Z 30,Z 31,Z 32,Z 33,Z 34,Z 35,Z 36,Z 37,Z 38,Z 39,Z 40,Z 41,Z 42,Z 43,Z 44]) [[.int .i64 r, .int .i64 c, .slice A l.length cp]] (fun _ => none) V2 s ∧ okR l = true) ?_ ?_
  · refine Gx.a (by kernel_rfl) fun K hK => ?_
    simp only [XM, XA, XB]
    refine hK _ ?_
    clear hK
    refine XWP.block ?_
    refine XWP.loopD 1 (fun n s => ∃ (k : Nat) (V2 : View), StIs (fun Z => [Z 0, .p 0 0, Z 2,Z 3,Z 4,Z 5,Z 6,Z 7,Z 8,Z 9,Z 10,Z 11,Z 12,Z 13,Z 14,Z 15,Z 16,Z 17,Z 18,Z 19,Z 20,Z 21,Z 22,Z 23,Z 24,Z 25,Z 26,Z 27,Z 28,Z 29,Z 30,Z 31,Z 32,Z 33,Z 34, .v (.slice A l.length cp), .v (.int .i64 (l.length : Int)), .v (.int .i64 (k : Int)), Z 38,Z 39,Z 40,Z 41,Z 42,Z 43,Z 44]) [[.int .i64 r, .int .i64 c, .slice A l.length cp]] (fun _ => none) V2 s ∧ V.le V2 ∧ n + k = l.length ∧ okR (l.take k) = true) l.length ⟨0, V, StIs.of (by exact rfl), View.le_refl _, rfl, by simp [okR]⟩ ?_
    rintro n s ⟨k, V2, hs, hV2, hn, hk⟩
    obtain ⟨u, rfl⟩ := hs.out
    try dsimp only
    by_cases hlt : k < l.length
    · have b6 : decide ((k : Int) < (l.length : Int)) = true := decide_eq_true (by omega)
      refine Gx.a (by kernel_rfl) fun K hK => ?_
      simp only [XA, XB, b6]
      refine hK _ ?_
      refine XWP.seq (Gx.t rfl ?_)
      refine XWP.skip ?_
      refine XWP.seq ?_
      refine XWP.block ?_
      refine Gx.a (by kernel_rfl) fun K hK => ?_
      have hv2 := Raws.up h hV2
      obtain ⟨b, o, rfl⟩ := SlAt.addr hv2 (by omega)
      obtain ⟨x, hx, ⟨m3, n3, d3, rfl, p1, p2, p3⟩, hld⟩ := SlAt.load hv2 k hlt
      simp only [XA, XB]
      refine ⟨by omega, by omega, ld_mem (hld _) ?_⟩
      simp only [XA, XB]
      refine st_rat rfl rfl p1 p2 p3 ?_
      simp only [XA]
      refine hK _ ?_
      have ff := f _ (List.getElem_mem hlt)
      refine Gx.a (by kernel_rfl) fun K hK => ?_
      simp only [XA, XB, Nat.reduceAdd, Nat.reduceLeDiff, ↓reduceIte]
      refine call_go (by kernel_rfl) rfl (pright_c _ _ _ _ _ hx ff.1 ff.2) fun v3 V3 hV3 h3 => ?_
      subst h3
      have et : l.take (k + 1) = l.take k ++ [l[k]] := by rw [List.take_succ_eq_append_getElem hlt]
      cases hr : rawOk l[k].m l[k].nd l[k].dd
      · simp only [XA]
        refine hK _ ?_
        refine Gx.t rfl ?_
        refine Gx.a (by kernel_rfl) fun K hK => ?_
        simp only [XA]
        refine hK _ (XWP.ret ?_)
        try simp only [thenX_ret, inBlockX_ret]
        refine ret_go _ rfl ?_
        have : okR l = false := by
          unfold okR
          rw [List.all_eq_false]
          exact ⟨l[k], List.getElem_mem hlt, by unfold Raw.ok; rw [hr]; simp⟩
        rw [this]; rfl
      · simp only [XA]
        refine hK _ ?_
        refine Gx.f rfl ?_
        refine XWP.skip ?_
        refine Gx.c (by kernel_rfl) fun K hK => ?_
        simp only [XA, XB, i64_succ k (by omega)]
        refine hK _ ⟨n - 1, by omega, fun f => ⟨k + 1, V3, StIs.of (by exact rfl), View.le_trans hV2 hV3, by omega, ?_⟩⟩
        unfold okR at hk ⊢
        rw [et, List.all_append, hk]
        simp [Raw.ok, hr]
    · have b6 : decide ((k : Int) < (l.length : Int)) = false := decide_eq_false (by omega)
      refine Gx.a (by kernel_rfl) fun K hK => ?_
      simp only [XA, XB, b6]
      refine hK _ ?_
      refine XWP.seq (Gx.f rfl ?_)
      refine XWP.exit ?_
      rw [List.take_of_length_le (by omega)] at hk
      exact fun f => ⟨V2, StIs.of (by exact rfl), hk⟩
  rintro s ⟨V2, hs, hk⟩
  obtain ⟨u, rfl⟩ := hs.out
  try dsimp only
  refine Gx.a (by kernel_rfl) fun K hK => ?_
  simp only [XA]
  refine hK _ (XWP.ret ?_)
  try simp only [thenX_ret, inBlockX_ret]
  refine ret_go _ rfl ?_
  rw [hk]; rfl
end Go.Proofs.YthoboehbadmlmaaGreat
end
section
namespace Go.Proofs.YthoboehbadmlmaaGreat
open Go Go.RowKit
set_option linter.unusedSimpArgs false
set_option linter.unusedVariables false
attribute [local irreducible] XWP Spec SpecO XPub XCall seqX clX apX stX ldX iaX slX
end Go.Proofs.YthoboehbadmlmaaGreat
end
section
namespace Go.Proofs.YthoboehbadmlmaaGreat
open Go Go.RowKit
set_option linter.unusedSimpArgs false
set_option linter.unusedVariables false
attribute [local irreducible] XWP Spec SpecO XPub XCall seqX clX apX stX ldX iaX slX
theorem st_mat {P : Program} {t i : Nat} {s : XS} {ops : Array Oper} {rest : List Oper} {K : XS → Prop} {d : Option Tmp} {m n e : Value} {vs : List Value} (hs : shapeT P t = some (true, 3)) (hb : s.bx[i]? = some vs) (hl : vs.length = 3) (h0 : isOne m = true) (h1 : isOne n = true) (h2 : isOne e = true) (h : seqX P ops rest K (XS.put ⟨s.t, s.bx.set i [m, n, e], s.H, s.V⟩ d (.v undef))) : stX P ops rest K s d t (.p i 0) (.v (.agg #[m, n, e])) := by
  refine st_agg (cs := [m, n, e]) hs hb rfl ⟨rfl, by simp [h0, h1, h2], by omega, ?_⟩
  have : splice vs 0 [m, n, e] = [m, n, e] := by
    unfold splice; simp [hl]
  rw [this]; exact h
end Go.Proofs.YthoboehbadmlmaaGreat
end
section
namespace Go.Proofs.YthoboehbadmlmaaGreat
open Go Go.RowKit
set_option linter.unusedSimpArgs false
set_option linter.unusedVariables false
attribute [local irreducible] XWP Spec SpecO XPub XCall seqX clX apX stX ldX iaX slX
end Go.Proofs.YthoboehbadmlmaaGreat
end
section
namespace Go.Proofs.YthoboehbadmlmaaGreat
open Go Go.RowKit
set_option linter.unusedSimpArgs false
set_option linter.unusedVariables false
attribute [local irreducible] XWP Spec SpecO XPub XCall seqX clX apX stX ldX iaX slX
end Go.Proofs.YthoboehbadmlmaaGreat
end
section
namespace Go.Proofs.YthoboehbadmlmaaGreat
open Go Go.RowKit
set_option linter.unusedSimpArgs false
set_option linter.unusedVariables false
attribute [local irreducible] XWP Spec SpecO XPub XCall seqX clX apX stX ldX iaX slX
theorem rowQ_load {H : Heap} {V : View} {b e tot : Nat} {cells : List Value} {xs : List Rat} (hr : H b = some ⟨e, cells, tot⟩) (h : RowAt ratE V cells xs) (i : Nat) (hi : i < xs.length) : ∃ m n d, RatC V (.agg #[m, n, d]) (cf xs i) ∧ (isOne m = true ∧ isOne n = true ∧ isOne d = true) ∧ Loads Tryz.prog H V 48 b (i * 3) (.agg #[m, n, d]) := by
  obtain ⟨v, h1, ⟨m, n, d, rfl, o1⟩, h2⟩ := RowAt.load hr h i hi
  rw [cf_get hi] at h1
  exact ⟨m, n, d, h1, o1, h2⟩
end Go.Proofs.YthoboehbadmlmaaGreat
end
section
namespace Go.Proofs.YthoboehbadmlmaaGreat
open Go Go.RowKit
set_option linter.unusedSimpArgs false
set_option linter.unusedVariables false
attribute [local irreducible] XWP Spec SpecO XPub XCall seqX clX apX stX ldX iaX slX
end Go.Proofs.YthoboehbadmlmaaGreat
end
section
namespace Go.Proofs.YthoboehbadmlmaaGreat
open Go Go.RowKit
set_option linter.unusedSimpArgs false
set_option linter.unusedVariables false
attribute [local irreducible] XWP Spec SpecO XPub XCall seqX clX apX stX ldX iaX slX
end Go.Proofs.YthoboehbadmlmaaGreat
end
section
namespace Go.Proofs.YthoboehbadmlmaaGreat
open Go Go.RowKit
set_option linter.unusedSimpArgs false
set_option linter.unusedVariables false
attribute [local irreducible] XWP Spec SpecO XPub XCall seqX clX apX stX ldX iaX slX
theorem RowAt.append {α : Type} {E : View → Value → α → Prop} {V : View} {c1 c2 : List Value} {l1 l2 : List α} (h1 : RowAt E V c1 l1) (h2 : RowAt E V c2 l2) : RowAt E V (c1 ++ c2) (l1 ++ l2) := by
  have e1 := h1.1
  have e2 := h2.1
  refine ⟨by rw [List.length_append, List.length_append, e1, e2]; omega, fun i x hi => ?_⟩
  by_cases hlt : i < l1.length
  · rw [List.getElem?_append_left hlt] at hi
    obtain ⟨m, n, d, g1, g2, g3, r⟩ := h1.2 i x hi
    refine ⟨m, n, d, ?_, ?_, ?_, r⟩
    · show (c1 ++ c2)[i * 3]? = _
      rw [List.getElem?_append_left (by omega)]; exact g1
    · show (c1 ++ c2)[i * 3 + 1]? = _
      rw [List.getElem?_append_left (by omega)]; exact g2
    · show (c1 ++ c2)[i * 3 + 2]? = _
      rw [List.getElem?_append_left (by omega)]; exact g3
  · rw [List.getElem?_append_right (by omega)] at hi
    obtain ⟨m, n, d, g1, g2, g3, r⟩ := h2.2 (i - l1.length) x hi
    refine ⟨m, n, d, ?_, ?_, ?_, r⟩
    · show (c1 ++ c2)[i * 3]? = _
      rw [List.getElem?_append_right (by omega), show i * 3 - c1.length = (i - l1.length) * 3 by omega]; exact g1
    · show (c1 ++ c2)[i * 3 + 1]? = _
      rw [List.getElem?_append_right (by omega), show i * 3 + 1 - c1.length = (i - l1.length) * 3 + 1 by omega]; exact g2
    · show (c1 ++ c2)[i * 3 + 2]? = _
      rw [List.getElem?_append_right (by omega), show i * 3 + 2 - c1.length = (i - l1.length) * 3 + 2 by omega]; exact g3
end Go.Proofs.YthoboehbadmlmaaGreat
end
section
namespace Go.Proofs.YthoboehbadmlmaaGreat
set_option linter.unusedVariables false
abbrev Grid := Nat → Nat → Rat
def swp (p t i : Nat) : Nat := if i = p then t else if i = t then p else i
def gsw (G : Grid) (p t : Nat) : Grid := fun i j => G (swp p t i) j
def gcol (G : Grid) (t k : Nat) : Grid := fun i j => if i = t then G t j / G t k else G i j - G i k * (G t j / G t k)
theorem swp_swp (p t i : Nat) : swp p t (swp p t i) = i := by unfold swp; split <;> (try split) <;> (try split) <;> omega
theorem swp_lt {p t i R : Nat} (hp : p < R) (ht : t < R) (hi : i < R) : swp p t i < R := by unfold swp; split <;> (try split) <;> omega
theorem Sm_lin (f g x : Nat → Rat) (c : Rat) (n : Nat) : Sm (fun j => (f j - c * g j) * x j) n = Sm (fun j => f j * x j) n - c * Sm (fun j => g j * x j) n := by
  induction n with
  | zero => simp only [Sm]; grind
  | succ n ih => simp only [Sm, ih]; grind
/-- the numbers that are read off -/
def gx (G : Grid) (wh : Nat → Int) (n c : Nat) : Rat := if 0 ≤ wh c then G (wh c).toNat n else 0
end Go.Proofs.YthoboehbadmlmaaGreat
end
section
namespace Go.Proofs.YthoboehbadmlmaaGreat
open Go Go.RowKit
set_option linter.unusedSimpArgs false
set_option linter.unusedVariables false
attribute [local irreducible] XWP Spec SpecO XPub XCall seqX clX apX stX ldX iaX slX
theorem upd_off {H : Heap} {b k : Nat} {r : Option Row} (h : k ≠ b) : upd H b r k = H k := by unfold upd; rw [if_neg h]
def GRow (H : Heap) (V : View) (m : Nat) (f : Nat → Rat) (av : List Nat) (v : Value) : Prop :=
  ∃ b c cs, v = .slice (some ⟨b, 0, none⟩) m c ∧ H b = some ⟨48, cs, c * 3⟩ ∧ RowAt ratE V cs (mk m f) ∧ m ≤ c ∧ c ≤ maxLen ∧ b ∉ av
structure GCells (H : Heap) (V : View) (R m : Nat) (G : Grid) (av : List Nat) (cells : List Value) : Prop where
  len : cells.length = R
  row : ∀ (i : Nat) (v : Value), cells[i]? = some v → GRow H V m (G i) av v
  inj : ∀ (i j b c c' : Nat), cells[i]? = some (Value.slice (some ⟨b, 0, none⟩) m c) → cells[j]? = some (Value.slice (some ⟨b, 0, none⟩) m c') → i = j
def GridAt (H : Heap) (V : View) (v : Value) (R m : Nat) (G : Grid) (av : List Nat) : Prop :=
  ∃ cells, Own H 22 1 v R cells ∧ GCells H V R m G av cells
theorem mk_congr {m : Nat} {f g : Nat → Rat} (h : ∀ j, j < m → f j = g j) : mk m f = mk m g := by
  unfold mk
  exact List.map_congr_left fun j hj => h j (List.mem_range.1 hj)
theorem GRow.congr {H : Heap} {V : View} {m : Nat} {f g : Nat → Rat} {av : List Nat} {v : Value} (h : GRow H V m f av v) (e : ∀ j, j < m → f j = g j) : GRow H V m g av v := by
  obtain ⟨b, c, cs, h1, h2, h3, h4⟩ := h
  rw [mk_congr e] at h3
  exact ⟨b, c, cs, h1, h2, h3, h4⟩
theorem GRow.mono {H : Heap} {V V' : View} {m : Nat} {f : Nat → Rat} {av : List Nat} {v : Value} (h : GRow H V m f av v) (hV : V.le V') : GRow H V' m f av v := by
  obtain ⟨b, c, cs, h1, h2, h3, h4⟩ := h
  exact ⟨b, c, cs, h1, h2, h3.mono ratE_ok hV, h4⟩
theorem GridAt.mono {H : Heap} {V V' : View} {v : Value} {R m : Nat} {G : Grid} {av : List Nat} (h : GridAt H V v R m G av) (hV : V.le V') : GridAt H V' v R m G av := by
  obtain ⟨cells, h1, h2⟩ := h
  exact ⟨cells, h1, h2.len, fun i v hv => (h2.row i v hv).mono hV, h2.inj⟩
theorem GridAt.congr {H : Heap} {V : View} {v : Value} {R m : Nat} {G G' : Grid} {av : List Nat} (h : GridAt H V v R m G av) (e : ∀ i j, i < R → j < m → G i j = G' i j) : GridAt H V v R m G' av := by
  obtain ⟨cells, h1, h2⟩ := h
  refine ⟨cells, h1, h2.len, fun i v hv => (h2.row i v hv).congr fun j hj => e i j ?_ hj, h2.inj⟩
  rw [← h2.len]
  exact (List.getElem?_eq_some_iff.1 hv).1
/-- what else is written, leaves it -/
theorem GridAt.frame {H H' : Heap} {V : View} {v : Value} {R m : Nat} {G : Grid} {av av' : List Nat} (h : GridAt H V v R m G av)
    (h1 : ∀ k cs tot, H k = some ⟨22, cs, tot⟩ → H' k = H k) (h2 : ∀ k cs tot, k ∉ av → H k = some ⟨48, cs, tot⟩ → H' k = H k ∧ k ∉ av') : GridAt H' V v R m G av' := by
  obtain ⟨cells, ho, hc⟩ := h
  refine ⟨cells, ⟨ho.1, ?_⟩, hc.len, fun i v hv => ?_, hc.inj⟩
  · rcases ho.2 with h | ⟨b, cap, e, hb, h3⟩
    · exact .inl h
    · exact .inr ⟨b, cap, e, by rw [h1 b _ _ hb]; exact hb, h3⟩
  · obtain ⟨b, c, cs, e, hb, h3, h4, h5, h6⟩ := hc.row i v hv
    obtain ⟨a1, a2⟩ := h2 b _ _ h6 hb
    exact ⟨b, c, cs, e, by rw [a1]; exact hb, h3, h4, h5, a2⟩
/-- one row: how to read it, how to write it -/
theorem GridAt.at {H : Heap} {V : View} {v : Value} {R m : Nat} {G : Grid} {av : List Nat} (h : GridAt H V v R m G av) {i : Nat} (hi : i < R) :
    ∃ g cap b c cs, v = .slice (some ⟨g, 0, none⟩) R cap ∧ Loads Tryz.prog H V 22 g i (.slice (some ⟨b, 0, none⟩) m c) ∧ H b = some ⟨48, cs, c * 3⟩ ∧ RowAt ratE V cs (mk m (G i)) ∧ m ≤ c ∧ c ≤ maxLen ∧ b ∉ av ∧
      ∀ V' cs' f, V.le V' → RowAt ratE V' cs' (mk m f) → GridAt (upd H b (some ⟨48, cs', c * 3⟩)) V' v R m (fun i' => if i' = i then f else G i') av := by
  obtain ⟨cells, ho, hc⟩ := h
  rcases own_parts ho with ⟨_, h0, _⟩ | ⟨g, cap, rfl, hg, hle, hcap, hcl⟩
  · omega
  have hlt : i < cells.length := by rw [hc.len]; exact hi
  obtain ⟨b, c, cs, e, hb, h3, h4, h5, h6⟩ := hc.row i cells[i] (List.getElem?_eq_getElem hlt)
  refine ⟨g, cap, b, c, cs, rfl, ⟨false, 1, shapeT_22, .inr ⟨rfl, .inl ⟨_, hg, by rw [List.getElem?_eq_getElem hlt, e]⟩⟩⟩, hb, h3, h4, h5, h6, fun V' cs' f hV hrow => ?_⟩
  have hgb : g ≠ b := fun e => by subst e; rw [hg] at hb; cases hb
  refine ⟨cells, ⟨ho.1, .inr ⟨g, cap, rfl, by unfold upd; rw [if_neg hgb]; exact hg, hle, hcap⟩⟩, hc.len, fun j w hw => ?_, hc.inj⟩
  by_cases hji : j = i
  · subst hji
    rw [List.getElem?_eq_getElem hlt, e] at hw
    cases hw
    exact ⟨b, c, cs', rfl, upd_at _ _ _, by rw [if_pos rfl]; exact hrow, h4, h5, h6⟩
  · obtain ⟨b', c', cs2, e', hb', g3, g4⟩ := hc.row j w hw
    subst e'
    have hne : b' ≠ b := fun hbb => hji (hc.inj j i b' c' c hw (by rw [List.getElem?_eq_getElem hlt, e, hbb]))
    refine ⟨b', c', cs2, rfl, by unfold upd; rw [if_neg hne]; exact hb', ?_, g4⟩
    try dsimp only
    rw [if_neg hji]; exact g3.mono ratE_ok hV
/-- two rows change their places -/
theorem GridAt.swap {H : Heap} {V : View} {v : Value} {R m : Nat} {G : Grid} {av : List Nat} (h : GridAt H V v R m G av) {p t : Nat} (hp : p < R) (ht : t < R) :
    ∃ g cap cells vp vt, v = .slice (some ⟨g, 0, none⟩) R cap ∧ H g = some ⟨22, cells, cap * 1⟩ ∧ cells.length = R ∧ Loads Tryz.prog H V 22 g p vp ∧ Loads Tryz.prog H V 22 g t vt ∧ isOne vp = true ∧ isOne vt = true ∧
      GridAt (upd (upd H g (some ⟨22, cells.set p vt, cap * 1⟩)) g (some ⟨22, (cells.set p vt).set t vp, cap * 1⟩)) V v R m (gsw G p t) av := by
  obtain ⟨cells, ho, hc⟩ := h
  rcases own_parts ho with ⟨_, h0, _⟩ | ⟨g, cap, rfl, hg, hle, hcap, hcl⟩
  · omega
  have lp : p < cells.length := by rw [hc.len]; exact hp
  have lt : t < cells.length := by rw [hc.len]; exact ht
  have hone : ∀ i (hi : i < cells.length), isOne cells[i] = true := fun i hi => by
    obtain ⟨b, c, cs, e, _⟩ := hc.row i cells[i] (List.getElem?_eq_getElem hi)
    rw [e]; rfl
  have hget : ∀ i, ((cells.set p cells[t]).set t cells[p])[i]? = cells[swp p t i]? := fun i => by
    unfold swp
    by_cases e1 : t = i
    · subst e1
      rw [List.getElem?_set_self (by rw [List.length_set]; exact lt)]
      by_cases e2 : t = p
      · subst e2; rw [if_pos rfl, List.getElem?_eq_getElem lt]
      · rw [if_neg e2, if_pos rfl, List.getElem?_eq_getElem lp]
    · rw [List.getElem?_set_ne e1]
      by_cases e2 : p = i
      · subst e2; rw [List.getElem?_set_self lp, if_pos rfl, List.getElem?_eq_getElem lt]
      · rw [List.getElem?_set_ne e2, if_neg (Ne.symm e2), if_neg (Ne.symm e1)]
  refine ⟨g, cap, cells, cells[p], cells[t], rfl, hg, hc.len, ⟨false, 1, shapeT_22, .inr ⟨rfl, .inl ⟨_, hg, List.getElem?_eq_getElem lp⟩⟩⟩, ⟨false, 1, shapeT_22, .inr ⟨rfl, .inl ⟨_, hg, List.getElem?_eq_getElem lt⟩⟩⟩, hone p lp, hone t lt, ?_⟩
  refine ⟨(cells.set p cells[t]).set t cells[p], ⟨by rw [List.length_set, List.length_set]; exact ho.1, .inr ⟨g, cap, rfl, upd_at _ _ _, hle, hcap⟩⟩, by rw [List.length_set, List.length_set]; exact hc.len, fun i w hw => ?_, fun i j b c c' h1 h2 => ?_⟩
  · rw [hget] at hw
    obtain ⟨b, c, cs, e, hb, h3, h4⟩ := hc.row _ w hw
    have hbg : b ≠ g := fun e => by subst e; rw [hg] at hb; cases hb
    exact ⟨b, c, cs, e, by unfold upd; rw [if_neg hbg, if_neg hbg]; exact hb, h3, h4⟩
  · rw [hget] at h1 h2
    have := hc.inj _ _ b c c' h1 h2
    rw [← swp_swp p t i, this, swp_swp]
theorem eRR : elemT Tryz.prog 97 = some 22 := elemT_97
theorem kRR : kindT Tryz.prog 97 = 2 := kindT_97
theorem eII : elemT Tryz.prog 94 = some 3 := elemT_94
theorem kII : kindT Tryz.prog 94 = 2 := kindT_94
theorem GridAt.alloc {H : Heap} {V : View} {v : Value} {R m b : Nat} {r : Option Row} {G : Grid} {av : List Nat} (h : GridAt H V v R m G av) (hb : H b = none) : GridAt (upd H b r) V v R m G av := by
  have key : ∀ k q, H k = some q → upd H b r k = H k := fun k q hk => by
    unfold upd
    split
    · rename_i e; rw [e, hb] at hk; cases hk
    · rfl
  exact h.frame (fun k cs tot hk => key k _ hk) fun k cs tot ha hk => ⟨key k _ hk, ha⟩
theorem own_one {H : Heap} {e sz n : Nat} {v : Value} {xs : List Value} (h : Own H e sz v n xs) : isOne v = true := by
  rcases own_parts h with ⟨rfl, _, _⟩ | ⟨b, cap, rfl, _⟩ <;> rfl
theorem mk_set1 {m j : Nat} {f : Nat → Rat} {x : Rat} (hj : j < m) : (mk m f).set j x = mk m (fun c => if c = j then x else f c) := by
  apply List.ext_getElem?
  intro i
  by_cases hi : i < m
  · by_cases e : j = i
    · subst e; rw [List.getElem?_set_self (by rw [mk_len]; exact hj)]; simp [mk, hj]
    · rw [List.getElem?_set_ne e]
      have e' : ¬ i = j := fun h => e h.symm
      simp [mk, hi, e']
  · rw [List.getElem?_eq_none (by rw [List.length_set, mk_len]; omega), List.getElem?_eq_none (by rw [mk_len]; omega)]
def ge (B : Nat) : Nat → Nat
  | 0 => B
  | k + 1 => 4 * ge B k + 2
theorem ge_mono (B : Nat) {i j : Nat} (h : i ≤ j) : ge B i ≤ ge B j := by
  induction j with
  | zero => rw [show i = 0 by omega]; exact Nat.le_refl _
  | succ j ih =>
    rcases Nat.eq_or_lt_of_le h with h1 | h1
    · subst h1; exact Nat.le_refl _
    · have := ih (by omega)
      simp only [ge]; omega
end Go.Proofs.YthoboehbadmlmaaGreat
end
section
namespace Go.Proofs.YthoboehbadmlmaaGreat
open Go Go.RowKit
set_option linter.unusedSimpArgs false
set_option linter.unusedVariables false
attribute [local irreducible] XWP Spec SpecO XPub XCall seqX clX apX stX ldX iaX slX
end Go.Proofs.YthoboehbadmlmaaGreat
end
section
namespace Go.Proofs.YthoboehbadmlmaaGreat
open Go Go.RowKit
set_option linter.unusedSimpArgs false
set_option linter.unusedVariables false
attribute [local irreducible] XWP Spec SpecO XPub XCall seqX clX apX stX ldX iaX slX
theorem cf_mk_lt {c k : Nat} {f : Nat → Rat} (h : k < c) : cf (mk c f) k = f k := by rw [cf_mk, if_pos h]
end Go.Proofs.YthoboehbadmlmaaGreat
end
section
namespace Go.Proofs.YthoboehbadmlmaaGreat
open Go Go.RowKit
set_option linter.unusedSimpArgs false
set_option linter.unusedVariables false
attribute [local irreducible] XWP Spec SpecO XPub XCall seqX clX apX stX ldX iaX slX
end Go.Proofs.YthoboehbadmlmaaGreat
end
section
namespace Go.Proofs.YthoboehbadmlmaaGreat
set_option linter.unusedVariables false
end Go.Proofs.YthoboehbadmlmaaGreat
end
section
namespace Go.Proofs.YthoboehbadmlmaaGreat
open Go Go.RowKit
set_option linter.unusedSimpArgs false
set_option linter.unusedVariables false
attribute [local irreducible] XWP Spec SpecO XPub XCall seqX clX apX stX ldX iaX slX
end Go.Proofs.YthoboehbadmlmaaGreat
end
section
namespace Go.Proofs.YthoboehbadmlmaaGreat
set_option linter.unusedVariables false
def mS (a b : List Rat) (n c i k : Nat) : Nat → Rat
  | 0 => 0
  | j + 1 => mS a b n c i k j + cf a (i * n + j) * cf b (j * c + k)
def mfull (a b : List Rat) (n c t : Nat) : Rat := mS a b n c (t / c) (t % c) n
/-- the numbers before tt are through, the one at tt to j -/
def mf (a b : List Rat) (n c tt j : Nat) : Nat → Rat := fun t => if t < tt then mfull a b n c t else if t = tt then mS a b n c (t / c) (t % c) j else 0
def mmul (a b : List Rat) (r n c : Nat) : List Rat := mk (r * c) (mfull a b n c)
theorem mmul_len (a b : List Rat) (r n c : Nat) : (mmul a b r n c).length = r * c := mk_len _ _
theorem mk_eq {m : Nat} {f g : Nat → Rat} (h : ∀ j, j < m → f j = g j) : mk m f = mk m g := by
  unfold mk
  exact List.map_congr_left fun j hj => h j (List.mem_range.1 hj)
theorem mk_put {m j : Nat} {f : Nat → Rat} {x : Rat} (hj : j < m) : (mk m f).set j x = mk m (fun c => if c = j then x else f c) := by
  unfold mk
  refine List.ext_getElem? fun i => ?_
  by_cases hi : i < m
  · by_cases e : j = i
    · subst e
      rw [List.getElem?_set_self (by simpa using hi)]
      simp [hi]
    · rw [List.getElem?_set_ne e]
      simp only [List.getElem?_map, List.getElem?_range hi, Option.map_some]
      rw [if_neg (fun e' => e e'.symm)]
  · rw [List.getElem?_eq_none (by simp; omega), List.getElem?_eq_none (by simp; omega)]
theorem mf_set {a b : List Rat} {n c tt j R : Nat} (h : tt < R) : (mk R (mf a b n c tt j)).set tt (mS a b n c (tt / c) (tt % c) (j + 1)) = mk R (mf a b n c tt (j + 1)) := by
  rw [mk_put h]
  refine mk_eq fun t _ => ?_
  unfold mf
  by_cases e : t = tt
  · rw [if_pos e, e, if_neg (by omega), if_pos rfl]
  · rw [if_neg e, if_neg e, if_neg e]
theorem mf_end (a b : List Rat) (n c tt R : Nat) : mk R (mf a b n c tt n) = mk R (mf a b n c (tt + 1) 0) := by
  refine mk_eq fun t _ => ?_
  unfold mf
  by_cases e : t = tt
  · rw [if_neg (by omega), if_pos e, if_pos (by omega)]; rfl
  · by_cases h : t < tt
    · rw [if_pos h, if_pos (by omega)]
    · rw [if_neg h, if_neg e, if_neg (by omega)]
      split <;> rfl
theorem mf_zero (a b : List Rat) (n c R : Nat) : mk R (mf a b n c 0 0) = mk R fun _ => 0 := by
  refine mk_eq fun t _ => ?_
  unfold mf
  rw [if_neg (by omega)]
  split <;> rfl
theorem mf_all (a b : List Rat) (n c R : Nat) : mk R (mf a b n c R 0) = mk R (mfull a b n c) := by
  refine mk_eq fun t ht => ?_
  unfold mf
  rw [if_pos ht]
theorem div_at {i k c : Nat} (hk : k < c) : (i * c + k) / c = i ∧ (i * c + k) % c = k := by
  refine ⟨?_, ?_⟩
  · rw [Nat.add_comm, Nat.add_mul_div_right _ _ (by omega), Nat.div_eq_of_lt hk, Nat.zero_add]
  · rw [Nat.add_comm, Nat.add_mul_mod_self_right, Nat.mod_eq_of_lt hk]
theorem mS_tS (a b : List Rat) (n c k : Nat) : ∀ j, mS a b n c 0 k j = tS a b c k j
  | 0 => rfl
  | j + 1 => by rw [mS, tS, mS_tS a b n c k j, Nat.zero_mul, Nat.zero_add]
theorem mS_over {A B D E : Nat} {a b : List Rat} (hD : 0 < D) (hE : 0 < E) (ha : ∀ i, Over D A (cf a i)) (hb : ∀ i, Over E B (cf b i)) (n c i k : Nat) : ∀ j, Over (D * E) (A + B + j) (mS a b n c i k j)
  | 0 => Over.zero _ _
  | j + 1 => by
    have h1 := (ha (i * n + j)).mul (hb (j * c + k))
    have := (mS_over hD hE ha hb n c i k j).add (Nat.mul_pos hD hE) (h1.mono (show A + B ≤ A + B + j by omega))
    exact this
theorem mS_QB {A B : Nat} {a b : List Rat} (ha : CB A a) (hb : CB B b) (n c i k j : Nat) : QB (A + B + j) (mS a b n c i k j) := by
  obtain ⟨D, d1, d2, d3⟩ := ha
  obtain ⟨E, e1, e2, e3⟩ := hb
  exact (mS_over d1 e1 d3 e3 n c i k j).qb (Nat.le_trans (two_mul_le d2 e2) (two_mono (by omega)))
end Go.Proofs.YthoboehbadmlmaaGreat
end
section
namespace Go.Proofs.YthoboehbadmlmaaGreat
open Go Go.RowKit
set_option linter.unusedSimpArgs false
set_option linter.unusedVariables false
attribute [local irreducible] XWP Spec SpecO XPub XCall seqX clX apX stX ldX iaX slX
theorem st_one {P : Program} {t i off : Nat} {s : XS} {ops : Array Oper} {rest : List Oper} {K : XS → Prop} {d : Option Tmp} {v : Value} {vs : List Value} (hs : shapeT P t = some (false, 1)) (hb : s.bx[i]? = some vs) (h1 : isOne v = true) (hl : off < vs.length) (h : seqX P ops rest K (XS.put ⟨s.t, s.bx.set i (vs.set off v), s.H, s.V⟩ d (.v undef))) : stX P ops rest K s d t (.p i off) (.v v) := by
  unfold stX loudX
  have e0 : XS.ev ⟨[.p i off, .v v], s.bx, s.H, s.V⟩ (.tmp 0) = .p i off := rfl
  have e1 : XS.ev ⟨[.p i off, .v v], s.bx, s.H, s.V⟩ (.tmp 1) = .v v := rfl
  simp only [e0, e1, hs, hb]
  have ec : v.cells = #[v] := by cases v <;> first | rfl | cases h1
  refine ⟨by rw [ec]; rfl, by rw [ec]; simp [h1], by omega, ?_⟩
  have : splice vs off v.cells.toList = vs.set off v := by
    rw [ec]
    unfold splice
    rw [List.set_eq_take_append_cons_drop, if_pos hl]
    simp
  rw [this]; exact h
theorem placesT_34 : placesT Tryz.prog 34 = some [(0, 1), (1, 1), (2, 1)] := by kernel_rfl
theorem bd_mat2 {x y : Value} (hx : isOne x = true) (hy : isOne y = true) : BuildsTo Tryz.prog 34 #[(0, x), (1, y)] (.agg #[x, y, .slice none 0 0]) := by
  refine bd_run placesT_34 zeroT_34 ?_
  show Instr.fill _ _ [(0, x), (1, y)] = _
  rw [fill_one (off := 0) rfl hx (by simp), fill_one (off := 1) rfl hy (by simp)]; rfl
theorem bd_mat0 : BuildsTo Tryz.prog 34 #[] (.agg #[.int .i64 0, .int .i64 0, .slice none 0 0]) := by
  refine bd_run placesT_34 zeroT_34 ?_
  rfl
theorem placesT_24 : placesT Tryz.prog 24 = some [(0, 1), (1, 1), (2, 1)] := by kernel_rfl
theorem bd_mtx2 {x y : Value} (hx : isOne x = true) (hy : isOne y = true) : BuildsTo Tryz.prog 24 #[(0, x), (1, y)] (.agg #[x, y, .slice none 0 0]) := by
  refine bd_run placesT_24 zeroT_24 ?_
  show Instr.fill _ _ [(0, x), (1, y)] = _
  rw [fill_one (off := 0) rfl hx (by simp), fill_one (off := 1) rfl hy (by simp)]; rfl
theorem own_isOne {H : Heap} {e sz n : Nat} {v : Value} {xs : List Value} (h : Own H e sz v n xs) : isOne v = true := by
  obtain ⟨_, ⟨rfl, _⟩ | ⟨g, cap, rfl, _⟩⟩ := h <;> rfl
theorem dzeros_o (V : View) (r c : Nat) (hr : r ≤ 60) (hc : c ≤ 60) : SpecO Tryz.prog 55 [.int .i64 (r : Int), .int .i64 (c : Int)] V fun v' V' o => ∃ sl cells, v' = .agg #[.int .i64 (r : Int), .int .i64 (c : Int), sl] ∧ Own (addRow (fun _ => none) o) 48 3 sl (r * c) cells ∧ RowAt ratE V' cells (mk (r * c) fun _ => 0) := by
  have hrc : r * c ≤ 3600 := Nat.le_trans (Nat.mul_le_mul hr hc) (by decide)
  have w : IntKind.i64.wrap ((r : Int) * (c : Int)) = ((r * c : Nat) : Int) := by rw [← Int.natCast_mul, wrap_id (by omega) (by omega)]
  generalize hR : r * c = R at *
  refine (SpecO.enter Tryz.func55 rfl fun Γ => ?_)
  simp only [Tryz.ntmps55, List.map_cons, List.map_nil, List.length_cons, List.length_nil, Nat.reduceAdd, Nat.reduceSub, List.replicate_succ, List.replicate_zero, List.cons_append, List.nil_append]
  refine Gx.a (by kernel_rfl) fun K hK => ?_
  simp only [XM, XA]
  refine hK _ ?_
  refine Gx.a (by kernel_rfl) fun K hK => ?_
  simp only [XA]
  refine bd_go (by kernel_rfl) #[(0, .int .i64 (r : Int)), (1, .int .i64 (c : Int))] (by simp [ev_tmp, SV.val]) (bd_mat2 rfl rfl) ?_
  simp only [XM, XA]
  refine st_mat shapeT_34 rfl rfl rfl rfl rfl ?_
  simp only [XA]
  refine hK _ ?_
  clear hK
  refine XWP.cut (fun s => ∃ (V2 : View) (H5 : Heap) (sl : Value) (cells : List Value), StIs (fun Z => [Z 0,Z 1,Z 2,Z 3, .p 0 0, .p 1 0, Z 6,Z 7,Z 8,Z 9,Z 10,Z 11,Z 12,Z 13,Z 14,Z 15,Z 16,Z 17,Z 18,Z 19,Z 20,Z 21,Z 22,Z 23]) [[.int .i64 0, .int .i64 0, .slice none 0 0], [.int .i64 (r : Int), .int .i64 (c : Int), sl]] H5 V2 s ∧ Own H5 48 3 sl R cells ∧ RowAt ratE V2 cells (mk R fun _ => 0)) ?_ ?_
  · refine Gx.a (by kernel_rfl) fun K hK => ?_
    simp only [XA]
    refine hK _ ?_
    clear hK
    refine XWP.block ?_
    refine XWP.loop (fun q s => ∃ (k : Nat) (V2 : View) (H5 : Heap) (sl : Value) (cells : List Value), StIs (fun Z => [.v (.int .i64 (r : Int)), .v (.int .i64 (c : Int)), Z 2,Z 3, .p 0 0, .p 1 0, .v (.int .i64 (k : Int)), Z 7,Z 8,Z 9,Z 10,Z 11,Z 12,Z 13,Z 14,Z 15,Z 16,Z 17,Z 18,Z 19,Z 20,Z 21,Z 22,Z 23]) [[.int .i64 0, .int .i64 0, .slice none 0 0], [.int .i64 (r : Int), .int .i64 (c : Int), sl]] H5 V2 s ∧ q + k = R ∧ Own H5 48 3 sl k cells ∧ RowAt ratE V2 cells (mk k fun _ => 0)) R ⟨0, V, _, _, [], StIs.of (by exact rfl), by omega, own_nil, RowAt.nil _⟩ ?_
    rintro q s ⟨k, V2, H5, sl, cells, hs, hq, hown, hrow⟩
    obtain ⟨z, rfl⟩ := hs.out
    try dsimp only
    clear hs
    refine XWP.seq ?_
    by_cases hk : k < R
    rotate_left
    · obtain rfl : k = R := by omega
      have b1 : decide ((k : Int) < (k : Int)) = false := decide_eq_false (by omega)
      refine Gx.a (by kernel_rfl) fun K hK => ?_
      simp only [XA, XB, w, b1]
      refine hK _ ?_
      refine Gx.f rfl ?_
      refine XWP.exit ?_
      exact ⟨V2, H5, sl, cells, StIs.of (by exact rfl), hown, hrow⟩
    have b1 : decide ((k : Int) < (R : Int)) = true := decide_eq_true (by omega)
    refine Gx.a (by kernel_rfl) fun K hK => ?_
    simp only [XA, XB, w, b1]
    refine hK _ ?_
    refine Gx.t rfl ?_
    refine XWP.skip ?_
    refine XWP.seq ?_
    refine XWP.block ?_
    (refine XWP.drw1 [0, 1, 2, 3, 4, 5, 6] (by kernel_rfl) (by kernel_rfl) (by kernel_rfl) fun K hK => ?_) <;> dsimp only [pickOps, List.getElem?_cons_zero, List.getElem?_cons_succ]
    simp only [XM, XA, XB]
    refine call_go (by kernel_rfl) rfl (pzero_c _) fun v3 V3 hV3 h3 => ?_
    obtain ⟨x3, y3, rfl, o1, o2⟩ := h3.form
    simp only [XA]
    refine bs_go (by kernel_rfl) #[(0, .agg #[.bool (ng 0), x3, y3])] (by simp [ev_tmp, SV.val]) (bs_rat elemT_22) fun b3 hb3 hb4 => ?_
    simp only [XA, Nat.reduceAdd]
    refine ap_go elemT_22 (by kernel_rfl) zeroT_48 rfl (by omega) (own_upd hown hb3) (src3 (upd_at _ _ _) rfl o1 o2) (by omega) (by omega) fun v' H' hres => ?_
    simp only [XM, XA]
    refine st_one shapeT_22 rfl (own_isOne hres.1) (by simp) ?_
    simp only [XA]
    refine hK _ ?_
    refine Gx.c (by kernel_rfl) fun K hK => ?_
    simp only [XA, XB, i64_succ k (by omega)]
    have hrow' := (hrow.mono ratE_ok hV3).snoc (show isOne (.bool (ng 0)) = true from rfl) o1 o2 h3
    rw [← mk_succ k fun _ => 0] at hrow'
    exact hK _ ⟨q - 1, by omega, k + 1, V3, _, _, _, StIs.of (by exact rfl), by omega, hres.1, hrow'⟩
  rintro s ⟨V2, H5, sl, cells, hs, hown, hrow⟩
  obtain ⟨z, rfl⟩ := hs.out
  try dsimp only
  have osl := own_isOne hown
  refine Gx.a (by kernel_rfl) fun K hK => ?_
  simp only [XM, XA, Nat.reduceAdd, Nat.reduceLeDiff, ↓reduceIte]
  refine st_mat shapeT_34 rfl rfl rfl rfl osl ?_
  simp only [XA]
  refine hK _ (XWP.ret ?_)
  try simp only [thenX_ret, inBlockX_ret]
  rcases own_parts hown with ⟨rfl, h0, rfl⟩ | ⟨g, cap, rfl, hg, hle, hcap, hcl⟩
  · refine ret_own _ none (by simp [resAll, resV, cellsV, shapeT_34]; rfl) (fun g' q e => by cases e) ⟨_, [], rfl, ⟨by rw [h0]; rfl, .inl ⟨rfl, h0⟩⟩, hrow⟩
  · refine ret_own _ (some (g, _)) (by simp [resAll, resV, cellsV, shapeT_34]; rfl) (fun g' q e => by cases e; exact hg) ⟨_, cells, rfl, own3 (show upd (fun _ => none) g (some _) g = some _ from upd_at _ _ _) hcl hle (by unfold maxLen at hcap; omega), hrow⟩
end Go.Proofs.YthoboehbadmlmaaGreat
end
section
namespace Go.Proofs.YthoboehbadmlmaaGreat
open Go Go.RowKit
/-! ### The last box becomes a row -/
def rowS (m b : Nat) : SV → SV
  | .v x => .v x
  | .p j o => if j = m then .v (.pointer (some ⟨b, o, none⟩)) else .p j o
theorem rowS_v (m b : Nat) (x : Value) : rowS m b (.v x) = .v x := rfl
theorem rowS_p (m b j o : Nat) : rowS m b (.p j o) = if j = m then .v (.pointer (some ⟨b, o, none⟩)) else .p j o := rfl
theorem XWP.row1 {Γ : Cx} {P : Program} {c : Code} {Q : Exit → XS → Prop} {t : List SV} {bx : List (List Value)} {vs : List Value} {H : Heap} {V : View}
    (h : ∀ b e, H b = none → V b = none → XWP Γ P c Q ⟨t.map (rowS bx.length b), bx, upd H b (some ⟨e, vs, vs.length⟩), V⟩) : XWP Γ P c Q ⟨t, bx ++ [vs], H, V⟩ := by
  intro bl a w hc
  have hlt : bx.length < (bx ++ [vs]).length := by simp
  obtain ⟨ty, hh⟩ := hc.cw.box bx.length vs (by simp)
  obtain ⟨b1, b2, b3⟩ := hc.cs.bxH bx.length hlt
  refine h (bl bx.length) ty b1 b2 bl a w ⟨?_, hc.df, ⟨fun i us hi => hc.cw.box i us ?_, fun b r hb => ?_, hc.cw.view, hc.cw.below⟩, ⟨fun i j hi hj => hc.cs.inj i j (by dsimp only at hi ⊢; rw [List.length_append]; omega) (by dsimp only at hj ⊢; rw [List.length_append]; omega), fun i hi => ?_, fun b r hb => ?_, hc.cs.V0, hc.cs.frm⟩, fun x hx => ?_⟩
  · rw [hc.tm, List.map_map]
    congr 1
    refine List.map_congr_left fun x _ => ?_
    cases x with
    | v x => rfl
    | p j o =>
      simp only [Function.comp_apply, rowS]
      split
      · rename_i e; subst e; rfl
      · rfl
  · dsimp only at hi ⊢
    have hl : i < bx.length := (List.getElem?_eq_some_iff.1 hi).1
    rw [List.getElem?_append_left hl]; exact hi
  · dsimp only at hb
    unfold upd at hb
    split at hb
    · rename_i e; subst e; cases hb
      exact ⟨[], by simpa using hh, by simp⟩
    · exact hc.cw.row b r hb
  · dsimp only at hi
    have hl : i < (bx ++ [vs]).length := by rw [List.length_append]; omega
    have := hc.cs.bxH i hl
    refine ⟨?_, this.2⟩
    dsimp only
    unfold upd
    rw [if_neg (fun e => by have := hc.cs.inj i bx.length hl hlt e; omega)]; exact this.1
  · dsimp only at hb
    unfold upd at hb
    split at hb
    · rename_i e; subst e; exact ⟨b2, b3⟩
    · exact hc.cs.HV b r hb
  · obtain ⟨y, hy, rfl⟩ := List.mem_map.1 hx
    have := hc.ok y hy
    cases y with
    | v x => trivial
    | p j o =>
      have hj : j < (bx ++ [vs]).length := this
      show SV.ok _ (if j = bx.length then SV.v _ else .p j o)
      split
      · trivial
      · rename_i hne
        show j < bx.length
        rw [List.length_append] at hj
        simp only [List.length_cons, List.length_nil] at hj
        omega

/-! ### What an iterator promises: it yields these, in order, as long as yield answers true -/
def IterX (P : Program) (gf : Nat) (lb : Array Value) (V : View) (L : List (Array Value)) : Prop :=
  ∀ (l : Nat) (J : Nat → World → Prop) (Jx : World → Prop) (W : World), J 0 W → (∀ r W1, J r W1 → V.sub W1) → (∀ W1, Jx W1 → V.sub W1) →
    (∀ r W1 args, L[r]? = some args → J r W1 → YieldAt Fence.wide 0 P l args W1 fun e W' => (e = .returned (.bool true) ∧ J (r + 1) W') ∨ (e = .returned (.bool false) ∧ Jx W')) →
    CallsIn Fence.wide 0 P gf (#[.func (.yield l) #[] #[]] ++ lb) W fun e W' => (∃ v, e = .returned v) ∧ (J L.length W' ∨ Jx W')
def setPs : List Tmp → List Value → List SV → List SV
  | p :: ps, v :: vs, t => setPs ps vs (t.set p (.v v))
  | _, _, t => t
theorem setPs_conc {bl : Nat → Nat} : ∀ (ps : List Tmp) (vs : List Value) (t : List SV), (ps.zip vs).foldl (fun (t : Array Value) (q : Tmp × Value) => t.setIfInBounds q.1 q.2) (t.map (SV.conc bl)).toArray = ((setPs ps vs t).map (SV.conc bl)).toArray
  | [], _, t => by simp [setPs]
  | _ :: _, [], t => by simp [setPs]
  | p :: ps, v :: vs, t => by
    simp only [List.zip_cons_cons, List.foldl_cons, setPs]
    rw [← setPs_conc ps vs (t.set p (.v v))]
    congr 1
    simp [List.map_set, SV.conc]
theorem setPs_ok {n : Nat} : ∀ (ps : List Tmp) (vs : List Value) (t : List SV), (∀ x ∈ t, x.ok n) → ∀ x ∈ setPs ps vs t, x.ok n
  | [], _, t, h => by simpa [setPs] using h
  | _ :: _, [], t, h => by simpa [setPs] using h
  | p :: ps, v :: vs, t, h => by
    simp only [setPs]
    refine setPs_ok ps vs _ fun x hx => ?_
    rcases List.mem_or_eq_of_mem_set hx with h1 | rfl
    · exact h x h1
    · trivial
/-- how a round's body may be left -/
def roundQ (I : Heap → View → Prop) (Ix : Heap → View → Prop) : Exit → XS → Prop
  | .normal, s => I s.H s.V
  | .ret, s => Ix s.H s.V
  | _, _ => False
theorem CW.nobox {Γ : Cx} {bl bl' : Nat → Nat} {bx : List (List Value)} {H : Heap} {V : View} {w : World} (h : CW Γ bl bx H V w) : CW Γ bl' [] H V w := ⟨fun i vs hi => by simp at hi, h.row, h.view, h.below⟩
theorem CS.nobox {Γ : Cx} {bl bl' : Nat → Nat} {bx : List (List Value)} {H : Heap} {V : View} (h : CS Γ bl bx H V) : CS Γ bl' [] H V := ⟨fun i j hi => by simp at hi, fun i hi => by simp at hi, h.HV, h.V0, h.frm⟩
theorem CW.cx {Γ Γ' : Cx} {bl : Nat → Nat} {bx : List (List Value)} {H : Heap} {V : View} {w : World} (h : CW Γ bl bx H V w) (e : Γ'.w0 = Γ.w0) : CW Γ' bl bx H V w := ⟨h.box, h.row, h.view, by rw [e]; exact h.below⟩
theorem CS.cx {Γ Γ' : Cx} {bl : Nat → Nat} {bx : List (List Value)} {H : Heap} {V : View} (h : CS Γ bl bx H V) (e : Γ'.w0 = Γ.w0) (e' : Γ'.V0 = Γ.V0) : CS Γ' bl bx H V := ⟨h.inj, fun i hi => by rw [e]; exact h.bxH i hi, fun b r hb => by rw [e]; exact h.HV b r hb, by rw [e']; exact h.V0, by rw [e, e']; exact h.frm⟩
theorem wpIn_any {Γ : Cx} {P : Program} {c : Code} {Q : Exit → Act → World → Prop} {a : Act} {w : World} {n m : Nat} (h : c.wpIn Γ.F n P Q a w) : c.wpIn Γ.F m P Q a w := fun b k cs hro hb _ => h b k cs hro hb (Γ.room _)
theorem others_put {w w1 : World} {l : Nat} (h : KeepsOthers w1 w) (hl : w1.heap.size ≤ l) (o : Obj) : KeepsOthers w1 (w.putObj l o) :=
  ⟨by rw [World.putObj_size]; exact h.size, fun k ob hk ho => by
    have := (Array.getElem?_eq_some_iff.1 hk).1
    rw [World.putObj_heap_other (by omega)]; exact h.same k ob hk ho⟩
theorem CW.allocO {Γ : Cx} {bl : Nat → Nat} {H : Heap} {V : View} {w : World} (h : CW Γ bl [] H V w) (o : Obj) : CW Γ bl [] H V (w.alloc o) :=
  ⟨fun i vs hi => by simp at hi, fun b r hb => by
    obtain ⟨ex, hh, hl⟩ := h.row b r hb
    exact ⟨ex, by rw [Below.heap_alloc w _ _ (h.lt_row hb)]; exact hh, hl⟩, view_alloc h.view _, h.below.alloc h.below.size _⟩
theorem mk_turn {Γ Γ' : Cx} {a : Act} {w : World} {l : Nat} {o o' : Obj} (h : Mk Γ a w) (hl : w.heap[l]? = some o) (ho : ∀ d, o ≠ .deferred d) (e0 : Γ'.w0 = Γ.w0) (e1 : Γ'.w1 = w.putObj l o') (e2 : ∃ r, Γ'.rd = some r) : Mk Γ' a (w.putObj l o') := by
  obtain ⟨⟨ms, h1, h2, h3⟩, _⟩ := h
  obtain ⟨r2, e2⟩ := e2
  refine ⟨⟨ms, h1, h2, fun D hD => ⟨by unfold Cx.base; rw [e2]; dsimp only; rw [e0]; exact Nat.le_trans (Cx.base_ge _) (h3 D hD).1, ?_⟩⟩, by rw [e1]; exact KeepsOthers.refl _⟩
  refine (World.putObj_heap_other (fun e => ?_)).trans (h3 D hD).2
  have := (h3 D hD).2
  rw [e, hl] at this
  cases this; exact ho _ rfl
/-- **A range over a function.** -/
theorem XWP.range {Γ : Cx} {P : Program} (hΓ : Γ.Plain) {g : Operand} {ps : Array Tmp} {assign body : Code} {Q : Exit → XS → Prop} {t : List SV} {H : Heap} {V : View} {gf : Nat} {lb : Array Value} {L : List (Array Value)} {I : Nat → Heap → View → Prop} {Ix : Heap → View → Prop}
    (hg : (⟨t, [], H, V⟩ : XS).ev g = .v (.func (.func gf) #[] lb)) (hcall : callable P gf = true) (hps : ∀ args ∈ L, args.size = ps.size) (it : IterX P gf lb V L) (h0 : I 0 H V) (hle : ∀ r H' V', I r H' V' → V.le V') (hleX : ∀ H' V', Ix H' V' → V.le V')
    (hr : ∀ (Γ' : Cx) (r : Nat) (args : Array Value) (H' : Heap) (V' : View), L[r]? = some args → I r H' V' → XWP Γ' P assign (fun e s1 => match e with | .normal => ∀ Γ'' : Cx, XWP Γ'' P body (roundQ (I (r + 1)) Ix) s1 | _ => False) ⟨setPs ps.toList args.toList t, [], H', V'⟩)
    (hdone : ∀ H' V', I L.length H' V' → Q .normal ⟨t, [], H', V'⟩) (hstop : ∀ H' V', Ix H' V' → Q .ret ⟨t, [], H', V'⟩) : XWP Γ P (.rangeFunc g ps assign body) Q ⟨t, [], H, V⟩ := by
  intro bl a w hC
  obtain ⟨⟨ms, m1, m2, m3⟩, m4⟩ := hC.df
  have eF : Γ.F = Fence.wide := by unfold Cx.F; rw [hΓ.1]; rfl
  have hev : a.eval g = .func (.func gf) #[] lb := by rw [hC.ev, hg]; rfl
  have hok : ∀ x ∈ t, x.ok 0 := hC.ok
  have htm : a.tmps = (t.map (SV.conc bl)).toArray := hC.tm
  refine wpIn_any (n := 1) (wpIn_rangeFunc fun fn _ => ?_)
  obtain ⟨rec, hrec⟩ : ∃ rec : LoopState → Option Code → Loop, rec = fun st pe => { state := st, pending := pe, fn, tmps := a.tmps, params := ps, assign, body, defers := w.heap.size } := ⟨_, rfl⟩
  obtain ⟨W1, hW1⟩ : ∃ W1, (w.alloc (.deferred (some []))).alloc (.loop (rec .ready none)) = W1 := ⟨_, rfl⟩
  have hL1 : W1.heap[w.heap.size + 1]? = some (.loop (rec .ready none)) := by
    rw [← hW1]; have := World.alloc_heap_new (w.alloc (.deferred (some []))) (.loop (rec .ready none)); rwa [World.size_alloc] at this
  have hK1 : W1.heap[w.heap.size]? = some (.deferred (some [])) := by
    rw [← hW1]; exact (Below.heap_alloc _ _ _ (by simp)).trans (World.alloc_heap_new w _)
  have hcw1 : CW Γ bl [] H V W1 := by rw [← hW1]; exact (CW.allocO hC.cw _).allocO _
  have hko1 : KeepsOthers w W1 := by rw [← hW1]; exact (KeepsOthers.alloc _ _).trans (KeepsOthers.alloc _ _)
  have hws : Γ.w0.heap.size ≤ w.heap.size := hC.cw.below.size
  have hw1s : Γ.w1.heap.size ≤ w.heap.size := m4.size
  have hmlt : ∀ E ∈ ms, E < w.heap.size := fun E hE => (Array.getElem?_eq_some_iff.1 (m3 E hE).2).1
  refine ⟨w.heap.size + 1, [{ target := .collected w.heap.size, args := #[] }], W1, { target := .fn (.func gf) lb, args := #[.func (.yield (w.heap.size + 1)) #[] #[]] }, W1, gf, #[.func (.yield (w.heap.size + 1)) #[] #[]] ++ lb, W1, ?_, ?_, fun _ _ => trivial, ?_, fun _ => Nat.le_refl _, ?_⟩
  · show (Instr.enterLoop fn a.tmps ps assign body Γ.rd).run P w = _
    rw [hΓ.1, ← hW1, hrec]; exact run_enterLoop_outer _ _ _ _ _
  · simp only [resolve, hev]
    simp [go_sem]
  · unfold callable at hcall
    cases hf : P.funcs[gf]? with
    | none => simp [hf] at hcall
    | some fn =>
      simp [hf] at hcall
      have hb : fn.body ≠ none := fun hn => by simp [hn] at hcall
      simp [invoke, callFunc, hf, hcall.1, hb]
  rw [eF]
  have keepE : ∀ {A B : World}, (∀ E ∈ ms, A.heap[E]? = some (.deferred (some []))) → KeepsOthers A B → ∀ E ∈ ms, B.heap[E]? = some (.deferred (some [])) := fun h k E hE => k.same E _ (h E hE) rfl
  have putE : ∀ {A : World} (o : Obj), (∀ E ∈ ms, A.heap[E]? = some (.deferred (some []))) → ∀ E ∈ ms, (A.putObj (w.heap.size + 1) o).heap[E]? = some (.deferred (some [])) := fun o h E hE =>
    (World.putObj_heap_other (by have := hmlt E hE; omega)).trans (h E hE)
  have fini : ∀ (A : World) (H' : Heap) (V' : View), CW Γ bl [] H' V' A → CS Γ bl [] H' V' → (∀ E ∈ ms, A.heap[E]? = some (.deferred (some []))) → KeepsOthers Γ.w1 A → A.heap[w.heap.size]? = some (.deferred (some [])) →
      Conc Γ bl ⟨t, [], H', V'⟩ { a with defers := { target := .collected w.heap.size, args := #[] } :: a.defers } A := fun A H' V' c1 c2 c3 c4 c5 =>
    ⟨htm, ⟨⟨w.heap.size :: ms, by simp [m1], List.nodup_cons.2 ⟨fun h => by have := hmlt _ h; omega, m2⟩, fun D hD => by
      rcases List.mem_cons.1 hD with rfl | h
      · exact ⟨Cx.base_le _ hws hw1s, c5⟩
      · exact ⟨(m3 D h).1, c3 D h⟩⟩, c4⟩, c1, c2, hok⟩
  refine (it (w.heap.size + 1)
    (fun r W => ∃ H' V', I r H' V' ∧ CW Γ bl [] H' V' W ∧ CS Γ bl [] H' V' ∧ (∀ E ∈ ms, W.heap[E]? = some (.deferred (some []))) ∧ KeepsOthers Γ.w1 W ∧ W.heap[w.heap.size + 1]? = some (.loop (rec .ready none)) ∧ W.heap[w.heap.size]? = some (.deferred (some [])))
    (fun W => ∃ H' V', Ix H' V' ∧ CW Γ bl [] H' V' W ∧ CS Γ bl [] H' V' ∧ (∀ E ∈ ms, W.heap[E]? = some (.deferred (some []))) ∧ KeepsOthers Γ.w1 W ∧ W.heap[w.heap.size + 1]? = some (.loop (rec .done (some .ret))) ∧ W.heap[w.heap.size]? = some (.deferred (some [])))
    W1 ⟨H, V, h0, hcw1, hC.cs.nobox, keepE (fun E hE => (m3 E hE).2) hko1, m4.trans hko1, hL1, hK1⟩ (fun r W ⟨H', V', hI, cw, _⟩ k o hk => cw.view k o (hle r H' V' hI k o hk)) (fun W ⟨H', V', hI, cw, _⟩ k o hk => cw.view k o (hleX H' V' hI k o hk)) ?_).mono ?_
  · rintro r W args hLr ⟨H', V', hI, cw, cs, me, ko, hl, hk⟩
    have hsz : args.size = ps.size := hps args (List.mem_of_getElem? hLr)
    have hy := run_yield (P := P) (args := args) hl (by rw [hrec]; exact hsz)
    refine ⟨fn, _, assign, body, by rw [hy, hrec], roundIn_of_wpIn trivial ?_⟩
    have hx := hr ⟨Γ.w0, Γ.V0, W, some (w.heap.size + 1)⟩ r args H' V' hLr hI bl { tmps := (ps.zip args).foldl (fun tmps (t, a) => tmps.setIfInBounds t a) a.tmps, defers := [] } W
      ⟨by rw [htm, ← setPs_conc, ← Array.foldl_toList, Array.toList_zip], ⟨⟨[], rfl, List.nodup_nil, fun D hD => by simp at hD⟩, KeepsOthers.refl _⟩, cw.cx rfl, cs.cx rfl rfl, setPs_ok _ _ _ hok⟩
    refine wpIn_mono hx ?_
    rintro e a1 Wa ⟨bl1, s1, hC1, hq⟩
    cases e with
    | normal =>
      have hla := hC1.df.2.same _ _ hl rfl
      have hka := hC1.df.2.same _ _ hk rfl
      have hlt : w.heap.size + 1 < Wa.heap.size := (Array.getElem?_eq_some_iff.1 hla).1
      refine ⟨_, run_beginRound hla (by rw [hrec]), ?_⟩
      obtain ⟨W2, hW2⟩ : ∃ W2, W2 = Wa.putObj (w.heap.size + 1) (.loop { rec .ready none with state := .busy }) := ⟨_, rfl⟩
      rw [← hW2]
      have hl2 : W2.heap[w.heap.size + 1]? = some (.loop { rec .ready none with state := .busy }) := by rw [hW2]; exact World.putObj_heap_same hlt
      have hk2 : W2.heap[w.heap.size]? = some (.deferred (some [])) := by rw [hW2]; exact (World.putObj_heap_other (by omega)).trans hka
      have hb := hq ⟨Γ.w0, Γ.V0, W2, some (w.heap.size + 1)⟩ bl1 a1 W2 ⟨hC1.tm, by
        rw [hW2]; exact mk_turn hC1.df hla (fun d h => by cases h) rfl rfl ⟨_, rfl⟩, by
        rw [hW2]; exact (CW.turn (Γ := ⟨Γ.w0, Γ.V0, W, some (w.heap.size + 1)⟩) hΓ.2 hC1.cw hC1.cs hla rfl (Nat.le_trans hws (Nat.le_succ _)) _).cx rfl, hC1.cs.cx rfl rfl, hC1.ok⟩
      refine wpIn_mono hb ?_
      rintro e a3 W3 ⟨bl3, s3, hC3, hq3⟩
      have hl3 := hC3.df.2.same _ _ hl2 rfl
      have hk3 := hC3.df.2.same _ _ hk2 rfl
      have hlt3 : w.heap.size + 1 < W3.heap.size := (Array.getElem?_eq_some_iff.1 hl3).1
      have hend := fun jump : Option Code => run_endRound (P := P) jump hl3
      have me3 : ∀ E ∈ ms, W3.heap[E]? = some (.deferred (some [])) := keepE (by rw [hW2]; exact putE _ (keepE me hC1.df.2)) hC3.df.2
      have ko3 : KeepsOthers Γ.w1 W3 := KeepsOthers.trans (by rw [hW2]; exact others_put (ko.trans hC1.df.2) (by omega) _) hC3.df.2
      have fin4 : ∀ o : Obj, CW Γ bl [] s3.H s3.V (W3.putObj (w.heap.size + 1) o) ∧ CS Γ bl [] s3.H s3.V ∧ (∀ E ∈ ms, (W3.putObj (w.heap.size + 1) o).heap[E]? = some (.deferred (some []))) ∧ KeepsOthers Γ.w1 (W3.putObj (w.heap.size + 1) o) ∧ (W3.putObj (w.heap.size + 1) o).heap[w.heap.size + 1]? = some o ∧ (W3.putObj (w.heap.size + 1) o).heap[w.heap.size]? = some (.deferred (some [])) := fun o => by
        have c0 : CS Γ bl [] s3.H s3.V := (hC3.cs.cx (Γ' := Γ) rfl rfl).nobox
        exact ⟨((hC3.cw.cx (Γ' := Γ) rfl).nobox).turn hΓ.2 c0 hl3 rfl (by omega) o, c0, putE o me3, others_put ko3 (by omega) o, World.putObj_heap_same hlt3, (World.putObj_heap_other (by omega)).trans hk3⟩
      cases e with
      | normal =>
        obtain ⟨f1, f2, f3, f4, f5, f6⟩ := fin4 (.loop (rec .ready none))
        refine ⟨_, _, hend none, .inl ⟨rfl, s3.H, s3.V, hq3, ?_⟩⟩
        rw [hrec] at f1 f3 f4 f5 f6 ⊢
        exact ⟨f1, f2, f3, f4, f5, f6⟩
      | ret =>
        obtain ⟨f1, f2, f3, f4, f5, f6⟩ := fin4 (.loop (rec .done (some .ret)))
        refine ⟨_, _, hend (some .ret), .inr ⟨rfl, s3.H, s3.V, hq3, ?_⟩⟩
        rw [hrec] at f1 f3 f4 f5 f6 ⊢
        exact ⟨f1, f2, f3, f4, f5, f6⟩
      | _ => exact hq3.elim
    | _ => exact hq.elim
  · rintro e W2 ⟨⟨v, rfl⟩, (⟨H', V', hI, cw, cs, me, ko, hl, hk⟩ | ⟨H', V', hI, cw, cs, me, ko, hl, hk⟩)⟩
    · have he := run_endLoop (P := P) hl (by rw [hrec]; simp)
      rw [hrec] at he
      refine ⟨none, _, he, ?_⟩
      exact ⟨bl, _, fini _ H' V' (cw.turn hΓ.2 cs hl rfl (by omega) _) cs (putE _ me) (others_put ko (by omega) _) ((World.putObj_heap_other (by omega)).trans hk), hdone H' V' hI⟩
    · have he := run_endLoop (P := P) hl (by rw [hrec]; simp)
      rw [hrec] at he
      refine ⟨some .ret, _, he, ?_⟩
      exact wpIn_ret ⟨bl, _, fini _ H' V' (cw.turn hΓ.2 cs hl rfl (by omega) _) cs (putE _ me) (others_put ko (by omega) _) ((World.putObj_heap_other (by omega)).trans hk), hstop H' V' hI⟩
end Go.Proofs.YthoboehbadmlmaaGreat
end
