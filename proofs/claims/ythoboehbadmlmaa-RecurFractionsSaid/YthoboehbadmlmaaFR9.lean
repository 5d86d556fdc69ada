/- The recurrence package's Fraction, Series and Sum agree with the reference's, errors included. (part 9 of 12) -/
import Derived.OrdersHeld
import Derived.Below
import Derived.Tactics
import Derived.KernelRfl
import Derived.RangeFuncCalls
import Derived.RangeFuncFrom
import Derived.RangeFuncLeaves
import Derived.OrdersIn
import Derived.Laws.AppendOwn
import Derived.Laws.MakeOwn
import Derived.Laws.CopyRow
import Derived.Laws.Cells
import Derived.Laws.World
import Derived.Laws.Alloc2
import Derived.Laws.NewBlocks
import Derived.Maps.AppendAt
import Derived.Test.YthoboehbadmlmaaProg
import Init.Data.List.Lemmas
import Init.Omega
import Derived.Test.YthoboehbadmlmaaFR8
section
namespace Go.Proofs.Ythoboehbadmlmaa
open Go Go.RowKit
set_option linter.unusedSimpArgs false
set_option linter.unusedVariables false
attribute [local irreducible] XWP Spec SpecO XPub XCall seqX clX apX stX ldX iaX slX
theorem dvalid_c (V : View) (v : Value) (l : List Raw) (h : Raws V v l) (f : fitR l) (ll : l.length ≤ 1000000) : Spec Try.prog 59 [v] V fun v' V' => v' = .bool (okR l) := by
  obtain ⟨A, c, rfl, hc, hm⟩ := h.form
  refine (Spec.enter Try.func59 rfl fun Γ => ?_)
  simp only [Try.ntmps59, List.map_cons, List.map_nil, List.length_cons, List.length_nil, Nat.reduceAdd, Nat.reduceSub, List.replicate_succ, List.replicate_zero, List.cons_append, List.nil_append]
  first | refine Gx.a (by kernel_rfl) fun K hK => ?_ | refine Gx.b (by kernel_rfl) fun K hK => ?_ | refine Gx.c (by kernel_rfl) fun K hK => ?_
  simp only [XA, XB, gateX, Nat.reduceAdd, Nat.reduceLeDiff, Nat.reduceSub, Nat.reduceMul, ↓reduceIte, Int.reduceToNat, Int.reduceLE, beq_self_eq_true]
  refine hK _ ?_
  refine XWP.cutD 0 (fun s => ∃ V2, StIs (fun Z => [Z 0,Z 1,Z 2,Z 3,Z 4,Z 5,Z 6,Z 7,Z 8,Z 9,Z 10,Z 11,Z 12,Z 13,Z 14]) [] (fun _ => none) V2 s ∧ okR l = true) ?_ ?_
  · first | refine Gx.a (by kernel_rfl) fun K hK => ?_ | refine Gx.b (by kernel_rfl) fun K hK => ?_ | refine Gx.c (by kernel_rfl) fun K hK => ?_
    simp only [XA, XB, gateX, Nat.reduceAdd, Nat.reduceLeDiff, Nat.reduceSub, Nat.reduceMul, ↓reduceIte, Int.reduceToNat, Int.reduceLE, beq_self_eq_true]
    refine hK _ ?_
    clear hK
    first | refine XWP.block ?_ | refine XWP.seq (XWP.block ?_)
    refine XWP.loopD 0 (fun n s => ∃ (k : Nat) (V2 : View), StIs (fun Z => [.v (.slice A l.length c), Z 1,Z 2,Z 3,Z 4, .v (.slice A l.length c), .v (.int .i64 (l.length : Int)), .v (.int .i64 (k : Int)), Z 8,Z 9,Z 10,Z 11,Z 12,Z 13,Z 14]) [] (fun _ => none) V2 s ∧ V.le V2 ∧ n + k = l.length ∧ okR (l.take k) = true) l.length ⟨0, V, StIs.of (by exact rfl), View.le_refl _, rfl, by simp [okR]⟩ ?_
    rintro n s ⟨k, V2, hs, hV2, hn, hk⟩
    obtain ⟨u, rfl⟩ := hs.out
    try dsimp only
    by_cases hlt : k < l.length
    · have b1 : decide ((k : Int) < (l.length : Int)) = true := decide_eq_true (by omega)
      first | refine Gx.a (by kernel_rfl) fun K hK => ?_ | refine Gx.b (by kernel_rfl) fun K hK => ?_ | refine Gx.c (by kernel_rfl) fun K hK => ?_
      simp only [XA, XB, gateX, Nat.reduceAdd, Nat.reduceLeDiff, Nat.reduceSub, Nat.reduceMul, ↓reduceIte, Int.reduceToNat, Int.reduceLE, beq_self_eq_true, b1]
      refine hK _ ?_
      first | refine Gx.t rfl ?_ | refine XWP.seq (Gx.t rfl ?_)
      refine XWP.skip ?_
      refine XWP.seq ?_
      first | refine XWP.block ?_ | refine XWP.seq (XWP.block ?_)
      first | refine Gx.a (by kernel_rfl) fun K hK => ?_ | refine Gx.b (by kernel_rfl) fun K hK => ?_ | refine Gx.c (by kernel_rfl) fun K hK => ?_
      have hv2 := Raws.up h hV2
      obtain ⟨b, o, rfl⟩ := SlAt.addr hv2 (by omega)
      obtain ⟨x, hx, ⟨m3, n3, d3, rfl, p1, p2, p3⟩, hld⟩ := SlAt.load hv2 k hlt
      simp only [XA, XB, gateX, Nat.reduceAdd, Nat.reduceLeDiff, Nat.reduceSub, Nat.reduceMul, ↓reduceIte, Int.reduceToNat, Int.reduceLE, beq_self_eq_true]
      refine ⟨by omega, by omega, ld_mem (hld _) ?_⟩
      simp only [XA, XB, gateX, Nat.reduceAdd, Nat.reduceLeDiff, Nat.reduceSub, Nat.reduceMul, ↓reduceIte, Int.reduceToNat, Int.reduceLE, beq_self_eq_true]
      refine st_rat rfl rfl p1 p2 p3 ?_
      simp only [XA, XB, gateX, Nat.reduceAdd, Nat.reduceLeDiff, Nat.reduceSub, Nat.reduceMul, ↓reduceIte, Int.reduceToNat, Int.reduceLE, beq_self_eq_true]
      refine hK _ ?_
      have ff := f _ (List.getElem_mem hlt)
      first | refine Gx.a (by kernel_rfl) fun K hK => ?_ | refine Gx.b (by kernel_rfl) fun K hK => ?_ | refine Gx.c (by kernel_rfl) fun K hK => ?_
      simp only [XA, XB, gateX, Nat.reduceAdd, Nat.reduceLeDiff, Nat.reduceSub, Nat.reduceMul, ↓reduceIte, Int.reduceToNat, Int.reduceLE, beq_self_eq_true]
      refine call_go (by kernel_rfl) rfl (pright_c _ _ _ _ _ hx ff.1 ff.2) fun v3 V3 hV3 h3 => ?_
      subst h3
      have et : l.take (k + 1) = l.take k ++ [l[k]] := by rw [List.take_succ_eq_append_getElem hlt]
      cases hr : rawOk l[k].m l[k].nd l[k].dd
      · simp only [XA, XB, gateX, Nat.reduceAdd, Nat.reduceLeDiff, Nat.reduceSub, Nat.reduceMul, ↓reduceIte, Int.reduceToNat, Int.reduceLE, beq_self_eq_true]
        refine hK _ ?_
        first | refine Gx.t rfl ?_ | refine XWP.seq (Gx.t rfl ?_)
        first | refine Gx.a (by kernel_rfl) fun K hK => ?_ | refine Gx.b (by kernel_rfl) fun K hK => ?_ | refine Gx.c (by kernel_rfl) fun K hK => ?_
        simp only [XA, XB, gateX, Nat.reduceAdd, Nat.reduceLeDiff, Nat.reduceSub, Nat.reduceMul, ↓reduceIte, Int.reduceToNat, Int.reduceLE, beq_self_eq_true]
        refine hK _ (XWP.ret ?_)
        try simp only [thenX_ret, inBlockX_ret]
        refine ret_go _ rfl ?_
        have : okR l = false := by
          unfold okR
          rw [List.all_eq_false]
          exact ⟨l[k], List.getElem_mem hlt, by unfold Raw.ok; rw [hr]; simp⟩
        rw [this]; rfl
      · simp only [XA, XB, gateX, Nat.reduceAdd, Nat.reduceLeDiff, Nat.reduceSub, Nat.reduceMul, ↓reduceIte, Int.reduceToNat, Int.reduceLE, beq_self_eq_true]
        refine hK _ ?_
        first | refine Gx.f rfl ?_ | refine XWP.seq (Gx.f rfl ?_)
        refine XWP.skip ?_
        first | refine Gx.a (by kernel_rfl) fun K hK => ?_ | refine Gx.b (by kernel_rfl) fun K hK => ?_ | refine Gx.c (by kernel_rfl) fun K hK => ?_
        simp only [XA, XB, gateX, Nat.reduceAdd, Nat.reduceLeDiff, Nat.reduceSub, Nat.reduceMul, ↓reduceIte, Int.reduceToNat, Int.reduceLE, beq_self_eq_true, i64_succ k (by omega)]
        refine hK _ ⟨n - 1, by omega, fun f => ⟨k + 1, V3, StIs.of (by exact rfl), View.le_trans hV2 hV3, by omega, ?_⟩⟩
        unfold okR at hk ⊢
        rw [et, List.all_append, hk]
        simp [Raw.ok, hr]
    · have b1 : decide ((k : Int) < (l.length : Int)) = false := decide_eq_false (by omega)
      first | refine Gx.a (by kernel_rfl) fun K hK => ?_ | refine Gx.b (by kernel_rfl) fun K hK => ?_ | refine Gx.c (by kernel_rfl) fun K hK => ?_
      simp only [XA, XB, gateX, Nat.reduceAdd, Nat.reduceLeDiff, Nat.reduceSub, Nat.reduceMul, ↓reduceIte, Int.reduceToNat, Int.reduceLE, beq_self_eq_true, b1]
      refine hK _ ?_
      first | refine Gx.f rfl ?_ | refine XWP.seq (Gx.f rfl ?_)
      refine XWP.exit ?_
      rw [List.take_of_length_le (by omega)] at hk
      exact fun f => ⟨V2, StIs.of (by exact rfl), hk⟩
  rintro s ⟨V2, hs, hk⟩
  obtain ⟨u, rfl⟩ := hs.out
  try dsimp only
  first | refine Gx.a (by kernel_rfl) fun K hK => ?_ | refine Gx.b (by kernel_rfl) fun K hK => ?_ | refine Gx.c (by kernel_rfl) fun K hK => ?_
  simp only [XA, XB, gateX, Nat.reduceAdd, Nat.reduceLeDiff, Nat.reduceSub, Nat.reduceMul, ↓reduceIte, Int.reduceToNat, Int.reduceLE, beq_self_eq_true]
  refine hK _ (XWP.ret ?_)
  try simp only [thenX_ret, inBlockX_ret]
  refine ret_go _ rfl ?_
  rw [hk]; rfl
/-- small enough for every operation -/
def qfR (l : List Raw) : Prop := okR l = true → ∀ x ∈ qs l, QF x
theorem dright_c (V : View) (v : Value) (l : List Raw) (h : Raws V v l) (f : fitR l) (ll : l.length ≤ 1000000) (hq : qfR l) : Spec Try.prog 33 [v] V fun v' V' => v' = .bool (rightP l) := by
  obtain ⟨A, c, rfl, hc, hm⟩ := h.form
  refine (Spec.enter Try.func33 rfl fun Γ => ?_)
  simp only [Try.ntmps33, List.map_cons, List.map_nil, List.length_cons, List.length_nil, Nat.reduceAdd, Nat.reduceSub, List.replicate_succ, List.replicate_zero, List.cons_append, List.nil_append]
  first | refine Gx.a (by kernel_rfl) fun K hK => ?_ | refine Gx.b (by kernel_rfl) fun K hK => ?_ | refine Gx.c (by kernel_rfl) fun K hK => ?_
  simp only [XA, XB, gateX, Nat.reduceAdd, Nat.reduceLeDiff, Nat.reduceSub, Nat.reduceMul, ↓reduceIte, Int.reduceToNat, Int.reduceLE, beq_self_eq_true]
  refine hK _ ?_
  first | refine Gx.a (by kernel_rfl) fun K hK => ?_ | refine Gx.b (by kernel_rfl) fun K hK => ?_ | refine Gx.c (by kernel_rfl) fun K hK => ?_
  by_cases h1 : l.length ≤ 1000
  · have b1 : decide ((l.length : Int) ≤ 1000) = true := decide_eq_true (by omega)
    simp only [XA, XB, gateX, Nat.reduceAdd, Nat.reduceLeDiff, Nat.reduceSub, Nat.reduceMul, ↓reduceIte, Int.reduceToNat, Int.reduceLE, beq_self_eq_true, b1]
    refine call_go (by kernel_rfl) rfl (dvalid_c _ _ _ h f ll) fun v1 V1 hV1 h1' => ?_
    subst h1'
    cases hk : okR l
    · simp only [XA, XB, gateX, Nat.reduceAdd, Nat.reduceLeDiff, Nat.reduceSub, Nat.reduceMul, ↓reduceIte, Int.reduceToNat, Int.reduceLE, beq_self_eq_true]
      refine hK _ (XWP.ret ?_)
      try simp only [thenX_ret, inBlockX_ret]
      refine ret_go _ rfl ?_
      unfold rightP; rw [hk, decide_eq_true h1]; rfl
    by_cases h0 : l.length = 0
    · have b2 : decide ((l.length : Int) = 0) = true := decide_eq_true (by omega)
      simp only [XA, XB, gateX, Nat.reduceAdd, Nat.reduceLeDiff, Nat.reduceSub, Nat.reduceMul, ↓reduceIte, Int.reduceToNat, Int.reduceLE, beq_self_eq_true, b2]
      refine hK _ (XWP.ret ?_)
      try simp only [thenX_ret, inBlockX_ret]
      refine ret_go _ rfl ?_
      unfold rightP polB; rw [hk, decide_eq_true h1, decide_eq_true (p := (qs l).length = 0) (by rw [qs_len]; exact h0)]; rfl
    · have b2 : decide ((l.length : Int) = 0) = false := decide_eq_false (by omega)
      have w1 := i64_pred l.length (by omega) (by omega)
      have hr := (Raws.rats h hk).up hV1
      obtain ⟨b, o, rfl⟩ := h.addr (by omega)
      obtain ⟨m3, n3, d3, hx, ⟨p1, p2, p3⟩, hld⟩ := Rats.get hr (l.length - 1) (by rw [qs_len]; omega)
      simp only [XA, XB, gateX, Nat.reduceAdd, Nat.reduceLeDiff, Nat.reduceSub, Nat.reduceMul, ↓reduceIte, Int.reduceToNat, Int.reduceLE, beq_self_eq_true, b2, w1]
      refine ⟨by omega, by omega, ld_mem (hld _) ?_⟩
      simp only [XA, XB, gateX, Nat.reduceAdd, Nat.reduceLeDiff, Nat.reduceSub, Nat.reduceMul, ↓reduceIte, Int.reduceToNat, Int.reduceLE, beq_self_eq_true]
      refine call_go (by kernel_rfl) rfl (psign_c _ _ _ (hx.toV (hq hk _ (cf_mem (by rw [qs_len]; omega))))) fun v2 V2 hV2 h2 => ?_
      subst h2
      simp only [XA, XB, gateX, Nat.reduceAdd, Nat.reduceLeDiff, Nat.reduceSub, Nat.reduceMul, ↓reduceIte, Int.reduceToNat, Int.reduceLE, beq_self_eq_true, sgI_zero]
      refine hK _ (XWP.ret ?_)
      try simp only [thenX_ret, inBlockX_ret]
      refine ret_go _ rfl ?_
      unfold rightP polB; rw [hk, decide_eq_true h1, qs_len, decide_eq_false (p := l.length = 0) h0]; rfl
  · have b1 : decide ((l.length : Int) ≤ 1000) = false := decide_eq_false (by omega)
    simp only [XA, XB, gateX, Nat.reduceAdd, Nat.reduceLeDiff, Nat.reduceSub, Nat.reduceMul, ↓reduceIte, Int.reduceToNat, Int.reduceLE, beq_self_eq_true, b1]
    refine hK _ (XWP.ret ?_)
    try simp only [thenX_ret, inBlockX_ret]
    refine ret_go _ rfl ?_
    unfold rightP; rw [decide_eq_false h1]; rfl
theorem dcut_c (V : View) (v : Value) (l : List Rat) (h : Rats V v l) (hq : ∀ x ∈ l, QF x) (ll : l.length ≤ 1000000) : Spec Try.prog 92 [v] V fun v' V' => Rats V' v' (trimQ l) := by
  obtain ⟨A, c, rfl, hc, hm⟩ := h.form
  refine (Spec.enter Try.func92 rfl fun Γ => ?_)
  simp only [Try.ntmps92, List.map_cons, List.map_nil, List.length_cons, List.length_nil, Nat.reduceAdd, Nat.reduceSub, List.replicate_succ, List.replicate_zero, List.cons_append, List.nil_append]
  first | refine Gx.a (by kernel_rfl) fun K hK => ?_ | refine Gx.b (by kernel_rfl) fun K hK => ?_ | refine Gx.c (by kernel_rfl) fun K hK => ?_
  simp only [XA, XB, gateX, Nat.reduceAdd, Nat.reduceLeDiff, Nat.reduceSub, Nat.reduceMul, ↓reduceIte, Int.reduceToNat, Int.reduceLE, beq_self_eq_true]
  refine hK _ ?_
  first | refine Gx.a (by kernel_rfl) fun K hK => ?_ | refine Gx.b (by kernel_rfl) fun K hK => ?_ | refine Gx.c (by kernel_rfl) fun K hK => ?_
  simp only [XA, XB, gateX, Nat.reduceAdd, Nat.reduceLeDiff, Nat.reduceSub, Nat.reduceMul, ↓reduceIte, Int.reduceToNat, Int.reduceLE, beq_self_eq_true]
  refine hK _ ?_
  clear hK
  refine XWP.cut (fun s => ∃ (k : Nat) (V2 : View), StIs (fun Z => [.v (.slice A l.length c), Z 1,Z 2, .v (.int .i64 (k : Int)), Z 4,Z 5,Z 6,Z 7,Z 8,Z 9,Z 10,Z 11,Z 12,Z 13,Z 14,Z 15,Z 16,Z 17,Z 18,Z 19,Z 20,Z 21,Z 22,Z 23]) [] (fun _ => none) V2 s ∧ V.le V2 ∧ k ≤ l.length ∧ l.take k = trimQ l) ?_ ?_
  · first | refine XWP.block ?_ | refine XWP.seq (XWP.block ?_)
    refine XWP.loop (fun k s => ∃ (V2 : View), StIs (fun Z => [.v (.slice A l.length c), Z 1,Z 2, .v (.int .i64 (k : Int)), Z 4,Z 5,Z 6,Z 7,Z 8,Z 9,Z 10,Z 11,Z 12,Z 13,Z 14,Z 15,Z 16,Z 17,Z 18,Z 19,Z 20,Z 21,Z 22,Z 23]) [] (fun _ => none) V2 s ∧ V.le V2 ∧ k ≤ l.length ∧ trimQ (l.take k) = trimQ l) l.length ⟨V, StIs.of (by exact rfl), View.le_refl _, Nat.le_refl _, by simp⟩ ?_
    rintro k s ⟨V2, hs, hV2, hk, ht⟩
    obtain ⟨u, rfl⟩ := hs.out
    try dsimp only
    refine XWP.seq ?_
    by_cases h0 : k = 0
    · subst h0
      have b1 : decide ((0 : Int) < ((0 : Nat) : Int)) = false := decide_eq_false (by omega)
      first | refine Gx.a (by kernel_rfl) fun K hK => ?_ | refine Gx.b (by kernel_rfl) fun K hK => ?_ | refine Gx.c (by kernel_rfl) fun K hK => ?_
      simp only [XA, XB, gateX, Nat.reduceAdd, Nat.reduceLeDiff, Nat.reduceSub, Nat.reduceMul, ↓reduceIte, Int.reduceToNat, Int.reduceLE, beq_self_eq_true, b1]
      refine hK _ ?_
      first | refine Gx.f rfl ?_ | refine XWP.seq (Gx.f rfl ?_)
      refine XWP.exit ?_
      exact ⟨0, V2, StIs.of (by exact rfl), hV2, hk, ht⟩
    · have b1 : decide ((0 : Int) < (k : Int)) = true := decide_eq_true (by omega)
      obtain ⟨b, o, rfl⟩ := h.addr (by omega)
      obtain ⟨m, n, d, hx, ⟨o1, o2, o3⟩, hld⟩ := Rats.get (h.up hV2) (k - 1) (by omega)
      have w1 := i64_pred k (by omega) (by omega)
      have ek : l.take k = l.take (k - 1) ++ [cf l (k - 1)] := by rw [← takeQ_snoc (by omega)]; congr 1; omega
      first | refine Gx.a (by kernel_rfl) fun K hK => ?_ | refine Gx.b (by kernel_rfl) fun K hK => ?_ | refine Gx.c (by kernel_rfl) fun K hK => ?_
      simp only [XA, XB, gateX, Nat.reduceAdd, Nat.reduceLeDiff, Nat.reduceSub, Nat.reduceMul, ↓reduceIte, Int.reduceToNat, Int.reduceLE, beq_self_eq_true, b1, w1]
      refine ⟨by omega, by omega, ld_mem (hld _) ?_⟩
      simp only [XA, XB, gateX, Nat.reduceAdd, Nat.reduceLeDiff, Nat.reduceSub, Nat.reduceMul, ↓reduceIte, Int.reduceToNat, Int.reduceLE, beq_self_eq_true]
      refine call_go (by kernel_rfl) rfl (psign_c _ _ _ (hx.toV (hq _ (cf_mem (by omega))))) fun v3 V3 hV3 h3 => ?_
      subst h3
      by_cases hz : cf l (k - 1) = 0
      · have b2 : decide (cf l (k - 1) = 0) = true := decide_eq_true hz
        simp only [XA, XB, gateX, Nat.reduceAdd, Nat.reduceLeDiff, Nat.reduceSub, Nat.reduceMul, ↓reduceIte, Int.reduceToNat, Int.reduceLE, beq_self_eq_true, sgI_zero, b2]
        refine hK _ ?_
        first | refine Gx.t rfl ?_ | refine XWP.seq (Gx.t rfl ?_)
        refine XWP.skip ?_
        first | refine XWP.block ?_ | refine XWP.seq (XWP.block ?_)
        first | refine Gx.a (by kernel_rfl) fun K hK => ?_ | refine Gx.b (by kernel_rfl) fun K hK => ?_ | refine Gx.c (by kernel_rfl) fun K hK => ?_
        simp only [XA, XB, gateX, Nat.reduceAdd, Nat.reduceLeDiff, Nat.reduceSub, Nat.reduceMul, ↓reduceIte, Int.reduceToNat, Int.reduceLE, beq_self_eq_true, w1]
        refine hK _ ⟨k - 1, by omega, V3, StIs.of (by exact rfl), View.le_trans hV2 hV3, by omega, ?_⟩
        rw [← ht, ek, hz, trimQ_snoc_zero]
      · have b2 : decide (cf l (k - 1) = 0) = false := decide_eq_false hz
        simp only [XA, XB, gateX, Nat.reduceAdd, Nat.reduceLeDiff, Nat.reduceSub, Nat.reduceMul, ↓reduceIte, Int.reduceToNat, Int.reduceLE, beq_self_eq_true, sgI_zero, b2]
        refine hK _ ?_
        first | refine Gx.f rfl ?_ | refine XWP.seq (Gx.f rfl ?_)
        refine XWP.exit ?_
        refine ⟨k, V3, StIs.of (by exact rfl), View.le_trans hV2 hV3, hk, ?_⟩
        rw [← ht, ek, trimQ_snoc _ _ hz]
  rintro s ⟨k, V2, hs, hV2, hk, ht⟩
  obtain ⟨u, rfl⟩ := hs.out
  try dsimp only
  obtain ⟨cells, hrow, hsrc⟩ := SlAt.src (SlAt.take (h.up hV2) hk)
  have hkl : (l.take k).length = k := by simp [Nat.min_eq_left hk]
  rw [hkl] at hsrc
  first | refine Gx.a (by kernel_rfl) fun K hK => ?_ | refine Gx.b (by kernel_rfl) fun K hK => ?_ | refine Gx.c (by kernel_rfl) fun K hK => ?_
  refine bs_go (by kernel_rfl) #[] (by simp) (bs_zero elemT_40 zeroT_34) fun b hb1 hb2 => ?_
  simp only [XA, XB, gateX, Nat.reduceAdd, Nat.reduceLeDiff, Nat.reduceSub, Nat.reduceMul, ↓reduceIte, Int.reduceToNat, Int.reduceLE, beq_self_eq_true]
  refine ⟨by omega, by omega, by omega, ?_⟩
  refine ap_go elemT_40 (by kernel_rfl) zeroT_34 rfl (by omega) (n := 0) (xs := []) (own3 (by simp [upd]) rfl (Nat.le_refl _) (by omega)) (hsrc _) (by omega) (by omega) fun v' H' hres => ?_
  simp only [XA, XB, gateX, Nat.reduceAdd, Nat.reduceLeDiff, Nat.reduceSub, Nat.reduceMul, ↓reduceIte, Int.reduceToNat, Int.reduceLE, beq_self_eq_true]
  refine hK _ (XWP.ret ?_)
  try simp only [thenX_ret, inBlockX_ret]
  obtain ⟨hown, _, _⟩ := hres
  simp only [List.nil_append, Nat.zero_add] at hown
  rw [← ht]
  rcases own_parts hown with ⟨rfl, hn, _⟩ | ⟨g, cap, rfl, hg, hle, hcap, _⟩
  · refine ret_go _ rfl ?_
    have : k = 0 := hn
    subst this
    rw [List.take_zero]; exact SlAt.nil _
  · refine ret_pub g _ hg fun o ho hle' => ret_go _ rfl ?_
    exact hrow.pub ratE_ok ho hle' hkl hle (by unfold maxLen at hcap; omega)
def cfZ (l : List Rat) (i : Int) : Rat := if i < 0 then 0 else cf l i.toNat
theorem cfZ_nat (l : List Rat) (i : Nat) : cfZ l (i : Int) = cf l i := by unfold cfZ; rw [if_neg (by omega)]; rfl
theorem dat_c (V : View) (v : Value) (l : List Rat) (i : Int) (h : Rats V v l) (hi : i ≤ 4611686018427387904) : Spec Try.prog 94 [v, .int .i64 i] V fun v' V' => RatC V' v' (cfZ l i) := by
  obtain ⟨A, c, rfl, hc, hm⟩ := h.form
  refine (Spec.enter Try.func94 rfl fun Γ => ?_)
  simp only [Try.ntmps94, List.map_cons, List.map_nil, List.length_cons, List.length_nil, Nat.reduceAdd, Nat.reduceSub, List.replicate_succ, List.replicate_zero, List.cons_append, List.nil_append]
  first | refine Gx.a (by kernel_rfl) fun K hK => ?_ | refine Gx.b (by kernel_rfl) fun K hK => ?_ | refine Gx.c (by kernel_rfl) fun K hK => ?_
  simp only [XA, XB, gateX, Nat.reduceAdd, Nat.reduceLeDiff, Nat.reduceSub, Nat.reduceMul, ↓reduceIte, Int.reduceToNat, Int.reduceLE, beq_self_eq_true]
  refine hK _ ?_
  refine XWP.seq ?_
  by_cases h0 : i < 0
  · have b1 : decide (i < 0) = true := decide_eq_true h0
    first | refine Gx.a (by kernel_rfl) fun K hK => ?_ | refine Gx.b (by kernel_rfl) fun K hK => ?_ | refine Gx.c (by kernel_rfl) fun K hK => ?_
    simp only [XA, XB, gateX, Nat.reduceAdd, Nat.reduceLeDiff, Nat.reduceSub, Nat.reduceMul, ↓reduceIte, Int.reduceToNat, Int.reduceLE, beq_self_eq_true, b1]
    refine hK _ ?_
    first | refine Gx.t rfl ?_ | refine XWP.seq (Gx.t rfl ?_)
    first | refine Gx.a (by kernel_rfl) fun K hK => ?_ | refine Gx.b (by kernel_rfl) fun K hK => ?_ | refine Gx.c (by kernel_rfl) fun K hK => ?_
    simp only [XA, XB, gateX, Nat.reduceAdd, Nat.reduceLeDiff, Nat.reduceSub, Nat.reduceMul, ↓reduceIte, Int.reduceToNat, Int.reduceLE, beq_self_eq_true]
    refine call_go (by kernel_rfl) rfl (pzero_c _) fun v1 V1 hV1 h1 => ?_
    obtain ⟨x, y, rfl, hx, hy⟩ := h1
    simp only [XA, XB, gateX, Nat.reduceAdd, Nat.reduceLeDiff, Nat.reduceSub, Nat.reduceMul, ↓reduceIte, Int.reduceToNat, Int.reduceLE, beq_self_eq_true]
    refine st_rat rfl rfl rfl hx.one hy.one ?_
    simp only [XA, XB, gateX, Nat.reduceAdd, Nat.reduceLeDiff, Nat.reduceSub, Nat.reduceMul, ↓reduceIte, Int.reduceToNat, Int.reduceLE, beq_self_eq_true]
    refine hK _ (XWP.ret ?_)
    try simp only [thenX_ret, inBlockX_ret]
    refine ret_rat1 rfl rfl rfl ?_
    unfold cfZ; rw [if_pos h0]
    exact ⟨_, _, rfl, hx, hy⟩
  have b1 : decide (i < 0) = false := decide_eq_false h0
  obtain ⟨k, rfl⟩ := Int.eq_ofNat_of_zero_le (show 0 ≤ i by omega)
  rw [cfZ_nat]
  by_cases hlt : k < l.length
  · have b2 : decide ((l.length : Int) ≤ (k : Int)) = false := decide_eq_false (by omega)
    obtain ⟨b, o, rfl⟩ := h.addr (by omega)
    obtain ⟨m, n, d, hx, ⟨o1, o2, o3⟩, hld⟩ := Rats.get h k hlt
    first | refine Gx.a (by kernel_rfl) fun K hK => ?_ | refine Gx.b (by kernel_rfl) fun K hK => ?_ | refine Gx.c (by kernel_rfl) fun K hK => ?_
    simp only [XA, XB, gateX, Nat.reduceAdd, Nat.reduceLeDiff, Nat.reduceSub, Nat.reduceMul, ↓reduceIte, Int.reduceToNat, Int.reduceLE, beq_self_eq_true, b1, b2]
    refine hK _ ?_
    first | refine Gx.f rfl ?_ | refine XWP.seq (Gx.f rfl ?_)
    refine XWP.skip ?_
    first | refine Gx.a (by kernel_rfl) fun K hK => ?_ | refine Gx.b (by kernel_rfl) fun K hK => ?_ | refine Gx.c (by kernel_rfl) fun K hK => ?_
    simp only [XA, XB, gateX, Nat.reduceAdd, Nat.reduceLeDiff, Nat.reduceSub, Nat.reduceMul, ↓reduceIte, Int.reduceToNat, Int.reduceLE, beq_self_eq_true]
    refine ⟨by omega, by omega, ld_mem (hld _) ?_⟩
    simp only [XA, XB, gateX, Nat.reduceAdd, Nat.reduceLeDiff, Nat.reduceSub, Nat.reduceMul, ↓reduceIte, Int.reduceToNat, Int.reduceLE, beq_self_eq_true]
    refine st_rat rfl rfl o1 o2 o3 ?_
    simp only [XA, XB, gateX, Nat.reduceAdd, Nat.reduceLeDiff, Nat.reduceSub, Nat.reduceMul, ↓reduceIte, Int.reduceToNat, Int.reduceLE, beq_self_eq_true]
    refine hK _ (XWP.ret ?_)
    try simp only [thenX_ret, inBlockX_ret]
    exact ret_rat1 rfl rfl rfl hx
  · have b2 : decide ((l.length : Int) ≤ (k : Int)) = true := decide_eq_true (by omega)
    first | refine Gx.a (by kernel_rfl) fun K hK => ?_ | refine Gx.b (by kernel_rfl) fun K hK => ?_ | refine Gx.c (by kernel_rfl) fun K hK => ?_
    simp only [XA, XB, gateX, Nat.reduceAdd, Nat.reduceLeDiff, Nat.reduceSub, Nat.reduceMul, ↓reduceIte, Int.reduceToNat, Int.reduceLE, beq_self_eq_true, b1, b2]
    refine hK _ ?_
    first | refine Gx.t rfl ?_ | refine XWP.seq (Gx.t rfl ?_)
    first | refine Gx.a (by kernel_rfl) fun K hK => ?_ | refine Gx.b (by kernel_rfl) fun K hK => ?_ | refine Gx.c (by kernel_rfl) fun K hK => ?_
    simp only [XA, XB, gateX, Nat.reduceAdd, Nat.reduceLeDiff, Nat.reduceSub, Nat.reduceMul, ↓reduceIte, Int.reduceToNat, Int.reduceLE, beq_self_eq_true]
    refine call_go (by kernel_rfl) rfl (pzero_c _) fun v1 V1 hV1 h1 => ?_
    obtain ⟨x, y, rfl, hx, hy⟩ := h1
    simp only [XA, XB, gateX, Nat.reduceAdd, Nat.reduceLeDiff, Nat.reduceSub, Nat.reduceMul, ↓reduceIte, Int.reduceToNat, Int.reduceLE, beq_self_eq_true]
    refine st_rat rfl rfl rfl hx.one hy.one ?_
    simp only [XA, XB, gateX, Nat.reduceAdd, Nat.reduceLeDiff, Nat.reduceSub, Nat.reduceMul, ↓reduceIte, Int.reduceToNat, Int.reduceLE, beq_self_eq_true]
    refine hK _ (XWP.ret ?_)
    try simp only [thenX_ret, inBlockX_ret]
    refine ret_rat1 rfl rfl rfl ?_
    rw [cf_none (by omega)]
    exact ⟨_, _, rfl, hx, hy⟩
end Go.Proofs.Ythoboehbadmlmaa
end
section
namespace Go.Proofs.Ythoboehbadmlmaa
set_option linter.unusedVariables false
def prodP (p q : List Rat) : List Rat := trimQ (mk (p.length + q.length - 1) fun i => offS q p i (i + 1))
def partF (q : List Rat) : Nat → List Rat → List Rat → List Rat × List Rat
  | 0, quo, rest => (quo, rest)
  | n + 1, quo, rest => if q.length ≤ rest.length then partF q n (pAdd quo [1] (topQ rest q) (rest.length - q.length)) (pAdd rest q (-topQ rest q) (rest.length - q.length)) else (quo, rest)
def partP (p q : List Rat) : List Rat × List Rat := partF q ((trimQ p).length + 1) [] (trimQ p)
theorem partF_fuel {q : List Rat} (hq : 0 < q.length) (hl : cf q (q.length - 1) ≠ 0) : ∀ (n m : Nat) (quo rest : List Rat), rest.length < n → rest.length < m → partF q n quo rest = partF q m quo rest := by
  intro n
  induction n with
  | zero => intro m quo rest h; omega
  | succ n ih =>
    intro m quo rest h1 h2
    obtain ⟨m, rfl⟩ : ∃ k, m = k + 1 := ⟨m - 1, by omega⟩
    rw [partF, partF]
    split
    · rename_i h
      have := div_less hq hl h
      exact ih m _ _ (by omega) (by omega)
    · rfl
theorem partF_step {q : List Rat} (hq : 0 < q.length) (hl : cf q (q.length - 1) ≠ 0) {quo rest : List Rat} (h : q.length ≤ rest.length) : partF q (rest.length + 1) quo rest = partF q ((pAdd rest q (-topQ rest q) (rest.length - q.length)).length + 1) (pAdd quo [1] (topQ rest q) (rest.length - q.length)) (pAdd rest q (-topQ rest q) (rest.length - q.length)) := by
  have h1 := div_less hq hl h
  rw [partF, if_pos h]
  exact partF_fuel hq hl _ _ _ _ (by omega) (by omega)
theorem partF_end {q quo rest : List Rat} (h : ¬ q.length ≤ rest.length) : partF q (rest.length + 1) quo rest = (quo, rest) := by rw [partF, if_neg h]
theorem partF_rest {q : List Rat} (hq : 0 < q.length) (hl : cf q (q.length - 1) ≠ 0) : ∀ (n : Nat) (quo rest : List Rat), rest.length < n → PolQ rest → (partF q n quo rest).2.length < q.length ∧ PolQ (partF q n quo rest).2 := by
  intro n
  induction n with
  | zero => intro quo rest h; omega
  | succ n ih =>
    intro quo rest h hp
    rw [partF]
    split
    · rename_i hle
      have := div_less hq hl hle
      exact ih _ _ (by omega) (pAdd_pol _ _ _ _)
    · rename_i hle
      exact ⟨Nat.lt_of_not_le hle, hp⟩
theorem partP_rest {p q : List Rat} (hq : PolQ q) (h0 : 0 < q.length) : (partP p q).2.length < q.length ∧ PolQ (partP p q).2 :=
  partF_rest h0 (hq h0) _ _ _ (by omega) (trimQ_pol _)
def comR : Nat → List Rat → List Rat → List Rat
  | 0, p, _ => p
  | n + 1, p, q => if 0 < q.length then comR n q (partP p q).2 else p
def comRP (p q : List Rat) : List Rat := scaledP (comR (q.length + 1) p q)
theorem comR_fuel : ∀ (n m : Nat) (p q : List Rat), PolQ q → q.length < n → q.length < m → comR n p q = comR m p q := by
  intro n
  induction n with
  | zero => intro m p q _ h; omega
  | succ n ih =>
    intro m p q hq h1 h2
    obtain ⟨m, rfl⟩ : ∃ k, m = k + 1 := ⟨m - 1, by omega⟩
    rw [comR, comR]
    split
    · rename_i h0
      obtain ⟨h3, h4⟩ := partP_rest (p := p) hq h0
      exact ih m _ _ h4 (by omega) (by omega)
    · rfl
theorem comR_step {p q : List Rat} (hq : PolQ q) (h0 : 0 < q.length) : comR (q.length + 1) p q = comR ((partP p q).2.length + 1) q (partP p q).2 := by
  obtain ⟨h3, h4⟩ := partP_rest (p := p) hq h0
  rw [comR, if_pos h0]
  exact comR_fuel _ _ _ _ h4 (by omega) (by omega)
theorem comR_end {p q : List Rat} (h : ¬ 0 < q.length) : comR (q.length + 1) p q = p := by rw [comR, if_neg h]
theorem mk_succ (n : Nat) (f : Nat → Rat) : mk (n + 1) f = mk n f ++ [f n] := by unfold mk; rw [List.range_succ, List.map_append]; rfl
end Go.Proofs.Ythoboehbadmlmaa
end
section
namespace Go.Proofs.Ythoboehbadmlmaa
open Go Go.RowKit
set_option linter.unusedSimpArgs false
set_option linter.unusedVariables false
attribute [local irreducible] XWP Spec SpecO XPub XCall seqX clX apX stX ldX iaX slX
theorem src3 {H : Heap} {V : View} {b e tot : Nat} {m n d : Value} (hr : H b = some ⟨e, [m, n, d], tot⟩) (h1 : isOne m = true) (h2 : isOne n = true) (h3 : isOne d = true) : Src H V 3 (.slice (some ⟨b, 0, none⟩) 1 1) 1 [m, n, d] :=
  RowAt.src (E := optE ratE) (xs := [none]) (RowAt.snoc (RowAt.nil V) (x := none) h1 h2 h3 trivial) hr rfl
theorem cfZ_sub (q : List Rat) (k up : Nat) : cfZ q ((k : Int) - (up : Int)) = if up ≤ k then cf q (k - up) else 0 := by
  unfold cfZ
  by_cases h : up ≤ k
  · rw [if_neg (by omega), if_pos h]; congr 1; omega
  · rw [if_pos (by omega), if_neg h]
theorem dsum_c (V : View) (v u w : Value) (p q : List Rat) (c : Rat) (up A B C : Nat) (hv : Rats V v p) (hu : Rats V u q) (hw : RatC V w c) (hp : CB A p) (hq : CB B q) (hc : QB C c) (hABC : A + B + C + 2 ≤ 17592186044416) (lp : p.length ≤ 1000000) (lq : q.length + up ≤ 1000000) :
    Spec Try.prog 76 [v, u, w, .int .i64 (up : Int)] V fun v' V' => Rats V' v' (pAdd p q c up) := by
  obtain ⟨A1, c1, rfl, hc1, hm1⟩ := hv.form
  obtain ⟨A2, c2, rfl, hc2, hm2⟩ := hu.form
  obtain ⟨xw, yw, rfl, ow1, ow2⟩ := hw.form
  obtain ⟨N, hN⟩ : ∃ N, N = max p.length (q.length + up) := ⟨_, rfl⟩
  refine (Spec.enter Try.func76 rfl fun Γ => ?_)
  simp only [Try.ntmps76, List.map_cons, List.map_nil, List.length_cons, List.length_nil, Nat.reduceAdd, Nat.reduceSub, List.replicate_succ, List.replicate_zero, List.cons_append, List.nil_append]
  first | refine Gx.a (by kernel_rfl) fun K hK => ?_ | refine Gx.b (by kernel_rfl) fun K hK => ?_ | refine Gx.c (by kernel_rfl) fun K hK => ?_
  simp only [XA, XB, gateX, Nat.reduceAdd, Nat.reduceLeDiff, Nat.reduceSub, Nat.reduceMul, ↓reduceIte, Int.reduceToNat, Int.reduceLE, beq_self_eq_true]
  refine hK _ ?_
  first | refine Gx.a (by kernel_rfl) fun K hK => ?_ | refine Gx.b (by kernel_rfl) fun K hK => ?_ | refine Gx.c (by kernel_rfl) fun K hK => ?_
  simp only [XA, XB, gateX, Nat.reduceAdd, Nat.reduceLeDiff, Nat.reduceSub, Nat.reduceMul, ↓reduceIte, Int.reduceToNat, Int.reduceLE, beq_self_eq_true]
  refine hK _ ?_
  clear hK
  refine XWP.cut (fun s => ∃ (V2 : View) (H5 : Heap) (cells : List Value) (wo : Value), StIs (fun Z => [Z 0,Z 1,Z 2,Z 3,Z 4,Z 5,Z 6,Z 7,Z 8, .v wo, Z 10,Z 11,Z 12,Z 13,Z 14,Z 15,Z 16,Z 17,Z 18,Z 19,Z 20,Z 21,Z 22,Z 23,Z 24,Z 25,Z 26,Z 27,Z 28,Z 29,Z 30,Z 31,Z 32,Z 33,Z 34,Z 35,Z 36,Z 37]) [[.bool (ng c), xw, yw]] H5 V2 s ∧ Own H5 34 3 wo N cells ∧ RowAt ratE V2 cells (mk N (pAt p q c up))) ?_ ?_
  · first | refine Gx.a (by kernel_rfl) fun K hK => ?_ | refine Gx.b (by kernel_rfl) fun K hK => ?_ | refine Gx.c (by kernel_rfl) fun K hK => ?_
    simp only [XA, XB, gateX, Nat.reduceAdd, Nat.reduceLeDiff, Nat.reduceSub, Nat.reduceMul, ↓reduceIte, Int.reduceToNat, Int.reduceLE, beq_self_eq_true]
    refine hK _ ?_
    clear hK
    first | refine XWP.block ?_ | refine XWP.seq (XWP.block ?_)
    refine XWP.loop (fun n s => ∃ (k : Nat) (V2 : View) (H5 : Heap) (cells : List Value) (wo : Value), StIs (fun Z => [.v (.slice A1 p.length c1), .v (.slice A2 q.length c2), Z 2, .v (.int .i64 (up : Int)), Z 4, Z 5, .p 0 0, Z 7,Z 8, .v wo, .v (.int .i64 (k : Int)), Z 11,Z 12,Z 13,Z 14,Z 15,Z 16,Z 17,Z 18,Z 19,Z 20,Z 21,Z 22,Z 23,Z 24,Z 25,Z 26,Z 27,Z 28,Z 29,Z 30,Z 31,Z 32,Z 33,Z 34,Z 35,Z 36,Z 37]) [[.bool (ng c), xw, yw]] H5 V2 s ∧ V.le V2 ∧ n + k = N ∧ Own H5 34 3 wo k cells ∧ RowAt ratE V2 cells (mk k (pAt p q c up))) N ⟨0, V, _, [], _, StIs.of (by exact rfl), View.le_refl _, rfl, own_nil, RowAt.nil V⟩ ?_
    rintro n s ⟨k, V2, H5, cells, wo, hs, hV2, hn, hown, hrow⟩
    obtain ⟨z, rfl⟩ := hs.out
    try dsimp only
    refine XWP.seq ?_
    have w0 := i64_add q.length up (by omega)
    by_cases hk : k < N
    · have b1 : decide ((k : Int) < ((max p.length (q.length + up) : Nat) : Int)) = true := decide_eq_true (by omega)
      first | refine Gx.a (by kernel_rfl) fun K hK => ?_ | refine Gx.b (by kernel_rfl) fun K hK => ?_ | refine Gx.c (by kernel_rfl) fun K hK => ?_
      simp only [XA, XB, gateX, Nat.reduceAdd, Nat.reduceLeDiff, Nat.reduceSub, Nat.reduceMul, ↓reduceIte, Int.reduceToNat, Int.reduceLE, beq_self_eq_true, w0, max_nat, b1]
      refine hK _ ?_
      first | refine Gx.t rfl ?_ | refine XWP.seq (Gx.t rfl ?_)
      refine XWP.skip ?_
      refine XWP.seq ?_
      first | refine XWP.block ?_ | refine XWP.seq (XWP.block ?_)
      (first | refine XWP.drw [0, 1, 2, 4, 5, 6, 7, 8, 3, 9, 10, 11, 12, 13, 14] (by kernel_rfl) (by kernel_rfl) (by kernel_rfl) fun K hK => ?_ | refine XWP.seq (XWP.drw [0, 1, 2, 4, 5, 6, 7, 8, 3, 9, 10, 11, 12, 13, 14] (by kernel_rfl) (by kernel_rfl) (by kernel_rfl) fun K hK => ?_) | refine XWP.drw1 [0, 1, 2, 4, 5, 6, 7, 8, 3, 9, 10, 11, 12, 13, 14] (by kernel_rfl) (by kernel_rfl) (by kernel_rfl) fun K hK => ?_) <;> dsimp only [pickOps, List.getElem?_cons_zero, List.getElem?_cons_succ]
      have w1 : IntKind.i64.wrap ((k : Int) - (up : Int)) = (k : Int) - (up : Int) := wrap_id (by omega) (by omega)
      simp only [XA, XB, gateX, Nat.reduceAdd, Nat.reduceLeDiff, Nat.reduceSub, Nat.reduceMul, ↓reduceIte, Int.reduceToNat, Int.reduceLE, beq_self_eq_true, w1]
      refine call_go (by kernel_rfl) rfl (dat_c _ _ _ (k : Int) (Rats.up hv hV2) (by omega)) fun v3 V3 hV3 h3 => ?_
      rw [cfZ_nat] at h3
      simp only [XA, XB, gateX, Nat.reduceAdd, Nat.reduceLeDiff, Nat.reduceSub, Nat.reduceMul, ↓reduceIte, Int.reduceToNat, Int.reduceLE, beq_self_eq_true]
      refine call_go (by kernel_rfl) rfl (dat_c _ _ _ _ ((Rats.up hu hV2).up hV3) (by omega)) fun v4 V4 hV4 h4 => ?_
      have f1 := hp.at k
      have f2 : QB B (cfZ q ((k : Int) - (up : Int))) := by
        rw [cfZ_sub]; split
        · exact hq.at _
        · exact QB_zero B
      have f3 := hc.mul f2
      simp only [XA, XB, gateX, Nat.reduceAdd, Nat.reduceLeDiff, Nat.reduceSub, Nat.reduceMul, ↓reduceIte, Int.reduceToNat, Int.reduceLE, beq_self_eq_true]
      refine call_go (by kernel_rfl) rfl (pmul_c _ _ _ _ _ ((RatC.mono hw (View.le_trans hV2 (View.le_trans hV3 hV4))).toV (QF.of hc (by omega))) (h4.toV (QF.of f2 (by omega))) (QF.of hc (by omega)) (QF.of f2 (by omega))) fun v5 V5 hV5 h5 => ?_
      simp only [XA, XB, gateX, Nat.reduceAdd, Nat.reduceLeDiff, Nat.reduceSub, Nat.reduceMul, ↓reduceIte, Int.reduceToNat, Int.reduceLE, beq_self_eq_true]
      refine call_go (by kernel_rfl) rfl (padd_c _ _ _ _ _ (((h3.mono hV4).mono hV5).toV (QF.of f1 (by omega))) (h5.toV (QF.of f3 (by omega))) (QF.of f1 (by omega)) (QF.of f3 (by omega))) fun v6 V6 hV6 h6 => ?_
      obtain ⟨x6, y6, rfl, o6, o7⟩ := h6.form
      have e : cf p k + c * cfZ q ((k : Int) - (up : Int)) = pAt p q c up k := by
        unfold pAt; rw [cfZ_sub, Rat.mul_comm c]; split
        · rfl
        · rw [Rat.zero_mul]
      rw [e] at h6
      simp only [XA, XB, gateX, Nat.reduceAdd, Nat.reduceLeDiff, Nat.reduceSub, Nat.reduceMul, ↓reduceIte, Int.reduceToNat, Int.reduceLE, beq_self_eq_true]
      refine bs_go (by kernel_rfl) #[(0, .agg #[.bool (ng (cf p k + c * cfZ q ((k : Int) - (up : Int)))), x6, y6])] (by simp [ev_tmp, SV.val]) (bs_rat elemT_40) fun b3 hb3 hb4 => ?_
      simp only [XA, XB, gateX, Nat.reduceAdd, Nat.reduceLeDiff, Nat.reduceSub, Nat.reduceMul, ↓reduceIte, Int.reduceToNat, Int.reduceLE, beq_self_eq_true]
      refine ap_go elemT_40 (by kernel_rfl) zeroT_34 rfl (by omega) (own_upd hown hb3) (src3 (upd_at _ _ _) rfl o6 o7) (by omega) (by omega) fun v' H' hres => ?_
      simp only [XA, XB, gateX, Nat.reduceAdd, Nat.reduceLeDiff, Nat.reduceSub, Nat.reduceMul, ↓reduceIte, Int.reduceToNat, Int.reduceLE, beq_self_eq_true]
      refine hK _ ?_
      first | refine Gx.a (by kernel_rfl) fun K hK => ?_ | refine Gx.b (by kernel_rfl) fun K hK => ?_ | refine Gx.c (by kernel_rfl) fun K hK => ?_
      simp only [XA, XB, gateX, Nat.reduceAdd, Nat.reduceLeDiff, Nat.reduceSub, Nat.reduceMul, ↓reduceIte, Int.reduceToNat, Int.reduceLE, beq_self_eq_true, i64_succ k (by omega)]
      have hrow' := (hrow.mono ratE_ok (View.le_trans hV3 (View.le_trans hV4 (View.le_trans hV5 hV6)))).snoc (x := pAt p q c up k) (show isOne (.bool (ng (cf p k + c * cfZ q ((k : Int) - (up : Int))))) = true from rfl) o6 o7 (by rw [e]; exact h6)
      rw [← mk_succ] at hrow'
      exact hK _ ⟨n - 1, by omega, k + 1, V6, _, _, _, StIs.of (by exact rfl), View.le_trans hV2 (View.le_trans hV3 (View.le_trans hV4 (View.le_trans hV5 hV6))), by omega, hres.1, hrow'⟩
    · have b1 : decide ((k : Int) < ((max p.length (q.length + up) : Nat) : Int)) = false := decide_eq_false (by omega)
      obtain rfl : k = N := by omega
      first | refine Gx.a (by kernel_rfl) fun K hK => ?_ | refine Gx.b (by kernel_rfl) fun K hK => ?_ | refine Gx.c (by kernel_rfl) fun K hK => ?_
      simp only [XA, XB, gateX, Nat.reduceAdd, Nat.reduceLeDiff, Nat.reduceSub, Nat.reduceMul, ↓reduceIte, Int.reduceToNat, Int.reduceLE, beq_self_eq_true, w0, max_nat, b1]
      refine hK _ ?_
      first | refine Gx.f rfl ?_ | refine XWP.seq (Gx.f rfl ?_)
      refine XWP.exit ?_
      exact ⟨V2, H5, cells, wo, StIs.of (by exact rfl), hown, hrow⟩
  rintro s ⟨V2, H5, cells, wo, hs, hown, hrow⟩
  obtain ⟨z, rfl⟩ := hs.out
  try dsimp only
  have hQ : ∀ x ∈ mk N (pAt p q c up), QF x := fun x hx => by
    obtain ⟨i, hi, rfl⟩ := List.mem_iff_getElem.1 hx
    rw [cf_get hi]
    have := (CB.padd hp hq hc up).at i
    rw [cf_pAdd] at this
    have h2 : cf (mk N (pAt p q c up)) i = pAt p q c up i := by
      rw [cf_mk, if_pos (by rw [mk_len] at hi; exact hi)]
    rw [h2]; exact QF.of this (by omega)
  first | refine Gx.a (by kernel_rfl) fun K hK => ?_ | refine Gx.b (by kernel_rfl) fun K hK => ?_ | refine Gx.c (by kernel_rfl) fun K hK => ?_
  simp only [XA, XB, gateX, Nat.reduceAdd, Nat.reduceLeDiff, Nat.reduceSub, Nat.reduceMul, ↓reduceIte, Int.reduceToNat, Int.reduceLE, beq_self_eq_true]
  rcases own_parts hown with ⟨rfl, hk0, rfl⟩ | ⟨g, cap, rfl, hg, hle, hcap, hlen⟩
  · refine call_go (by kernel_rfl) rfl (dcut_c _ _ [] (SlAt.nil _) (by simp) (by simp)) fun v3 V3 hV3 h3 => ?_
    simp only [XA, XB, gateX, Nat.reduceAdd, Nat.reduceLeDiff, Nat.reduceSub, Nat.reduceMul, ↓reduceIte, Int.reduceToNat, Int.reduceLE, beq_self_eq_true]
    refine hK _ (XWP.ret ?_)
    try simp only [thenX_ret, inBlockX_ret]
    refine ret_go _ rfl ?_
    unfold pAdd
    rw [← hN, hk0]
    exact h3
  · refine call_pub g _ hg (fun o ho hle' => ?_) (by kernel_rfl) rfl
    refine call_go (by kernel_rfl) rfl (dcut_c _ _ _ (hrow.pub ratE_ok ho hle' (mk_len _ _) hle (by unfold maxLen at hcap; omega)) hQ (by rw [mk_len]; omega)) fun v3 V3 hV3 h3 => ?_
    simp only [XA, XB, gateX, Nat.reduceAdd, Nat.reduceLeDiff, Nat.reduceSub, Nat.reduceMul, ↓reduceIte, Int.reduceToNat, Int.reduceLE, beq_self_eq_true]
    refine hK _ (XWP.ret ?_)
    try simp only [thenX_ret, inBlockX_ret]
    refine ret_go _ rfl ?_
    unfold pAdd
    rw [← hN]
    exact h3
end Go.Proofs.Ythoboehbadmlmaa
end
section
namespace Go.Proofs.Ythoboehbadmlmaa
open Go Go.RowKit
set_option linter.unusedSimpArgs false
set_option linter.unusedVariables false
attribute [local irreducible] XWP Spec SpecO XPub XCall seqX clX apX stX ldX iaX slX
theorem dprod_c (V : View) (v u : Value) (p q : List Rat) (A B e : Nat) (hv : Rats V v p) (hu : Rats V u q) (hp : CB A p) (hq : CB B q) (h0 : 1 ≤ p.length + q.length) (he : p.length + q.length ≤ 2 ^ e) (hABe : A + B + e + 2 ≤ 17592186044416) (ll : p.length + q.length ≤ 1000000) :
    Spec Try.prog 78 [v, u] V fun v' V' => Rats V' v' (prodP p q) := by
  obtain ⟨A1, c1, rfl, hc1, hm1⟩ := hv.form
  obtain ⟨A2, c2, rfl, hc2, hm2⟩ := hu.form
  obtain ⟨N, hN⟩ : ∃ N, N = p.length + q.length - 1 := ⟨_, rfl⟩
  have hS : ∀ i k, k ≤ p.length + q.length → QB (A + B + e) (offS q p i k) := fun i k hk => (CB.offs hq hp i k e (by omega)).mono (by omega)
  refine (Spec.enter Try.func78 rfl fun Γ => ?_)
  simp only [Try.ntmps78, List.map_cons, List.map_nil, List.length_cons, List.length_nil, Nat.reduceAdd, Nat.reduceSub, List.replicate_succ, List.replicate_zero, List.cons_append, List.nil_append]
  first | refine Gx.a (by kernel_rfl) fun K hK => ?_ | refine Gx.b (by kernel_rfl) fun K hK => ?_ | refine Gx.c (by kernel_rfl) fun K hK => ?_
  simp only [XA, XB, gateX, Nat.reduceAdd, Nat.reduceLeDiff, Nat.reduceSub, Nat.reduceMul, ↓reduceIte, Int.reduceToNat, Int.reduceLE, beq_self_eq_true]
  refine hK _ ?_
  first | refine Gx.a (by kernel_rfl) fun K hK => ?_ | refine Gx.b (by kernel_rfl) fun K hK => ?_ | refine Gx.c (by kernel_rfl) fun K hK => ?_
  simp only [XA, XB, gateX, Nat.reduceAdd, Nat.reduceLeDiff, Nat.reduceSub, Nat.reduceMul, ↓reduceIte, Int.reduceToNat, Int.reduceLE, beq_self_eq_true]
  refine hK _ ?_
  clear hK
  refine XWP.cutD 0 (fun s => ∃ (V2 : View) (H5 : Heap) (cells : List Value) (wo : Value), StIs (fun Z => [Z 0,Z 1,Z 2,Z 3,Z 4, .v wo, Z 6,Z 7,Z 8,Z 9,Z 10,Z 11,Z 12,Z 13,Z 14,Z 15,Z 16,Z 17,Z 18,Z 19,Z 20,Z 21,Z 22,Z 23,Z 24,Z 25,Z 26,Z 27,Z 28,Z 29,Z 30,Z 31,Z 32,Z 33,Z 34,Z 35,Z 36,Z 37,Z 38,Z 39,Z 40,Z 41]) [] H5 V2 s ∧ Own H5 34 3 wo N cells ∧ RowAt ratE V2 cells (mk N fun i => offS q p i (i + 1))) ?_ ?_
  · first | refine Gx.a (by kernel_rfl) fun K hK => ?_ | refine Gx.b (by kernel_rfl) fun K hK => ?_ | refine Gx.c (by kernel_rfl) fun K hK => ?_
    simp only [XA, XB, gateX, Nat.reduceAdd, Nat.reduceLeDiff, Nat.reduceSub, Nat.reduceMul, ↓reduceIte, Int.reduceToNat, Int.reduceLE, beq_self_eq_true]
    refine hK _ ?_
    clear hK
    first | refine XWP.block ?_ | refine XWP.seq (XWP.block ?_)
    refine XWP.loopD 0 (fun n s => ∃ (i : Nat) (V2 : View) (H5 : Heap) (cells : List Value) (wo : Value), StIs (fun Z => [.v (.slice A1 p.length c1), .v (.slice A2 q.length c2), Z 2,Z 3,Z 4, .v wo, .v (.int .i64 (i : Int)), Z 7,Z 8,Z 9,Z 10,Z 11,Z 12,Z 13,Z 14,Z 15,Z 16,Z 17,Z 18,Z 19,Z 20,Z 21,Z 22,Z 23,Z 24,Z 25,Z 26,Z 27,Z 28,Z 29,Z 30,Z 31,Z 32,Z 33,Z 34,Z 35,Z 36,Z 37,Z 38,Z 39,Z 40,Z 41]) [] H5 V2 s ∧ V.le V2 ∧ n + i = N ∧ Own H5 34 3 wo i cells ∧ RowAt ratE V2 cells (mk i fun i => offS q p i (i + 1))) N ⟨0, V, _, [], _, StIs.of (by exact rfl), View.le_refl _, rfl, own_nil, RowAt.nil V⟩ ?_
    rintro n s ⟨i, V2, H5, cells, wo, hs, hV2, hn, hown, hrow⟩
    obtain ⟨z, rfl⟩ := hs.out
    try dsimp only
    refine XWP.seq ?_
    have w0 := i64_add p.length q.length (by omega)
    have w1 := i64_pred (p.length + q.length) h0 (by omega)
    by_cases hi : i < N
    · have b1 : decide ((i : Int) < ((p.length + q.length - 1 : Nat) : Int)) = true := decide_eq_true (by omega)
      first | refine Gx.a (by kernel_rfl) fun K hK => ?_ | refine Gx.b (by kernel_rfl) fun K hK => ?_ | refine Gx.c (by kernel_rfl) fun K hK => ?_
      simp only [XA, XB, gateX, Nat.reduceAdd, Nat.reduceLeDiff, Nat.reduceSub, Nat.reduceMul, ↓reduceIte, Int.reduceToNat, Int.reduceLE, beq_self_eq_true, w0, w1, b1]
      refine hK _ ?_
      first | refine Gx.t rfl ?_ | refine XWP.seq (Gx.t rfl ?_)
      refine XWP.skip ?_
      refine XWP.seq ?_
      first | refine XWP.block ?_ | refine XWP.seq (XWP.block ?_)
      first | refine Gx.a (by kernel_rfl) fun K hK => ?_ | refine Gx.b (by kernel_rfl) fun K hK => ?_ | refine Gx.c (by kernel_rfl) fun K hK => ?_
      simp only [XA, XB, gateX, Nat.reduceAdd, Nat.reduceLeDiff, Nat.reduceSub, Nat.reduceMul, ↓reduceIte, Int.reduceToNat, Int.reduceLE, beq_self_eq_true]
      refine call_go (by kernel_rfl) rfl (pzero_c _) fun v3 V3 hV3 h3 => ?_
      obtain ⟨x3, y3, rfl, o1, o2⟩ := h3.form
      simp only [XA, XB, gateX, Nat.reduceAdd, Nat.reduceLeDiff, Nat.reduceSub, Nat.reduceMul, ↓reduceIte, Int.reduceToNat, Int.reduceLE, beq_self_eq_true]
      refine st_rat rfl rfl rfl o1 o2 ?_
      simp only [XA, XB, gateX, Nat.reduceAdd, Nat.reduceLeDiff, Nat.reduceSub, Nat.reduceMul, ↓reduceIte, Int.reduceToNat, Int.reduceLE, beq_self_eq_true]
      refine hK _ ?_
      clear hK
      have hrow := hrow.mono ratE_ok hV3
      have hV3 := View.le_trans hV2 hV3
      refine XWP.cut (fun s => ∃ (V4 : View) (x y : Value), StIs (fun Z => [.v (.slice A1 p.length c1), .v (.slice A2 q.length c2), Z 2,Z 3,Z 4, .v wo, .v (.int .i64 (i : Int)), .p 0 0, Z 8,Z 9,Z 10,Z 11,Z 12,Z 13,Z 14,Z 15,Z 16,Z 17,Z 18,Z 19,Z 20,Z 21,Z 22,Z 23,Z 24,Z 25,Z 26,Z 27,Z 28,Z 29,Z 30,Z 31,Z 32,Z 33,Z 34,Z 35,Z 36,Z 37,Z 38,Z 39,Z 40,Z 41]) [[.bool (ng (offS q p i (i + 1))), x, y]] H5 V4 s ∧ V.le V4 ∧ RowAt ratE V4 cells (mk i fun i => offS q p i (i + 1)) ∧ RatC V4 (.agg #[.bool (ng (offS q p i (i + 1))), x, y]) (offS q p i (i + 1)) ∧ isOne x = true ∧ isOne y = true) ?_ ?_
      · first | refine Gx.a (by kernel_rfl) fun K hK => ?_ | refine Gx.b (by kernel_rfl) fun K hK => ?_ | refine Gx.c (by kernel_rfl) fun K hK => ?_
        simp only [XA, XB, gateX, Nat.reduceAdd, Nat.reduceLeDiff, Nat.reduceSub, Nat.reduceMul, ↓reduceIte, Int.reduceToNat, Int.reduceLE, beq_self_eq_true]
        refine hK _ ?_
        clear hK
        first | refine XWP.block ?_ | refine XWP.seq (XWP.block ?_)
        refine XWP.loop (fun n s => ∃ (k : Nat) (V4 : View) (x y : Value), StIs (fun Z => [.v (.slice A1 p.length c1), .v (.slice A2 q.length c2), Z 2,Z 3,Z 4, .v wo, .v (.int .i64 (i : Int)), .p 0 0, .v (.int .i64 (k : Int)), Z 9,Z 10,Z 11,Z 12,Z 13,Z 14,Z 15,Z 16,Z 17,Z 18,Z 19,Z 20,Z 21,Z 22,Z 23,Z 24,Z 25,Z 26,Z 27,Z 28,Z 29,Z 30,Z 31,Z 32,Z 33,Z 34,Z 35,Z 36,Z 37,Z 38,Z 39,Z 40,Z 41]) [[.bool (ng (offS q p i k)), x, y]] H5 V4 s ∧ V.le V4 ∧ n + k = i + 1 ∧ RowAt ratE V4 cells (mk i fun i => offS q p i (i + 1)) ∧ RatC V4 (.agg #[.bool (ng (offS q p i k)), x, y]) (offS q p i k) ∧ isOne x = true ∧ isOne y = true) (i + 1) ⟨0, V3, x3, y3, StIs.of (by exact rfl), hV3, rfl, hrow, h3, o1, o2⟩ ?_
        clear h3 o1 o2 hrow
        rintro n' s ⟨k, V4, x, y, hs, hV4, hn', hrow, h3, o1, o2⟩
        obtain ⟨z, rfl⟩ := hs.out
        try dsimp only
        refine XWP.seq ?_
        by_cases hk : k ≤ i
        · have b2 : decide ((k : Int) ≤ (i : Int)) = true := decide_eq_true (by omega)
          first | refine Gx.a (by kernel_rfl) fun K hK => ?_ | refine Gx.b (by kernel_rfl) fun K hK => ?_ | refine Gx.c (by kernel_rfl) fun K hK => ?_
          simp only [XA, XB, gateX, Nat.reduceAdd, Nat.reduceLeDiff, Nat.reduceSub, Nat.reduceMul, ↓reduceIte, Int.reduceToNat, Int.reduceLE, beq_self_eq_true, b2]
          refine hK _ ?_
          first | refine Gx.t rfl ?_ | refine XWP.seq (Gx.t rfl ?_)
          refine XWP.skip ?_
          refine XWP.seq ?_
          first | refine XWP.block ?_ | refine XWP.seq (XWP.block ?_)
          (first | refine XWP.drw [0, 1, 2, 4, 5, 6, 7, 3, 8, 9, 10, 11] (by kernel_rfl) (by kernel_rfl) (by kernel_rfl) fun K hK => ?_ | refine XWP.seq (XWP.drw [0, 1, 2, 4, 5, 6, 7, 3, 8, 9, 10, 11] (by kernel_rfl) (by kernel_rfl) (by kernel_rfl) fun K hK => ?_) | refine XWP.drw1 [0, 1, 2, 4, 5, 6, 7, 3, 8, 9, 10, 11] (by kernel_rfl) (by kernel_rfl) (by kernel_rfl) fun K hK => ?_) <;> dsimp only [pickOps, List.getElem?_cons_zero, List.getElem?_cons_succ]
          have w2 := i64_sub i k hk (by omega)
          simp only [XA, XB, gateX, Nat.reduceAdd, Nat.reduceLeDiff, Nat.reduceSub, Nat.reduceMul, ↓reduceIte, Int.reduceToNat, Int.reduceLE, beq_self_eq_true, w2]
          refine call_go (by kernel_rfl) rfl (dat_c _ _ _ (k : Int) (Rats.up hv hV4) (by omega)) fun v5 V5 hV5 h5 => ?_
          rw [cfZ_nat] at h5
          simp only [XA, XB, gateX, Nat.reduceAdd, Nat.reduceLeDiff, Nat.reduceSub, Nat.reduceMul, ↓reduceIte, Int.reduceToNat, Int.reduceLE, beq_self_eq_true]
          refine call_go (by kernel_rfl) rfl (dat_c _ _ _ ((i - k : Nat) : Int) ((Rats.up hu hV4).up hV5) (by omega)) fun v6 V6 hV6 h6 => ?_
          rw [cfZ_nat] at h6
          simp only [XA, XB, gateX, Nat.reduceAdd, Nat.reduceLeDiff, Nat.reduceSub, Nat.reduceMul, ↓reduceIte, Int.reduceToNat, Int.reduceLE, beq_self_eq_true]
          refine call_go (by kernel_rfl) rfl (pmul_c _ _ _ _ _ ((h5.mono hV6).toV (QF.of (hp.at _) (by omega))) (h6.toV (QF.of (hq.at _) (by omega))) (QF.of (hp.at _) (by omega)) (QF.of (hq.at _) (by omega))) fun v7 V7 hV7 h7 => ?_
          have hm := (hp.at k).mul (hq.at (i - k))
          have ho := hS i k (by omega)
          simp only [XA, XB, gateX, Nat.reduceAdd, Nat.reduceLeDiff, Nat.reduceSub, Nat.reduceMul, ↓reduceIte, Int.reduceToNat, Int.reduceLE, beq_self_eq_true]
          refine call_go (by kernel_rfl) rfl (padd_c _ _ _ _ _ ((h3.mono (View.le_trans hV5 (View.le_trans hV6 hV7))).toV (QF.of ho (by omega))) (h7.toV (QF.of hm (by omega))) (QF.of ho (by omega)) (QF.of hm (by omega))) fun v8 V8 hV8 h8 => ?_
          obtain ⟨x8, y8, rfl, o3, o4⟩ := h8.form
          simp only [XA, XB, gateX, Nat.reduceAdd, Nat.reduceLeDiff, Nat.reduceSub, Nat.reduceMul, ↓reduceIte, Int.reduceToNat, Int.reduceLE, beq_self_eq_true]
          refine st_rat rfl rfl rfl o3 o4 ?_
          simp only [XA, XB, gateX, Nat.reduceAdd, Nat.reduceLeDiff, Nat.reduceSub, Nat.reduceMul, ↓reduceIte, Int.reduceToNat, Int.reduceLE, beq_self_eq_true]
          refine hK _ ?_
          first | refine Gx.a (by kernel_rfl) fun K hK => ?_ | refine Gx.b (by kernel_rfl) fun K hK => ?_ | refine Gx.c (by kernel_rfl) fun K hK => ?_
          simp only [XA, XB, gateX, Nat.reduceAdd, Nat.reduceLeDiff, Nat.reduceSub, Nat.reduceMul, ↓reduceIte, Int.reduceToNat, Int.reduceLE, beq_self_eq_true, i64_succ k (by omega)]
          exact hK _ ⟨n' - 1, by omega, k + 1, V8, x8, y8, StIs.of (by exact rfl), View.le_trans hV4 (View.le_trans hV5 (View.le_trans hV6 (View.le_trans hV7 hV8))), by omega, hrow.mono ratE_ok (View.le_trans hV5 (View.le_trans hV6 (View.le_trans hV7 hV8))), h8, o3, o4⟩
        · have b2 : decide ((k : Int) ≤ (i : Int)) = false := decide_eq_false (by omega)
          obtain rfl : k = i + 1 := by omega
          first | refine Gx.a (by kernel_rfl) fun K hK => ?_ | refine Gx.b (by kernel_rfl) fun K hK => ?_ | refine Gx.c (by kernel_rfl) fun K hK => ?_
          simp only [XA, XB, gateX, Nat.reduceAdd, Nat.reduceLeDiff, Nat.reduceSub, Nat.reduceMul, ↓reduceIte, Int.reduceToNat, Int.reduceLE, beq_self_eq_true, b2]
          refine hK _ ?_
          first | refine Gx.f rfl ?_ | refine XWP.seq (Gx.f rfl ?_)
          refine XWP.exit ?_
          exact ⟨V4, x, y, StIs.of (by exact rfl), hV4, hrow, h3, o1, o2⟩
      clear h3 o1 o2 hrow
      rintro s ⟨V4, x, y, hs, hV4, hrow, h3, o1, o2⟩
      obtain ⟨z, rfl⟩ := hs.out
      try dsimp only
      first | refine Gx.a (by kernel_rfl) fun K hK => ?_ | refine Gx.b (by kernel_rfl) fun K hK => ?_ | refine Gx.c (by kernel_rfl) fun K hK => ?_
      simp only [XA, XB, gateX, Nat.reduceAdd, Nat.reduceLeDiff, Nat.reduceSub, Nat.reduceMul, ↓reduceIte, Int.reduceToNat, Int.reduceLE, beq_self_eq_true]
      refine bs_go (by kernel_rfl) #[(0, .agg #[.bool (ng (offS q p i (i + 1))), x, y])] (by simp [ev_tmp, SV.val]) (bs_rat elemT_40) fun b3 hb3 hb4 => ?_
      simp only [XA, XB, gateX, Nat.reduceAdd, Nat.reduceLeDiff, Nat.reduceSub, Nat.reduceMul, ↓reduceIte, Int.reduceToNat, Int.reduceLE, beq_self_eq_true]
      refine ap_go elemT_40 (by kernel_rfl) zeroT_34 rfl (by omega) (own_upd hown hb3) (src3 (upd_at _ _ _) rfl o1 o2) (by omega) (by omega) fun v' H' hres => ?_
      simp only [XA, XB, gateX, Nat.reduceAdd, Nat.reduceLeDiff, Nat.reduceSub, Nat.reduceMul, ↓reduceIte, Int.reduceToNat, Int.reduceLE, beq_self_eq_true]
      refine hK _ ?_
      first | refine Gx.a (by kernel_rfl) fun K hK => ?_ | refine Gx.b (by kernel_rfl) fun K hK => ?_ | refine Gx.c (by kernel_rfl) fun K hK => ?_
      simp only [XA, XB, gateX, Nat.reduceAdd, Nat.reduceLeDiff, Nat.reduceSub, Nat.reduceMul, ↓reduceIte, Int.reduceToNat, Int.reduceLE, beq_self_eq_true, i64_succ i (by omega)]
      have hrow' := hrow.snoc (x := offS q p i (i + 1)) (show isOne (.bool (ng (offS q p i (i + 1)))) = true from rfl) o1 o2 h3
      have em := mk_succ i fun i => offS q p i (i + 1)
      rw [← em] at hrow'
      exact hK _ ⟨n - 1, by omega, fun f => ⟨i + 1, V4, _, _, _, StIs.of (by exact rfl), hV4, by omega, hres.1, hrow'⟩⟩
    · have b1 : decide ((i : Int) < ((p.length + q.length - 1 : Nat) : Int)) = false := decide_eq_false (by omega)
      obtain rfl : i = N := by omega
      first | refine Gx.a (by kernel_rfl) fun K hK => ?_ | refine Gx.b (by kernel_rfl) fun K hK => ?_ | refine Gx.c (by kernel_rfl) fun K hK => ?_
      simp only [XA, XB, gateX, Nat.reduceAdd, Nat.reduceLeDiff, Nat.reduceSub, Nat.reduceMul, ↓reduceIte, Int.reduceToNat, Int.reduceLE, beq_self_eq_true, w0, w1, b1]
      refine hK _ ?_
      first | refine Gx.f rfl ?_ | refine XWP.seq (Gx.f rfl ?_)
      refine XWP.exit ?_
      exact fun f => ⟨V2, H5, cells, wo, StIs.of (by exact rfl), hown, hrow⟩
  rintro s ⟨V2, H5, cells, wo, hs, hown, hrow⟩
  obtain ⟨z, rfl⟩ := hs.out
  try dsimp only
  have hQ : ∀ x ∈ mk N (fun i => offS q p i (i + 1)), QF x := fun x hx => by
    obtain ⟨i, hi, rfl⟩ := List.mem_iff_getElem.1 hx
    rw [mk_len] at hi
    rw [cf_get (by rw [mk_len]; exact hi), cf_mk, if_pos hi]
    exact QF.of (hS i (i + 1) (by omega)) (by omega)
  first | refine Gx.a (by kernel_rfl) fun K hK => ?_ | refine Gx.b (by kernel_rfl) fun K hK => ?_ | refine Gx.c (by kernel_rfl) fun K hK => ?_
  simp only [XA, XB, gateX, Nat.reduceAdd, Nat.reduceLeDiff, Nat.reduceSub, Nat.reduceMul, ↓reduceIte, Int.reduceToNat, Int.reduceLE, beq_self_eq_true]
  rcases own_parts hown with ⟨rfl, hk0, rfl⟩ | ⟨g, cap, rfl, hg, hle, hcap, hlen⟩
  · refine call_go (by kernel_rfl) rfl (dcut_c _ _ [] (SlAt.nil _) (by simp) (by simp)) fun v3 V3 hV3 h3 => ?_
    simp only [XA, XB, gateX, Nat.reduceAdd, Nat.reduceLeDiff, Nat.reduceSub, Nat.reduceMul, ↓reduceIte, Int.reduceToNat, Int.reduceLE, beq_self_eq_true]
    refine hK _ (XWP.ret ?_)
    try simp only [thenX_ret, inBlockX_ret]
    refine ret_go _ rfl ?_
    unfold prodP
    rw [← hN, hk0]
    exact h3
  · refine call_pub g _ hg (fun o ho hle' => ?_) (by kernel_rfl) rfl
    refine call_go (by kernel_rfl) rfl (dcut_c _ _ _ (hrow.pub ratE_ok ho hle' (mk_len _ _) hle (by unfold maxLen at hcap; omega)) hQ (by rw [mk_len]; omega)) fun v3 V3 hV3 h3 => ?_
    simp only [XA, XB, gateX, Nat.reduceAdd, Nat.reduceLeDiff, Nat.reduceSub, Nat.reduceMul, ↓reduceIte, Int.reduceToNat, Int.reduceLE, beq_self_eq_true]
    refine hK _ (XWP.ret ?_)
    try simp only [thenX_ret, inBlockX_ret]
    refine ret_go _ rfl ?_
    unfold prodP
    rw [← hN]
    exact h3
end Go.Proofs.Ythoboehbadmlmaa
end
section
namespace Go.Proofs.Ythoboehbadmlmaa
open Go Go.RowKit
set_option linter.unusedSimpArgs false
set_option linter.unusedVariables false
attribute [local irreducible] XWP Spec SpecO XPub XCall seqX clX apX stX ldX iaX slX
theorem upd_pub (b : Nat) (r : Option Row) : upd (upd (fun _ => none) b r) b none = fun _ => none := by
  funext k; unfold upd; split <;> rfl
theorem dpart_c (V : View) (v u : Value) (p q : List Rat) (A B : Nat) (hv : Rats V v p) (hu : Rats V u q) (hp : CB A p) (hq : CB B q) (h0 : 0 < q.length) (hl : cf q (q.length - 1) ≠ 0) (hfit : 2 ^ (p.length - q.length + 1) * (A + 2 * B + 2) ≤ 17592186044416) (lp : p.length ≤ 100000) (lq : q.length ≤ 100000) :
    Spec Try.prog 73 [v, u] V fun v' V' => ∃ wq wr, v' = .tuple #[wq, wr] ∧ Rats V' wq (partP p q).1 ∧ Rats V' wr (partP p q).2 ∧ CB (2 ^ (p.length - q.length + 1) * (A + 2 * B + 2)) (partP p q).2 ∧ CB (2 ^ (p.length - q.length + 1) * (A + 2 * B + 2)) (partP p q).1 := by
  obtain ⟨A1, c1, rfl, hc1, hm1⟩ := hv.form
  obtain ⟨A2, c2, rfl, hc2, hm2⟩ := hu.form
  have hC0 : A + 2 * B + 2 ≤ 2 ^ (p.length - q.length + 1) * (A + 2 * B + 2) := Nat.le_mul_of_pos_left _ (two_pos _)
  refine (Spec.enter Try.func73 rfl fun Γ => ?_)
  simp only [Try.ntmps73, List.map_cons, List.map_nil, List.length_cons, List.length_nil, Nat.reduceAdd, Nat.reduceSub, List.replicate_succ, List.replicate_zero, List.cons_append, List.nil_append]
  first | refine Gx.a (by kernel_rfl) fun K hK => ?_ | refine Gx.b (by kernel_rfl) fun K hK => ?_ | refine Gx.c (by kernel_rfl) fun K hK => ?_
  simp only [XA, XB, gateX, Nat.reduceAdd, Nat.reduceLeDiff, Nat.reduceSub, Nat.reduceMul, ↓reduceIte, Int.reduceToNat, Int.reduceLE, beq_self_eq_true]
  refine hK _ ?_
  first | refine Gx.a (by kernel_rfl) fun K hK => ?_ | refine Gx.b (by kernel_rfl) fun K hK => ?_ | refine Gx.c (by kernel_rfl) fun K hK => ?_
  simp only [XA, XB, gateX, Nat.reduceAdd, Nat.reduceLeDiff, Nat.reduceSub, Nat.reduceMul, ↓reduceIte, Int.reduceToNat, Int.reduceLE, beq_self_eq_true]
  refine hK _ ?_
  first | refine Gx.a (by kernel_rfl) fun K hK => ?_ | refine Gx.b (by kernel_rfl) fun K hK => ?_ | refine Gx.c (by kernel_rfl) fun K hK => ?_
  simp only [XA, XB, gateX, Nat.reduceAdd, Nat.reduceLeDiff, Nat.reduceSub, Nat.reduceMul, ↓reduceIte, Int.reduceToNat, Int.reduceLE, beq_self_eq_true]
  refine call_go (by kernel_rfl) rfl (dcut_c _ _ _ hv (hp.qf (by omega)) (by omega)) fun v2 V2 hV2 h2 => ?_
  simp only [XA, XB, gateX, Nat.reduceAdd, Nat.reduceLeDiff, Nat.reduceSub, Nat.reduceMul, ↓reduceIte, Int.reduceToNat, Int.reduceLE, beq_self_eq_true]
  refine hK _ ?_
  clear hK
  obtain ⟨r, hr⟩ : ∃ r, r = trimQ p := ⟨_, rfl⟩
  have hr0 : CB A r := by rw [hr]; exact hp.trim
  have hrl : r.length ≤ p.length := by rw [hr]; exact trimQ_len p
  rw [← hr] at h2
  have hpart : partP p q = partF q (r.length + 1) [] r := by rw [hr]; rfl
  rw [hpart]
  obtain ⟨fin, hfin⟩ : ∃ fin, fin = partF q (r.length + 1) [] r := ⟨_, rfl⟩
  rw [← hfin]
  have hpow : 2 ^ (r.length - q.length + 1) * (A + 2 * B + 2) ≤ 2 ^ (p.length - q.length + 1) * (A + 2 * B + 2) := Nat.mul_le_mul_right _ (two_mono (by omega))
  refine XWP.cutD 0 (fun s => ∃ (V4 : View) (wr wo : Value), StIs (fun Z => [Z 0,Z 1,Z 2,Z 3,Z 4,Z 5, .v wo, .v wr, Z 8,Z 9,Z 10,Z 11,Z 12,Z 13,Z 14,Z 15,Z 16,Z 17,Z 18,Z 19,Z 20,Z 21,Z 22,Z 23,Z 24,Z 25,Z 26,Z 27,Z 28,Z 29,Z 30,Z 31,Z 32,Z 33,Z 34,Z 35,Z 36,Z 37,Z 38,Z 39,Z 40,Z 41,Z 42,Z 43,Z 44,Z 45,Z 46,Z 47,Z 48,Z 49,Z 50,Z 51,Z 52]) [] (fun _ => none) V4 s ∧ Rats V4 wr fin.2 ∧ Rats V4 wo fin.1 ∧ CB (2 ^ (p.length - q.length + 1) * (A + 2 * B + 2)) fin.2 ∧ CB (2 ^ (p.length - q.length + 1) * (A + 2 * B + 2)) fin.1) ?_ ?_
  · first | refine XWP.block ?_ | refine XWP.seq (XWP.block ?_)
    refine XWP.loopD 0 (fun n s => ∃ (V4 : View) (wr wo : Value) (rest quo : List Rat) (b : Nat), StIs (fun Z => [Z 0, .v (.slice A2 q.length c2), Z 2,Z 3,Z 4,Z 5, .v wo, .v wr, Z 8,Z 9,Z 10,Z 11,Z 12,Z 13,Z 14,Z 15,Z 16,Z 17,Z 18,Z 19,Z 20,Z 21,Z 22,Z 23,Z 24,Z 25,Z 26,Z 27,Z 28,Z 29,Z 30,Z 31,Z 32,Z 33,Z 34,Z 35,Z 36,Z 37,Z 38,Z 39,Z 40,Z 41,Z 42,Z 43,Z 44,Z 45,Z 46,Z 47,Z 48,Z 49,Z 50,Z 51,Z 52]) [] (fun _ => none) V4 s ∧ V2.le V4 ∧ n = rest.length ∧ Rats V4 wr rest ∧ Rats V4 wo quo ∧ CB b quo ∧ quo.length ≤ 100001 ∧ rest.length ≤ r.length ∧ CB b rest ∧ b + 2 * B + 1 ≤ 2 ^ (r.length - rest.length) * (A + 2 * B + 2) ∧ b + 2 * B + 1 ≤ 2 ^ (r.length - q.length + 1) * (A + 2 * B + 2) ∧ partF q (rest.length + 1) quo rest = fin) r.length ⟨V2, v2, _, r, [], A, StIs.of (by exact rfl), View.le_refl _, rfl, h2, SlAt.nil _, CB_nil _, by simp, Nat.le_refl _, hr0, by rw [Nat.sub_self]; omega, by have := Nat.le_mul_of_pos_left (A + 2 * B + 2) (two_pos (r.length - q.length + 1)); omega, hfin.symm⟩ ?_
    rintro n s ⟨V4, wr, wo, rest, quo, b, hs, hV4, hn, hwr, hwo, hbq, hlq, hlr, hb, hb1, hb2, hd⟩
    obtain ⟨z, rfl⟩ := hs.out
    try dsimp only
    obtain ⟨A5, c5, rfl, hc5, hm5⟩ := hwr.form
    refine XWP.seq ?_
    by_cases hle : q.length ≤ rest.length
    · have b1 : decide (q.length ≤ rest.length) = true := decide_eq_true hle
      first | refine Gx.a (by kernel_rfl) fun K hK => ?_ | refine Gx.b (by kernel_rfl) fun K hK => ?_ | refine Gx.c (by kernel_rfl) fun K hK => ?_
      simp only [XA, XB, gateX, Nat.reduceAdd, Nat.reduceLeDiff, Nat.reduceSub, Nat.reduceMul, ↓reduceIte, Int.reduceToNat, Int.reduceLE, beq_self_eq_true, len_geq, b1]
      refine hK _ ?_
      first | refine Gx.t rfl ?_ | refine XWP.seq (Gx.t rfl ?_)
      refine XWP.skip ?_
      first | refine XWP.block ?_ | refine XWP.seq (XWP.block ?_)
      have hu4 := (hu.up hV2).up hV4
      have hlr0 : q.length ≤ r.length := by omega
      have hfb : 2 * (b + 2 * B + 1) ≤ 2 ^ (r.length - rest.length + 1) * (A + 2 * B + 2) := by rw [Nat.pow_succ, Nat.mul_comm (2 ^ (r.length - rest.length)), Nat.mul_assoc]; omega
      have hfc : 2 ^ (r.length - rest.length + 1) * (A + 2 * B + 2) ≤ 2 ^ (r.length - q.length + 1) * (A + 2 * B + 2) := Nat.mul_le_mul_right _ (two_mono (by omega))
      have hQx : QB (b + B) (topQ rest q) := (hb.at _).div (hq.at _)
      refine XWP.cut (fun s => ∃ (V5 : View) (x y : Value), StIs (fun Z => [Z 0, .v (.slice A2 q.length c2), Z 2,Z 3,Z 4,Z 5, .v wo, .v (.slice A5 rest.length c5), .p 0 0, Z 9,Z 10,Z 11,Z 12,Z 13,Z 14,Z 15,Z 16,Z 17,Z 18,Z 19,Z 20,Z 21,Z 22,Z 23,Z 24,Z 25,Z 26,Z 27,Z 28,Z 29,Z 30,Z 31,Z 32,Z 33,Z 34,Z 35,Z 36,Z 37,Z 38,Z 39,Z 40,Z 41,Z 42,Z 43,Z 44,Z 45,Z 46,Z 47,Z 48,Z 49,Z 50,Z 51,Z 52]) [[.bool (ng (topQ rest q)), x, y]] (fun _ => none) V5 s ∧ V4.le V5 ∧ RatC V5 (.agg #[.bool (ng (topQ rest q)), x, y]) (topQ rest q) ∧ isOne x = true ∧ isOne y = true) ?_ ?_
      · (first | refine XWP.drwT (.lin [0, 1, 2, 3, 4, 5, 6, 7, 8, 9, 10, 11] (.two (.lin [12, 13, 14, 15, 16, 17, 18] .nil) (.lin [16, 12, 13, 14, 15, 17, 18] .nil))) (by kernel_rfl) (by kernel_rfl) (by kernel_rfl) fun K hK => ?_ | refine XWP.seq (XWP.drwT (.lin [0, 1, 2, 3, 4, 5, 6, 7, 8, 9, 10, 11] (.two (.lin [12, 13, 14, 15, 16, 17, 18] .nil) (.lin [16, 12, 13, 14, 15, 17, 18] .nil))) (by kernel_rfl) (by kernel_rfl) (by kernel_rfl) fun K hK => ?_) | refine XWP.drwT1 (.lin [0, 1, 2, 3, 4, 5, 6, 7, 8, 9, 10, 11] (.two (.lin [12, 13, 14, 15, 16, 17, 18] .nil) (.lin [16, 12, 13, 14, 15, 17, 18] .nil))) (by kernel_rfl) (by kernel_rfl) (by kernel_rfl) fun K hK => ?_)
        obtain ⟨b5, o5, rfl⟩ := SlAt.addr hwr (by omega)
        obtain ⟨b6, o6, rfl⟩ := SlAt.addr hu4 (by omega)
        obtain ⟨m3, n3, d3, hx3, ⟨p1, p2, p3⟩, hld3⟩ := Rats.get hwr (rest.length - 1) (by omega)
        obtain ⟨m4, n4, d4, hx4, ⟨r1, r2, r3⟩, hld4⟩ := Rats.get hu4 (q.length - 1) (by omega)
        have w1 := i64_pred rest.length (by omega) (by omega)
        have w2 := i64_pred q.length (by omega) (by omega)
        simp only [XA, XB, gateX, Nat.reduceAdd, Nat.reduceLeDiff, Nat.reduceSub, Nat.reduceMul, ↓reduceIte, Int.reduceToNat, Int.reduceLE, beq_self_eq_true, w1]
        refine ⟨by omega, by omega, ld_mem (hld3 _) ?_⟩
        simp only [XA, XB, gateX, Nat.reduceAdd, Nat.reduceLeDiff, Nat.reduceSub, Nat.reduceMul, ↓reduceIte, Int.reduceToNat, Int.reduceLE, beq_self_eq_true, w2]
        refine ⟨by omega, by omega, ld_mem (hld4 _) ?_⟩
        simp only [XA, XB, gateX, Nat.reduceAdd, Nat.reduceLeDiff, Nat.reduceSub, Nat.reduceMul, ↓reduceIte, Int.reduceToNat, Int.reduceLE, beq_self_eq_true]
        refine And.intro ?_ ?_
        all_goals refine call_go (by kernel_rfl) rfl (pdiv_c _ _ _ _ _ (hx3.toV (QF.of (hb.at _) (by omega))) (hx4.toV (QF.of (hq.at _) (by omega))) (QF.of (hb.at _) (by omega)) (QF.of (hq.at _) (by omega))) fun v6 V6 hV6 h6 => ?_
        all_goals obtain ⟨x7, rfl, hx7⟩ := h6.2 hl
        all_goals obtain ⟨x, y, rfl, ox, oy⟩ := hx7.form
        all_goals simp only [XA, XB, gateX, Nat.reduceAdd, Nat.reduceLeDiff, Nat.reduceSub, Nat.reduceMul, ↓reduceIte, Int.reduceToNat, Int.reduceLE, beq_self_eq_true]
        all_goals refine st_rat rfl rfl rfl ox oy ?_
        all_goals simp only [XA, XB, gateX, Nat.reduceAdd, Nat.reduceLeDiff, Nat.reduceSub, Nat.reduceMul, ↓reduceIte, Int.reduceToNat, Int.reduceLE, beq_self_eq_true]
        all_goals exact hK _ ⟨V6, x, y, StIs.of (by exact rfl), hV6, hx7, ox, oy⟩
      rintro s ⟨V5, x, y, hs, hV5, hx, ox, oy⟩
      obtain ⟨z, rfl⟩ := hs.out
      try dsimp only
      have w3 := i64_sub rest.length q.length (by omega) (by omega)
      first | refine Gx.a (by kernel_rfl) fun K hK => ?_ | refine Gx.b (by kernel_rfl) fun K hK => ?_ | refine Gx.c (by kernel_rfl) fun K hK => ?_
      simp only [XA, XB, gateX, Nat.reduceAdd, Nat.reduceLeDiff, Nat.reduceSub, Nat.reduceMul, ↓reduceIte, Int.reduceToNat, Int.reduceLE, beq_self_eq_true, w3]
      refine hK _ ?_
      (first | refine XWP.drw [0, 3, 4, 1, 2, 5, 6] (by kernel_rfl) (by kernel_rfl) (by kernel_rfl) fun K hK => ?_ | refine XWP.seq (XWP.drw [0, 3, 4, 1, 2, 5, 6] (by kernel_rfl) (by kernel_rfl) (by kernel_rfl) fun K hK => ?_) | refine XWP.drw1 [0, 3, 4, 1, 2, 5, 6] (by kernel_rfl) (by kernel_rfl) (by kernel_rfl) fun K hK => ?_) <;> dsimp only [pickOps, List.getElem?_cons_zero, List.getElem?_cons_succ]
      simp only [XA, XB, gateX, Nat.reduceAdd, Nat.reduceLeDiff, Nat.reduceSub, Nat.reduceMul, ↓reduceIte, Int.reduceToNat, Int.reduceLE, beq_self_eq_true]
      refine call_go (by kernel_rfl) rfl (pone_c _) fun v6 V6 hV6 h6 => ?_
      obtain ⟨x6, y6, rfl, o6, o7⟩ := h6.form
      simp only [XA, XB, gateX, Nat.reduceAdd, Nat.reduceLeDiff, Nat.reduceSub, Nat.reduceMul, ↓reduceIte, Int.reduceToNat, Int.reduceLE, beq_self_eq_true]
      refine bs_go (by kernel_rfl) #[(0, .agg #[.bool (ng 1), x6, y6])] (by simp [ev_tmp, SV.val]) (bs_rat elemT_40) fun b3 hb3 hb4 => ?_
      simp only [XA, XB, gateX, Nat.reduceAdd, Nat.reduceLeDiff, Nat.reduceSub, Nat.reduceMul, ↓reduceIte, Int.reduceToNat, Int.reduceLE, beq_self_eq_true]
      refine call_pub b3 ⟨34, [.bool (ng 1), x6, y6], 3⟩ (by simp only [upd_at]) (fun o ho hle' => ?_) (by kernel_rfl) rfl
      have hone := (RowAt.snoc (RowAt.nil (E := ratE) V6) (x := 1) (show isOne (.bool (ng 1)) = true from rfl) o6 o7 h6).pub ratE_ok ho hle' (n := 1) (c := 1) rfl (Nat.le_refl _) (by omega)
      have hV6' := View.le_trans hV6 hle'
      refine call_go (by kernel_rfl) rfl (dsum_c _ _ _ _ quo [1] (topQ rest q) (rest.length - q.length) b 0 (b + B) ((hwo.up hV5).up hV6') hone (hx.mono hV6') hbq (CB_one (QB_one 0)) hQx (by omega) (by omega) (by simp only [List.length_cons, List.length_nil]; omega)) fun v7 V7 hV7 h7 => ?_
      simp only [XA, XB, gateX, Nat.reduceAdd, Nat.reduceLeDiff, Nat.reduceSub, Nat.reduceMul, ↓reduceIte, Int.reduceToNat, Int.reduceLE, beq_self_eq_true, upd_pub]
      refine hK _ ?_
      first | refine Gx.a (by kernel_rfl) fun K hK => ?_ | refine Gx.b (by kernel_rfl) fun K hK => ?_ | refine Gx.c (by kernel_rfl) fun K hK => ?_
      simp only [XA, XB, gateX, Nat.reduceAdd, Nat.reduceLeDiff, Nat.reduceSub, Nat.reduceMul, ↓reduceIte, Int.reduceToNat, Int.reduceLE, beq_self_eq_true]
      have hV7' := View.le_trans hV6' hV7
      refine call_go (by kernel_rfl) rfl (pneg_c _ _ _ ((hx.mono hV7').toV (QF.of hQx (by omega)))) fun v8 V8 hV8 h8 => ?_
      simp only [XA, XB, gateX, Nat.reduceAdd, Nat.reduceLeDiff, Nat.reduceSub, Nat.reduceMul, ↓reduceIte, Int.reduceToNat, Int.reduceLE, beq_self_eq_true]
      refine call_go (by kernel_rfl) rfl (dsum_c _ _ _ _ rest q (-topQ rest q) (rest.length - q.length) b B (b + B) (((hwr.up hV5).up hV7').up hV8) (((hu4.up hV5).up hV7').up hV8) h8 hb hq hQx.neg (by omega) (by omega) (by omega)) fun v9 V9 hV9 h9 => ?_
      simp only [XA, XB, gateX, Nat.reduceAdd, Nat.reduceLeDiff, Nat.reduceSub, Nat.reduceMul, ↓reduceIte, Int.reduceToNat, Int.reduceLE, beq_self_eq_true]
      have hlt := div_less h0 hl hle
      have hCB := CB.padd hb hq hQx.neg (rest.length - q.length)
      have hCq := (CB.padd hbq (CB_one (QB_one 0)) hQx (rest.length - q.length)).mono (show b + 0 + (b + B) + 1 ≤ b + B + (b + B) + 1 by omega)
      have hlq2 := pAdd_len quo [1] (topQ rest q) (rest.length - q.length)
      simp only [List.length_cons, List.length_nil] at hlq2
      refine hK _ ⟨_, by rw [hn]; exact hlt, fun f => ⟨V9, v9, v7, _, _, _, StIs.of (by exact rfl), View.le_trans hV4 (View.le_trans hV5 (View.le_trans hV7' (View.le_trans hV8 hV9))), rfl, h9, (h7.up hV8).up hV9, hCq, by omega, by omega, hCB, ?_, ?_, by rw [← partF_step h0 hl hle]; exact hd⟩⟩
      · have : 2 ^ (r.length - rest.length + 1) * (A + 2 * B + 2) ≤ 2 ^ (r.length - (pAdd rest q (-topQ rest q) (rest.length - q.length)).length) * (A + 2 * B + 2) := Nat.mul_le_mul_right _ (two_mono (by omega))
        omega
      · omega
    · have b1 : decide (q.length ≤ rest.length) = false := decide_eq_false hle
      first | refine Gx.a (by kernel_rfl) fun K hK => ?_ | refine Gx.b (by kernel_rfl) fun K hK => ?_ | refine Gx.c (by kernel_rfl) fun K hK => ?_
      simp only [XA, XB, gateX, Nat.reduceAdd, Nat.reduceLeDiff, Nat.reduceSub, Nat.reduceMul, ↓reduceIte, Int.reduceToNat, Int.reduceLE, beq_self_eq_true, len_geq, b1]
      refine hK _ ?_
      first | refine Gx.f rfl ?_ | refine XWP.seq (Gx.f rfl ?_)
      refine XWP.exit ?_
      rw [partF_end hle] at hd
      subst hd
      exact fun f => ⟨V4, _, _, StIs.of (by exact rfl), hwr, hwo, hb.mono (by omega), hbq.mono (by omega)⟩
  rintro s ⟨V4, wr, wo, hs, hwr, hwo, hCB, hCq⟩
  obtain ⟨z, rfl⟩ := hs.out
  try dsimp only
  first | refine Gx.a (by kernel_rfl) fun K hK => ?_ | refine Gx.b (by kernel_rfl) fun K hK => ?_ | refine Gx.c (by kernel_rfl) fun K hK => ?_
  simp only [XA, XB, gateX, Nat.reduceAdd, Nat.reduceLeDiff, Nat.reduceSub, Nat.reduceMul, ↓reduceIte, Int.reduceToNat, Int.reduceLE, beq_self_eq_true]
  refine hK _ (XWP.ret ?_)
  try simp only [thenX_ret, inBlockX_ret]
  refine ret_go _ rfl ?_
  exact ⟨_, _, rfl, hwo, hwr, hCB, hCq⟩
theorem dcommon_c (V : View) (v u : Value) (p0 q0 : List Rat) (M : Nat) (hp : Rats V v p0) (hq : Rats V u q0) (k2 : PolQ p0) (k5 : PolQ q0) (f1 : CB M p0) (f2 : CB M q0) (lP : p0.length ≤ 500) (lQ : q0.length ≤ 500) (hfit : comFit p0.length q0.length M) (hM : 2 * (M + 1) ≤ 17592186044416) (hne : ¬ (p0.length = 0 ∧ q0.length = 0)) :
    Spec Try.prog 75 [v, u] V fun v' V' => Rats V' v' (comRP p0 q0) ∧ CB 17592186044416 (comRP p0 q0) := by
  refine (Spec.enter Try.func75 rfl fun Γ => ?_)
  simp only [Try.ntmps75, List.map_cons, List.map_nil, List.length_cons, List.length_nil, Nat.reduceAdd, Nat.reduceSub, List.replicate_succ, List.replicate_zero, List.cons_append, List.nil_append]
  first | refine Gx.a (by kernel_rfl) fun K hK => ?_ | refine Gx.b (by kernel_rfl) fun K hK => ?_ | refine Gx.c (by kernel_rfl) fun K hK => ?_
  simp only [XA, XB, gateX, Nat.reduceAdd, Nat.reduceLeDiff, Nat.reduceSub, Nat.reduceMul, ↓reduceIte, Int.reduceToNat, Int.reduceLE, beq_self_eq_true]
  refine hK _ ?_
  clear hK
  generalize hmx : max p0.length q0.length = mx at *
  refine XWP.cut (fun s => ∃ (V4 : View) (w : Value) (N : Nat), StIs (fun Z => [.v w, Z 1,Z 2,Z 3,Z 4,Z 5,Z 6,Z 7,Z 8,Z 9,Z 10,Z 11,Z 12,Z 13,Z 14,Z 15,Z 16,Z 17,Z 18,Z 19,Z 20,Z 21,Z 22,Z 23,Z 24,Z 25,Z 26,Z 27,Z 28,Z 29,Z 30,Z 31,Z 32,Z 33]) [] (fun _ => none) V4 s ∧ Rats V4 w (comR (q0.length + 1) p0 q0) ∧ CB N (comR (q0.length + 1) p0 q0) ∧ PolQ (comR (q0.length + 1) p0 q0) ∧ 0 < (comR (q0.length + 1) p0 q0).length ∧ (comR (q0.length + 1) p0 q0).length ≤ 1000 ∧ 2 * N + 2 ≤ 17592186044416) ?_ ?_
  · first | refine XWP.block ?_ | refine XWP.seq (XWP.block ?_)
    refine XWP.loop (fun n s => ∃ (V4 : View) (wp wq : Value) (p q : List Rat) (N r s' : Nat), StIs (fun Z => [.v wp, .v wq, Z 2,Z 3,Z 4,Z 5,Z 6,Z 7,Z 8,Z 9,Z 10,Z 11,Z 12,Z 13,Z 14,Z 15,Z 16,Z 17,Z 18,Z 19,Z 20,Z 21,Z 22,Z 23,Z 24,Z 25,Z 26,Z 27,Z 28,Z 29,Z 30,Z 31,Z 32,Z 33]) [] (fun _ => none) V4 s ∧ n = q.length ∧ Rats V4 wp p ∧ Rats V4 wq q ∧ PolQ p ∧ PolQ q ∧ ¬ (p.length = 0 ∧ q.length = 0) ∧ CB N p ∧ CB N q ∧ N + 1 ≤ gb M r s' ∧ r + q.length ≤ q0.length ∧ s' + p.length ≤ mx + r ∧ (r = 0 ∧ s' = 0 ∧ p.length = p0.length ∧ q.length = q0.length ∨ q.length < p.length) ∧ p.length ≤ 1000 ∧ comR (q.length + 1) p q = comR (q0.length + 1) p0 q0) q0.length ⟨V, _, _, p0, q0, M, 0, 0, StIs.of (by exact rfl), rfl, hp, hq, k2, k5, hne, f1, f2, by rw [gb_zero]; omega, by omega, by omega, .inl ⟨rfl, rfl, rfl, rfl⟩, by omega, rfl⟩ ?_
    rintro n s ⟨V4, wp, wq, p, q, N, r, s', hs, hn, hwp, hwq, hpp, hqq, hne', hNp, hNq, hgb, hr, hs', hor, hpl, hcom⟩
    obtain ⟨z, rfl⟩ := hs.out
    try dsimp only
    obtain ⟨A5, c5, rfl, _, _⟩ := hwq.form
    refine XWP.seq ?_
    by_cases n2 : q.length = 0
    · have b2 : decide ((0 : Int) < (q.length : Int)) = false := decide_eq_false (by omega)
      first | refine Gx.a (by kernel_rfl) fun K hK => ?_ | refine Gx.b (by kernel_rfl) fun K hK => ?_ | refine Gx.c (by kernel_rfl) fun K hK => ?_
      simp only [XA, XB, gateX, Nat.reduceAdd, Nat.reduceLeDiff, Nat.reduceSub, Nat.reduceMul, ↓reduceIte, Int.reduceToNat, Int.reduceLE, beq_self_eq_true, b2]
      refine hK _ ?_
      first | refine Gx.f rfl ?_ | refine XWP.seq (Gx.f rfl ?_)
      refine XWP.exit ?_
      rw [comR_end (by omega)] at hcom
      subst hcom
      refine ⟨V4, wp, N, StIs.of (by exact rfl), hwp, hNp, hpp, by omega, hpl, ?_⟩
      rcases hor with ⟨h1, h2, h3, h4⟩ | h
      · subst h1; subst h2
        rw [gb_zero] at hgb; omega
      · have h1 : gb M r (s' + 1) ≤ gb M q0.length (mx + q0.length) := gb_mono (by omega) (by omega)
        have h2 : gb M r (s' + 1) = 2 * gb M r s' := by
          unfold gb
          rw [Nat.pow_succ, Nat.mul_comm (2 ^ s') 2, Nat.mul_assoc 2, Nat.mul_left_comm]
        unfold comFit at hfit
        rw [hmx] at hfit
        omega
    · have b2 : decide ((0 : Int) < (q.length : Int)) = true := decide_eq_true (by omega)
      first | refine Gx.a (by kernel_rfl) fun K hK => ?_ | refine Gx.b (by kernel_rfl) fun K hK => ?_ | refine Gx.c (by kernel_rfl) fun K hK => ?_
      simp only [XA, XB, gateX, Nat.reduceAdd, Nat.reduceLeDiff, Nat.reduceSub, Nat.reduceMul, ↓reduceIte, Int.reduceToNat, Int.reduceLE, beq_self_eq_true, b2]
      refine hK _ ?_
      first | refine Gx.t rfl ?_ | refine XWP.seq (Gx.t rfl ?_)
      refine XWP.skip ?_
      first | refine XWP.block ?_ | refine XWP.seq (XWP.block ?_)
      have hk := gb_step (k := p.length - q.length + 1) hgb
      have hgm : gb M (r + 1) (s' + (p.length - q.length + 1)) ≤ gb M q0.length (mx + q0.length) := gb_mono (by omega) (by
        rcases hor with ⟨h1, h2, h3, h4⟩ | h <;> omega)
      unfold comFit at hfit
      rw [hmx] at hfit
      have hA : 5 * N + 4 ≤ 2 ^ (p.length - q.length + 1) * (5 * N + 4) := Nat.le_mul_of_pos_left _ (two_pos _)
      have hB : 2 ^ (p.length - q.length + 1) * (N + 2 * N + 2) ≤ 2 ^ (p.length - q.length + 1) * (5 * N + 4) := Nat.mul_le_mul_left _ (by omega)
      first | refine Gx.a (by kernel_rfl) fun K hK => ?_ | refine Gx.b (by kernel_rfl) fun K hK => ?_ | refine Gx.c (by kernel_rfl) fun K hK => ?_
      simp only [XA, XB, gateX, Nat.reduceAdd, Nat.reduceLeDiff, Nat.reduceSub, Nat.reduceMul, ↓reduceIte, Int.reduceToNat, Int.reduceLE, beq_self_eq_true]
      refine call_go (by kernel_rfl) rfl (dpart_c _ _ _ p q N N hwp hwq hNp hNq (by omega) (hqq (by omega)) (by omega) (by omega) (by omega)) fun v6 V6 hV6 h6 => ?_
      obtain ⟨wd, wr, rfl, h7, h8, h9, _⟩ := h6
      simp only [XA, XB, gateX, Nat.reduceAdd, Nat.reduceLeDiff, Nat.reduceSub, Nat.reduceMul, ↓reduceIte, Int.reduceToNat, Int.reduceLE, beq_self_eq_true]
      refine hK _ ?_
      obtain ⟨hl1, hl2⟩ := partP_rest (p := p) hqq (by omega)
      first | refine Gx.a (by kernel_rfl) fun K hK => ?_ | refine Gx.b (by kernel_rfl) fun K hK => ?_ | refine Gx.c (by kernel_rfl) fun K hK => ?_
      simp only [XA, XB, gateX, Nat.reduceAdd, Nat.reduceLeDiff, Nat.reduceSub, Nat.reduceMul, ↓reduceIte, Int.reduceToNat, Int.reduceLE, beq_self_eq_true]
      refine hK _ ⟨_, by rw [hn]; exact hl1, V6, _, _, q, _, 2 ^ (p.length - q.length + 1) * (5 * N + 4), r + 1, s' + (p.length - q.length + 1), StIs.of (by exact rfl), rfl, hwq.up hV6, h8, hqq, hl2, fun h => by omega, hNq.mono (by omega), h9.mono hB, hk, by omega, ?_, .inr hl1, by omega, ?_⟩
      · rcases hor with ⟨h1, h2, h3, h4⟩ | h <;> omega
      · rw [← comR_step hqq (by omega)]; exact hcom
  rintro s ⟨V4, w, N, hs, hw, hN, hpol, hpos, hl1000, hN2⟩
  obtain ⟨z, rfl⟩ := hs.out
  try dsimp only
  unfold comRP
  generalize comR (q0.length + 1) p0 q0 = p at *
  obtain ⟨A1, c1, rfl, hc1, hm1⟩ := hw.form
  refine XWP.cut (fun s => ∃ (V2 : View) (m x y : Value), StIs (fun Z => [.v (.slice A1 p.length c1), Z 1,Z 2,Z 3,Z 4,Z 5,Z 6, .p 0 0, Z 8,Z 9,Z 10,Z 11,Z 12,Z 13,Z 14,Z 15,Z 16,Z 17,Z 18,Z 19,Z 20,Z 21,Z 22,Z 23,Z 24,Z 25,Z 26,Z 27,Z 28,Z 29,Z 30,Z 31,Z 32,Z 33]) [[m, x, y]] (fun _ => none) V2 s ∧ V4.le V2 ∧ RatC V2 (.agg #[m, x, y]) (1 / cf p (p.length - 1))) ?_ ?_
  · (first | refine XWP.drwT (.lin [1, 2, 3, 4, 5, 6] (.two (.lin [0] (.two (.lin [7, 8, 9, 10, 11, 12, 13] .nil) (.lin [11, 7, 8, 9, 10, 12, 13] .nil))) (.lin [11, 0, 7, 8, 9, 10, 12, 13] .nil))) (by kernel_rfl) (by kernel_rfl) (by kernel_rfl) fun K hK => ?_ | refine XWP.seq (XWP.drwT (.lin [1, 2, 3, 4, 5, 6] (.two (.lin [0] (.two (.lin [7, 8, 9, 10, 11, 12, 13] .nil) (.lin [11, 7, 8, 9, 10, 12, 13] .nil))) (.lin [11, 0, 7, 8, 9, 10, 12, 13] .nil))) (by kernel_rfl) (by kernel_rfl) (by kernel_rfl) fun K hK => ?_) | refine XWP.drwT1 (.lin [1, 2, 3, 4, 5, 6] (.two (.lin [0] (.two (.lin [7, 8, 9, 10, 11, 12, 13] .nil) (.lin [11, 7, 8, 9, 10, 12, 13] .nil))) (.lin [11, 0, 7, 8, 9, 10, 12, 13] .nil))) (by kernel_rfl) (by kernel_rfl) (by kernel_rfl) fun K hK => ?_)
    obtain ⟨b, o, rfl⟩ := SlAt.addr hw (by omega)
    obtain ⟨m3, n3, d3, hx3, ⟨p1, p2, p3⟩, hld3⟩ := Rats.get hw (p.length - 1) (by omega)
    have w1 := i64_pred p.length (by omega) (by omega)
    simp only [XA, XB, gateX, Nat.reduceAdd, Nat.reduceLeDiff, Nat.reduceSub, Nat.reduceMul, ↓reduceIte, Int.reduceToNat, Int.reduceLE, beq_self_eq_true, w1]
    refine ⟨by omega, by omega, ld_mem (hld3 _) ?_⟩
    simp only [XA, XB, gateX, Nat.reduceAdd, Nat.reduceLeDiff, Nat.reduceSub, Nat.reduceMul, ↓reduceIte, Int.reduceToNat, Int.reduceLE, beq_self_eq_true]
    refine And.intro ?_ ?_
    all_goals refine call_go (by kernel_rfl) rfl (pone_c _) fun v1 V1 hV1 h1 => ?_
    all_goals simp only [XA, XB, gateX, Nat.reduceAdd, Nat.reduceLeDiff, Nat.reduceSub, Nat.reduceMul, ↓reduceIte, Int.reduceToNat, Int.reduceLE, beq_self_eq_true]
    all_goals try refine And.intro ?_ ?_
    all_goals refine call_go (by kernel_rfl) rfl (pdiv_c _ _ _ _ _ (h1.toV QF_one) ((hx3.mono hV1).toV (QF.of (hN.at _) (by omega))) QF_one (QF.of (hN.at _) (by omega))) fun v2 V2 hV2 h2 => ?_
    all_goals obtain ⟨r, rfl, hr⟩ := h2.2 (hpol hpos)
    all_goals obtain ⟨x, y, rfl, ox, oy⟩ := hr.form
    all_goals simp only [XA, XB, gateX, Nat.reduceAdd, Nat.reduceLeDiff, Nat.reduceSub, Nat.reduceMul, ↓reduceIte, Int.reduceToNat, Int.reduceLE, beq_self_eq_true]
    all_goals refine st_rat rfl rfl rfl ox oy ?_
    all_goals simp only [XA, XB, gateX, Nat.reduceAdd, Nat.reduceLeDiff, Nat.reduceSub, Nat.reduceMul, ↓reduceIte, Int.reduceToNat, Int.reduceLE, beq_self_eq_true]
    all_goals exact hK _ ⟨V2, _, x, y, StIs.of (by exact rfl), View.le_trans hV1 hV2, hr⟩
  rintro s ⟨V2, m, x, y, hs, hV2, hr⟩
  obtain ⟨z, rfl⟩ := hs.out
  try dsimp only
  have hq : QB N (1 / cf p (p.length - 1)) := by
    have := (QB_one 0).div (hN.at (p.length - 1))
    rw [Nat.zero_add] at this; exact this
  first | refine Gx.a (by kernel_rfl) fun K hK => ?_ | refine Gx.b (by kernel_rfl) fun K hK => ?_ | refine Gx.c (by kernel_rfl) fun K hK => ?_
  simp only [XA, XB, gateX, Nat.reduceAdd, Nat.reduceLeDiff, Nat.reduceSub, Nat.reduceMul, ↓reduceIte, Int.reduceToNat, Int.reduceLE, beq_self_eq_true]
  refine call_go (by kernel_rfl) rfl (dsum_c _ _ _ _ [] p _ 0 0 N N (SlAt.nil _) (hw.up hV2) hr (CB_nil _) hN hq (by omega) (by simp) (by omega)) fun v3 V3 hV3 h3 => ?_
  simp only [XA, XB, gateX, Nat.reduceAdd, Nat.reduceLeDiff, Nat.reduceSub, Nat.reduceMul, ↓reduceIte, Int.reduceToNat, Int.reduceLE, beq_self_eq_true]
  refine hK _ (XWP.ret ?_)
  try simp only [thenX_ret, inBlockX_ret]
  refine ret_go _ rfl ?_
  exact ⟨h3, (scaledP_CB hN).mono (by omega)⟩
end Go.Proofs.Ythoboehbadmlmaa
end
section
namespace Go.Proofs.Ythoboehbadmlmaa
set_option linter.unusedVariables false
structure BM where
  q : List Rat
  last : List Rat
  size : Nat
  ago : Nat
  was : Rat
  deriving DecidableEq
def bm0 : BM := ⟨[1], [1], 0, 1, 1⟩
def bmNext (l : List Rat) (s : BM) (i : Nat) : List Rat := pAdd s.q s.last (-(off l s.q i / s.was)) s.ago
def bmStep (l : List Rat) (s : BM) (i : Nat) : BM :=
  if off l s.q i = 0 then { s with ago := s.ago + 1 } else
  if 2 * s.size ≤ i then ⟨bmNext l s i, s.q, i + 1 - s.size, 1, off l s.q i⟩ else ⟨bmNext l s i, s.last, s.size, s.ago + 1, s.was⟩
def bmI (l : List Rat) : Nat → BM
  | 0 => bm0
  | i + 1 => bmStep l (bmI l i) i
def bmOut (s : BM) : List Rat := mk s.size fun j => -(cf s.q (j + 1))
theorem bm_len (l : List Rat) (i : Nat) : (bmI l i).q.length ≤ i + 1 ∧ (bmI l i).last.length + (bmI l i).ago ≤ i + 2 ∧ (bmI l i).size ≤ i ∧ (bmI l i).was ≠ 0 := by
  induction i with
  | zero => exact ⟨by simp [bmI, bm0], by simp [bmI, bm0], by simp [bmI, bm0], one_ne⟩
  | succ i ih =>
    obtain ⟨h1, h2, h3, h4⟩ := ih
    unfold bmI bmStep
    have h5 := pAdd_len (bmI l i).q (bmI l i).last (-(off l (bmI l i).q i / (bmI l i).was)) (bmI l i).ago
    split
    · exact ⟨by dsimp only; omega, by dsimp only; omega, by dsimp only; omega, h4⟩
    · rename_i hd
      split
      · exact ⟨by unfold bmNext; dsimp only; omega, by dsimp only; omega, by dsimp only; omega, hd⟩
      · exact ⟨by unfold bmNext; dsimp only; omega, by dsimp only; omega, by dsimp only; omega, h4⟩
/-- all numbers of a step are small enough -/
structure BMFit (l : List Rat) (s : BM) (i : Nat) : Prop where
  hq : ∀ x ∈ s.q, QF x
  sum : ∀ k, k < min s.q.length (i + 1) → QF (offS l s.q i k) ∧ QF (cf s.q k * cf l (i - k))
  d : QF (off l s.q i)
  was : QF s.was
  by_ : QF (off l s.q i / s.was)
  add : ∃ A B C, (∀ x ∈ s.q, QB A x) ∧ (∀ x ∈ s.last, QB B x) ∧ QB C (off l s.q i / s.was) ∧ A + B + C + 2 ≤ 17592186044416
def bb (B : Nat) : Nat → Nat
  | 0 => 0
  | i + 1 => 4 * bb B i + 2 * B + 1
theorem bb_mono (B : Nat) {i j : Nat} (h : i ≤ j) : bb B i ≤ bb B j := by
  induction j with
  | zero => have : i = 0 := by omega
            subst this; exact Nat.le_refl _
  | succ j ih =>
    rcases Nat.eq_or_lt_of_le h with h1 | h1
    · subst h1; exact Nat.le_refl _
    · have := ih (by omega)
      simp only [bb]; omega
theorem bm_CB {l : List Rat} {B e : Nat} (hl : CB B l) (N : Nat) (he : N ≤ 2 ^ e) (i : Nat) (hi : i ≤ N) : CB (bb (B + e) i) (bmI l i).q ∧ CB (bb (B + e) i) (bmI l i).last ∧ QB (bb (B + e) i + B + e) (bmI l i).was := by
  induction i with
  | zero => exact ⟨CB_one (QB_one 0), CB_one (QB_one 0), QB_one _⟩
  | succ i ih =>
    obtain ⟨h1, h2, h3⟩ := ih (by omega)
    have hm : bb (B + e) i ≤ bb (B + e) (i + 1) := bb_mono (B + e) (Nat.le_succ i)
    have hd : QB (B + bb (B + e) i + e) (off l (bmI l i).q i) := CB.offs hl h1 i _ e (by omega)
    have hby := hd.div h3
    have hn := (CB.padd h1 h2 hby.neg (bmI l i).ago).mono (show _ ≤ bb (B + e) (i + 1) by simp only [bb]; omega)
    rw [bmI]
    unfold bmStep
    split
    · exact ⟨h1.mono hm, h2.mono hm, h3.mono (by omega)⟩
    · split
      · exact ⟨hn, h1.mono hm, hd.mono (by omega)⟩
      · exact ⟨hn, h2.mono hm, h3.mono (by omega)⟩
theorem bm_fit {l : List Rat} {B e : Nat} (hl : CB B l) (he : l.length ≤ 2 ^ e) (hfit : bb (B + e) l.length + B + e + 2 ≤ 17592186044416) (i : Nat) (hi : i < l.length) : BMFit l (bmI l i) i := by
  obtain ⟨h1, h2, h3⟩ := bm_CB hl l.length he i (by omega)
  have hm := bb_mono (B + e) (show i + 1 ≤ l.length from hi)
  simp only [bb] at hm
  have hS : ∀ k, k ≤ i + 1 → QB (B + bb (B + e) i + e) (offS l (bmI l i).q i k) := fun k hk => CB.offs hl h1 i k e (by omega)
  have hd : QB (B + bb (B + e) i + e) (off l (bmI l i).q i) := hS _ (by omega)
  have hby := hd.div h3
  exact ⟨h1.qf (by omega), fun k hk => ⟨QF.of (hS k (by omega)) (by omega), QF.of ((h1.at k).mul (hl.at (i - k))) (by omega)⟩, QF.of hd (by omega), QF.of h3 (by omega), QF.of hby (by omega), ⟨_, _, _, h1.mem, h2.mem, hby, by omega⟩⟩
end Go.Proofs.Ythoboehbadmlmaa
end
section
namespace Go.Proofs.Ythoboehbadmlmaa
open Go Go.RowKit
set_option linter.unusedSimpArgs false
set_option linter.unusedVariables false
attribute [local irreducible] XWP Spec SpecO XPub XCall seqX clX apX stX ldX iaX slX
theorem upd_pub2 (b c : Nat) (r r' : Option Row) : upd (upd (upd (upd (fun _ => none) b r) c r') b none) c none = fun _ => none := by
  funext k; unfold upd; split
  · rfl
  · split
    · rfl
    · rfl
theorem crec_c (V : View) (v : Value) (L : List Raw) (hv : Raws V v L) (f : fitR L) (ll : L.length ≤ 400) (hfit : okR L = true → ∀ i, i < L.length → BMFit (qs L) (bmI (qs L) i) i) (hql : okR L = true → ∀ x ∈ qs L, QF x) (hqe : okR L = true → ∀ i, QF (cf (bmI (qs L) L.length).q i)) :
    Spec Try.prog 13 [v] V fun v' V' => (okR L = false → v' = .tuple #[.slice none 0 0, .int .i64 1]) ∧ (okR L = true → L.length < 2 * (bmI (qs L) L.length).size → v' = .tuple #[.slice none 0 0, .int .i64 3]) ∧ (okR L = true → 2 * (bmI (qs L) L.length).size ≤ L.length → ∃ w, v' = .tuple #[w, .int .i64 0] ∧ Rats V' w (bmOut (bmI (qs L) L.length))) := by
  obtain ⟨A1, c1, rfl, hc1, hm1⟩ := hv.form
  refine (Spec.enter Try.func13 rfl fun Γ => ?_)
  simp only [Try.ntmps13, List.map_cons, List.map_nil, List.length_cons, List.length_nil, Nat.reduceAdd, Nat.reduceSub, List.replicate_succ, List.replicate_zero, List.cons_append, List.nil_append]
  first | refine Gx.a (by kernel_rfl) fun K hK => ?_ | refine Gx.b (by kernel_rfl) fun K hK => ?_ | refine Gx.c (by kernel_rfl) fun K hK => ?_
  simp only [XA, XB, gateX, Nat.reduceAdd, Nat.reduceLeDiff, Nat.reduceSub, Nat.reduceMul, ↓reduceIte, Int.reduceToNat, Int.reduceLE, beq_self_eq_true]
  refine hK _ ?_
  refine XWP.seq ?_
  first | refine Gx.a (by kernel_rfl) fun K hK => ?_ | refine Gx.b (by kernel_rfl) fun K hK => ?_ | refine Gx.c (by kernel_rfl) fun K hK => ?_
  simp only [XA, XB, gateX, Nat.reduceAdd, Nat.reduceLeDiff, Nat.reduceSub, Nat.reduceMul, ↓reduceIte, Int.reduceToNat, Int.reduceLE, beq_self_eq_true]
  refine call_go (by kernel_rfl) rfl (fine_c _ _ _ hv f (by omega)) fun v1 V1 hV1 h1 => ?_
  subst h1
  cases hk : okR L
  · simp only [XA, XB, gateX, Nat.reduceAdd, Nat.reduceLeDiff, Nat.reduceSub, Nat.reduceMul, ↓reduceIte, Int.reduceToNat, Int.reduceLE, beq_self_eq_true]
    refine hK _ ?_
    first | refine Gx.t rfl ?_ | refine XWP.seq (Gx.t rfl ?_)
    first | refine Gx.a (by kernel_rfl) fun K hK => ?_ | refine Gx.b (by kernel_rfl) fun K hK => ?_ | refine Gx.c (by kernel_rfl) fun K hK => ?_
    simp only [XA, XB, gateX, Nat.reduceAdd, Nat.reduceLeDiff, Nat.reduceSub, Nat.reduceMul, ↓reduceIte, Int.reduceToNat, Int.reduceLE, beq_self_eq_true]
    refine hK _ (XWP.ret ?_)
    try simp only [thenX_ret, inBlockX_ret]
    refine ret_go _ rfl ?_
    exact ⟨fun _ => rfl, fun h => (by rw [hk] at h; cases h), fun h => by rw [hk] at h; cases h⟩
  simp only [XA, XB, gateX, Nat.reduceAdd, Nat.reduceLeDiff, Nat.reduceSub, Nat.reduceMul, ↓reduceIte, Int.reduceToNat, Int.reduceLE, beq_self_eq_true]
  refine hK _ ?_
  first | refine Gx.f rfl ?_ | refine XWP.seq (Gx.f rfl ?_)
  refine XWP.skip ?_
  refine XWP.seq ?_
  have b1 : decide ((400 : Int) < (L.length : Int)) = false := decide_eq_false (by omega)
  first | refine Gx.a (by kernel_rfl) fun K hK => ?_ | refine Gx.b (by kernel_rfl) fun K hK => ?_ | refine Gx.c (by kernel_rfl) fun K hK => ?_
  simp only [XA, XB, gateX, Nat.reduceAdd, Nat.reduceLeDiff, Nat.reduceSub, Nat.reduceMul, ↓reduceIte, Int.reduceToNat, Int.reduceLE, beq_self_eq_true, b1]
  refine hK _ ?_
  first | refine Gx.f rfl ?_ | refine XWP.seq (Gx.f rfl ?_)
  refine XWP.skip ?_
  have hr := (Raws.rats hv hk).up hV1
  have hfit := hfit hk
  have hql := hql hk
  have hqe := hqe hk
  have hlen : (qs L).length = L.length := qs_len L
  generalize hqs : qs L = l at *
  generalize hN : L.length = N at *
  first | refine Gx.a (by kernel_rfl) fun K hK => ?_ | refine Gx.b (by kernel_rfl) fun K hK => ?_ | refine Gx.c (by kernel_rfl) fun K hK => ?_
  simp only [XA, XB, gateX, Nat.reduceAdd, Nat.reduceLeDiff, Nat.reduceSub, Nat.reduceMul, ↓reduceIte, Int.reduceToNat, Int.reduceLE, beq_self_eq_true]
  refine call_go (by kernel_rfl) rfl (qone_c _) fun v2 V2 hV2 h2 => ?_
  obtain ⟨x2, y2, rfl, o1, o2⟩ := h2.form
  simp only [XA, XB, gateX, Nat.reduceAdd, Nat.reduceLeDiff, Nat.reduceSub, Nat.reduceMul, ↓reduceIte, Int.reduceToNat, Int.reduceLE, beq_self_eq_true]
  refine bs_go (by kernel_rfl) #[(0, .agg #[.bool (ng 1), x2, y2])] (by simp [ev_tmp, SV.val]) (bs_rat elemT_36) fun b3 hb3 hb4 => ?_
  simp only [XA, XB, gateX, Nat.reduceAdd, Nat.reduceLeDiff, Nat.reduceSub, Nat.reduceMul, ↓reduceIte, Int.reduceToNat, Int.reduceLE, beq_self_eq_true]
  refine call_go (by kernel_rfl) rfl (qone_c _) fun v3 V3 hV3 h3 => ?_
  obtain ⟨x3, y3, rfl, o3, o4⟩ := h3.form
  simp only [XA, XB, gateX, Nat.reduceAdd, Nat.reduceLeDiff, Nat.reduceSub, Nat.reduceMul, ↓reduceIte, Int.reduceToNat, Int.reduceLE, beq_self_eq_true]
  refine bs_go (by kernel_rfl) #[(0, .agg #[.bool (ng 1), x3, y3])] (by simp [ev_tmp, SV.val]) (bs_rat elemT_36) fun b4 hb5 hb6 => ?_
  have hne : b4 ≠ b3 := fun e => by subst e; simp [upd] at hb5
  simp only [XA, XB, gateX, Nat.reduceAdd, Nat.reduceLeDiff, Nat.reduceSub, Nat.reduceMul, ↓reduceIte, Int.reduceToNat, Int.reduceLE, beq_self_eq_true]
  refine hK _ ?_
  first | refine Gx.a (by kernel_rfl) fun K hK => ?_ | refine Gx.b (by kernel_rfl) fun K hK => ?_ | refine Gx.c (by kernel_rfl) fun K hK => ?_
  simp only [XA, XB, gateX, Nat.reduceAdd, Nat.reduceLeDiff, Nat.reduceSub, Nat.reduceMul, ↓reduceIte, Int.reduceToNat, Int.reduceLE, beq_self_eq_true]
  refine call_pub b3 ⟨34, [.bool (ng 1), x2, y2], 3⟩ (by simp [upd, hne.symm]) (fun ob hob hle3 => ?_) (by kernel_rfl) rfl
  refine call_pub b4 ⟨34, [.bool (ng 1), x3, y3], 3⟩ (by simp [upd, hne]) (fun oc hoc hle4 => ?_) (by kernel_rfl) rfl
  have hq0 : Rats _ _ [1] := Rats.up ((RowAt.snoc (RowAt.nil (E := ratE) V3) (x := 1) (show isOne (.bool (ng 1)) = true from rfl) o1 o2 (h2.mono hV3)).pub ratE_ok hob hle3 (n := 1) (c := 1) rfl (Nat.le_refl _) (by omega)) hle4
  have hl0 : Rats _ _ [1] := (RowAt.snoc (RowAt.nil (E := ratE) _) (x := 1) (show isOne (.bool (ng 1)) = true from rfl) o3 o4 (h3.mono hle3)).pub ratE_ok hoc hle4 (n := 1) (c := 1) rfl (Nat.le_refl _) (by omega)
  refine call_go (by kernel_rfl) rfl (qone_c _) fun v4 V4 hV4 h4 => ?_
  obtain ⟨x4, y4, rfl, o5, o6⟩ := h4.form
  have hr := (((hr.up hV2).up hV3).up hle3).up hle4
  have hr := hr.up hV4
  simp only [XA, XB, gateX, Nat.reduceAdd, Nat.reduceLeDiff, Nat.reduceSub, Nat.reduceMul, ↓reduceIte, Int.reduceToNat, Int.reduceLE, beq_self_eq_true, upd_pub2]
  refine st_rat rfl rfl rfl o5 o6 ?_
  simp only [XA, XB, gateX, Nat.reduceAdd, Nat.reduceLeDiff, Nat.reduceSub, Nat.reduceMul, ↓reduceIte, Int.reduceToNat, Int.reduceLE, beq_self_eq_true]
  refine hK _ ?_
  clear hK
  have hq0 := hq0.up hV4
  have hl0 := hl0.up hV4
  have hV4t := View.le_trans hV1 (View.le_trans hV2 (View.le_trans hV3 (View.le_trans hle3 (View.le_trans hle4 hV4))))
  refine XWP.cutD 1 (fun s => ∃ (V5 : View) (wq : Value) (m x y : Value), StIs (fun Z => [.v (.slice A1 N c1), Z 1,Z 2,Z 3, .v wq, Z 5, .v (.int .i64 ((bmI l N).size : Int)), Z 7, .p 0 0, Z 9,Z 10,Z 11,Z 12,Z 13,Z 14,Z 15,Z 16,Z 17,Z 18,Z 19,Z 20,Z 21,Z 22,Z 23,Z 24,Z 25,Z 26,Z 27,Z 28,Z 29,Z 30,Z 31,Z 32,Z 33,Z 34,Z 35,Z 36,Z 37,Z 38,Z 39,Z 40,Z 41,Z 42,Z 43,Z 44,Z 45,Z 46,Z 47,Z 48,Z 49,Z 50,Z 51,Z 52,Z 53,Z 54,Z 55,Z 56,Z 57,Z 58,Z 59,Z 60,Z 61,Z 62,Z 63,Z 64,Z 65,Z 66,Z 67,Z 68,Z 69,Z 70,Z 71,Z 72,Z 73,Z 74,Z 75,Z 76,Z 77,Z 78,Z 79,Z 80,Z 81,Z 82,Z 83,Z 84,Z 85]) [[m, x, y]] (fun _ => none) V5 s ∧ Rats V5 wq (bmI l N).q) ?_ ?_
  · first | refine Gx.a (by kernel_rfl) fun K hK => ?_ | refine Gx.b (by kernel_rfl) fun K hK => ?_ | refine Gx.c (by kernel_rfl) fun K hK => ?_
    simp only [XA, XB, gateX, Nat.reduceAdd, Nat.reduceLeDiff, Nat.reduceSub, Nat.reduceMul, ↓reduceIte, Int.reduceToNat, Int.reduceLE, beq_self_eq_true]
    refine hK _ ?_
    clear hK
    first | refine XWP.block ?_ | refine XWP.seq (XWP.block ?_)
    refine XWP.loopD 1 (fun n s => ∃ (i : Nat) (V5 : View) (wq wl : Value) (m x y : Value), StIs (fun Z => [.v (.slice A1 N c1), Z 1,Z 2,Z 3, .v wq, .v wl, .v (.int .i64 ((bmI l i).size : Int)), .v (.int .i64 ((bmI l i).ago : Int)), .p 0 0, Z 9,Z 10,Z 11,Z 12,Z 13,Z 14,Z 15,Z 16,Z 17,Z 18,Z 19,Z 20,Z 21,Z 22,Z 23,Z 24,Z 25,Z 26,Z 27, .v (.int .i64 (N : Int)), .v (.int .i64 (i : Int)), Z 30,Z 31,Z 32,Z 33,Z 34,Z 35,Z 36,Z 37,Z 38,Z 39,Z 40,Z 41,Z 42,Z 43,Z 44,Z 45,Z 46,Z 47,Z 48,Z 49,Z 50,Z 51,Z 52,Z 53,Z 54,Z 55,Z 56,Z 57,Z 58,Z 59,Z 60,Z 61,Z 62,Z 63,Z 64,Z 65,Z 66,Z 67,Z 68,Z 69,Z 70,Z 71,Z 72,Z 73,Z 74,Z 75,Z 76,Z 77,Z 78,Z 79,Z 80,Z 81,Z 82,Z 83,Z 84,Z 85]) [[m, x, y]] (fun _ => none) V5 s ∧ n + i = N ∧ Rats V5 (.slice A1 N c1) l ∧ Rats V5 wq (bmI l i).q ∧ Rats V5 wl (bmI l i).last ∧ RatC V5 (.agg #[m, x, y]) (bmI l i).was ∧ isOne m = true ∧ isOne x = true ∧ isOne y = true) N ⟨0, _, _, _, _, x4, y4, StIs.of (by exact rfl), rfl, hr, hq0, hl0, h4, rfl, o5, o6⟩ ?_
    clear hr hq0 hl0 h4 o5 o6
    rintro n s ⟨i, V5, wq, wl, m, x, y, hs, hn, hr, hwq, hwl, hwas, om, ox, oy⟩
    obtain ⟨z, rfl⟩ := hs.out
    try dsimp only
    obtain ⟨g1, g2, g3, g4⟩ := bm_len l i
    by_cases hi : i < N
    · have b2 : decide ((i : Int) < (N : Int)) = true := decide_eq_true (by omega)
      first | refine Gx.a (by kernel_rfl) fun K hK => ?_ | refine Gx.b (by kernel_rfl) fun K hK => ?_ | refine Gx.c (by kernel_rfl) fun K hK => ?_
      simp only [XA, XB, gateX, Nat.reduceAdd, Nat.reduceLeDiff, Nat.reduceSub, Nat.reduceMul, ↓reduceIte, Int.reduceToNat, Int.reduceLE, beq_self_eq_true, b2]
      refine hK _ ?_
      first | refine Gx.t rfl ?_ | refine XWP.seq (Gx.t rfl ?_)
      refine XWP.skip ?_
      have hF := hfit i hi
      refine XWP.seq ?_
      first | refine XWP.block ?_ | refine XWP.seq (XWP.block ?_)
      first | refine Gx.a (by kernel_rfl) fun K hK => ?_ | refine Gx.b (by kernel_rfl) fun K hK => ?_ | refine Gx.c (by kernel_rfl) fun K hK => ?_
      simp only [XA, XB, gateX, Nat.reduceAdd, Nat.reduceLeDiff, Nat.reduceSub, Nat.reduceMul, ↓reduceIte, Int.reduceToNat, Int.reduceLE, beq_self_eq_true]
      refine hK _ ?_
      first | refine Gx.a (by kernel_rfl) fun K hK => ?_ | refine Gx.b (by kernel_rfl) fun K hK => ?_ | refine Gx.c (by kernel_rfl) fun K hK => ?_
      simp only [XA, XB, gateX, Nat.reduceAdd, Nat.reduceLeDiff, Nat.reduceSub, Nat.reduceMul, ↓reduceIte, Int.reduceToNat, Int.reduceLE, beq_self_eq_true]
      refine call_go (by kernel_rfl) rfl (off_c _ _ _ l (bmI l i).q i hr hwq (by omega) (by omega) (by omega) hql hF.hq hF.sum) fun v6 V6 hV6 h6 => ?_
      obtain ⟨x6, y6, rfl, o7, o8⟩ := h6.form
      simp only [XA, XB, gateX, Nat.reduceAdd, Nat.reduceLeDiff, Nat.reduceSub, Nat.reduceMul, ↓reduceIte, Int.reduceToNat, Int.reduceLE, beq_self_eq_true]
      refine st_rat rfl rfl rfl o7 o8 ?_
      simp only [XA, XB, gateX, Nat.reduceAdd, Nat.reduceLeDiff, Nat.reduceSub, Nat.reduceMul, ↓reduceIte, Int.reduceToNat, Int.reduceLE, beq_self_eq_true]
      refine hK _ ?_
      refine XWP.seq ?_
      first | refine Gx.a (by kernel_rfl) fun K hK => ?_ | refine Gx.b (by kernel_rfl) fun K hK => ?_ | refine Gx.c (by kernel_rfl) fun K hK => ?_
      simp only [XA, XB, gateX, Nat.reduceAdd, Nat.reduceLeDiff, Nat.reduceSub, Nat.reduceMul, ↓reduceIte, Int.reduceToNat, Int.reduceLE, beq_self_eq_true]
      refine call_go (by kernel_rfl) rfl (czero_c _ _ _ h6) fun v7 V7 hV7 h7 => ?_
      subst h7
      by_cases hz : off l (bmI l i).q i = 0
      · have b3 : decide (off l (bmI l i).q i = 0) = true := decide_eq_true hz
        have es : bmI l (i + 1) = { bmI l i with ago := (bmI l i).ago + 1 } := by rw [bmI]; unfold bmStep; rw [if_pos hz]
        simp only [XA, XB, gateX, Nat.reduceAdd, Nat.reduceLeDiff, Nat.reduceSub, Nat.reduceMul, ↓reduceIte, Int.reduceToNat, Int.reduceLE, beq_self_eq_true, b3]
        refine hK _ ?_
        first | refine Gx.t rfl ?_ | refine XWP.seq (Gx.t rfl ?_)
        first | refine Gx.a (by kernel_rfl) fun K hK => ?_ | refine Gx.b (by kernel_rfl) fun K hK => ?_ | refine Gx.c (by kernel_rfl) fun K hK => ?_
        simp only [XA, XB, gateX, Nat.reduceAdd, Nat.reduceLeDiff, Nat.reduceSub, Nat.reduceMul, ↓reduceIte, Int.reduceToNat, Int.reduceLE, beq_self_eq_true, i64_succ (bmI l i).ago (by omega)]
        refine hK _ ?_
        refine XWP.exit ?_
        show XWP _ _ _ _ _
        first | refine Gx.a (by kernel_rfl) fun K hK => ?_ | refine Gx.b (by kernel_rfl) fun K hK => ?_ | refine Gx.c (by kernel_rfl) fun K hK => ?_
        simp only [XA, XB, gateX, Nat.reduceAdd, Nat.reduceLeDiff, Nat.reduceSub, Nat.reduceMul, ↓reduceIte, Int.reduceToNat, Int.reduceLE, beq_self_eq_true, i64_succ i (by omega)]
        have hV67 := View.le_trans hV6 hV7
        refine hK _ ⟨n - 1, by omega, fun f => ⟨i + 1, V7, wq, wl, m, x, y, ?_, by omega, hr.up hV67, by rw [es]; exact hwq.up hV67, by rw [es]; exact hwl.up hV67, by rw [es]; exact hwas.mono hV67, om, ox, oy⟩⟩
        rw [es]
        exact StIs.of (by exact rfl)
      · have b3 : decide (off l (bmI l i).q i = 0) = false := decide_eq_false hz
        simp only [XA, XB, gateX, Nat.reduceAdd, Nat.reduceLeDiff, Nat.reduceSub, Nat.reduceMul, ↓reduceIte, Int.reduceToNat, Int.reduceLE, beq_self_eq_true, b3]
        refine hK _ ?_
        first | refine Gx.f rfl ?_ | refine XWP.seq (Gx.f rfl ?_)
        refine XWP.skip ?_
        first | refine Gx.a (by kernel_rfl) fun K hK => ?_ | refine Gx.b (by kernel_rfl) fun K hK => ?_ | refine Gx.c (by kernel_rfl) fun K hK => ?_
        simp only [XA, XB, gateX, Nat.reduceAdd, Nat.reduceLeDiff, Nat.reduceSub, Nat.reduceMul, ↓reduceIte, Int.reduceToNat, Int.reduceLE, beq_self_eq_true]
        have hV67 := View.le_trans hV6 hV7
        refine call_go (by kernel_rfl) rfl (qdiv_c _ _ _ _ _ (h6.mono hV7) (hwas.mono hV67) hF.d hF.was) fun v8 V8 hV8 h8 => ?_
        obtain ⟨r8, rfl, h8'⟩ := h8.2 g4
        obtain ⟨x8, y8, rfl, o9, o10⟩ := h8'.form
        simp only [XA, XB, gateX, Nat.reduceAdd, Nat.reduceLeDiff, Nat.reduceSub, Nat.reduceMul, ↓reduceIte, Int.reduceToNat, Int.reduceLE, beq_self_eq_true]
        refine st_rat rfl rfl rfl o9 o10 ?_
        simp only [XA, XB, gateX, Nat.reduceAdd, Nat.reduceLeDiff, Nat.reduceSub, Nat.reduceMul, ↓reduceIte, Int.reduceToNat, Int.reduceLE, beq_self_eq_true]
        refine hK _ ?_
        first | refine Gx.a (by kernel_rfl) fun K hK => ?_ | refine Gx.b (by kernel_rfl) fun K hK => ?_ | refine Gx.c (by kernel_rfl) fun K hK => ?_
        simp only [XA, XB, gateX, Nat.reduceAdd, Nat.reduceLeDiff, Nat.reduceSub, Nat.reduceMul, ↓reduceIte, Int.reduceToNat, Int.reduceLE, beq_self_eq_true]
        refine call_go (by kernel_rfl) rfl (qneg_c _ _ _ h8' hF.by_) fun v9 V9 hV9 h9 => ?_
        simp only [XA, XB, gateX, Nat.reduceAdd, Nat.reduceLeDiff, Nat.reduceSub, Nat.reduceMul, ↓reduceIte, Int.reduceToNat, Int.reduceLE, beq_self_eq_true]
        have hV69 := View.le_trans hV67 (View.le_trans hV8 hV9)
        obtain ⟨A, B, C, a1, a2, a3, a4⟩ := hF.add
        refine call_go (by kernel_rfl) rfl (cadd_c _ _ _ _ (bmI l i).q (bmI l i).last _ (bmI l i).ago A B C (hwq.up hV69) (hwl.up hV69) h9 a1 a2 a3.neg a4 (by omega) (by omega)) fun v10 V10 hV10 h10 => ?_
        have hV610 := View.le_trans hV69 hV10
        simp only [XA, XB, gateX, Nat.reduceAdd, Nat.reduceLeDiff, Nat.reduceSub, Nat.reduceMul, ↓reduceIte, Int.reduceToNat, Int.reduceLE, beq_self_eq_true]
        refine hK _ ?_
        clear hK
        have hnx : pAdd (bmI l i).q (bmI l i).last (-(off l (bmI l i).q i / (bmI l i).was)) (bmI l i).ago = bmNext l (bmI l i) i := rfl
        rw [hnx] at h10
        refine XWP.cutD 1 (fun s => ∃ (V11 : View) (wl' : Value) (m' x' y' : Value) (ag : Nat), StIs (fun Z => [.v (.slice A1 N c1), Z 1,Z 2,Z 3, Z 4, .v wl', .v (.int .i64 ((bmI l (i + 1)).size : Int)), .v (.int .i64 (ag : Int)), .p 0 0, Z 9,Z 10,Z 11,Z 12, .v v10, Z 14,Z 15,Z 16,Z 17,Z 18,Z 19,Z 20,Z 21,Z 22,Z 23,Z 24,Z 25,Z 26,Z 27, .v (.int .i64 (N : Int)), .v (.int .i64 (i : Int)), Z 30,Z 31,Z 32,Z 33,Z 34,Z 35,Z 36,Z 37,Z 38,Z 39,Z 40,Z 41,Z 42,Z 43,Z 44,Z 45,Z 46,Z 47,Z 48,Z 49,Z 50,Z 51,Z 52,Z 53,Z 54,Z 55,Z 56,Z 57,Z 58,Z 59,Z 60,Z 61,Z 62,Z 63,Z 64,Z 65,Z 66,Z 67,Z 68,Z 69,Z 70,Z 71,Z 72,Z 73,Z 74,Z 75,Z 76,Z 77,Z 78,Z 79,Z 80,Z 81,Z 82,Z 83,Z 84,Z 85]) [[m', x', y']] (fun _ => none) V11 s ∧ V10.le V11 ∧ (bmI l (i + 1)).q = bmNext l (bmI l i) i ∧ (bmI l (i + 1)).ago = ag + 1 ∧ Rats V11 wl' (bmI l (i + 1)).last ∧ RatC V11 (.agg #[m', x', y']) (bmI l (i + 1)).was ∧ isOne m' = true ∧ isOne x' = true ∧ isOne y' = true) ?_ ?_
        · first | refine Gx.a (by kernel_rfl) fun K hK => ?_ | refine Gx.b (by kernel_rfl) fun K hK => ?_ | refine Gx.c (by kernel_rfl) fun K hK => ?_
          have w1 : IntKind.i64.wrap (2 * ((bmI l i).size : Int)) = ((2 * (bmI l i).size : Nat) : Int) := by rw [wrap_id (by omega) (by omega)]; omega
          by_cases hs2 : 2 * (bmI l i).size ≤ i
          · have b4 : decide (((2 * (bmI l i).size : Nat) : Int) ≤ (i : Int)) = true := decide_eq_true (by omega)
            have es : bmI l (i + 1) = ⟨bmNext l (bmI l i) i, (bmI l i).q, i + 1 - (bmI l i).size, 1, off l (bmI l i).q i⟩ := by rw [bmI]; unfold bmStep; rw [if_neg hz, if_pos hs2]
            have w2 := i64_succ i (by omega)
            have w3 := i64_sub (i + 1) (bmI l i).size (by omega) (by omega)
            simp only [XA, XB, gateX, Nat.reduceAdd, Nat.reduceLeDiff, Nat.reduceSub, Nat.reduceMul, ↓reduceIte, Int.reduceToNat, Int.reduceLE, beq_self_eq_true, w1, b4]
            refine hK _ ?_
            first | refine Gx.t rfl ?_ | refine XWP.seq (Gx.t rfl ?_)
            (first | refine XWP.drw [0, 1, 2, 3, 4, 5, 6, 7, 8, 9] (by kernel_rfl) (by kernel_rfl) (by kernel_rfl) fun K hK => ?_ | refine XWP.seq (XWP.drw [0, 1, 2, 3, 4, 5, 6, 7, 8, 9] (by kernel_rfl) (by kernel_rfl) (by kernel_rfl) fun K hK => ?_) | refine XWP.drw1 [0, 1, 2, 3, 4, 5, 6, 7, 8, 9] (by kernel_rfl) (by kernel_rfl) (by kernel_rfl) fun K hK => ?_) <;> dsimp only [pickOps, List.getElem?_cons_zero, List.getElem?_cons_succ]
            simp only [XA, XB, gateX, Nat.reduceAdd, Nat.reduceLeDiff, Nat.reduceSub, Nat.reduceMul, ↓reduceIte, Int.reduceToNat, Int.reduceLE, beq_self_eq_true, w2, w3]
            refine st_rat rfl rfl rfl o7 o8 ?_
            simp only [XA, XB, gateX, Nat.reduceAdd, Nat.reduceLeDiff, Nat.reduceSub, Nat.reduceMul, ↓reduceIte, Int.reduceToNat, Int.reduceLE, beq_self_eq_true]
            refine hK _ fun f => ⟨V10, wq, _, x6, y6, 0, ?_, View.le_refl _, by rw [es], by rw [es], by rw [es]; exact hwq.up hV610, by rw [es]; exact h6.mono (View.le_trans hV7 (View.le_trans hV8 (View.le_trans hV9 hV10))), rfl, o7, o8⟩
            rw [es]
            exact StIs.of (by exact rfl)
          · have b4 : decide (((2 * (bmI l i).size : Nat) : Int) ≤ (i : Int)) = false := decide_eq_false (by omega)
            have es : bmI l (i + 1) = ⟨bmNext l (bmI l i) i, (bmI l i).last, (bmI l i).size, (bmI l i).ago + 1, (bmI l i).was⟩ := by rw [bmI]; unfold bmStep; rw [if_neg hz, if_neg hs2]
            simp only [XA, XB, gateX, Nat.reduceAdd, Nat.reduceLeDiff, Nat.reduceSub, Nat.reduceMul, ↓reduceIte, Int.reduceToNat, Int.reduceLE, beq_self_eq_true, w1, b4]
            refine hK _ ?_
            first | refine Gx.f rfl ?_ | refine XWP.seq (Gx.f rfl ?_)
            refine XWP.skip ?_
            refine fun f => ⟨V10, wl, m, x, y, (bmI l i).ago, ?_, View.le_refl _, by rw [es], by rw [es], by rw [es]; exact hwl.up hV610, by rw [es]; exact hwas.mono hV610, om, ox, oy⟩
            rw [es]
            exact StIs.of (by exact rfl)
        rintro s ⟨V11, wl', m', x', y', ag, hs, hV11, e1, e2, hwl', hwas', om', ox', oy'⟩
        obtain ⟨z, rfl⟩ := hs.out
        try dsimp only
        have g5 := (bm_len l (i + 1)).2.1
        first | refine Gx.a (by kernel_rfl) fun K hK => ?_ | refine Gx.b (by kernel_rfl) fun K hK => ?_ | refine Gx.c (by kernel_rfl) fun K hK => ?_
        simp only [XA, XB, gateX, Nat.reduceAdd, Nat.reduceLeDiff, Nat.reduceSub, Nat.reduceMul, ↓reduceIte, Int.reduceToNat, Int.reduceLE, beq_self_eq_true]
        refine hK _ ?_
        first | refine Gx.a (by kernel_rfl) fun K hK => ?_ | refine Gx.b (by kernel_rfl) fun K hK => ?_ | refine Gx.c (by kernel_rfl) fun K hK => ?_
        simp only [XA, XB, gateX, Nat.reduceAdd, Nat.reduceLeDiff, Nat.reduceSub, Nat.reduceMul, ↓reduceIte, Int.reduceToNat, Int.reduceLE, beq_self_eq_true, i64_succ ag (by omega)]
        refine hK _ ?_
        first | refine Gx.a (by kernel_rfl) fun K hK => ?_ | refine Gx.b (by kernel_rfl) fun K hK => ?_ | refine Gx.c (by kernel_rfl) fun K hK => ?_
        simp only [XA, XB, gateX, Nat.reduceAdd, Nat.reduceLeDiff, Nat.reduceSub, Nat.reduceMul, ↓reduceIte, Int.reduceToNat, Int.reduceLE, beq_self_eq_true, i64_succ i (by omega)]
        refine hK _ ⟨n - 1, by omega, fun f => ⟨i + 1, V11, v10, wl', m', x', y', ?_, by omega, hr.up (View.le_trans hV610 hV11), by rw [e1]; exact h10.up hV11, hwl', hwas', om', ox', oy'⟩⟩
        rw [e2]
        exact StIs.of (by exact rfl)
    · have b2 : decide ((i : Int) < (N : Int)) = false := decide_eq_false (by omega)
      obtain rfl : i = N := by omega
      first | refine Gx.a (by kernel_rfl) fun K hK => ?_ | refine Gx.b (by kernel_rfl) fun K hK => ?_ | refine Gx.c (by kernel_rfl) fun K hK => ?_
      simp only [XA, XB, gateX, Nat.reduceAdd, Nat.reduceLeDiff, Nat.reduceSub, Nat.reduceMul, ↓reduceIte, Int.reduceToNat, Int.reduceLE, beq_self_eq_true, b2]
      refine hK _ ?_
      first | refine Gx.f rfl ?_ | refine XWP.seq (Gx.f rfl ?_)
      refine XWP.exit ?_
      exact fun f => ⟨V5, wq, m, x, y, StIs.of (by exact rfl), hwq⟩
  clear hr hq0 hl0 h4 o5 o6
  rintro s ⟨V5, wq, m, x, y, hs, hwq⟩
  obtain ⟨z, rfl⟩ := hs.out
  try dsimp only
  obtain ⟨g1, g2, g3, g4⟩ := bm_len l N
  generalize bmI l N = bm at *
  have w1 : IntKind.i64.wrap (2 * (bm.size : Int)) = ((2 * bm.size : Nat) : Int) := by rw [wrap_id (by omega) (by omega)]; omega
  refine XWP.seq ?_
  by_cases hs2 : N < 2 * bm.size
  · have b4 : decide ((N : Int) < ((2 * bm.size : Nat) : Int)) = true := decide_eq_true (by omega)
    first | refine Gx.a (by kernel_rfl) fun K hK => ?_ | refine Gx.b (by kernel_rfl) fun K hK => ?_ | refine Gx.c (by kernel_rfl) fun K hK => ?_
    simp only [XA, XB, gateX, Nat.reduceAdd, Nat.reduceLeDiff, Nat.reduceSub, Nat.reduceMul, ↓reduceIte, Int.reduceToNat, Int.reduceLE, beq_self_eq_true, w1, b4]
    refine hK _ ?_
    first | refine Gx.t rfl ?_ | refine XWP.seq (Gx.t rfl ?_)
    first | refine Gx.a (by kernel_rfl) fun K hK => ?_ | refine Gx.b (by kernel_rfl) fun K hK => ?_ | refine Gx.c (by kernel_rfl) fun K hK => ?_
    simp only [XA, XB, gateX, Nat.reduceAdd, Nat.reduceLeDiff, Nat.reduceSub, Nat.reduceMul, ↓reduceIte, Int.reduceToNat, Int.reduceLE, beq_self_eq_true]
    refine hK _ (XWP.ret ?_)
    try simp only [thenX_ret, inBlockX_ret]
    refine ret_go _ rfl ?_
    exact ⟨fun h => (by rw [hk] at h; cases h), fun _ _ => rfl, fun _ h => by omega⟩
  have b4 : decide ((N : Int) < ((2 * bm.size : Nat) : Int)) = false := decide_eq_false (by omega)
  first | refine Gx.a (by kernel_rfl) fun K hK => ?_ | refine Gx.b (by kernel_rfl) fun K hK => ?_ | refine Gx.c (by kernel_rfl) fun K hK => ?_
  simp only [XA, XB, gateX, Nat.reduceAdd, Nat.reduceLeDiff, Nat.reduceSub, Nat.reduceMul, ↓reduceIte, Int.reduceToNat, Int.reduceLE, beq_self_eq_true, w1, b4]
  refine hK _ ?_
  first | refine Gx.f rfl ?_ | refine XWP.seq (Gx.f rfl ?_)
  refine XWP.skip ?_
  first | refine Gx.a (by kernel_rfl) fun K hK => ?_ | refine Gx.b (by kernel_rfl) fun K hK => ?_ | refine Gx.c (by kernel_rfl) fun K hK => ?_
  refine bs_go (by kernel_rfl) #[] (by simp) (bs_zero elemT_22 zeroT_34) fun b hb1 hb2 => ?_
  simp only [XA, XB, gateX, Nat.reduceAdd, Nat.reduceLeDiff, Nat.reduceSub, Nat.reduceMul, ↓reduceIte, Int.reduceToNat, Int.reduceLE, beq_self_eq_true]
  refine hK _ ?_
  clear hK
  refine XWP.cut (fun s => ∃ (V6 : View) (H5 : Heap) (cells : List Value) (wo : Value), StIs (fun Z => [Z 0,Z 1,Z 2,Z 3,Z 4,Z 5,Z 6,Z 7,Z 8,Z 9,Z 10,Z 11,Z 12,Z 13, .v wo, Z 15,Z 16,Z 17,Z 18,Z 19,Z 20,Z 21,Z 22,Z 23,Z 24,Z 25,Z 26,Z 27,Z 28,Z 29,Z 30,Z 31,Z 32,Z 33,Z 34,Z 35,Z 36,Z 37,Z 38,Z 39,Z 40,Z 41,Z 42,Z 43,Z 44,Z 45,Z 46,Z 47,Z 48,Z 49,Z 50,Z 51,Z 52,Z 53,Z 54,Z 55,Z 56,Z 57,Z 58,Z 59,Z 60,Z 61,Z 62,Z 63,Z 64,Z 65,Z 66,Z 67,Z 68,Z 69,Z 70,Z 71,Z 72,Z 73,Z 74,Z 75,Z 76,Z 77,Z 78,Z 79,Z 80,Z 81,Z 82,Z 83,Z 84,Z 85]) [[m, x, y]] H5 V6 s ∧ Own H5 34 3 wo bm.size cells ∧ RowAt ratE V6 cells (bmOut bm)) ?_ ?_
  · first | refine Gx.a (by kernel_rfl) fun K hK => ?_ | refine Gx.b (by kernel_rfl) fun K hK => ?_ | refine Gx.c (by kernel_rfl) fun K hK => ?_
    simp only [XA, XB, gateX, Nat.reduceAdd, Nat.reduceLeDiff, Nat.reduceSub, Nat.reduceMul, ↓reduceIte, Int.reduceToNat, Int.reduceLE, beq_self_eq_true]
    refine hK _ ?_
    clear hK
    first | refine XWP.block ?_ | refine XWP.seq (XWP.block ?_)
    refine XWP.loop (fun n s => ∃ (j : Nat) (V6 : View) (H5 : Heap) (cells : List Value) (wo : Value), StIs (fun Z => [Z 0,Z 1,Z 2,Z 3, .v wq, Z 5,Z 6,Z 7,Z 8,Z 9,Z 10,Z 11,Z 12,Z 13, .v wo, Z 15,Z 16,Z 17,Z 18,Z 19,Z 20,Z 21,Z 22,Z 23,Z 24,Z 25,Z 26,Z 27,Z 28,Z 29,Z 30,Z 31,Z 32,Z 33,Z 34,Z 35,Z 36,Z 37,Z 38,Z 39,Z 40,Z 41,Z 42,Z 43,Z 44,Z 45,Z 46,Z 47,Z 48,Z 49,Z 50,Z 51,Z 52,Z 53,Z 54,Z 55,Z 56,Z 57,Z 58,Z 59,Z 60,Z 61,Z 62,Z 63,Z 64,Z 65,Z 66,Z 67,Z 68,Z 69,Z 70,Z 71, .v (.int .i64 (bm.size : Int)), .v (.int .i64 (j : Int)), Z 74,Z 75,Z 76,Z 77,Z 78,Z 79,Z 80,Z 81,Z 82,Z 83,Z 84,Z 85]) [[m, x, y]] H5 V6 s ∧ V5.le V6 ∧ n + j = bm.size ∧ Own H5 34 3 wo j cells ∧ RowAt ratE V6 cells (mk j fun j => -(cf bm.q (j + 1)))) bm.size ⟨0, V5, _, [], _, StIs.of (by exact rfl), View.le_refl _, rfl, own3 (by simp [upd]) rfl (Nat.le_refl _) (by omega), RowAt.nil _⟩ ?_
    rintro n s ⟨j, V6, H5, cells, wo, hs, hV6, hn, hown, hrow⟩
    obtain ⟨z, rfl⟩ := hs.out
    try dsimp only
    by_cases hj : j < bm.size
    · have b5 : decide ((j : Int) < (bm.size : Int)) = true := decide_eq_true (by omega)
      first | refine Gx.a (by kernel_rfl) fun K hK => ?_ | refine Gx.b (by kernel_rfl) fun K hK => ?_ | refine Gx.c (by kernel_rfl) fun K hK => ?_
      simp only [XA, XB, gateX, Nat.reduceAdd, Nat.reduceLeDiff, Nat.reduceSub, Nat.reduceMul, ↓reduceIte, Int.reduceToNat, Int.reduceLE, beq_self_eq_true, b5]
      refine hK _ ?_
      first | refine Gx.t rfl ?_ | refine XWP.seq (Gx.t rfl ?_)
      refine XWP.skip ?_
      refine XWP.seq ?_
      first | refine XWP.block ?_ | refine XWP.seq (XWP.block ?_)
      first | refine Gx.a (by kernel_rfl) fun K hK => ?_ | refine Gx.b (by kernel_rfl) fun K hK => ?_ | refine Gx.c (by kernel_rfl) fun K hK => ?_
      simp only [XA, XB, gateX, Nat.reduceAdd, Nat.reduceLeDiff, Nat.reduceSub, Nat.reduceMul, ↓reduceIte, Int.reduceToNat, Int.reduceLE, beq_self_eq_true]
      refine hK _ ?_
      first | refine Gx.a (by kernel_rfl) fun K hK => ?_ | refine Gx.b (by kernel_rfl) fun K hK => ?_ | refine Gx.c (by kernel_rfl) fun K hK => ?_
      simp only [XA, XB, gateX, Nat.reduceAdd, Nat.reduceLeDiff, Nat.reduceSub, Nat.reduceMul, ↓reduceIte, Int.reduceToNat, Int.reduceLE, beq_self_eq_true, i64_succ j (by omega)]
      refine call_go (by kernel_rfl) rfl (cget_c _ _ _ (j + 1) (hwq.up hV6) (by omega)) fun v7 V7 hV7 h7 => ?_
      simp only [XA, XB, gateX, Nat.reduceAdd, Nat.reduceLeDiff, Nat.reduceSub, Nat.reduceMul, ↓reduceIte, Int.reduceToNat, Int.reduceLE, beq_self_eq_true]
      refine call_go (by kernel_rfl) rfl (qneg_c _ _ _ h7 (hqe _)) fun v8 V8 hV8 h8 => ?_
      obtain ⟨x8, y8, rfl, o1, o2⟩ := h8.form
      simp only [XA, XB, gateX, Nat.reduceAdd, Nat.reduceLeDiff, Nat.reduceSub, Nat.reduceMul, ↓reduceIte, Int.reduceToNat, Int.reduceLE, beq_self_eq_true]
      refine bs_go (by kernel_rfl) #[(0, .agg #[.bool (ng (-(cf bm.q (j + 1)))), x8, y8])] (by simp [ev_tmp, SV.val]) (bs_rat elemT_22) fun b3 hb3 hb4 => ?_
      simp only [XA, XB, gateX, Nat.reduceAdd, Nat.reduceLeDiff, Nat.reduceSub, Nat.reduceMul, ↓reduceIte, Int.reduceToNat, Int.reduceLE, beq_self_eq_true]
      refine ap_go elemT_22 (by kernel_rfl) zeroT_34 rfl (by omega) (own_upd hown hb3) (src3 (upd_at _ _ _) rfl o1 o2) (by omega) (by omega) fun v' H' hres => ?_
      simp only [XA, XB, gateX, Nat.reduceAdd, Nat.reduceLeDiff, Nat.reduceSub, Nat.reduceMul, ↓reduceIte, Int.reduceToNat, Int.reduceLE, beq_self_eq_true]
      refine hK _ ?_
      first | refine Gx.a (by kernel_rfl) fun K hK => ?_ | refine Gx.b (by kernel_rfl) fun K hK => ?_ | refine Gx.c (by kernel_rfl) fun K hK => ?_
      simp only [XA, XB, gateX, Nat.reduceAdd, Nat.reduceLeDiff, Nat.reduceSub, Nat.reduceMul, ↓reduceIte, Int.reduceToNat, Int.reduceLE, beq_self_eq_true, i64_succ j (by omega)]
      have hrow' := (hrow.mono ratE_ok (View.le_trans hV7 hV8)).snoc (x := -(cf bm.q (j + 1))) (show isOne (.bool (ng (-(cf bm.q (j + 1))))) = true from rfl) o1 o2 h8
      have em := mk_succ j fun j => -(cf bm.q (j + 1))
      rw [← em] at hrow'
      exact hK _ ⟨n - 1, by omega, j + 1, V8, _, _, _, StIs.of (by exact rfl), View.le_trans hV6 (View.le_trans hV7 hV8), by omega, hres.1, hrow'⟩
    · have b5 : decide ((j : Int) < (bm.size : Int)) = false := decide_eq_false (by omega)
      obtain rfl : j = bm.size := by omega
      first | refine Gx.a (by kernel_rfl) fun K hK => ?_ | refine Gx.b (by kernel_rfl) fun K hK => ?_ | refine Gx.c (by kernel_rfl) fun K hK => ?_
      simp only [XA, XB, gateX, Nat.reduceAdd, Nat.reduceLeDiff, Nat.reduceSub, Nat.reduceMul, ↓reduceIte, Int.reduceToNat, Int.reduceLE, beq_self_eq_true, b5]
      refine hK _ ?_
      first | refine Gx.f rfl ?_ | refine XWP.seq (Gx.f rfl ?_)
      refine XWP.exit ?_
      exact ⟨V6, H5, cells, wo, StIs.of (by exact rfl), hown, hrow⟩
  rintro s ⟨V6, H5, cells, wo, hs, hown, hrow⟩
  obtain ⟨z, rfl⟩ := hs.out
  try dsimp only
  first | refine Gx.a (by kernel_rfl) fun K hK => ?_ | refine Gx.b (by kernel_rfl) fun K hK => ?_ | refine Gx.c (by kernel_rfl) fun K hK => ?_
  simp only [XA, XB, gateX, Nat.reduceAdd, Nat.reduceLeDiff, Nat.reduceSub, Nat.reduceMul, ↓reduceIte, Int.reduceToNat, Int.reduceLE, beq_self_eq_true]
  refine hK _ (XWP.ret ?_)
  try simp only [thenX_ret, inBlockX_ret]
  rcases own_parts hown with ⟨rfl, hn0, rfl⟩ | ⟨g, cap, rfl, hg, hle, hcap, _⟩
  · refine ret_go _ rfl ⟨fun h => (by rw [hk] at h; cases h), fun _ h => absurd h (by omega), fun _ _ => ⟨_, rfl, ?_⟩⟩
    have : bmOut bm = [] := List.length_eq_zero_iff.1 (by unfold bmOut; rw [mk_len]; exact hn0)
    rw [this]; exact SlAt.nil _
  · refine ret_pub g _ hg fun o ho hle' => ret_go _ rfl ⟨fun h => (by rw [hk] at h; cases h), fun _ h => absurd h (by omega), fun _ _ => ⟨_, rfl, ?_⟩⟩
    exact hrow.pub ratE_ok ho hle' (mk_len _ _) hle (by unfold maxLen at hcap; omega)
end Go.Proofs.Ythoboehbadmlmaa
end
