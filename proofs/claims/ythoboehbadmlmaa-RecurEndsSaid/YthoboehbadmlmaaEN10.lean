/- The weights that exit a chain step by step are the reference's, errors included. (part 10 of 12) -/
import Derived.OrdersHeld
import Derived.Below
import Derived.Tactics
import Derived.KernelRfl
import Derived.RangeFuncCalls
import Derived.RangeFuncFrom
import Derived.RangeFuncLeaves
import Derived.OrdersIn
import Derived.Laws.AppendOwn
import Derived.Laws.MakeOwn
import Derived.Laws.CopyRow
import Derived.Laws.Cells
import Derived.Laws.World
import Derived.Laws.Alloc2
import Derived.Laws.NewBlocks
import Derived.Maps.AppendAt
import Derived.Test.YthoboehbadmlmaaProg
import Init.Data.List.Lemmas
import Init.Omega
import Derived.WalkKit
import Derived.ProofKit
import Derived.OpenShut
import Derived.ChangeOld
import Derived.SizedLaws
import Derived.ChangeSlices
import Derived.ChangeArms
import Derived.Deep.Slices
import Derived.Test.YthoboehbadmlmaaEN9
section
namespace Go.Proofs.Ythoboehbadmlmaa
open Go Go.RowKit
set_option linter.unusedSimpArgs false
set_option linter.unusedVariables false
attribute [local irreducible] XWP Spec SpecO XPub XCall seqX clX apX stX ldX iaX slX
def wtR (r : Raw) : Bool := r.ok && !ng r.q
def wtsR (l : List Raw) : Bool := l.all wtR
def wtB (n : Int) (l : List Raw) : Bool := decide ((l.length : Int) = n) && wtsR l
theorem wtsR_ok {l : List Raw} (h : wtsR l = true) : okR l = true ∧ ∀ i, i < l.length → ng (cf (qs l) i) = false := by
  unfold wtsR at h
  rw [List.all_eq_true] at h
  refine ⟨?_, fun i hi => ?_⟩
  · unfold okR
    rw [List.all_eq_true]
    intro r hr
    have := h r hr
    unfold wtR at this
    rw [Bool.and_eq_true] at this
    exact this.1
  · have := h l[i] (List.getElem_mem hi)
    unfold wtR at this
    rw [Bool.and_eq_true] at this
    have e : cf (qs l) i = l[i].q := by
      rw [← cf_get (by rw [qs_len]; exact hi)]
      unfold qs; simp
    rw [e]
    simpa using this.2
theorem RawAt.neg {V : View} {v : Value} {m : Bool} {nd dd : List Nat} (h : RawAt V v m nd dd) (hk : rawOk m nd dd = true) : ng (Go.Proofs.Ythoboehbadmlmaa.rv m (nv nd) (nv dd)) = m := by
  obtain ⟨x, y, e, _, _⟩ := (RawAt.rat h hk).form
  obtain ⟨n, d, rfl, _, _⟩ := h
  simp only [Value.agg.injEq, Array.mk.injEq, List.cons.injEq, Value.bool.injEq] at e
  exact e.1.symm
theorem weight1_c (V : View) (v : Value) (r : Raw) (h : rawE V v r) (f : r.fit) : Spec Try.prog 122 [v] V fun v' V' => v' = .bool (!wtR r) := by
  have h0 := h
  obtain ⟨n, d, rfl, hn, hd⟩ := h
  refine (Spec.enter Try.func122 rfl fun Γ => ?_)
  simp only [Try.ntmps122, List.map_cons, List.map_nil, List.length_cons, List.length_nil, Nat.reduceAdd, Nat.reduceSub, List.replicate_succ, List.replicate_zero, List.cons_append, List.nil_append]
  first | refine Gx.a (by kernel_rfl) fun K hK => ?_ | refine Gx.b (by kernel_rfl) fun K hK => ?_ | refine Gx.c (by kernel_rfl) fun K hK => ?_
  simp only [XM, XA, XB, gateX, Nat.reduceAdd, Nat.reduceLeDiff, Nat.reduceSub, Nat.reduceMul, ↓reduceIte, Int.reduceToNat, Int.reduceLE, beq_self_eq_true]
  refine hK _ ?_
  first | refine Gx.a (by kernel_rfl) fun K hK => ?_ | refine Gx.b (by kernel_rfl) fun K hK => ?_ | refine Gx.c (by kernel_rfl) fun K hK => ?_
  simp only [XM, XA, XB, gateX, Nat.reduceAdd, Nat.reduceLeDiff, Nat.reduceSub, Nat.reduceMul, ↓reduceIte, Int.reduceToNat, Int.reduceLE, beq_self_eq_true]
  refine call_go (by kernel_rfl) rfl (qright_c _ _ _ _ _ h0 f.1 f.2) fun v1 V1 hV1 h1 => ?_
  subst h1
  cases e : rawOk r.m r.nd r.dd
  · simp only [XM, XA, XB, gateX, Nat.reduceAdd, Nat.reduceLeDiff, Nat.reduceSub, Nat.reduceMul, ↓reduceIte, Int.reduceToNat, Int.reduceLE, beq_self_eq_true]
    refine hK _ (XWP.ret ?_)
    try simp only [thenX_ret, inBlockX_ret]
    refine ret_go _ rfl ?_
    have : wtR r = false := by unfold wtR Raw.ok; rw [e]; rfl
    rw [this]; rfl
  · simp only [XM, XA, XB, gateX, Nat.reduceAdd, Nat.reduceLeDiff, Nat.reduceSub, Nat.reduceMul, ↓reduceIte, Int.reduceToNat, Int.reduceLE, beq_self_eq_true]
    refine hK _ (XWP.ret ?_)
    try simp only [thenX_ret, inBlockX_ret]
    refine ret_go _ rfl ?_
    have h2 : ng r.q = r.m := RawAt.neg h0 e
    have : wtR r = !r.m := by unfold wtR Raw.ok; rw [e, h2]; rfl
    rw [this, Bool.not_not]; rfl
theorem windex_c (V : View) (v : Value) (l : List Raw) (h : Raws V v l) (f : fitR l) (ll : l.length ≤ 1000000) : Spec Try.prog 129 [v, .func (.func 122) #[] #[]] V fun v' V' => ∃ r : Int, v' = .int .i64 r ∧ decide (0 ≤ r) = !wtsR l := by
  obtain ⟨A, c, rfl, hc, hm⟩ := h.form
  refine (Spec.enter Try.func129 rfl fun Γ => ?_)
  simp only [Try.ntmps129, List.map_cons, List.map_nil, List.length_cons, List.length_nil, Nat.reduceAdd, Nat.reduceSub, List.replicate_succ, List.replicate_zero, List.cons_append, List.nil_append]
  first | refine Gx.a (by kernel_rfl) fun K hK => ?_ | refine Gx.b (by kernel_rfl) fun K hK => ?_ | refine Gx.c (by kernel_rfl) fun K hK => ?_
  simp only [XM, XA, XB, gateX, Nat.reduceAdd, Nat.reduceLeDiff, Nat.reduceSub, Nat.reduceMul, ↓reduceIte, Int.reduceToNat, Int.reduceLE, beq_self_eq_true]
  refine hK _ ?_
  refine XWP.cut (fun s => StIs (fun Z => [Z 0,Z 1,Z 2,Z 3,Z 4,Z 5,Z 6,Z 7,Z 8,Z 9,Z 10,Z 11,Z 12,Z 13,Z 14,Z 15,Z 16,Z 17,Z 18]) [] (fun _ => none) s.V s ∧ wtsR l = true) ?_ ?_
  · first | refine Gx.a (by kernel_rfl) fun K hK => ?_ | refine Gx.b (by kernel_rfl) fun K hK => ?_ | refine Gx.c (by kernel_rfl) fun K hK => ?_
    simp only [XM, XA, XB, gateX, Nat.reduceAdd, Nat.reduceLeDiff, Nat.reduceSub, Nat.reduceMul, ↓reduceIte, Int.reduceToNat, Int.reduceLE, beq_self_eq_true]
    refine hK _ ?_
    clear hK
    first | refine XWP.block ?_ | refine XWP.seq (XWP.block ?_)
    refine XWP.loop (fun n s => ∃ (k : Nat) (V2 : View), StIs (fun Z => [.v (.slice A l.length c), .v (.func (.func 122) #[] #[]), Z 2,Z 3,Z 4,Z 5,Z 6, .v (.int .i64 (l.length : Int)), .v (.int .i64 (k : Int)), Z 9,Z 10,Z 11,Z 12,Z 13,Z 14,Z 15,Z 16,Z 17,Z 18]) [] (fun _ => none) V2 s ∧ V.le V2 ∧ n + k = l.length ∧ wtsR (l.take k) = true) l.length ⟨0, V, StIs.of (by exact rfl), View.le_refl _, rfl, by simp [wtsR]⟩ ?_
    rintro n s ⟨k, V2, hs, hV2, hn, hk⟩
    obtain ⟨u, rfl⟩ := hs.out
    try dsimp only
    by_cases hlt : k < l.length
    · have b1 : decide ((k : Int) < (l.length : Int)) = true := decide_eq_true (by omega)
      first | refine Gx.a (by kernel_rfl) fun K hK => ?_ | refine Gx.b (by kernel_rfl) fun K hK => ?_ | refine Gx.c (by kernel_rfl) fun K hK => ?_
      simp only [XM, XA, XB, gateX, Nat.reduceAdd, Nat.reduceLeDiff, Nat.reduceSub, Nat.reduceMul, ↓reduceIte, Int.reduceToNat, Int.reduceLE, beq_self_eq_true, b1]
      refine hK _ ?_
      first | refine Gx.t rfl ?_ | refine XWP.seq (Gx.t rfl ?_)
      refine XWP.skip ?_
      refine XWP.seq ?_
      first | refine XWP.block ?_ | refine XWP.seq (XWP.block ?_)
      first | refine Gx.a (by kernel_rfl) fun K hK => ?_ | refine Gx.b (by kernel_rfl) fun K hK => ?_ | refine Gx.c (by kernel_rfl) fun K hK => ?_
      simp only [XM, XA, XB, gateX, Nat.reduceAdd, Nat.reduceLeDiff, Nat.reduceSub, Nat.reduceMul, ↓reduceIte, Int.reduceToNat, Int.reduceLE, beq_self_eq_true]
      refine hK _ ?_
      first | refine Gx.a (by kernel_rfl) fun K hK => ?_ | refine Gx.b (by kernel_rfl) fun K hK => ?_ | refine Gx.c (by kernel_rfl) fun K hK => ?_
      have hv2 := Raws.up h hV2
      obtain ⟨b, o, rfl⟩ := SlAt.addr hv2 (by omega)
      obtain ⟨x, hx, ⟨m3, n3, d3, rfl, p1, p2, p3⟩, hld⟩ := SlAt.load hv2 k hlt
      simp only [XM, XA, XB, gateX, Nat.reduceAdd, Nat.reduceLeDiff, Nat.reduceSub, Nat.reduceMul, ↓reduceIte, Int.reduceToNat, Int.reduceLE, beq_self_eq_true]
      refine ⟨by omega, by omega, ld_mem (hld _) ?_⟩
      simp only [XM, XA, XB, gateX, Nat.reduceAdd, Nat.reduceLeDiff, Nat.reduceSub, Nat.reduceMul, ↓reduceIte, Int.reduceToNat, Int.reduceLE, beq_self_eq_true]
      refine call_go (by kernel_rfl) rfl (weight1_c _ _ _ hx (f _ (List.getElem_mem hlt))) fun v3 V3 hV3 h3 => ?_
      subst h3
      have et : l.take (k + 1) = l.take k ++ [l[k]] := by rw [List.take_succ_eq_append_getElem hlt]
      cases hr : wtR l[k]
      · simp only [XM, XA, XB, gateX, Nat.reduceAdd, Nat.reduceLeDiff, Nat.reduceSub, Nat.reduceMul, ↓reduceIte, Int.reduceToNat, Int.reduceLE, beq_self_eq_true]
        refine hK _ ?_
        first | refine Gx.t rfl ?_ | refine XWP.seq (Gx.t rfl ?_)
        first | refine Gx.a (by kernel_rfl) fun K hK => ?_ | refine Gx.b (by kernel_rfl) fun K hK => ?_ | refine Gx.c (by kernel_rfl) fun K hK => ?_
        simp only [XM, XA, XB, gateX, Nat.reduceAdd, Nat.reduceLeDiff, Nat.reduceSub, Nat.reduceMul, ↓reduceIte, Int.reduceToNat, Int.reduceLE, beq_self_eq_true]
        refine hK _ (XWP.ret ?_)
        try simp only [thenX_ret, inBlockX_ret]
        refine ret_go _ rfl ?_
        refine ⟨k, rfl, ?_⟩
        have : wtsR l = false := by
          unfold wtsR
          rw [List.all_eq_false]
          exact ⟨l[k], List.getElem_mem hlt, by rw [hr]; simp⟩
        rw [this, decide_eq_true (by omega)]; rfl
      · simp only [XM, XA, XB, gateX, Nat.reduceAdd, Nat.reduceLeDiff, Nat.reduceSub, Nat.reduceMul, ↓reduceIte, Int.reduceToNat, Int.reduceLE, beq_self_eq_true]
        refine hK _ ?_
        first | refine Gx.f rfl ?_ | refine XWP.seq (Gx.f rfl ?_)
        refine XWP.skip ?_
        first | refine Gx.a (by kernel_rfl) fun K hK => ?_ | refine Gx.b (by kernel_rfl) fun K hK => ?_ | refine Gx.c (by kernel_rfl) fun K hK => ?_
        simp only [XM, XA, XB, gateX, Nat.reduceAdd, Nat.reduceLeDiff, Nat.reduceSub, Nat.reduceMul, ↓reduceIte, Int.reduceToNat, Int.reduceLE, beq_self_eq_true, i64_succ k (by omega)]
        refine hK _ ⟨n - 1, by omega, k + 1, V3, StIs.of (by exact rfl), View.le_trans hV2 hV3, by omega, ?_⟩
        unfold wtsR at hk ⊢
        rw [et, List.all_append, hk]
        simp [hr]
    · have b1 : decide ((k : Int) < (l.length : Int)) = false := decide_eq_false (by omega)
      first | refine Gx.a (by kernel_rfl) fun K hK => ?_ | refine Gx.b (by kernel_rfl) fun K hK => ?_ | refine Gx.c (by kernel_rfl) fun K hK => ?_
      simp only [XM, XA, XB, gateX, Nat.reduceAdd, Nat.reduceLeDiff, Nat.reduceSub, Nat.reduceMul, ↓reduceIte, Int.reduceToNat, Int.reduceLE, beq_self_eq_true, b1]
      refine hK _ ?_
      first | refine Gx.f rfl ?_ | refine XWP.seq (Gx.f rfl ?_)
      refine XWP.exit ?_
      rw [List.take_of_length_le (by omega)] at hk
      exact ⟨StIs.of (by exact rfl), hk⟩
  rintro s ⟨hs, hk⟩
  obtain ⟨t, bx, H, V2⟩ := s
  obtain ⟨u, e⟩ := hs.out
  cases e
  try dsimp only
  first | refine Gx.a (by kernel_rfl) fun K hK => ?_ | refine Gx.b (by kernel_rfl) fun K hK => ?_ | refine Gx.c (by kernel_rfl) fun K hK => ?_
  simp only [XM, XA, XB, gateX, Nat.reduceAdd, Nat.reduceLeDiff, Nat.reduceSub, Nat.reduceMul, ↓reduceIte, Int.reduceToNat, Int.reduceLE, beq_self_eq_true]
  refine hK _ (XWP.ret ?_)
  try simp only [thenX_ret, inBlockX_ret]
  refine ret_go _ rfl ?_
  exact ⟨-1, rfl, by rw [hk]; rfl⟩
theorem wcontains_c (V : View) (v : Value) (l : List Raw) (h : Raws V v l) (f : fitR l) (ll : l.length ≤ 1000000) : Spec Try.prog 100 [v, .func (.func 122) #[] #[]] V fun v' V' => v' = .bool (!wtsR l) := by
  refine (Spec.enter Try.func100 rfl fun Γ => ?_)
  simp only [Try.ntmps100, List.map_cons, List.map_nil, List.length_cons, List.length_nil, Nat.reduceAdd, Nat.reduceSub, List.replicate_succ, List.replicate_zero, List.cons_append, List.nil_append]
  first | refine Gx.a (by kernel_rfl) fun K hK => ?_ | refine Gx.b (by kernel_rfl) fun K hK => ?_ | refine Gx.c (by kernel_rfl) fun K hK => ?_
  simp only [XM, XA, XB, gateX, Nat.reduceAdd, Nat.reduceLeDiff, Nat.reduceSub, Nat.reduceMul, ↓reduceIte, Int.reduceToNat, Int.reduceLE, beq_self_eq_true]
  refine hK _ ?_
  first | refine Gx.a (by kernel_rfl) fun K hK => ?_ | refine Gx.b (by kernel_rfl) fun K hK => ?_ | refine Gx.c (by kernel_rfl) fun K hK => ?_
  simp only [XM, XA, XB, gateX, Nat.reduceAdd, Nat.reduceLeDiff, Nat.reduceSub, Nat.reduceMul, ↓reduceIte, Int.reduceToNat, Int.reduceLE, beq_self_eq_true]
  refine call_go (by kernel_rfl) rfl (windex_c _ _ _ h f ll) fun v1 V1 hV1 h1 => ?_
  obtain ⟨r, rfl, hr⟩ := h1
  simp only [XM, XA, XB, gateX, Nat.reduceAdd, Nat.reduceLeDiff, Nat.reduceSub, Nat.reduceMul, ↓reduceIte, Int.reduceToNat, Int.reduceLE, beq_self_eq_true, hr]
  refine hK _ (XWP.ret ?_)
  try simp only [thenX_ret, inBlockX_ret]
  refine ret_go _ rfl ?_
  rfl
theorem cweights_c (V : View) (s1 s2 v : Value) (r1 c1 r2 c2 : Int) (L : List Raw) (o1 : isOne s1 = true) (o2 : isOne s2 = true) (h : Raws V v L) (f : fitR L) (ll : L.length ≤ 1000000) :
    Spec Try.prog 86 [.agg #[.int .i64 r1, .int .i64 c1, s1, .int .i64 r2, .int .i64 c2, s2], v] V fun v' V' => v' = .bool (wtB r1 L) := by
  obtain ⟨A, c, rfl, hc, hm⟩ := h.form
  refine (Spec.enter Try.func86 rfl fun Γ => ?_)
  simp only [Try.ntmps86, List.map_cons, List.map_nil, List.length_cons, List.length_nil, Nat.reduceAdd, Nat.reduceSub, List.replicate_succ, List.replicate_zero, List.cons_append, List.nil_append]
  first | refine Gx.a (by kernel_rfl) fun K hK => ?_ | refine Gx.b (by kernel_rfl) fun K hK => ?_ | refine Gx.c (by kernel_rfl) fun K hK => ?_
  simp only [XM, XA, XB, gateX, Nat.reduceAdd, Nat.reduceLeDiff, Nat.reduceSub, Nat.reduceMul, ↓reduceIte, Int.reduceToNat, Int.reduceLE, beq_self_eq_true]
  refine hK _ ?_
  first | refine Gx.a (by kernel_rfl) fun K hK => ?_ | refine Gx.b (by kernel_rfl) fun K hK => ?_ | refine Gx.c (by kernel_rfl) fun K hK => ?_
  by_cases d : (L.length : Int) = r1
  · have b : decide ((L.length : Int) = r1) = true := decide_eq_true d
    simp only [XM, XA, XB, gateX, Nat.reduceAdd, Nat.reduceLeDiff, Nat.reduceSub, Nat.reduceMul, ↓reduceIte, Int.reduceToNat, Int.reduceLE, beq_self_eq_true, b]
    refine call_go (by kernel_rfl) rfl (wcontains_c _ _ _ h f ll) fun v1 V1 hV1 h1 => ?_
    subst h1
    simp only [XM, XA, XB, gateX, Nat.reduceAdd, Nat.reduceLeDiff, Nat.reduceSub, Nat.reduceMul, ↓reduceIte, Int.reduceToNat, Int.reduceLE, beq_self_eq_true]
    refine hK _ (XWP.ret ?_)
    try simp only [thenX_ret, inBlockX_ret]
    refine ret_go _ rfl ?_
    show Value.bool _ = _
    unfold wtB
    rw [b, Bool.not_not, Bool.true_and]
  · have b : decide ((L.length : Int) = r1) = false := decide_eq_false d
    simp only [XM, XA, XB, gateX, Nat.reduceAdd, Nat.reduceLeDiff, Nat.reduceSub, Nat.reduceMul, ↓reduceIte, Int.reduceToNat, Int.reduceLE, beq_self_eq_true, b]
    refine hK _ (XWP.ret ?_)
    try simp only [thenX_ret, inBlockX_ret]
    refine ret_go _ rfl ?_
    unfold wtB
    rw [b]; rfl
theorem czeros_o (V : View) (n : Nat) (hn : n ≤ 1000) : SpecO Try.prog 123 [.int .i64 (n : Int)] V fun v' V' o => ∃ g cells, v' = .slice (some ⟨g, 0, none⟩) n n ∧ o = some (g, ⟨34, cells, n * 3⟩) ∧ RowAt ratE V' cells (mk n fun _ => 0) := by
  refine (SpecO.enter Try.func123 rfl fun Γ => ?_)
  simp only [Try.ntmps123, List.map_cons, List.map_nil, List.length_cons, List.length_nil, Nat.reduceAdd, Nat.reduceSub, List.replicate_succ, List.replicate_zero, List.cons_append, List.nil_append]
  first | refine Gx.a (by kernel_rfl) fun K hK => ?_ | refine Gx.b (by kernel_rfl) fun K hK => ?_ | refine Gx.c (by kernel_rfl) fun K hK => ?_
  simp only [XM, XA, XB, gateX, Nat.reduceAdd, Nat.reduceLeDiff, Nat.reduceSub, Nat.reduceMul, ↓reduceIte, Int.reduceToNat, Int.reduceLE, beq_self_eq_true]
  refine hK _ ?_
  first | refine Gx.a (by kernel_rfl) fun K hK => ?_ | refine Gx.b (by kernel_rfl) fun K hK => ?_ | refine Gx.c (by kernel_rfl) fun K hK => ?_
  simp only [XM, XA, XB, gateX, Nat.reduceAdd, Nat.reduceLeDiff, Nat.reduceSub, Nat.reduceMul, ↓reduceIte, Int.reduceToNat, Int.reduceLE, beq_self_eq_true]
  refine mk_go rfl rfl elemT_22 zeroT_34 (by omega) (by omega) (by omega) (by omega) rfl (by omega) fun g hg1 hg2 => ?_
  simp only [XM, XA, XB, gateX, Nat.reduceAdd, Nat.reduceLeDiff, Nat.reduceSub, Nat.reduceMul, ↓reduceIte, Int.reduceToNat, Int.reduceLE, beq_self_eq_true]
  refine hK _ ?_
  clear hK
  refine XWP.cut (fun s => ∃ (V2 : View) (H5 : Heap) (cells : List Value), StIs (fun Z => [Z 0,Z 1,Z 2, .v (.slice (some ⟨g, 0, none⟩) n n), Z 4,Z 5,Z 6,Z 7,Z 8,Z 9,Z 10,Z 11,Z 12,Z 13,Z 14,Z 15,Z 16,Z 17]) [] H5 V2 s ∧ H5 g = some ⟨34, cells, n * 3⟩ ∧ RowAt ratE V2 cells (mk n fun _ => 0)) ?_ ?_
  · first | refine Gx.a (by kernel_rfl) fun K hK => ?_ | refine Gx.b (by kernel_rfl) fun K hK => ?_ | refine Gx.c (by kernel_rfl) fun K hK => ?_
    simp only [XM, XA, XB, gateX, Nat.reduceAdd, Nat.reduceLeDiff, Nat.reduceSub, Nat.reduceMul, ↓reduceIte, Int.reduceToNat, Int.reduceLE, beq_self_eq_true]
    refine hK _ ?_
    clear hK
    first | refine XWP.block ?_ | refine XWP.seq (XWP.block ?_)
    refine XWP.loop (fun r s => ∃ (k : Nat) (V2 : View) (H5 : Heap) (cells : List Value), StIs (fun Z => [Z 0,Z 1,Z 2, .v (.slice (some ⟨g, 0, none⟩) n n), Z 4,Z 5,Z 6,Z 7, .v (.int .i64 (n : Int)), .v (.int .i64 (k : Int)), Z 10,Z 11,Z 12,Z 13,Z 14,Z 15,Z 16,Z 17]) [] H5 V2 s ∧ r + k = n ∧ H5 g = some ⟨34, cells, n * 3⟩ ∧ RowAt (optE ratE) V2 cells (part n (fun _ => 0) k)) n ⟨0, V, _, _, StIs.of (by exact rfl), by omega, upd_at _ _ _, by rw [part_zero]; exact RowAt.new _ _⟩ ?_
    rintro r s ⟨k, V2, H5, cells, hs, hr, hH, hrow⟩
    obtain ⟨z, rfl⟩ := hs.out
    try dsimp only
    clear hs
    by_cases hk : k < n
    rotate_left
    · obtain rfl : k = n := by omega
      have b1 : decide ((k : Int) < (k : Int)) = false := decide_eq_false (by omega)
      first | refine Gx.a (by kernel_rfl) fun K hK => ?_ | refine Gx.b (by kernel_rfl) fun K hK => ?_ | refine Gx.c (by kernel_rfl) fun K hK => ?_
      simp only [XM, XA, XB, gateX, Nat.reduceAdd, Nat.reduceLeDiff, Nat.reduceSub, Nat.reduceMul, ↓reduceIte, Int.reduceToNat, Int.reduceLE, beq_self_eq_true, b1]
      refine hK _ ?_
      first | refine Gx.f rfl ?_ | refine XWP.seq (Gx.f rfl ?_)
      refine XWP.exit ?_
      rw [part_all] at hrow
      exact ⟨V2, H5, cells, StIs.of (by exact rfl), hH, hrow.all⟩
    have b1 : decide ((k : Int) < (n : Int)) = true := decide_eq_true (by omega)
    first | refine Gx.a (by kernel_rfl) fun K hK => ?_ | refine Gx.b (by kernel_rfl) fun K hK => ?_ | refine Gx.c (by kernel_rfl) fun K hK => ?_
    simp only [XM, XA, XB, gateX, Nat.reduceAdd, Nat.reduceLeDiff, Nat.reduceSub, Nat.reduceMul, ↓reduceIte, Int.reduceToNat, Int.reduceLE, beq_self_eq_true, b1]
    refine hK _ ?_
    first | refine Gx.t rfl ?_ | refine XWP.seq (Gx.t rfl ?_)
    refine XWP.skip ?_
    refine XWP.seq ?_
    first | refine XWP.block ?_ | refine XWP.seq (XWP.block ?_)
    first | refine Gx.a (by kernel_rfl) fun K hK => ?_ | refine Gx.b (by kernel_rfl) fun K hK => ?_ | refine Gx.c (by kernel_rfl) fun K hK => ?_
    simp only [XM, XA, XB, gateX, Nat.reduceAdd, Nat.reduceLeDiff, Nat.reduceSub, Nat.reduceMul, ↓reduceIte, Int.reduceToNat, Int.reduceLE, beq_self_eq_true]
    refine hK _ ?_
    first | refine Gx.a (by kernel_rfl) fun K hK => ?_ | refine Gx.b (by kernel_rfl) fun K hK => ?_ | refine Gx.c (by kernel_rfl) fun K hK => ?_
    simp only [XM, XA, XB, gateX, Nat.reduceAdd, Nat.reduceLeDiff, Nat.reduceSub, Nat.reduceMul, ↓reduceIte, Int.reduceToNat, Int.reduceLE, beq_self_eq_true]
    refine call_go (by kernel_rfl) rfl (qzero_c _) fun v3 V3 hV3 h3 => ?_
    obtain ⟨x3, y3, rfl, o1, o2⟩ := h3.form
    have hrow := hrow.mono (optE_ok ratE_ok) hV3
    have hl := hrow.1
    rw [part_len] at hl
    simp only [XM, XA, XB, gateX, Nat.reduceAdd, Nat.reduceLeDiff, Nat.reduceSub, Nat.reduceMul, ↓reduceIte, Int.reduceToNat, Int.reduceLE, beq_self_eq_true]
    refine ⟨by omega, by omega, ?_⟩
    refine st_rowA shapeT_34 (all3 rfl o1 o2) rfl hH (by dsimp only; omega) ?_
    simp only [XM, XA, XB, gateX, Nat.reduceAdd, Nat.reduceLeDiff, Nat.reduceSub, Nat.reduceMul, ↓reduceIte, Int.reduceToNat, Int.reduceLE, beq_self_eq_true]
    refine hK _ ?_
    have hrow2 := hrow.set k (by rw [part_len]; omega) (x := some 0) (show isOne (.bool (ng 0)) = true from rfl) o1 o2 h3
    rw [part_step n (fun _ => 0) k] at hrow2
    first | refine Gx.a (by kernel_rfl) fun K hK => ?_ | refine Gx.b (by kernel_rfl) fun K hK => ?_ | refine Gx.c (by kernel_rfl) fun K hK => ?_
    simp only [XM, XA, XB, gateX, Nat.reduceAdd, Nat.reduceLeDiff, Nat.reduceSub, Nat.reduceMul, ↓reduceIte, Int.reduceToNat, Int.reduceLE, beq_self_eq_true, i64_succ k (by omega)]
    exact hK _ ⟨r - 1, by omega, k + 1, V3, _, _, StIs.of (by exact rfl), by omega, upd_at _ _ _, hrow2⟩
  rintro s ⟨V2, H5, cells, hs, hH, hrow⟩
  obtain ⟨z, rfl⟩ := hs.out
  try dsimp only
  first | refine Gx.a (by kernel_rfl) fun K hK => ?_ | refine Gx.b (by kernel_rfl) fun K hK => ?_ | refine Gx.c (by kernel_rfl) fun K hK => ?_
  simp only [XM, XA, XB, gateX, Nat.reduceAdd, Nat.reduceLeDiff, Nat.reduceSub, Nat.reduceMul, ↓reduceIte, Int.reduceToNat, Int.reduceLE, beq_self_eq_true]
  refine hK _ (XWP.ret ?_)
  try simp only [thenX_ret, inBlockX_ret]
  refine ret_own _ (some (g, _)) rfl (fun g' r e => ?_) ⟨g, cells, rfl, rfl, hrow⟩
  cases e; exact hH
end Go.Proofs.Ythoboehbadmlmaa
end
section
namespace Go.Proofs.Ythoboehbadmlmaa
open Go Go.RowKit
set_option linter.unusedSimpArgs false
set_option linter.unusedVariables false
attribute [local irreducible] XWP Spec SpecO XPub XCall seqX clX apX stX ldX iaX slX
def rowf (a M : List Rat) (c i k0 : Nat) : Nat → Rat := fun k => if k < k0 then tS a M c k (i + 1) else tS a M c k i
theorem rowf_set {a M : List Rat} {c i k0 : Nat} (hk : k0 < c) : (mk c (rowf a M c i k0)).set k0 (tS a M c k0 (i + 1)) = mk c (rowf a M c i (k0 + 1)) := by
  rw [mk_set1 hk]
  refine mk_congr fun j _ => ?_
  unfold rowf
  by_cases e : j = k0
  · rw [if_pos e, if_pos (by omega), e]
  · rw [if_neg e]
    by_cases h : j < k0
    · rw [if_pos h, if_pos (by omega)]
    · rw [if_neg h, if_neg (by omega)]
theorem rowf_skip {a M : List Rat} {c i k0 : Nat} (hk : k0 < c) (h : tS a M c k0 (i + 1) = tS a M c k0 i) : mk c (rowf a M c i k0) = mk c (rowf a M c i (k0 + 1)) := by
  refine mk_congr fun j _ => ?_
  unfold rowf
  by_cases e : j = k0
  · rw [if_neg (by omega), if_pos (by omega), e, h]
  · by_cases h : j < k0
    · rw [if_pos h, if_pos (by omega)]
    · rw [if_neg h, if_neg (by omega)]
theorem rowf_zero (a M : List Rat) (c i : Nat) : mk c (rowf a M c i 0) = mk c fun k => tS a M c k i := mk_congr fun j _ => by unfold rowf; rw [if_neg (by omega)]
theorem rowf_all (a M : List Rat) (c i : Nat) : mk c (rowf a M c i c) = mk c fun k => tS a M c k (i + 1) := mk_congr fun j hj => by unfold rowf; rw [if_pos hj]
theorem cf_mk_lt {c k : Nat} {f : Nat → Rat} (h : k < c) : cf (mk c f) k = f k := by rw [cf_mk, if_pos h]
/-- the slice of a fraction's numerator -/
theorem RatC.num {V : View} {m n d : Value} {q : Rat} (h : RatC V (.agg #[m, n, d]) q) : ∃ A c, n = .slice A (dg q.num.natAbs).length c := by
  obtain ⟨n', d', e, hn, _⟩ := h
  simp only [Value.agg.injEq, Array.mk.injEq, List.cons.injEq] at e
  obtain ⟨A, c, e2, _, _⟩ := NatAt.form hn
  exact ⟨A, c, by rw [e.2.1, e2]⟩
theorem num_zero (q : Rat) : decide (((dg q.num.natAbs).length : Int) = 0) = decide (q = 0) := by
  rw [len_zero, decide_eq_decide]
  exact (rat_zero_iff q).symm
theorem num_pos (q : Rat) : decide ((0 : Int) < ((dg q.num.natAbs).length : Int)) = !decide (q = 0) := by
  rw [← num_zero]
  by_cases h : (dg q.num.natAbs).length = 0
  · rw [decide_eq_false (by omega), decide_eq_true (by omega)]; rfl
  · rw [decide_eq_true (by omega), decide_eq_false (by omega)]; rfl
theorem cthrough_c (V : View) (v sM : Value) (a M : List Rat) (r : Int) (c A B : Nat) (hv : Rats V v a) (hM : Rats V sM M) (hl : M.length = a.length * c) (la : a.length ≤ 60) (lc : c ≤ 60) (hA : CB A a) (hB : CB B M) (hfit : A + B + 100 ≤ 17592186044416) :
    Spec Try.prog 124 [v, .agg #[.int .i64 r, .int .i64 (c : Int), sM]] V fun v' V' => Rats V' v' (thr a M c) := by
  obtain ⟨A1, c1, rfl, _, _⟩ := hv.form
  obtain ⟨A2, c2, rfl, _, _⟩ := hM.form
  have hac : a.length * c ≤ 3600 := Nat.le_trans (Nat.mul_le_mul la lc) (by decide)
  refine (Spec.enter Try.func124 rfl fun Γ => ?_)
  simp only [Try.ntmps124, List.map_cons, List.map_nil, List.length_cons, List.length_nil, Nat.reduceAdd, Nat.reduceSub, List.replicate_succ, List.replicate_zero, List.cons_append, List.nil_append]
  first | refine Gx.a (by kernel_rfl) fun K hK => ?_ | refine Gx.b (by kernel_rfl) fun K hK => ?_ | refine Gx.c (by kernel_rfl) fun K hK => ?_
  simp only [XM, XA, XB, gateX, Nat.reduceAdd, Nat.reduceLeDiff, Nat.reduceSub, Nat.reduceMul, ↓reduceIte, Int.reduceToNat, Int.reduceLE, beq_self_eq_true]
  refine hK _ ?_
  first | refine Gx.a (by kernel_rfl) fun K hK => ?_ | refine Gx.b (by kernel_rfl) fun K hK => ?_ | refine Gx.c (by kernel_rfl) fun K hK => ?_
  simp only [XM, XA, XB, gateX, Nat.reduceAdd, Nat.reduceLeDiff, Nat.reduceSub, Nat.reduceMul, ↓reduceIte, Int.reduceToNat, Int.reduceLE, beq_self_eq_true]
  refine call_own (by kernel_rfl) rfl (czeros_o _ c (by omega)) fun v1 V1 o1 hV1 hs1 h1 => ?_
  obtain ⟨g, cells1, rfl, rfl, hrow1⟩ := h1
  have hg1 : addRow (fun _ => none) (some (g, (⟨34, cells1, c * 3⟩ : Row))) g = some ⟨34, cells1, c * 3⟩ := show upd (fun _ => none) g (some _) g = some _ from upd_at _ _ _
  simp only [XM, XA, XB, gateX, Nat.reduceAdd, Nat.reduceLeDiff, Nat.reduceSub, Nat.reduceMul, ↓reduceIte, Int.reduceToNat, Int.reduceLE, beq_self_eq_true]
  refine hK _ ?_
  clear hK
  generalize addRow (fun _ => none) (some (g, (⟨34, cells1, c * 3⟩ : Row))) = H1 at *
  refine XWP.cutD 1 (fun s => ∃ (V2 : View) (H5 : Heap) (cells : List Value), StIs (fun Z => [Z 0,Z 1,Z 2,Z 3,Z 4, .v (.slice (some ⟨g, 0, none⟩) c c), Z 6,Z 7,Z 8,Z 9,Z 10,Z 11,Z 12,Z 13,Z 14,Z 15,Z 16,Z 17,Z 18,Z 19,Z 20,Z 21,Z 22,Z 23,Z 24,Z 25,Z 26,Z 27,Z 28,Z 29,Z 30,Z 31,Z 32,Z 33,Z 34,Z 35,Z 36,Z 37,Z 38,Z 39,Z 40,Z 41,Z 42,Z 43,Z 44,Z 45,Z 46,Z 47,Z 48,Z 49,Z 50]) [[.int .i64 r, .int .i64 (c : Int), .slice A2 M.length c2]] H5 V2 s ∧ H5 g = some ⟨34, cells, c * 3⟩ ∧ RowAt ratE V2 cells (thr a M c)) ?_ ?_
  · first | refine Gx.a (by kernel_rfl) fun K hK => ?_ | refine Gx.b (by kernel_rfl) fun K hK => ?_ | refine Gx.c (by kernel_rfl) fun K hK => ?_
    simp only [XM, XA, XB, gateX, Nat.reduceAdd, Nat.reduceLeDiff, Nat.reduceSub, Nat.reduceMul, ↓reduceIte, Int.reduceToNat, Int.reduceLE, beq_self_eq_true]
    refine hK _ ?_
    clear hK
    first | refine XWP.block ?_ | refine XWP.seq (XWP.block ?_)
    refine XWP.loopD 1 (fun n s => ∃ (i : Nat) (V2 : View) (H5 : Heap) (cells : List Value), StIs (fun Z => [Z 0,Z 1,Z 2, .p 0 0, Z 4, .v (.slice (some ⟨g, 0, none⟩) c c), Z 6,Z 7,Z 8,Z 9,Z 10,Z 11,Z 12, .v (.slice A1 a.length c1), .v (.int .i64 (a.length : Int)), .v (.int .i64 (i : Int)), Z 16,Z 17,Z 18,Z 19,Z 20,Z 21,Z 22,Z 23,Z 24,Z 25,Z 26,Z 27,Z 28,Z 29,Z 30,Z 31,Z 32,Z 33,Z 34,Z 35,Z 36,Z 37,Z 38,Z 39,Z 40,Z 41,Z 42,Z 43,Z 44,Z 45,Z 46,Z 47,Z 48,Z 49,Z 50]) [[.int .i64 r, .int .i64 (c : Int), .slice A2 M.length c2]] H5 V2 s ∧ V.le V2 ∧ n + i = a.length ∧ H5 g = some ⟨34, cells, c * 3⟩ ∧ RowAt ratE V2 cells (mk c fun k => tS a M c k i)) a.length ⟨0, V1, H1, cells1, StIs.of (by exact rfl), hV1, by omega, hg1, hrow1⟩ ?_
    clear hg1 hrow1 hs1
    rintro n s ⟨i, V2, H5, cells, hs, hV2, hn, hH, hrow⟩
    obtain ⟨z, rfl⟩ := hs.out
    try dsimp only
    clear hs
    by_cases hi : i < a.length
    rotate_left
    · obtain rfl : i = a.length := by omega
      have b1 : decide ((a.length : Int) < (a.length : Int)) = false := decide_eq_false (by omega)
      first | refine Gx.a (by kernel_rfl) fun K hK => ?_ | refine Gx.b (by kernel_rfl) fun K hK => ?_ | refine Gx.c (by kernel_rfl) fun K hK => ?_
      simp only [XM, XA, XB, gateX, Nat.reduceAdd, Nat.reduceLeDiff, Nat.reduceSub, Nat.reduceMul, ↓reduceIte, Int.reduceToNat, Int.reduceLE, beq_self_eq_true, b1]
      refine hK _ ?_
      first | refine Gx.f rfl ?_ | refine XWP.seq (Gx.f rfl ?_)
      refine XWP.exit ?_
      exact fun f => ⟨V2, H5, cells, StIs.of (by exact rfl), hH, hrow⟩
    have b1 : decide ((i : Int) < (a.length : Int)) = true := decide_eq_true (by omega)
    first | refine Gx.a (by kernel_rfl) fun K hK => ?_ | refine Gx.b (by kernel_rfl) fun K hK => ?_ | refine Gx.c (by kernel_rfl) fun K hK => ?_
    simp only [XM, XA, XB, gateX, Nat.reduceAdd, Nat.reduceLeDiff, Nat.reduceSub, Nat.reduceMul, ↓reduceIte, Int.reduceToNat, Int.reduceLE, beq_self_eq_true, b1]
    refine hK _ ?_
    first | refine Gx.t rfl ?_ | refine XWP.seq (Gx.t rfl ?_)
    refine XWP.skip ?_
    refine XWP.seq ?_
    first | refine XWP.block ?_ | refine XWP.seq (XWP.block ?_)
    have hv2 := hv.up hV2
    obtain ⟨b, o, rfl⟩ := SlAt.addr hv2 (by omega)
    obtain ⟨m3, n3, d3, hx3, ⟨p1, p2, p3⟩, hld3⟩ := Rats.get hv2 i hi
    obtain ⟨A3, c3, rfl⟩ := hx3.num
    first | refine Gx.a (by kernel_rfl) fun K hK => ?_ | refine Gx.b (by kernel_rfl) fun K hK => ?_ | refine Gx.c (by kernel_rfl) fun K hK => ?_
    simp only [XM, XA, XB, gateX, Nat.reduceAdd, Nat.reduceLeDiff, Nat.reduceSub, Nat.reduceMul, ↓reduceIte, Int.reduceToNat, Int.reduceLE, beq_self_eq_true]
    refine ⟨by omega, by omega, ld_mem (hld3 _) ?_⟩
    simp only [XM, XA, XB, gateX, Nat.reduceAdd, Nat.reduceLeDiff, Nat.reduceSub, Nat.reduceMul, ↓reduceIte, Int.reduceToNat, Int.reduceLE, beq_self_eq_true]
    refine st_rat rfl rfl p1 p2 p3 ?_
    simp only [XM, XA, XB, gateX, Nat.reduceAdd, Nat.reduceLeDiff, Nat.reduceSub, Nat.reduceMul, ↓reduceIte, Int.reduceToNat, Int.reduceLE, beq_self_eq_true]
    refine hK _ ?_
    refine XWP.seq ?_
    by_cases hz : cf a i = 0
    · have b2 : decide (cf a i = 0) = true := decide_eq_true hz
      first | refine Gx.a (by kernel_rfl) fun K hK => ?_ | refine Gx.b (by kernel_rfl) fun K hK => ?_ | refine Gx.c (by kernel_rfl) fun K hK => ?_
      simp only [XM, XA, XB, gateX, Nat.reduceAdd, Nat.reduceLeDiff, Nat.reduceSub, Nat.reduceMul, ↓reduceIte, Int.reduceToNat, Int.reduceLE, beq_self_eq_true, num_zero, b2]
      refine hK _ ?_
      first | refine Gx.t rfl ?_ | refine XWP.seq (Gx.t rfl ?_)
      refine XWP.exit ?_
      first | refine Gx.a (by kernel_rfl) fun K hK => ?_ | refine Gx.b (by kernel_rfl) fun K hK => ?_ | refine Gx.c (by kernel_rfl) fun K hK => ?_
      simp only [XM, XA, XB, gateX, Nat.reduceAdd, Nat.reduceLeDiff, Nat.reduceSub, Nat.reduceMul, ↓reduceIte, Int.reduceToNat, Int.reduceLE, beq_self_eq_true, i64_succ i (by omega)]
      refine hK _ ⟨n - 1, by omega, fun f => ⟨i + 1, V2, H5, cells, StIs.of (by exact rfl), hV2, by omega, hH, ?_⟩⟩
      have e : (mk c fun k => tS a M c k i) = mk c fun k => tS a M c k (i + 1) := mk_congr fun j _ => by
        show _ = tS a M c j i + _
        rw [hz, Rat.zero_mul, Rat.add_zero]
      rw [← e]; exact hrow
    have b2 : decide (cf a i = 0) = false := decide_eq_false hz
    first | refine Gx.a (by kernel_rfl) fun K hK => ?_ | refine Gx.b (by kernel_rfl) fun K hK => ?_ | refine Gx.c (by kernel_rfl) fun K hK => ?_
    simp only [XM, XA, XB, gateX, Nat.reduceAdd, Nat.reduceLeDiff, Nat.reduceSub, Nat.reduceMul, ↓reduceIte, Int.reduceToNat, Int.reduceLE, beq_self_eq_true, num_zero, b2]
    refine hK _ ?_
    first | refine Gx.f rfl ?_ | refine XWP.seq (Gx.f rfl ?_)
    refine XWP.skip ?_
    first | refine Gx.a (by kernel_rfl) fun K hK => ?_ | refine Gx.b (by kernel_rfl) fun K hK => ?_ | refine Gx.c (by kernel_rfl) fun K hK => ?_
    simp only [XM, XA, XB, gateX, Nat.reduceAdd, Nat.reduceLeDiff, Nat.reduceSub, Nat.reduceMul, ↓reduceIte, Int.reduceToNat, Int.reduceLE, beq_self_eq_true]
    refine hK _ ?_
    clear hK
    refine XWP.post (fun s => ∃ (V3 : View) (H6 : Heap) (cells6 : List Value), StIs (fun Z => [Z 0,Z 1,Z 2, .p 0 0, Z 4, .v (.slice (some ⟨g, 0, none⟩) c c), .v (.int .i64 (i : Int)), .p 1 0, Z 8,Z 9,Z 10,Z 11,Z 12, .v (.slice (some ⟨b, o, none⟩) a.length c1), .v (.int .i64 (a.length : Int)), .v (.int .i64 (i : Int)), Z 16,Z 17,Z 18,Z 19,Z 20,Z 21,Z 22,Z 23,Z 24,Z 25,Z 26,Z 27,Z 28,Z 29,Z 30,Z 31,Z 32,Z 33,Z 34,Z 35,Z 36,Z 37,Z 38,Z 39,Z 40,Z 41,Z 42,Z 43,Z 44,Z 45,Z 46,Z 47,Z 48,Z 49,Z 50]) [[.int .i64 r, .int .i64 (c : Int), .slice A2 M.length c2], [m3, .slice A3 (dg (cf a i).num.natAbs).length c3, d3]] H6 V3 s ∧ V2.le V3 ∧ H6 g = some ⟨34, cells6, c * 3⟩ ∧ RowAt ratE V3 cells6 (mk c fun k => tS a M c k (i + 1))) ?_ ?_
    · first | refine XWP.block ?_ | refine XWP.seq (XWP.block ?_)
      refine XWP.loopD 2 (fun r2 s => ∃ (k : Nat) (V3 : View) (H6 : Heap) (cells6 : List Value), StIs (fun Z => [Z 0,Z 1,Z 2, .p 0 0, Z 4, .v (.slice (some ⟨g, 0, none⟩) c c), .v (.int .i64 (i : Int)), .p 1 0, Z 8,Z 9,Z 10,Z 11,Z 12, .v (.slice (some ⟨b, o, none⟩) a.length c1), .v (.int .i64 (a.length : Int)), .v (.int .i64 (i : Int)), Z 16,Z 17,Z 18,Z 19,Z 20,Z 21,Z 22,Z 23, .v (.slice (some ⟨g, 0, none⟩) c c), .v (.int .i64 (c : Int)), .v (.int .i64 (k : Int)), Z 27,Z 28,Z 29,Z 30,Z 31,Z 32,Z 33,Z 34,Z 35,Z 36,Z 37,Z 38,Z 39,Z 40,Z 41,Z 42,Z 43,Z 44,Z 45,Z 46,Z 47,Z 48,Z 49,Z 50]) [[.int .i64 r, .int .i64 (c : Int), .slice A2 M.length c2], [m3, .slice A3 (dg (cf a i).num.natAbs).length c3, d3]] H6 V3 s ∧ V2.le V3 ∧ r2 + k = c ∧ H6 g = some ⟨34, cells6, c * 3⟩ ∧ RowAt ratE V3 cells6 (mk c (rowf a M c i k))) c ⟨0, V2, H5, cells, StIs.of (by exact rfl), View.le_refl _, by omega, hH, by rw [rowf_zero]; exact hrow⟩ ?_
      clear hH hrow
      rintro r2 s ⟨k, V3, H6, cells6, hs, hV3, hr2, hH, hrow⟩
      obtain ⟨z, rfl⟩ := hs.out
      try dsimp only
      clear hs
      by_cases hk : k < c
      rotate_left
      · obtain rfl : k = c := by omega
        have b3 : decide ((k : Int) < (k : Int)) = false := decide_eq_false (by omega)
        first | refine Gx.a (by kernel_rfl) fun K hK => ?_ | refine Gx.b (by kernel_rfl) fun K hK => ?_ | refine Gx.c (by kernel_rfl) fun K hK => ?_
        simp only [XM, XA, XB, gateX, Nat.reduceAdd, Nat.reduceLeDiff, Nat.reduceSub, Nat.reduceMul, ↓reduceIte, Int.reduceToNat, Int.reduceLE, beq_self_eq_true, b3]
        refine hK _ ?_
        first | refine Gx.f rfl ?_ | refine XWP.seq (Gx.f rfl ?_)
        refine XWP.exit ?_
        rw [rowf_all] at hrow
        exact ⟨V3, H6, cells6, StIs.of (by exact rfl), hV3, hH, hrow⟩
      have b3 : decide ((k : Int) < (c : Int)) = true := decide_eq_true (by omega)
      first | refine Gx.a (by kernel_rfl) fun K hK => ?_ | refine Gx.b (by kernel_rfl) fun K hK => ?_ | refine Gx.c (by kernel_rfl) fun K hK => ?_
      simp only [XM, XA, XB, gateX, Nat.reduceAdd, Nat.reduceLeDiff, Nat.reduceSub, Nat.reduceMul, ↓reduceIte, Int.reduceToNat, Int.reduceLE, beq_self_eq_true, b3]
      refine hK _ ?_
      first | refine Gx.t rfl ?_ | refine XWP.seq (Gx.t rfl ?_)
      refine XWP.skip ?_
      refine XWP.seq ?_
      first | refine XWP.block ?_ | refine XWP.seq (XWP.block ?_)
      first | refine Gx.a (by kernel_rfl) fun K hK => ?_ | refine Gx.b (by kernel_rfl) fun K hK => ?_ | refine Gx.c (by kernel_rfl) fun K hK => ?_
      simp only [XM, XA, XB, gateX, Nat.reduceAdd, Nat.reduceLeDiff, Nat.reduceSub, Nat.reduceMul, ↓reduceIte, Int.reduceToNat, Int.reduceLE, beq_self_eq_true]
      refine hK _ ?_
      have hik : i * c + k < M.length := by
        have := Nat.mul_le_mul_right c (show i + 1 ≤ a.length by omega)
        rw [Nat.add_mul, Nat.one_mul] at this
        omega
      first | refine Gx.a (by kernel_rfl) fun K hK => ?_ | refine Gx.b (by kernel_rfl) fun K hK => ?_ | refine Gx.c (by kernel_rfl) fun K hK => ?_
      simp only [XM, XA, XB, gateX, Nat.reduceAdd, Nat.reduceLeDiff, Nat.reduceSub, Nat.reduceMul, ↓reduceIte, Int.reduceToNat, Int.reduceLE, beq_self_eq_true]
      refine call_go (by kernel_rfl) rfl (ccell_c _ _ r c i k M (hM.up (View.le_trans hV2 hV3)) hik lc (by omega) (by omega)) fun v7 V7 hV7 h7 => ?_
      obtain ⟨x7, y7, rfl, o3, o4⟩ := h7.form
      obtain ⟨A7, c7, rfl⟩ := h7.num
      simp only [XM, XA, XB, gateX, Nat.reduceAdd, Nat.reduceLeDiff, Nat.reduceSub, Nat.reduceMul, ↓reduceIte, Int.reduceToNat, Int.reduceLE, beq_self_eq_true]
      refine st_rat rfl rfl rfl o3 o4 ?_
      simp only [XM, XA, XB, gateX, Nat.reduceAdd, Nat.reduceLeDiff, Nat.reduceSub, Nat.reduceMul, ↓reduceIte, Int.reduceToNat, Int.reduceLE, beq_self_eq_true]
      refine hK _ ?_
      have hrow7 := hrow.mono ratE_ok hV7
      by_cases hz2 : cf M (i * c + k) = 0
      · have b4 : decide (cf M (i * c + k) = 0) = true := decide_eq_true hz2
        first | refine Gx.a (by kernel_rfl) fun K hK => ?_ | refine Gx.b (by kernel_rfl) fun K hK => ?_ | refine Gx.c (by kernel_rfl) fun K hK => ?_
        simp only [XM, XA, XB, gateX, Nat.reduceAdd, Nat.reduceLeDiff, Nat.reduceSub, Nat.reduceMul, ↓reduceIte, Int.reduceToNat, Int.reduceLE, beq_self_eq_true, num_pos, b4]
        refine hK _ ?_
        first | refine Gx.f rfl ?_ | refine XWP.seq (Gx.f rfl ?_)
        refine XWP.skip ?_
        first | refine Gx.a (by kernel_rfl) fun K hK => ?_ | refine Gx.b (by kernel_rfl) fun K hK => ?_ | refine Gx.c (by kernel_rfl) fun K hK => ?_
        simp only [XM, XA, XB, gateX, Nat.reduceAdd, Nat.reduceLeDiff, Nat.reduceSub, Nat.reduceMul, ↓reduceIte, Int.reduceToNat, Int.reduceLE, beq_self_eq_true, i64_succ k (by omega)]
        rw [rowf_skip hk (by show tS a M c k i + _ = _; rw [hz2, Rat.mul_zero, Rat.add_zero])] at hrow7
        exact hK _ ⟨r2 - 1, by omega, fun f => ⟨k + 1, V7, H6, cells6, StIs.of (by exact rfl), View.le_trans hV3 hV7, by omega, hH, hrow7⟩⟩
      have b4 : decide (cf M (i * c + k) = 0) = false := decide_eq_false hz2
      first | refine Gx.a (by kernel_rfl) fun K hK => ?_ | refine Gx.b (by kernel_rfl) fun K hK => ?_ | refine Gx.c (by kernel_rfl) fun K hK => ?_
      simp only [XM, XA, XB, gateX, Nat.reduceAdd, Nat.reduceLeDiff, Nat.reduceSub, Nat.reduceMul, ↓reduceIte, Int.reduceToNat, Int.reduceLE, beq_self_eq_true, num_pos, b4]
      refine hK _ ?_
      first | refine Gx.t rfl ?_ | refine XWP.seq (Gx.t rfl ?_)
      obtain ⟨m8, n8, d8, hx8, ⟨s1, s2, s3⟩, hld8⟩ := rowQ_load hH hrow7 k (by rw [mk_len]; exact hk)
      rw [cf_mk_lt hk, show rowf a M c i k k = tS a M c k i from if_neg (by omega)] at hx8
      have qa : QF (cf a i) := (hA.at i).qf (by omega)
      have qm : QF (cf M (i * c + k)) := (hB.at _).qf (by omega)
      have qt : QF (tS a M c k i) := (tS_QB hA hB c k i).qf (by omega)
      have qp : QF (cf a i * cf M (i * c + k)) := ((hA.at i).mul (hB.at _)).qf (by omega)
      (first | refine XWP.drw [0, 1, 2, 3, 4, 5, 6, 7, 8, 9, 10, 11] (by kernel_rfl) (by kernel_rfl) (by kernel_rfl) fun K hK => ?_ | refine XWP.seq (XWP.drw [0, 1, 2, 3, 4, 5, 6, 7, 8, 9, 10, 11] (by kernel_rfl) (by kernel_rfl) (by kernel_rfl) fun K hK => ?_) | refine XWP.drw1 [0, 1, 2, 3, 4, 5, 6, 7, 8, 9, 10, 11] (by kernel_rfl) (by kernel_rfl) (by kernel_rfl) fun K hK => ?_) <;> dsimp only [pickOps, List.getElem?_cons_zero, List.getElem?_cons_succ]
      simp only [XM, XA, XB, gateX, Nat.reduceAdd, Nat.reduceLeDiff, Nat.reduceSub, Nat.reduceMul, ↓reduceIte, Int.reduceToNat, Int.reduceLE, beq_self_eq_true]
      refine ⟨by omega, by omega, ld_mem hld8 ?_⟩
      simp only [XM, XA, XB, gateX, Nat.reduceAdd, Nat.reduceLeDiff, Nat.reduceSub, Nat.reduceMul, ↓reduceIte, Int.reduceToNat, Int.reduceLE, beq_self_eq_true]
      refine call_go (by kernel_rfl) rfl (qmul_c _ _ _ _ _ (hx3.mono (View.le_trans hV3 hV7)) h7 qa qm) fun v9 V9 hV9 h9 => ?_
      simp only [XM, XA, XB, gateX, Nat.reduceAdd, Nat.reduceLeDiff, Nat.reduceSub, Nat.reduceMul, ↓reduceIte, Int.reduceToNat, Int.reduceLE, beq_self_eq_true]
      refine call_go (by kernel_rfl) rfl (qadd_c _ _ _ _ _ (hx8.mono hV9) h9 qt qp) fun v10 V10 hV10 h10 => ?_
      obtain ⟨x10, y10, rfl, o5, o6⟩ := h10.form
      have hrow10 := (hrow7.mono ratE_ok hV9).mono ratE_ok hV10
      have hl10 := hrow10.1
      rw [mk_len] at hl10
      simp only [XM, XA, XB, gateX, Nat.reduceAdd, Nat.reduceLeDiff, Nat.reduceSub, Nat.reduceMul, ↓reduceIte, Int.reduceToNat, Int.reduceLE, beq_self_eq_true]
      refine ⟨by omega, by omega, ?_⟩
      refine st_rowA shapeT_34 (all3 rfl o5 o6) rfl hH (by dsimp only; omega) ?_
      simp only [XM, XA, XB, gateX, Nat.reduceAdd, Nat.reduceLeDiff, Nat.reduceSub, Nat.reduceMul, ↓reduceIte, Int.reduceToNat, Int.reduceLE, beq_self_eq_true]
      refine hK _ ?_
      have hrow11 := hrow10.set k (by rw [mk_len]; exact hk) (show isOne (.bool (ng (tS a M c k i + cf a i * cf M (i * c + k)))) = true from rfl) o5 o6 h10
      rw [show tS a M c k i + cf a i * cf M (i * c + k) = tS a M c k (i + 1) from rfl, rowf_set hk] at hrow11
      first | refine Gx.a (by kernel_rfl) fun K hK => ?_ | refine Gx.b (by kernel_rfl) fun K hK => ?_ | refine Gx.c (by kernel_rfl) fun K hK => ?_
      simp only [XM, XA, XB, gateX, Nat.reduceAdd, Nat.reduceLeDiff, Nat.reduceSub, Nat.reduceMul, ↓reduceIte, Int.reduceToNat, Int.reduceLE, beq_self_eq_true, i64_succ k (by omega)]
      exact hK _ ⟨r2 - 1, by omega, fun f => ⟨k + 1, V10, _, _, StIs.of (by exact rfl), View.le_trans hV3 (View.le_trans hV7 (View.le_trans hV9 hV10)), by omega, upd_at _ _ _, hrow11⟩⟩
    rintro s ⟨V3, H6, cells6, hs, hV3, hH6, hrow6⟩
    obtain ⟨z, rfl⟩ := hs.out
    try dsimp only
    clear hs
    first | refine Gx.a (by kernel_rfl) fun K hK => ?_ | refine Gx.b (by kernel_rfl) fun K hK => ?_ | refine Gx.c (by kernel_rfl) fun K hK => ?_
    simp only [XM, XA, XB, gateX, Nat.reduceAdd, Nat.reduceLeDiff, Nat.reduceSub, Nat.reduceMul, ↓reduceIte, Int.reduceToNat, Int.reduceLE, beq_self_eq_true, i64_succ i (by omega)]
    exact hK _ ⟨n - 1, by omega, fun f => ⟨i + 1, V3, H6, cells6, StIs.of (by exact rfl), View.le_trans hV2 hV3, by omega, hH6, hrow6⟩⟩
  rintro s ⟨V2, H5, cells, hs, hH, hrow⟩
  obtain ⟨z, rfl⟩ := hs.out
  try dsimp only
  first | refine Gx.a (by kernel_rfl) fun K hK => ?_ | refine Gx.b (by kernel_rfl) fun K hK => ?_ | refine Gx.c (by kernel_rfl) fun K hK => ?_
  simp only [XM, XA, XB, gateX, Nat.reduceAdd, Nat.reduceLeDiff, Nat.reduceSub, Nat.reduceMul, ↓reduceIte, Int.reduceToNat, Int.reduceLE, beq_self_eq_true]
  refine hK _ (XWP.ret ?_)
  try simp only [thenX_ret, inBlockX_ret]
  refine ret_pub g _ hH fun o ho hle' => ret_go _ rfl ?_
  exact hrow.pub ratE_ok ho hle' (thr_len a M c) (Nat.le_refl _) (by omega)
end Go.Proofs.Ythoboehbadmlmaa
end
section
namespace Go.Proofs.Ythoboehbadmlmaa
open Go Go.RowKit
set_option linter.unusedSimpArgs false
set_option linter.unusedVariables false
attribute [local irreducible] XWP Spec SpecO XPub XCall seqX clX apX stX ldX iaX slX
theorem chB_inv {r1 c1 r2 c2 : Int} {L1 L2 : List Raw} (h : chB r1 c1 L1 r2 c2 L2 = true) :
    ∃ n m : Nat, r1 = n ∧ c1 = n ∧ r2 = n ∧ c2 = m ∧ n ≤ 60 ∧ m ≤ 60 ∧ L1.length = n * n ∧ L2.length = n * m ∧ okR L1 = true ∧ okR L2 = true ∧ rowsB n m (qs L1) (qs L2) n = true := by
  have h0 := h
  unfold chB at h
  rw [Bool.and_eq_true, Bool.and_eq_true, Bool.and_eq_true, Bool.and_eq_true, decide_eq_true_eq, decide_eq_true_eq] at h
  obtain ⟨⟨⟨⟨e1, e2⟩, e3⟩, e4⟩, _⟩ := h
  obtain ⟨n, m, g1, g2, g3, g4, g5, g6, g7, g8, g9, g10, g11⟩ := chB_shape e1 e2 e3 e4
  exact ⟨n, m, g1, g2, g3, g4, g5, g6, g7, g8, g9, g10, by rw [← g11]; exact h0⟩
theorem mk_self (a : List Rat) : mk a.length (cf a) = a := by
  refine List.ext_getElem? fun i => ?_
  unfold mk
  by_cases hi : i < a.length
  · rw [List.getElem?_map, List.getElem?_range hi, List.getElem?_eq_getElem hi, Option.map_some, cf_get hi]
  · rw [List.getElem?_eq_none (by simp; omega), List.getElem?_eq_none (by omega)]
def fillf (a : List Rat) (i : Nat) : Nat → Rat := fun j => if j < i then cf a j else 0
theorem fillf_set {a : List Rat} {c i : Nat} (hi : i < c) : (mk c (fillf a i)).set i (cf a i) = mk c (fillf a (i + 1)) := by
  rw [mk_set1 hi]
  refine mk_congr fun j _ => ?_
  unfold fillf
  by_cases e : j = i
  · rw [if_pos e, if_pos (by omega), e]
  · rw [if_neg e]
    by_cases h : j < i
    · rw [if_pos h, if_pos (by omega)]
    · rw [if_neg h, if_neg (by omega)]
theorem fillf_all {a : List Rat} {c : Nat} (h : a.length = c) : mk c (fillf a c) = a := by
  subst h
  have : mk a.length (fillf a a.length) = mk a.length (cf a) := mk_congr fun j hj => by unfold fillf; rw [if_pos hj]
  rw [this, mk_self]
theorem fillf_zero (a : List Rat) (c : Nat) : mk c (fillf a 0) = mk c fun _ => 0 := mk_congr fun j _ => by unfold fillf; rw [if_neg (by omega)]
theorem cafter_c (V : View) (s1 s2 v : Value) (n m : Nat) (L1 L2 S : List Raw) (h1 : Raws V s1 L1) (h2 : Raws V s2 L2) (hv : Raws V v S) (f1 : fitR L1) (f2 : fitR L2) (f3 : fitR S) (hC : chB n n L1 n m L2 = true) (hW : wtB n S = true) (A B C : Nat) (hA : CB A (qs L1)) (hB : CB B (qs L2)) (hS : CB C (qs S)) (hfit : 2 * (A + B) + C + 300 ≤ 17592186044416) :
    Spec Try.prog 87 [.agg #[.int .i64 (n : Int), .int .i64 (n : Int), s1, .int .i64 (n : Int), .int .i64 (m : Int), s2], v, .int .i64 1] V fun v' V' => ∃ w u, v' = .tuple #[w, u, .int .i64 0] ∧ Rats V' w (thr (qs S) (qs L1) n) ∧ Rats V' u (thr (qs S) (qs L2) m) := by
  obtain ⟨n', m', e1, _, _, e2, hn, hm, k1, k2, o1, o2, _⟩ := chB_inv hC
  obtain rfl : n = n' := by omega
  obtain rfl : m = m' := by omega
  clear e1 e2
  have hn2 : n * n ≤ 3600 := Nat.le_trans (Nat.mul_le_mul hn hn) (by decide)
  have hnm : n * m ≤ 3600 := Nat.le_trans (Nat.mul_le_mul hn hm) (by decide)
  have hW' := hW
  unfold wtB at hW'
  rw [Bool.and_eq_true, decide_eq_true_eq] at hW'
  have lS : S.length = n := by omega
  obtain ⟨o3, _⟩ := wtsR_ok hW'.2
  obtain ⟨A1, q1, rfl, _, _⟩ := h1.form
  obtain ⟨A2, q2, rfl, _, _⟩ := h2.form
  obtain ⟨A3, q3, rfl, _, _⟩ := hv.form
  refine (Spec.enter Try.func87 rfl fun Γ => ?_)
  simp only [Try.ntmps87, List.map_cons, List.map_nil, List.length_cons, List.length_nil, Nat.reduceAdd, Nat.reduceSub, List.replicate_succ, List.replicate_zero, List.cons_append, List.nil_append]
  first | refine Gx.a (by kernel_rfl) fun K hK => ?_ | refine Gx.b (by kernel_rfl) fun K hK => ?_ | refine Gx.c (by kernel_rfl) fun K hK => ?_
  simp only [XM, XA, XB, gateX, Nat.reduceAdd, Nat.reduceLeDiff, Nat.reduceSub, Nat.reduceMul, ↓reduceIte, Int.reduceToNat, Int.reduceLE, beq_self_eq_true]
  refine hK _ ?_
  refine XWP.cut (fun s => ∃ (V2 : View), StIs (fun Z => [Z 0, .v (.slice A3 S.length q3), .v (.int .i64 1), .p 0 0, Z 4,Z 5,Z 6,Z 7,Z 8,Z 9,Z 10,Z 11,Z 12,Z 13,Z 14,Z 15,Z 16,Z 17,Z 18,Z 19,Z 20,Z 21,Z 22,Z 23,Z 24,Z 25,Z 26,Z 27,Z 28,Z 29,Z 30,Z 31,Z 32,Z 33,Z 34,Z 35,Z 36,Z 37,Z 38,Z 39,Z 40,Z 41,Z 42,Z 43,Z 44,Z 45,Z 46,Z 47,Z 48,Z 49,Z 50,Z 51,Z 52,Z 53,Z 54,Z 55,Z 56,Z 57,Z 58,Z 59,Z 60,Z 61,Z 62,Z 63,Z 64,Z 65,Z 66,Z 67,Z 68,Z 69,Z 70,Z 71,Z 72,Z 73,Z 74,Z 75,Z 76,Z 77,Z 78,Z 79,Z 80,Z 81,Z 82,Z 83,Z 84,Z 85,Z 86]) [[.int .i64 (n : Int), .int .i64 (n : Int), .slice A1 L1.length q1, .int .i64 (n : Int), .int .i64 (m : Int), .slice A2 L2.length q2]] (fun _ => none) V2 s ∧ V.le V2) ?_ ?_
  · first | refine XWP.block ?_ | refine XWP.seq (XWP.block ?_)
    refine XWP.seq ?_
    first | refine Gx.a (by kernel_rfl) fun K hK => ?_ | refine Gx.b (by kernel_rfl) fun K hK => ?_ | refine Gx.c (by kernel_rfl) fun K hK => ?_
    simp only [XM, XA, XB, gateX, Nat.reduceAdd, Nat.reduceLeDiff, Nat.reduceSub, Nat.reduceMul, ↓reduceIte, Int.reduceToNat, Int.reduceLE, beq_self_eq_true]
    refine call_go (by kernel_rfl) rfl (cchright_c _ _ _ _ _ _ _ L1 L2 h1 h2 f1 f2 (by omega) (by omega) A B (fun _ => hA) (fun _ => hB) (by omega)) fun v1 V1 hV1 g1 => ?_
    rw [hC] at g1
    subst g1
    simp only [XM, XA, XB, gateX, Nat.reduceAdd, Nat.reduceLeDiff, Nat.reduceSub, Nat.reduceMul, ↓reduceIte, Int.reduceToNat, Int.reduceLE, beq_self_eq_true]
    refine call_go (by kernel_rfl) rfl (cweights_c _ _ _ _ _ _ _ _ S rfl rfl (hv.up hV1) f3 (by omega)) fun v2 V2 hV2 g2 => ?_
    rw [hW] at g2
    subst g2
    simp only [XM, XA, XB, gateX, Nat.reduceAdd, Nat.reduceLeDiff, Nat.reduceSub, Nat.reduceMul, ↓reduceIte, Int.reduceToNat, Int.reduceLE, beq_self_eq_true, decide_false]
    refine hK _ ?_
    first | refine Gx.f rfl ?_ | refine XWP.seq (Gx.f rfl ?_)
    first | refine Gx.a (by kernel_rfl) fun K hK => ?_ | refine Gx.b (by kernel_rfl) fun K hK => ?_ | refine Gx.c (by kernel_rfl) fun K hK => ?_
    simp only [XM, XA, XB, gateX, Nat.reduceAdd, Nat.reduceLeDiff, Nat.reduceSub, Nat.reduceMul, ↓reduceIte, Int.reduceToNat, Int.reduceLE, beq_self_eq_true, decide_false]
    refine hK _ ?_
    first | refine Gx.f rfl ?_ | refine XWP.seq (Gx.f rfl ?_)
    refine XWP.skip ?_
    exact ⟨V2, StIs.of (by exact rfl), View.le_trans hV1 hV2⟩
  rintro s ⟨V2, hs, hV2⟩
  obtain ⟨z, rfl⟩ := hs.out
  try dsimp only
  clear hs
  have hp := (Raws.rats h1 o1).up hV2
  have hq := (Raws.rats h2 o2).up hV2
  have ha := (Raws.rats hv o3).up hV2
  have ep := qs_len L1
  have eq := qs_len L2
  have ea := qs_len S
  generalize qs L1 = p at *
  generalize qs L2 = q at *
  generalize qs S = a at *
  clear h1 h2 hv f1 f2 f3 o1 o2 o3 hC hW hW'
  have w01 : IntKind.i64.wrap (0 + 1) = 1 := by rw [wrap_id (by omega) (by omega)]; rfl
  have b01 : decide ((0 : Int) < 1) = true := by decide
  have b11 : decide ((1 : Int) < 1) = false := by decide
  have mW : (thr a q m).length = m := thr_len a q m
  have cW : CB (C + B + n) (thr a q m) := by
    have := thr_CB hS hB m
    rw [ea, lS] at this; exact this
  have lp : p.length = a.length * n := by rw [ep, ea, lS]; exact k1
  have lq : q.length = a.length * m := by rw [eq, ea, lS]; exact k2
  (first | refine XWP.drw [0, 1, 2, 4, 5, 6, 3, 7, 8, 9] (by kernel_rfl) (by kernel_rfl) (by kernel_rfl) fun K hK => ?_ | refine XWP.seq (XWP.drw [0, 1, 2, 4, 5, 6, 3, 7, 8, 9] (by kernel_rfl) (by kernel_rfl) (by kernel_rfl) fun K hK => ?_) | refine XWP.drw1 [0, 1, 2, 4, 5, 6, 3, 7, 8, 9] (by kernel_rfl) (by kernel_rfl) (by kernel_rfl) fun K hK => ?_) <;> dsimp only [pickOps, List.getElem?_cons_zero, List.getElem?_cons_succ]
  simp only [XM, XA, XB, gateX, Nat.reduceAdd, Nat.reduceLeDiff, Nat.reduceSub, Nat.reduceMul, ↓reduceIte, Int.reduceToNat, Int.reduceLE, beq_self_eq_true]
  refine call_own (by kernel_rfl) rfl (czeros_o _ n (by omega)) fun v3 V3 o3 hV3 hs3 h3 => ?_
  obtain ⟨g1, cells1, rfl, rfl, hrow1⟩ := h3
  simp only [XM, XA, XB, gateX, Nat.reduceAdd, Nat.reduceLeDiff, Nat.reduceSub, Nat.reduceMul, ↓reduceIte, Int.reduceToNat, Int.reduceLE, beq_self_eq_true]
  refine call_own (by kernel_rfl) rfl (czeros_o _ m (by omega)) fun v4 V4 o4 hV4 hs4 h4 => ?_
  obtain ⟨g2, cells2, rfl, rfl, hrow2⟩ := h4
  have hn4 : addRow (fun _ => none) (some (g1, (⟨34, cells1, n * 3⟩ : Row))) g2 = none := (hs4 g2 _ rfl).1
  have hne : g2 ≠ g1 := fun e => by
    rw [e] at hn4
    rw [show addRow (fun _ => none) (some (g1, (⟨34, cells1, n * 3⟩ : Row))) g1 = some ⟨34, cells1, n * 3⟩ from (show upd (fun _ => none) g1 (some _) g1 = some _ from upd_at _ _ _)] at hn4
    cases hn4
  have hg1 : addRow (addRow (fun _ => none) (some (g1, (⟨34, cells1, n * 3⟩ : Row)))) (some (g2, (⟨34, cells2, m * 3⟩ : Row))) g1 = some ⟨34, cells1, n * 3⟩ := show upd (upd (fun _ => none) g1 (some _)) g2 (some _) g1 = some _ from (upd_off hne.symm).trans (upd_at _ _ _)
  have hg2 : addRow (addRow (fun _ => none) (some (g1, (⟨34, cells1, n * 3⟩ : Row)))) (some (g2, (⟨34, cells2, m * 3⟩ : Row))) g2 = some ⟨34, cells2, m * 3⟩ := show upd (upd (fun _ => none) g1 (some _)) g2 (some _) g2 = some _ from upd_at _ _ _
  simp only [XM, XA, XB, gateX, Nat.reduceAdd, Nat.reduceLeDiff, Nat.reduceSub, Nat.reduceMul, ↓reduceIte, Int.reduceToNat, Int.reduceLE, beq_self_eq_true]
  refine hK _ ?_
  clear hK hn4 hs3 hs4
  generalize addRow (addRow (fun _ => none) (some (g1, (⟨34, cells1, n * 3⟩ : Row)))) (some (g2, (⟨34, cells2, m * 3⟩ : Row))) = H4 at *
  have hrow1 := hrow1.mono ratE_ok hV4
  have hV4 := View.le_trans hV3 hV4
  refine XWP.cutD 1 (fun s => ∃ (V5 : View) (H5 : Heap) (cells1 : List Value), StIs (fun Z => [Z 0, .v (.slice A3 S.length q3), .v (.int .i64 1), .p 0 0, Z 4,Z 5,Z 6,Z 7,Z 8, .v (.slice (some ⟨g1, 0, none⟩) n n), .v (.slice (some ⟨g2, 0, none⟩) m m), Z 11,Z 12,Z 13,Z 14,Z 15,Z 16,Z 17,Z 18,Z 19,Z 20,Z 21,Z 22,Z 23,Z 24,Z 25,Z 26,Z 27,Z 28,Z 29,Z 30,Z 31,Z 32,Z 33,Z 34,Z 35,Z 36,Z 37,Z 38,Z 39,Z 40,Z 41,Z 42,Z 43,Z 44,Z 45,Z 46,Z 47,Z 48,Z 49,Z 50,Z 51,Z 52,Z 53,Z 54,Z 55,Z 56,Z 57,Z 58,Z 59,Z 60,Z 61,Z 62,Z 63,Z 64,Z 65,Z 66,Z 67,Z 68,Z 69,Z 70,Z 71,Z 72,Z 73,Z 74,Z 75,Z 76,Z 77,Z 78,Z 79,Z 80,Z 81,Z 82,Z 83,Z 84,Z 85,Z 86]) [[.int .i64 (n : Int), .int .i64 (n : Int), .slice A1 L1.length q1, .int .i64 (n : Int), .int .i64 (m : Int), .slice A2 L2.length q2]] H5 V5 s ∧ V4.le V5 ∧ H5 g1 = some ⟨34, cells1, n * 3⟩ ∧ RowAt ratE V5 cells1 a ∧ H5 g2 = some ⟨34, cells2, m * 3⟩) ?_ ?_
  · first | refine Gx.a (by kernel_rfl) fun K hK => ?_ | refine Gx.b (by kernel_rfl) fun K hK => ?_ | refine Gx.c (by kernel_rfl) fun K hK => ?_
    simp only [XM, XA, XB, gateX, Nat.reduceAdd, Nat.reduceLeDiff, Nat.reduceSub, Nat.reduceMul, ↓reduceIte, Int.reduceToNat, Int.reduceLE, beq_self_eq_true]
    refine hK _ ?_
    clear hK
    first | refine XWP.block ?_ | refine XWP.seq (XWP.block ?_)
    refine XWP.loopD 1 (fun r s => ∃ (i : Nat) (V5 : View) (H5 : Heap) (cells1 : List Value), StIs (fun Z => [Z 0, .v (.slice A3 S.length q3), .v (.int .i64 1), .p 0 0, Z 4,Z 5,Z 6,Z 7,Z 8, .v (.slice (some ⟨g1, 0, none⟩) n n), .v (.slice (some ⟨g2, 0, none⟩) m m), Z 11,Z 12,Z 13,Z 14,Z 15,Z 16,Z 17,Z 18,Z 19,Z 20,Z 21,Z 22,Z 23,Z 24,Z 25,Z 26,Z 27,Z 28,Z 29,Z 30,Z 31,Z 32,Z 33,Z 34,Z 35,Z 36,Z 37,Z 38,Z 39, .v (.slice A3 S.length q3), .v (.int .i64 (S.length : Int)), .v (.int .i64 (i : Int)), Z 43,Z 44,Z 45,Z 46,Z 47,Z 48,Z 49,Z 50,Z 51,Z 52,Z 53,Z 54,Z 55,Z 56,Z 57,Z 58,Z 59,Z 60,Z 61,Z 62,Z 63,Z 64,Z 65,Z 66,Z 67,Z 68,Z 69,Z 70,Z 71,Z 72,Z 73,Z 74,Z 75,Z 76,Z 77,Z 78,Z 79,Z 80,Z 81,Z 82,Z 83,Z 84,Z 85,Z 86]) [[.int .i64 (n : Int), .int .i64 (n : Int), .slice A1 L1.length q1, .int .i64 (n : Int), .int .i64 (m : Int), .slice A2 L2.length q2]] H5 V5 s ∧ V4.le V5 ∧ r + i = n ∧ H5 g1 = some ⟨34, cells1, n * 3⟩ ∧ RowAt ratE V5 cells1 (mk n (fillf a i)) ∧ H5 g2 = some ⟨34, cells2, m * 3⟩) n ⟨0, V4, H4, cells1, StIs.of (by exact rfl), View.le_refl _, by omega, hg1, by rw [fillf_zero]; exact hrow1, hg2⟩ ?_
    clear hrow1 hg1 hg2
    rintro r s ⟨i, V5, H5, cells1, hs, hV5, hr, hg1, hrow1, hg2⟩
    obtain ⟨z, rfl⟩ := hs.out
    try dsimp only
    clear hs
    by_cases hi : i < n
    rotate_left
    · obtain rfl : i = n := by omega
      have b1 : decide ((i : Int) < (S.length : Int)) = false := decide_eq_false (by omega)
      first | refine Gx.a (by kernel_rfl) fun K hK => ?_ | refine Gx.b (by kernel_rfl) fun K hK => ?_ | refine Gx.c (by kernel_rfl) fun K hK => ?_
      simp only [XM, XA, XB, gateX, Nat.reduceAdd, Nat.reduceLeDiff, Nat.reduceSub, Nat.reduceMul, ↓reduceIte, Int.reduceToNat, Int.reduceLE, beq_self_eq_true, b1]
      refine hK _ ?_
      first | refine Gx.f rfl ?_ | refine XWP.seq (Gx.f rfl ?_)
      refine XWP.exit ?_
      rw [fillf_all (by omega)] at hrow1
      exact fun f => ⟨V5, H5, cells1, StIs.of (by exact rfl), hV5, hg1, hrow1, hg2⟩
    have b1 : decide ((i : Int) < (S.length : Int)) = true := decide_eq_true (by omega)
    first | refine Gx.a (by kernel_rfl) fun K hK => ?_ | refine Gx.b (by kernel_rfl) fun K hK => ?_ | refine Gx.c (by kernel_rfl) fun K hK => ?_
    simp only [XM, XA, XB, gateX, Nat.reduceAdd, Nat.reduceLeDiff, Nat.reduceSub, Nat.reduceMul, ↓reduceIte, Int.reduceToNat, Int.reduceLE, beq_self_eq_true, b1]
    refine hK _ ?_
    first | refine Gx.t rfl ?_ | refine XWP.seq (Gx.t rfl ?_)
    refine XWP.skip ?_
    refine XWP.seq ?_
    first | refine XWP.block ?_ | refine XWP.seq (XWP.block ?_)
    have ha5 := ha.up (View.le_trans hV4 hV5)
    obtain ⟨b, o, rfl⟩ := SlAt.addr ha5 (by omega)
    obtain ⟨m3, n3, d3, hx3, ⟨p1, p2, p3⟩, hld3⟩ := Rats.get ha5 i (by omega)
    first | refine Gx.a (by kernel_rfl) fun K hK => ?_ | refine Gx.b (by kernel_rfl) fun K hK => ?_ | refine Gx.c (by kernel_rfl) fun K hK => ?_
    simp only [XM, XA, XB, gateX, Nat.reduceAdd, Nat.reduceLeDiff, Nat.reduceSub, Nat.reduceMul, ↓reduceIte, Int.reduceToNat, Int.reduceLE, beq_self_eq_true]
    refine ⟨by omega, by omega, ld_mem (hld3 _) ?_⟩
    simp only [XM, XA, XB, gateX, Nat.reduceAdd, Nat.reduceLeDiff, Nat.reduceSub, Nat.reduceMul, ↓reduceIte, Int.reduceToNat, Int.reduceLE, beq_self_eq_true]
    refine st_rat rfl rfl p1 p2 p3 ?_
    simp only [XM, XA, XB, gateX, Nat.reduceAdd, Nat.reduceLeDiff, Nat.reduceSub, Nat.reduceMul, ↓reduceIte, Int.reduceToNat, Int.reduceLE, beq_self_eq_true]
    refine hK _ ?_
    obtain ⟨m8, n8, d8, hx8, ⟨t1, t2, t3⟩, hld8⟩ := rowQ_load hg1 hrow1 i (by rw [mk_len]; exact hi)
    rw [cf_mk_lt hi, show fillf a i i = 0 from if_neg (by omega)] at hx8
    (first | refine XWP.drw [0, 1, 2, 3, 4, 5, 6, 7, 8, 9] (by kernel_rfl) (by kernel_rfl) (by kernel_rfl) fun K hK => ?_ | refine XWP.seq (XWP.drw [0, 1, 2, 3, 4, 5, 6, 7, 8, 9] (by kernel_rfl) (by kernel_rfl) (by kernel_rfl) fun K hK => ?_) | refine XWP.drw1 [0, 1, 2, 3, 4, 5, 6, 7, 8, 9] (by kernel_rfl) (by kernel_rfl) (by kernel_rfl) fun K hK => ?_) <;> dsimp only [pickOps, List.getElem?_cons_zero, List.getElem?_cons_succ]
    simp only [XM, XA, XB, gateX, Nat.reduceAdd, Nat.reduceLeDiff, Nat.reduceSub, Nat.reduceMul, ↓reduceIte, Int.reduceToNat, Int.reduceLE, beq_self_eq_true]
    refine ⟨by omega, by omega, ld_mem hld8 ?_⟩
    simp only [XM, XA, XB, gateX, Nat.reduceAdd, Nat.reduceLeDiff, Nat.reduceSub, Nat.reduceMul, ↓reduceIte, Int.reduceToNat, Int.reduceLE, beq_self_eq_true]
    refine call_go (by kernel_rfl) rfl (qadd_c _ _ _ _ _ hx8 hx3 QF_zero ((hS.at _).qf (by omega))) fun v6 V6 hV6 h6 => ?_
    rw [Rat.zero_add] at h6
    obtain ⟨x6, y6, rfl, o5, o6⟩ := h6.form
    have hrow6 := hrow1.mono ratE_ok hV6
    have hl6 := hrow6.1
    rw [mk_len] at hl6
    simp only [XM, XA, XB, gateX, Nat.reduceAdd, Nat.reduceLeDiff, Nat.reduceSub, Nat.reduceMul, ↓reduceIte, Int.reduceToNat, Int.reduceLE, beq_self_eq_true]
    refine ⟨by omega, by omega, ?_⟩
    refine st_rowA shapeT_34 (all3 rfl o5 o6) rfl hg1 (by dsimp only; omega) ?_
    simp only [XM, XA, XB, gateX, Nat.reduceAdd, Nat.reduceLeDiff, Nat.reduceSub, Nat.reduceMul, ↓reduceIte, Int.reduceToNat, Int.reduceLE, beq_self_eq_true]
    refine hK _ ?_
    have hrow7 := hrow6.set i (by rw [mk_len]; exact hi) (show isOne (.bool (ng (cf a i))) = true from rfl) o5 o6 h6
    rw [fillf_set hi] at hrow7
    first | refine Gx.a (by kernel_rfl) fun K hK => ?_ | refine Gx.b (by kernel_rfl) fun K hK => ?_ | refine Gx.c (by kernel_rfl) fun K hK => ?_
    simp only [XM, XA, XB, gateX, Nat.reduceAdd, Nat.reduceLeDiff, Nat.reduceSub, Nat.reduceMul, ↓reduceIte, Int.reduceToNat, Int.reduceLE, beq_self_eq_true, i64_succ i (by omega)]
    exact hK _ ⟨r - 1, by omega, fun f => ⟨i + 1, V6, _, _, StIs.of (by exact rfl), View.le_trans hV5 hV6, by omega, upd_at _ _ _, hrow7, (upd_off hne).trans hg2⟩⟩
  clear hrow1 hg1 hg2
  rintro s ⟨V5, H5, cells1, hs, hV5, hg1, hrow1, hg2⟩
  obtain ⟨z, rfl⟩ := hs.out
  try dsimp only
  clear hs
  have hrow2 := hrow2.mono ratE_ok hV5
  have hp := hp.up (View.le_trans hV4 hV5)
  have hq := hq.up (View.le_trans hV4 hV5)
  refine XWP.cutD 1 (fun s => ∃ (V6 : View) (H6 : Heap) (w : Value) (cs : List Value), StIs (fun Z => [Z 0, .v (.slice A3 S.length q3), .v (.int .i64 1), .p 0 0, Z 4,Z 5,Z 6,Z 7,Z 8, .v w, .v (.slice (some ⟨g2, 0, none⟩) m m), Z 11,Z 12,Z 13,Z 14,Z 15,Z 16,Z 17,Z 18,Z 19,Z 20,Z 21,Z 22,Z 23,Z 24,Z 25,Z 26,Z 27,Z 28,Z 29,Z 30,Z 31,Z 32,Z 33,Z 34,Z 35,Z 36,Z 37,Z 38,Z 39,Z 40,Z 41,Z 42,Z 43,Z 44,Z 45,Z 46,Z 47,Z 48,Z 49,Z 50,Z 51,Z 52,Z 53,Z 54,Z 55,Z 56,Z 57,Z 58,Z 59,Z 60,Z 61,Z 62,Z 63,Z 64,Z 65,Z 66,Z 67,Z 68,Z 69,Z 70,Z 71,Z 72,Z 73,Z 74,Z 75,Z 76,Z 77,Z 78,Z 79,Z 80,Z 81,Z 82,Z 83,Z 84,Z 85,Z 86]) [[.int .i64 (n : Int), .int .i64 (n : Int), .slice A1 L1.length q1, .int .i64 (n : Int), .int .i64 (m : Int), .slice A2 L2.length q2]] H6 V6 s ∧ Rats V6 w (thr a p n) ∧ H6 g2 = some ⟨34, cs, m * 3⟩ ∧ RowAt ratE V6 cs (thr a q m)) ?_ ?_
  · first | refine Gx.a (by kernel_rfl) fun K hK => ?_ | refine Gx.b (by kernel_rfl) fun K hK => ?_ | refine Gx.c (by kernel_rfl) fun K hK => ?_
    simp only [XM, XA, XB, gateX, Nat.reduceAdd, Nat.reduceLeDiff, Nat.reduceSub, Nat.reduceMul, ↓reduceIte, Int.reduceToNat, Int.reduceLE, beq_self_eq_true]
    refine hK _ ?_
    clear hK
    first | refine XWP.block ?_ | refine XWP.seq (XWP.block ?_)
    refine XWP.loopD 1 (fun r s => (r = 1 ∧ StIs (fun Z => [Z 0, .v (.slice A3 S.length q3), .v (.int .i64 1), .p 0 0, Z 4,Z 5,Z 6,Z 7,Z 8, .v (.slice (some ⟨g1, 0, none⟩) n n), .v (.slice (some ⟨g2, 0, none⟩) m m), Z 11,Z 12,Z 13,Z 14,Z 15,Z 16,Z 17,Z 18,Z 19,Z 20,Z 21,Z 22,Z 23,Z 24,Z 25,Z 26,Z 27,Z 28,Z 29,Z 30,Z 31,Z 32,Z 33,Z 34,Z 35,Z 36,Z 37,Z 38,Z 39,Z 40,Z 41,Z 42,Z 43,Z 44,Z 45,Z 46,Z 47,Z 48,Z 49,Z 50,Z 51,Z 52,Z 53,Z 54,Z 55,Z 56, .v (.int .i64 1), .v (.int .i64 0), Z 59,Z 60,Z 61,Z 62,Z 63,Z 64,Z 65,Z 66,Z 67,Z 68,Z 69,Z 70,Z 71,Z 72,Z 73,Z 74,Z 75,Z 76,Z 77,Z 78,Z 79,Z 80,Z 81,Z 82,Z 83,Z 84,Z 85,Z 86]) [[.int .i64 (n : Int), .int .i64 (n : Int), .slice A1 L1.length q1, .int .i64 (n : Int), .int .i64 (m : Int), .slice A2 L2.length q2]] H5 V5 s) ∨ (r = 0 ∧ ∃ (V6 : View) (H6 : Heap) (w : Value) (cs : List Value), StIs (fun Z => [Z 0, .v (.slice A3 S.length q3), .v (.int .i64 1), .p 0 0, Z 4,Z 5,Z 6,Z 7,Z 8, .v w, .v (.slice (some ⟨g2, 0, none⟩) m m), Z 11,Z 12,Z 13,Z 14,Z 15,Z 16,Z 17,Z 18,Z 19,Z 20,Z 21,Z 22,Z 23,Z 24,Z 25,Z 26,Z 27,Z 28,Z 29,Z 30,Z 31,Z 32,Z 33,Z 34,Z 35,Z 36,Z 37,Z 38,Z 39,Z 40,Z 41,Z 42,Z 43,Z 44,Z 45,Z 46,Z 47,Z 48,Z 49,Z 50,Z 51,Z 52,Z 53,Z 54,Z 55,Z 56, .v (.int .i64 1), .v (.int .i64 1), Z 59,Z 60,Z 61,Z 62,Z 63,Z 64,Z 65,Z 66,Z 67,Z 68,Z 69,Z 70,Z 71,Z 72,Z 73,Z 74,Z 75,Z 76,Z 77,Z 78,Z 79,Z 80,Z 81,Z 82,Z 83,Z 84,Z 85,Z 86]) [[.int .i64 (n : Int), .int .i64 (n : Int), .slice A1 L1.length q1, .int .i64 (n : Int), .int .i64 (m : Int), .slice A2 L2.length q2]] H6 V6 s ∧ Rats V6 w (thr a p n) ∧ H6 g2 = some ⟨34, cs, m * 3⟩ ∧ RowAt ratE V6 cs (thr a q m))) 1 (.inl ⟨rfl, StIs.of (by exact rfl)⟩) ?_
    rintro r s (⟨rfl, hs⟩ | ⟨rfl, V6, H6, w, cs, hs, hw, hg, hrow⟩)
    rotate_left
    · obtain ⟨z, rfl⟩ := hs.out
      try dsimp only
      first | refine Gx.a (by kernel_rfl) fun K hK => ?_ | refine Gx.b (by kernel_rfl) fun K hK => ?_ | refine Gx.c (by kernel_rfl) fun K hK => ?_
      simp only [XM, XA, XB, gateX, Nat.reduceAdd, Nat.reduceLeDiff, Nat.reduceSub, Nat.reduceMul, ↓reduceIte, Int.reduceToNat, Int.reduceLE, beq_self_eq_true, b11]
      refine hK _ ?_
      first | refine Gx.f rfl ?_ | refine XWP.seq (Gx.f rfl ?_)
      refine XWP.exit ?_
      exact fun f => ⟨V6, H6, w, cs, StIs.of (by exact rfl), hw, hg, hrow⟩
    obtain ⟨z, rfl⟩ := hs.out
    try dsimp only
    clear hs
    first | refine Gx.a (by kernel_rfl) fun K hK => ?_ | refine Gx.b (by kernel_rfl) fun K hK => ?_ | refine Gx.c (by kernel_rfl) fun K hK => ?_
    simp only [XM, XA, XB, gateX, Nat.reduceAdd, Nat.reduceLeDiff, Nat.reduceSub, Nat.reduceMul, ↓reduceIte, Int.reduceToNat, Int.reduceLE, beq_self_eq_true, b01]
    refine hK _ ?_
    first | refine Gx.t rfl ?_ | refine XWP.seq (Gx.t rfl ?_)
    refine XWP.skip ?_
    refine XWP.seq ?_
    first | refine XWP.block ?_ | refine XWP.seq (XWP.block ?_)
    clear hK
    refine XWP.cutD 1 (fun s => ∃ (V8 : View) (H8 : Heap) (cs : List Value), StIs (fun Z => [Z 0, .v (.slice A3 S.length q3), .v (.int .i64 1), .p 0 0, Z 4,Z 5,Z 6,Z 7,Z 8, .v (.slice (some ⟨g1, 0, none⟩) n n), .v (.slice (some ⟨g2, 0, none⟩) m m), Z 11,Z 12,Z 13,Z 14,Z 15,Z 16,Z 17,Z 18,Z 19,Z 20,Z 21,Z 22,Z 23,Z 24,Z 25,Z 26,Z 27,Z 28,Z 29,Z 30,Z 31,Z 32,Z 33,Z 34,Z 35,Z 36,Z 37,Z 38,Z 39,Z 40,Z 41,Z 42,Z 43,Z 44,Z 45,Z 46,Z 47,Z 48,Z 49,Z 50,Z 51,Z 52,Z 53,Z 54,Z 55,Z 56, .v (.int .i64 1), .v (.int .i64 0), Z 59,Z 60,Z 61,Z 62,Z 63,Z 64,Z 65,Z 66,Z 67,Z 68,Z 69,Z 70,Z 71,Z 72,Z 73,Z 74,Z 75,Z 76,Z 77,Z 78,Z 79,Z 80,Z 81,Z 82,Z 83,Z 84,Z 85,Z 86]) [[.int .i64 (n : Int), .int .i64 (n : Int), .slice A1 L1.length q1, .int .i64 (n : Int), .int .i64 (m : Int), .slice A2 L2.length q2]] H8 V8 s ∧ V5.le V8 ∧ Rats V8 (.slice (some ⟨g1, 0, none⟩) n n) a ∧ H8 g2 = some ⟨34, cs, m * 3⟩ ∧ RowAt ratE V8 cs (thr a q m)) ?_ ?_
    · first | refine Gx.a (by kernel_rfl) fun K hK => ?_ | refine Gx.b (by kernel_rfl) fun K hK => ?_ | refine Gx.c (by kernel_rfl) fun K hK => ?_
      simp only [XM, XA, XB, gateX, Nat.reduceAdd, Nat.reduceLeDiff, Nat.reduceSub, Nat.reduceMul, ↓reduceIte, Int.reduceToNat, Int.reduceLE, beq_self_eq_true]
      refine call_pub g1 ⟨34, cells1, n * 3⟩ hg1 (fun ob hob hle => ?_) (by kernel_rfl) rfl
      have hat : Rats _ _ a := hrow1.pub ratE_ok hob hle (n := n) (c := n) (by omega) (Nat.le_refl _) (by omega)
      refine call_go (by kernel_rfl) rfl (cthrough_c _ _ _ a q n m C B hat (hq.up hle) lq (by omega) hm hS hB (by omega)) fun v7 V7 hV7 h7 => ?_
      have hg2' := (upd_off (r := none) hne).trans hg2
      generalize upd H5 g1 none = H7 at *
      have hat := hat.up hV7
      have h57 := View.le_trans hle hV7
      have hrow2 := hrow2.mono ratE_ok h57
      obtain ⟨A7, c7, rfl, _, _⟩ := h7.form
      simp only [XM, XA, XB, gateX, Nat.reduceAdd, Nat.reduceLeDiff, Nat.reduceSub, Nat.reduceMul, ↓reduceIte, Int.reduceToNat, Int.reduceLE, beq_self_eq_true]
      refine hK _ ?_
      clear hK
      first | refine XWP.block ?_ | refine XWP.seq (XWP.block ?_)
      refine XWP.loopD 1 (fun r s => ∃ (k : Nat) (V8 : View) (H8 : Heap) (cs : List Value), StIs (fun Z => [Z 0, .v (.slice A3 S.length q3), .v (.int .i64 1), .p 0 0, Z 4,Z 5,Z 6,Z 7,Z 8, .v (.slice (some ⟨g1, 0, none⟩) n n), .v (.slice (some ⟨g2, 0, none⟩) m m), Z 11,Z 12,Z 13,Z 14,Z 15,Z 16,Z 17,Z 18,Z 19,Z 20,Z 21,Z 22,Z 23,Z 24,Z 25,Z 26,Z 27,Z 28,Z 29,Z 30,Z 31,Z 32,Z 33,Z 34,Z 35,Z 36,Z 37,Z 38,Z 39,Z 40,Z 41,Z 42,Z 43,Z 44,Z 45,Z 46,Z 47,Z 48,Z 49,Z 50,Z 51,Z 52,Z 53,Z 54,Z 55,Z 56, .v (.int .i64 1), .v (.int .i64 0), Z 59,Z 60,Z 61,Z 62, .v (.slice A7 (thr a q m).length c7), .v (.int .i64 ((thr a q m).length : Int)), .v (.int .i64 (k : Int)), Z 66,Z 67,Z 68,Z 69,Z 70,Z 71,Z 72,Z 73,Z 74,Z 75,Z 76,Z 77,Z 78,Z 79,Z 80,Z 81,Z 82,Z 83,Z 84,Z 85,Z 86]) [[.int .i64 (n : Int), .int .i64 (n : Int), .slice A1 L1.length q1, .int .i64 (n : Int), .int .i64 (m : Int), .slice A2 L2.length q2]] H8 V8 s ∧ V7.le V8 ∧ r + k = m ∧ H8 g2 = some ⟨34, cs, m * 3⟩ ∧ RowAt ratE V8 cs (mk m (fillf (thr a q m) k))) m ⟨0, V7, H7, cells2, StIs.of (by exact rfl), View.le_refl _, by omega, hg2', by rw [fillf_zero]; exact hrow2⟩ ?_
      clear hg2' hrow2
      rintro r s ⟨k, V8, H8, cs, hs, hV8, hr, hg, hrow⟩
      obtain ⟨z, rfl⟩ := hs.out
      try dsimp only
      clear hs
      by_cases hk : k < m
      rotate_left
      · obtain rfl : k = m := by omega
        have b1 : decide ((k : Int) < ((thr a q k).length : Int)) = false := decide_eq_false (by omega)
        first | refine Gx.a (by kernel_rfl) fun K hK => ?_ | refine Gx.b (by kernel_rfl) fun K hK => ?_ | refine Gx.c (by kernel_rfl) fun K hK => ?_
        simp only [XM, XA, XB, gateX, Nat.reduceAdd, Nat.reduceLeDiff, Nat.reduceSub, Nat.reduceMul, ↓reduceIte, Int.reduceToNat, Int.reduceLE, beq_self_eq_true, b1]
        refine hK _ ?_
        first | refine Gx.f rfl ?_ | refine XWP.seq (Gx.f rfl ?_)
        refine XWP.exit ?_
        rw [fillf_all mW] at hrow
        exact fun f => ⟨V8, H8, cs, StIs.of (by exact rfl), View.le_trans h57 hV8, hat.up hV8, hg, hrow⟩
      have b1 : decide ((k : Int) < ((thr a q m).length : Int)) = true := decide_eq_true (by omega)
      first | refine Gx.a (by kernel_rfl) fun K hK => ?_ | refine Gx.b (by kernel_rfl) fun K hK => ?_ | refine Gx.c (by kernel_rfl) fun K hK => ?_
      simp only [XM, XA, XB, gateX, Nat.reduceAdd, Nat.reduceLeDiff, Nat.reduceSub, Nat.reduceMul, ↓reduceIte, Int.reduceToNat, Int.reduceLE, beq_self_eq_true, b1]
      refine hK _ ?_
      first | refine Gx.t rfl ?_ | refine XWP.seq (Gx.t rfl ?_)
      refine XWP.skip ?_
      refine XWP.seq ?_
      first | refine XWP.block ?_ | refine XWP.seq (XWP.block ?_)
      have hw8 := h7.up hV8
      obtain ⟨b, o, rfl⟩ := SlAt.addr hw8 (by omega)
      obtain ⟨m3, n3, d3, hx3, ⟨p1, p2, p3⟩, hld3⟩ := Rats.get hw8 k (by omega)
      first | refine Gx.a (by kernel_rfl) fun K hK => ?_ | refine Gx.b (by kernel_rfl) fun K hK => ?_ | refine Gx.c (by kernel_rfl) fun K hK => ?_
      simp only [XM, XA, XB, gateX, Nat.reduceAdd, Nat.reduceLeDiff, Nat.reduceSub, Nat.reduceMul, ↓reduceIte, Int.reduceToNat, Int.reduceLE, beq_self_eq_true]
      refine ⟨by omega, by omega, ld_mem (hld3 _) ?_⟩
      simp only [XM, XA, XB, gateX, Nat.reduceAdd, Nat.reduceLeDiff, Nat.reduceSub, Nat.reduceMul, ↓reduceIte, Int.reduceToNat, Int.reduceLE, beq_self_eq_true]
      refine st_rat rfl rfl p1 p2 p3 ?_
      simp only [XM, XA, XB, gateX, Nat.reduceAdd, Nat.reduceLeDiff, Nat.reduceSub, Nat.reduceMul, ↓reduceIte, Int.reduceToNat, Int.reduceLE, beq_self_eq_true]
      refine hK _ ?_
      obtain ⟨m8, n8, d8, hx8, ⟨t1, t2, t3⟩, hld8⟩ := rowQ_load hg hrow k (by rw [mk_len]; exact hk)
      rw [cf_mk_lt hk, show fillf (thr a q m) k k = 0 from if_neg (by omega)] at hx8
      (first | refine XWP.drw [0, 1, 2, 3, 4, 5, 6, 7, 8, 9] (by kernel_rfl) (by kernel_rfl) (by kernel_rfl) fun K hK => ?_ | refine XWP.seq (XWP.drw [0, 1, 2, 3, 4, 5, 6, 7, 8, 9] (by kernel_rfl) (by kernel_rfl) (by kernel_rfl) fun K hK => ?_) | refine XWP.drw1 [0, 1, 2, 3, 4, 5, 6, 7, 8, 9] (by kernel_rfl) (by kernel_rfl) (by kernel_rfl) fun K hK => ?_) <;> dsimp only [pickOps, List.getElem?_cons_zero, List.getElem?_cons_succ]
      simp only [XM, XA, XB, gateX, Nat.reduceAdd, Nat.reduceLeDiff, Nat.reduceSub, Nat.reduceMul, ↓reduceIte, Int.reduceToNat, Int.reduceLE, beq_self_eq_true]
      refine ⟨by omega, by omega, ld_mem hld8 ?_⟩
      simp only [XM, XA, XB, gateX, Nat.reduceAdd, Nat.reduceLeDiff, Nat.reduceSub, Nat.reduceMul, ↓reduceIte, Int.reduceToNat, Int.reduceLE, beq_self_eq_true]
      refine call_go (by kernel_rfl) rfl (qadd_c _ _ _ _ _ hx8 hx3 QF_zero ((cW.at _).qf (by omega))) fun v9 V9 hV9 h9 => ?_
      rw [Rat.zero_add] at h9
      obtain ⟨x9, y9, rfl, o5, o6⟩ := h9.form
      have hrow9 := hrow.mono ratE_ok hV9
      have hl9 := hrow9.1
      rw [mk_len] at hl9
      simp only [XM, XA, XB, gateX, Nat.reduceAdd, Nat.reduceLeDiff, Nat.reduceSub, Nat.reduceMul, ↓reduceIte, Int.reduceToNat, Int.reduceLE, beq_self_eq_true]
      refine ⟨by omega, by omega, ?_⟩
      refine st_rowA shapeT_34 (all3 rfl o5 o6) rfl hg (by dsimp only; omega) ?_
      simp only [XM, XA, XB, gateX, Nat.reduceAdd, Nat.reduceLeDiff, Nat.reduceSub, Nat.reduceMul, ↓reduceIte, Int.reduceToNat, Int.reduceLE, beq_self_eq_true]
      refine hK _ ?_
      have hrow10 := hrow9.set k (by rw [mk_len]; exact hk) (show isOne (.bool (ng (cf (thr a q m) k))) = true from rfl) o5 o6 h9
      rw [fillf_set hk] at hrow10
      first | refine Gx.a (by kernel_rfl) fun K hK => ?_ | refine Gx.b (by kernel_rfl) fun K hK => ?_ | refine Gx.c (by kernel_rfl) fun K hK => ?_
      simp only [XM, XA, XB, gateX, Nat.reduceAdd, Nat.reduceLeDiff, Nat.reduceSub, Nat.reduceMul, ↓reduceIte, Int.reduceToNat, Int.reduceLE, beq_self_eq_true, i64_succ k (by omega)]
      exact hK _ ⟨r - 1, by omega, fun f => ⟨k + 1, V9, _, _, StIs.of (by exact rfl), View.le_trans hV8 hV9, by omega, upd_at _ _ _, hrow10⟩⟩
    rintro s ⟨V8, H8, cs, hs, hV8, hat, hg, hrow⟩
    obtain ⟨z, rfl⟩ := hs.out
    try dsimp only
    clear hs
    first | refine Gx.a (by kernel_rfl) fun K hK => ?_ | refine Gx.b (by kernel_rfl) fun K hK => ?_ | refine Gx.c (by kernel_rfl) fun K hK => ?_
    simp only [XM, XA, XB, gateX, Nat.reduceAdd, Nat.reduceLeDiff, Nat.reduceSub, Nat.reduceMul, ↓reduceIte, Int.reduceToNat, Int.reduceLE, beq_self_eq_true]
    refine call_go (by kernel_rfl) rfl (cthrough_c _ _ _ a p n n C A hat (hp.up hV8) lp (by omega) hn hS hA (by omega)) fun v9 V9 hV9 h9 => ?_
    simp only [XM, XA, XB, gateX, Nat.reduceAdd, Nat.reduceLeDiff, Nat.reduceSub, Nat.reduceMul, ↓reduceIte, Int.reduceToNat, Int.reduceLE, beq_self_eq_true]
    refine hK _ ?_
    first | refine Gx.a (by kernel_rfl) fun K hK => ?_ | refine Gx.b (by kernel_rfl) fun K hK => ?_ | refine Gx.c (by kernel_rfl) fun K hK => ?_
    simp only [XM, XA, XB, gateX, Nat.reduceAdd, Nat.reduceLeDiff, Nat.reduceSub, Nat.reduceMul, ↓reduceIte, Int.reduceToNat, Int.reduceLE, beq_self_eq_true, w01]
    exact hK _ ⟨0, by omega, fun f => .inr ⟨rfl, V9, H8, v9, cs, StIs.of (by exact rfl), h9, hg, hrow.mono ratE_ok hV9⟩⟩
  rintro s ⟨V6, H6, w, cs, hs, hw, hg, hrow⟩
  obtain ⟨z, rfl⟩ := hs.out
  try dsimp only
  first | refine Gx.a (by kernel_rfl) fun K hK => ?_ | refine Gx.b (by kernel_rfl) fun K hK => ?_ | refine Gx.c (by kernel_rfl) fun K hK => ?_
  simp only [XM, XA, XB, gateX, Nat.reduceAdd, Nat.reduceLeDiff, Nat.reduceSub, Nat.reduceMul, ↓reduceIte, Int.reduceToNat, Int.reduceLE, beq_self_eq_true]
  refine hK _ (XWP.ret ?_)
  try simp only [thenX_ret, inBlockX_ret]
  refine ret_pub g2 _ hg fun o ho hle' => ret_go _ rfl ⟨_, _, rfl, hw.up hle', ?_⟩
  exact hrow.pub ratE_ok ho hle' mW (Nat.le_refl _) (by omega)
end Go.Proofs.Ythoboehbadmlmaa
end
section
namespace Go.Proofs.Ythoboehbadmlmaa
def stepv (a p : List Rat) (n : Nat) : Nat → List Rat
  | 0 => a
  | k + 1 => thr (stepv a p n k) p n
/-- what leaves by an exit, step by step -/
def endsL (a p q : List Rat) (n m x N : Nat) : List Rat := mk N fun k => cf (thr (stepv a p n k) q m) x
theorem stepv_len {a p : List Rat} {n : Nat} (h : a.length = n) : ∀ k, (stepv a p n k).length = n
  | 0 => h
  | _ + 1 => thr_len _ _ _
theorem stepv_CB {a p : List Rat} {n A C : Nat} (h : a.length = n) (hp : CB A p) (ha : CB C a) : ∀ k, CB (C + k * (A + n)) (stepv a p n k)
  | 0 => ha.mono (by omega)
  | k + 1 => by
    have := thr_CB (stepv_CB h hp ha k) hp n
    rw [stepv_len h] at this
    refine CB.mono this ?_
    rw [Nat.add_mul]; omega
theorem rowsB_nn {n m : Nat} {p q : List Rat} (h : rowsB n m p q n = true) : (∀ i k, i < n → k < n → 0 ≤ cf p (i * n + k)) ∧ (∀ i k, i < n → k < m → 0 ≤ cf q (i * m + k)) := by
  refine ⟨fun i k hi hk => ?_, fun i k hi hk => ?_⟩
  · have := rowsB_get h i hi
    unfold rowB at this
    rw [Bool.and_eq_true, Bool.and_eq_true] at this
    exact (ng_iff _).1 (nnB_get this.1.1 k hk)
  · have := rowsB_get h i hi
    unfold rowB at this
    rw [Bool.and_eq_true, Bool.and_eq_true] at this
    exact (ng_iff _).1 (nnB_get this.1.2 k hk)
theorem thr_nn {a M : List Rat} {c n : Nat} (hn : a.length = n) (ha : ∀ j, j < n → 0 ≤ cf a j) (hM : ∀ i k, i < n → k < c → 0 ≤ cf M (i * c + k)) : ∀ k, k < c → 0 ≤ cf (thr a M c) k := fun k hk => by
  unfold thr
  rw [cf_mk, if_pos hk]
  exact tS_nn k _ (fun j hj => ha j (by omega)) fun j hj => hM j k (by omega) hk
theorem stepv_nn {a p : List Rat} {n : Nat} (h : a.length = n) (ha : ∀ j, j < n → 0 ≤ cf a j) (hp : ∀ i k, i < n → k < n → 0 ≤ cf p (i * n + k)) : ∀ k j, j < n → 0 ≤ cf (stepv a p n k) j
  | 0, j, hj => ha j hj
  | k + 1, j, hj => thr_nn (stepv_len h k) (stepv_nn h ha hp k) hp j hj
theorem endsL_len (a p q : List Rat) (n m x N : Nat) : (endsL a p q n m x N).length = N := mk_len _ _
theorem endsL_succ (a p q : List Rat) (n m x N : Nat) : endsL a p q n m x (N + 1) = endsL a p q n m x N ++ [cf (thr (stepv a p n N) q m) x] := by
  unfold endsL mk
  rw [List.range_succ, List.map_append]; rfl
end Go.Proofs.Ythoboehbadmlmaa
end
section
namespace Go.Proofs.Ythoboehbadmlmaa
open Go Go.RowKit
set_option linter.unusedSimpArgs false
set_option linter.unusedVariables false
attribute [local irreducible] XWP Spec SpecO XPub XCall seqX clX apX stX ldX iaX slX
def endsE (r1 c1 : Int) (L1 : List Raw) (r2 c2 : Int) (L2 S : List Raw) (x N : Int) : Int :=
  if chB r1 c1 L1 r2 c2 L2 = false ∨ wtB r1 S = false ∨ x < 0 ∨ c2 ≤ x ∨ N < 0 then 1 else if 400 < N then 2 else 0
theorem endsE_zero {r1 c1 r2 c2 : Int} {L1 L2 S : List Raw} {x N : Int} (h : endsE r1 c1 L1 r2 c2 L2 S x N = 0) : chB r1 c1 L1 r2 c2 L2 = true ∧ wtB r1 S = true ∧ 0 ≤ x ∧ x < c2 ∧ 0 ≤ N ∧ N ≤ 400 := by
  unfold endsE at h
  split at h
  · cases h
  · rename_i h1
    split at h
    · cases h
    · refine ⟨?_, ?_, by omega, by omega, by omega, by omega⟩
      · cases hk : chB r1 c1 L1 r2 c2 L2
        · exact absurd (.inl hk) h1
        · rfl
      · cases hk : wtB r1 S
        · exact absurd (.inr (.inl hk)) h1
        · rfl
theorem wtB_parts {n : Nat} {S : List Raw} (h : wtB n S = true) : (qs S).length = n ∧ okR S = true ∧ ∀ j, j < n → 0 ≤ cf (qs S) j := by
  unfold wtB at h
  rw [Bool.and_eq_true, decide_eq_true_eq] at h
  obtain ⟨h1, h2⟩ := wtsR_ok h.2
  exact ⟨by rw [qs_len]; omega, h1, fun j hj => (ng_iff _).1 (h2 j (by omega))⟩
theorem wtB_raw {n : Nat} {l : List Rat} (h : l.length = n) (hn : ∀ j, j < n → 0 ≤ cf l j) : wtB n (l.map toRaw) = true := by
  unfold wtB wtsR
  rw [List.length_map, decide_eq_true (by omega), Bool.true_and, List.all_eq_true]
  intro r hr
  obtain ⟨y, hy, rfl⟩ := List.mem_map.1 hr
  obtain ⟨i, hi, rfl⟩ := List.mem_iff_getElem.1 hy
  unfold wtR
  rw [toRaw_ok, toRaw_q, cf_get hi, (ng_iff _).2 (hn i (by omega))]; rfl
theorem cends_c (V : View) (s1 s2 v : Value) (r1 c1 r2 c2 : Int) (L1 L2 S : List Raw) (x N : Int) (h1 : Raws V s1 L1) (h2 : Raws V s2 L2) (hv : Raws V v S) (f1 : fitR L1) (f2 : fitR L2) (f3 : fitR S) (l1 : L1.length ≤ 1000000) (l2 : L2.length ≤ 1000000) (l3 : S.length ≤ 1000000) (A B M : Nat)
    (hA : okR L1 = true → CB A (qs L1)) (hB : okR L2 = true → CB B (qs L2)) (hS : endsE r1 c1 L1 r2 c2 L2 S x N = 0 → ∀ k, k ≤ N.toNat → CB M (stepv (qs S) (qs L1) r1.toNat k)) (hfit : 2 * (A + B) + M + 400 ≤ 17592186044416) :
    Spec Try.prog 39 [.agg #[.int .i64 r1, .int .i64 c1, s1, .int .i64 r2, .int .i64 c2, s2], v, .int .i64 x, .int .i64 N] V fun v' V' => (endsE r1 c1 L1 r2 c2 L2 S x N ≠ 0 → v' = .tuple #[.slice none 0 0, .int .i64 (endsE r1 c1 L1 r2 c2 L2 S x N)]) ∧ (endsE r1 c1 L1 r2 c2 L2 S x N = 0 → ∃ w, v' = .tuple #[w, .int .i64 0] ∧ Rats V' w (endsL (qs S) (qs L1) (qs L2) r1.toNat c2.toNat x.toNat N.toNat)) := by
  obtain ⟨A1, q1, rfl, _, _⟩ := h1.form
  obtain ⟨A2, q2, rfl, _, _⟩ := h2.form
  obtain ⟨A3, q3, rfl, _, _⟩ := hv.form
  refine (Spec.enter Try.func39 rfl fun Γ => ?_)
  simp only [Try.ntmps39, List.map_cons, List.map_nil, List.length_cons, List.length_nil, Nat.reduceAdd, Nat.reduceSub, List.replicate_succ, List.replicate_zero, List.cons_append, List.nil_append]
  first | refine Gx.a (by kernel_rfl) fun K hK => ?_ | refine Gx.b (by kernel_rfl) fun K hK => ?_ | refine Gx.c (by kernel_rfl) fun K hK => ?_
  simp only [XM, XA, XB, gateX, Nat.reduceAdd, Nat.reduceLeDiff, Nat.reduceSub, Nat.reduceMul, ↓reduceIte, Int.reduceToNat, Int.reduceLE, beq_self_eq_true]
  refine hK _ ?_
  refine XWP.cut (fun s => ∃ (V1 : View), StIs (fun Z => [Z 0, .v (.slice A3 S.length q3), .v (.int .i64 x), .v (.int .i64 N), .p 0 0, Z 5,Z 6,Z 7,Z 8,Z 9,Z 10,Z 11,Z 12,Z 13,Z 14,Z 15,Z 16,Z 17,Z 18,Z 19,Z 20,Z 21,Z 22,Z 23,Z 24,Z 25,Z 26,Z 27,Z 28,Z 29,Z 30,Z 31,Z 32,Z 33,Z 34,Z 35,Z 36,Z 37,Z 38,Z 39,Z 40,Z 41,Z 42,Z 43,Z 44,Z 45,Z 46,Z 47,Z 48,Z 49,Z 50,Z 51,Z 52,Z 53,Z 54,Z 55,Z 56,Z 57,Z 58,Z 59,Z 60,Z 61,Z 62,Z 63,Z 64]) [[.int .i64 r1, .int .i64 c1, .slice A1 L1.length q1, .int .i64 r2, .int .i64 c2, .slice A2 L2.length q2]] (fun _ => none) V1 s ∧ V.le V1 ∧ endsE r1 c1 L1 r2 c2 L2 S x N = 0) ?_ ?_
  · first | refine XWP.block ?_ | refine XWP.seq (XWP.block ?_)
    refine XWP.seq ?_
    first | refine Gx.a (by kernel_rfl) fun K hK => ?_ | refine Gx.b (by kernel_rfl) fun K hK => ?_ | refine Gx.c (by kernel_rfl) fun K hK => ?_
    simp only [XM, XA, XB, gateX, Nat.reduceAdd, Nat.reduceLeDiff, Nat.reduceSub, Nat.reduceMul, ↓reduceIte, Int.reduceToNat, Int.reduceLE, beq_self_eq_true]
    refine call_go (by kernel_rfl) rfl (cchright_c _ _ _ r1 c1 r2 c2 L1 L2 h1 h2 f1 f2 l1 l2 A B hA hB (by omega)) fun v1 V1 hV1 g1 => ?_
    subst g1
    by_cases g0 : chB r1 c1 L1 r2 c2 L2 = false ∨ wtB r1 S = false ∨ x < 0 ∨ c2 ≤ x ∨ N < 0
    · have eE : endsE r1 c1 L1 r2 c2 L2 S x N = 1 := by unfold endsE; rw [if_pos g0]
      cases e1 : chB r1 c1 L1 r2 c2 L2
      · simp only [XM, XA, XB, gateX, Nat.reduceAdd, Nat.reduceLeDiff, Nat.reduceSub, Nat.reduceMul, ↓reduceIte, Int.reduceToNat, Int.reduceLE, beq_self_eq_true]
        refine hK _ ?_
        first | refine Gx.t rfl ?_ | refine XWP.seq (Gx.t rfl ?_)
        first | refine Gx.a (by kernel_rfl) fun K hK => ?_ | refine Gx.b (by kernel_rfl) fun K hK => ?_ | refine Gx.c (by kernel_rfl) fun K hK => ?_
        simp only [XM, XA, XB, gateX, Nat.reduceAdd, Nat.reduceLeDiff, Nat.reduceSub, Nat.reduceMul, ↓reduceIte, Int.reduceToNat, Int.reduceLE, beq_self_eq_true]
        refine hK _ (XWP.ret ?_)
        try simp only [thenX_ret, inBlockX_ret]
        refine ret_go _ rfl ?_
        exact ⟨fun _ => by rw [eE]; rfl, fun h => by rw [eE] at h; cases h⟩
      simp only [XM, XA, XB, gateX, Nat.reduceAdd, Nat.reduceLeDiff, Nat.reduceSub, Nat.reduceMul, ↓reduceIte, Int.reduceToNat, Int.reduceLE, beq_self_eq_true]
      refine call_go (by kernel_rfl) rfl (cweights_c _ _ _ _ r1 c1 r2 c2 S rfl rfl (hv.up hV1) f3 l3) fun v2 V2 hV2 g2 => ?_
      subst g2
      cases e2 : wtB r1 S
      · simp only [XM, XA, XB, gateX, Nat.reduceAdd, Nat.reduceLeDiff, Nat.reduceSub, Nat.reduceMul, ↓reduceIte, Int.reduceToNat, Int.reduceLE, beq_self_eq_true]
        refine hK _ ?_
        first | refine Gx.t rfl ?_ | refine XWP.seq (Gx.t rfl ?_)
        first | refine Gx.a (by kernel_rfl) fun K hK => ?_ | refine Gx.b (by kernel_rfl) fun K hK => ?_ | refine Gx.c (by kernel_rfl) fun K hK => ?_
        simp only [XM, XA, XB, gateX, Nat.reduceAdd, Nat.reduceLeDiff, Nat.reduceSub, Nat.reduceMul, ↓reduceIte, Int.reduceToNat, Int.reduceLE, beq_self_eq_true]
        refine hK _ (XWP.ret ?_)
        try simp only [thenX_ret, inBlockX_ret]
        refine ret_go _ rfl ?_
        exact ⟨fun _ => by rw [eE]; rfl, fun h => by rw [eE] at h; cases h⟩
      by_cases d1 : x < 0
      · have b1 : decide (x < 0) = true := decide_eq_true d1
        simp only [XM, XA, XB, gateX, Nat.reduceAdd, Nat.reduceLeDiff, Nat.reduceSub, Nat.reduceMul, ↓reduceIte, Int.reduceToNat, Int.reduceLE, beq_self_eq_true, b1]
        refine hK _ ?_
        first | refine Gx.t rfl ?_ | refine XWP.seq (Gx.t rfl ?_)
        first | refine Gx.a (by kernel_rfl) fun K hK => ?_ | refine Gx.b (by kernel_rfl) fun K hK => ?_ | refine Gx.c (by kernel_rfl) fun K hK => ?_
        simp only [XM, XA, XB, gateX, Nat.reduceAdd, Nat.reduceLeDiff, Nat.reduceSub, Nat.reduceMul, ↓reduceIte, Int.reduceToNat, Int.reduceLE, beq_self_eq_true]
        refine hK _ (XWP.ret ?_)
        try simp only [thenX_ret, inBlockX_ret]
        refine ret_go _ rfl ?_
        exact ⟨fun _ => by rw [eE]; rfl, fun h => by rw [eE] at h; cases h⟩
      have b1 : decide (x < 0) = false := decide_eq_false d1
      by_cases d2 : c2 ≤ x
      · have b2 : decide (c2 ≤ x) = true := decide_eq_true d2
        simp only [XM, XA, XB, gateX, Nat.reduceAdd, Nat.reduceLeDiff, Nat.reduceSub, Nat.reduceMul, ↓reduceIte, Int.reduceToNat, Int.reduceLE, beq_self_eq_true, b1, b2]
        refine hK _ ?_
        first | refine Gx.t rfl ?_ | refine XWP.seq (Gx.t rfl ?_)
        first | refine Gx.a (by kernel_rfl) fun K hK => ?_ | refine Gx.b (by kernel_rfl) fun K hK => ?_ | refine Gx.c (by kernel_rfl) fun K hK => ?_
        simp only [XM, XA, XB, gateX, Nat.reduceAdd, Nat.reduceLeDiff, Nat.reduceSub, Nat.reduceMul, ↓reduceIte, Int.reduceToNat, Int.reduceLE, beq_self_eq_true]
        refine hK _ (XWP.ret ?_)
        try simp only [thenX_ret, inBlockX_ret]
        refine ret_go _ rfl ?_
        exact ⟨fun _ => by rw [eE]; rfl, fun h => by rw [eE] at h; cases h⟩
      have b2 : decide (c2 ≤ x) = false := decide_eq_false d2
      have b3 : decide (N < 0) = true := decide_eq_true (by rcases g0 with h | h | h | h | h; · rw [e1] at h; cases h
                                                            · rw [e2] at h; cases h
                                                            · exact absurd h d1
                                                            · exact absurd h d2
                                                            · exact h)
      simp only [XM, XA, XB, gateX, Nat.reduceAdd, Nat.reduceLeDiff, Nat.reduceSub, Nat.reduceMul, ↓reduceIte, Int.reduceToNat, Int.reduceLE, beq_self_eq_true, b1, b2, b3]
      refine hK _ ?_
      first | refine Gx.t rfl ?_ | refine XWP.seq (Gx.t rfl ?_)
      first | refine Gx.a (by kernel_rfl) fun K hK => ?_ | refine Gx.b (by kernel_rfl) fun K hK => ?_ | refine Gx.c (by kernel_rfl) fun K hK => ?_
      simp only [XM, XA, XB, gateX, Nat.reduceAdd, Nat.reduceLeDiff, Nat.reduceSub, Nat.reduceMul, ↓reduceIte, Int.reduceToNat, Int.reduceLE, beq_self_eq_true]
      refine hK _ (XWP.ret ?_)
      try simp only [thenX_ret, inBlockX_ret]
      refine ret_go _ rfl ?_
      exact ⟨fun _ => by rw [eE]; rfl, fun h => by rw [eE] at h; cases h⟩
    have e1 : chB r1 c1 L1 r2 c2 L2 = true := by
      cases hk : chB r1 c1 L1 r2 c2 L2
      · exact absurd (.inl hk) g0
      · rfl
    have e2 : wtB r1 S = true := by
      cases hk : wtB r1 S
      · exact absurd (.inr (.inl hk)) g0
      · rfl
    have b1 : decide (x < 0) = false := decide_eq_false (by omega)
    have b2 : decide (c2 ≤ x) = false := decide_eq_false (by omega)
    have b3 : decide (N < 0) = false := decide_eq_false (by omega)
    rw [e1]
    simp only [XM, XA, XB, gateX, Nat.reduceAdd, Nat.reduceLeDiff, Nat.reduceSub, Nat.reduceMul, ↓reduceIte, Int.reduceToNat, Int.reduceLE, beq_self_eq_true]
    refine call_go (by kernel_rfl) rfl (cweights_c _ _ _ _ r1 c1 r2 c2 S rfl rfl (hv.up hV1) f3 l3) fun v2 V2 hV2 g2 => ?_
    subst g2
    rw [e2]
    simp only [XM, XA, XB, gateX, Nat.reduceAdd, Nat.reduceLeDiff, Nat.reduceSub, Nat.reduceMul, ↓reduceIte, Int.reduceToNat, Int.reduceLE, beq_self_eq_true, b1, b2, b3]
    refine hK _ ?_
    first | refine Gx.f rfl ?_ | refine XWP.seq (Gx.f rfl ?_)
    by_cases g1 : 400 < N
    · have eE : endsE r1 c1 L1 r2 c2 L2 S x N = 2 := by unfold endsE; rw [if_neg g0, if_pos g1]
      have b4 : decide (400 < N) = true := decide_eq_true g1
      first | refine Gx.a (by kernel_rfl) fun K hK => ?_ | refine Gx.b (by kernel_rfl) fun K hK => ?_ | refine Gx.c (by kernel_rfl) fun K hK => ?_
      simp only [XM, XA, XB, gateX, Nat.reduceAdd, Nat.reduceLeDiff, Nat.reduceSub, Nat.reduceMul, ↓reduceIte, Int.reduceToNat, Int.reduceLE, beq_self_eq_true, b4]
      refine hK _ ?_
      first | refine Gx.t rfl ?_ | refine XWP.seq (Gx.t rfl ?_)
      first | refine Gx.a (by kernel_rfl) fun K hK => ?_ | refine Gx.b (by kernel_rfl) fun K hK => ?_ | refine Gx.c (by kernel_rfl) fun K hK => ?_
      simp only [XM, XA, XB, gateX, Nat.reduceAdd, Nat.reduceLeDiff, Nat.reduceSub, Nat.reduceMul, ↓reduceIte, Int.reduceToNat, Int.reduceLE, beq_self_eq_true]
      refine hK _ (XWP.ret ?_)
      try simp only [thenX_ret, inBlockX_ret]
      refine ret_go _ rfl ?_
      exact ⟨fun _ => by rw [eE]; rfl, fun h => by rw [eE] at h; cases h⟩
    have b4 : decide (400 < N) = false := decide_eq_false g1
    first | refine Gx.a (by kernel_rfl) fun K hK => ?_ | refine Gx.b (by kernel_rfl) fun K hK => ?_ | refine Gx.c (by kernel_rfl) fun K hK => ?_
    simp only [XM, XA, XB, gateX, Nat.reduceAdd, Nat.reduceLeDiff, Nat.reduceSub, Nat.reduceMul, ↓reduceIte, Int.reduceToNat, Int.reduceLE, beq_self_eq_true, b4]
    refine hK _ ?_
    first | refine Gx.f rfl ?_ | refine XWP.seq (Gx.f rfl ?_)
    refine XWP.skip ?_
    exact ⟨V2, StIs.of (by exact rfl), View.le_trans hV1 hV2, by unfold endsE; rw [if_neg g0, if_neg g1]⟩
  rintro s ⟨V1, hs, hV1, he⟩
  obtain ⟨z, rfl⟩ := hs.out
  try dsimp only
  clear hs
  obtain ⟨hC, hW, x0, x1, n0, n1⟩ := endsE_zero he
  have hst := hS he
  obtain ⟨n, m, rfl, rfl, rfl, rfl, hn, hm, k1, k2, o1, o2, hR⟩ := chB_inv hC
  obtain ⟨N, rfl⟩ : ∃ k : Nat, N = k := ⟨N.toNat, by omega⟩
  obtain ⟨x, rfl⟩ : ∃ k : Nat, x = k := ⟨x.toNat, by omega⟩
  obtain ⟨ea, o3, ha⟩ := wtB_parts hW
  obtain ⟨hpn, hqn⟩ := rowsB_nn hR
  have hA := hA o1
  have hB := hB o2
  simp only [Int.toNat_natCast] at hst ⊢
  have h1 := h1.up hV1
  have h2 := h2.up hV1
  have hv := hv.up hV1
  generalize endsE n n L1 n m L2 S x N = E at he ⊢
  first | refine Gx.a (by kernel_rfl) fun K hK => ?_ | refine Gx.b (by kernel_rfl) fun K hK => ?_ | refine Gx.c (by kernel_rfl) fun K hK => ?_
  refine bs_go (by kernel_rfl) #[] (by simp) (bs_zero elemT_22 zeroT_34) fun b hb1 hb2 => ?_
  simp only [XM, XA, XB, gateX, Nat.reduceAdd, Nat.reduceLeDiff, Nat.reduceSub, Nat.reduceMul, ↓reduceIte, Int.reduceToNat, Int.reduceLE, beq_self_eq_true]
  refine hK _ ?_
  first | refine Gx.a (by kernel_rfl) fun K hK => ?_ | refine Gx.b (by kernel_rfl) fun K hK => ?_ | refine Gx.c (by kernel_rfl) fun K hK => ?_
  simp only [XM, XA, XB, gateX, Nat.reduceAdd, Nat.reduceLeDiff, Nat.reduceSub, Nat.reduceMul, ↓reduceIte, Int.reduceToNat, Int.reduceLE, beq_self_eq_true]
  refine hK _ ?_
  refine XWP.cutD 1 (fun s => ∃ (V6 : View) (H6 : Heap) (w : Value) (cells : List Value), StIs (fun Z => [Z 0,Z 1,Z 2,Z 3,Z 4,Z 5,Z 6,Z 7,Z 8,Z 9, .v w, Z 11,Z 12,Z 13,Z 14,Z 15,Z 16,Z 17,Z 18,Z 19,Z 20,Z 21,Z 22,Z 23,Z 24,Z 25,Z 26,Z 27,Z 28,Z 29,Z 30,Z 31,Z 32,Z 33,Z 34,Z 35,Z 36,Z 37,Z 38,Z 39,Z 40,Z 41,Z 42,Z 43,Z 44,Z 45,Z 46,Z 47,Z 48,Z 49,Z 50,Z 51,Z 52,Z 53,Z 54,Z 55,Z 56,Z 57,Z 58,Z 59,Z 60,Z 61,Z 62,Z 63,Z 64]) [[.int .i64 (n : Int), .int .i64 (n : Int), .slice A1 L1.length q1, .int .i64 (n : Int), .int .i64 (m : Int), .slice A2 L2.length q2]] H6 V6 s ∧ Own H6 34 3 w N cells ∧ RowAt ratE V6 cells (endsL (qs S) (qs L1) (qs L2) n m x N)) ?_ ?_
  · first | refine Gx.a (by kernel_rfl) fun K hK => ?_ | refine Gx.b (by kernel_rfl) fun K hK => ?_ | refine Gx.c (by kernel_rfl) fun K hK => ?_
    simp only [XM, XA, XB, gateX, Nat.reduceAdd, Nat.reduceLeDiff, Nat.reduceSub, Nat.reduceMul, ↓reduceIte, Int.reduceToNat, Int.reduceLE, beq_self_eq_true]
    refine hK _ ?_
    clear hK
    first | refine XWP.block ?_ | refine XWP.seq (XWP.block ?_)
    refine XWP.loopD 1 (fun r s => ∃ (i : Nat) (V6 : View) (H6 : Heap) (w u : Value) (cells : List Value), StIs (fun Z => [Z 0, Z 1, .v (.int .i64 (x : Int)), Z 3, .p 0 0, Z 5,Z 6,Z 7,Z 8,Z 9, .v w, .v u, Z 12,Z 13,Z 14,Z 15,Z 16,Z 17,Z 18,Z 19,Z 20,Z 21,Z 22,Z 23,Z 24,Z 25,Z 26,Z 27,Z 28,Z 29,Z 30,Z 31,Z 32,Z 33,Z 34,Z 35,Z 36,Z 37,Z 38,Z 39,Z 40,Z 41,Z 42,Z 43,Z 44, .v (.int .i64 (N : Int)), .v (.int .i64 (i : Int)), Z 47,Z 48,Z 49,Z 50,Z 51,Z 52,Z 53,Z 54,Z 55,Z 56,Z 57,Z 58,Z 59,Z 60,Z 61,Z 62,Z 63,Z 64]) [[.int .i64 (n : Int), .int .i64 (n : Int), .slice A1 L1.length q1, .int .i64 (n : Int), .int .i64 (m : Int), .slice A2 L2.length q2]] H6 V6 s ∧ V1.le V6 ∧ r + i = N ∧ Rats V6 u (stepv (qs S) (qs L1) n i) ∧ Own H6 34 3 w i cells ∧ RowAt ratE V6 cells (endsL (qs S) (qs L1) (qs L2) n m x i)) N ⟨0, V1, _, _, _, [], StIs.of (by exact rfl), View.le_refl _, by omega, Raws.rats hv o3, own3 (by simp [upd]) rfl (Nat.le_refl _) (by omega), RowAt.nil _⟩ ?_
    rintro r s ⟨i, V6, H6, w, u, cells, hs, hV6, hr, hu, hown, hrow⟩
    obtain ⟨z, rfl⟩ := hs.out
    try dsimp only
    clear hs
    by_cases hi : i < N
    rotate_left
    · obtain rfl : i = N := by omega
      have b2 : decide ((i : Int) < (i : Int)) = false := decide_eq_false (by omega)
      first | refine Gx.a (by kernel_rfl) fun K hK => ?_ | refine Gx.b (by kernel_rfl) fun K hK => ?_ | refine Gx.c (by kernel_rfl) fun K hK => ?_
      simp only [XM, XA, XB, gateX, Nat.reduceAdd, Nat.reduceLeDiff, Nat.reduceSub, Nat.reduceMul, ↓reduceIte, Int.reduceToNat, Int.reduceLE, beq_self_eq_true, b2]
      refine hK _ ?_
      first | refine Gx.f rfl ?_ | refine XWP.seq (Gx.f rfl ?_)
      refine XWP.exit ?_
      exact fun f => ⟨V6, H6, w, cells, StIs.of (by exact rfl), hown, hrow⟩
    have b2 : decide ((i : Int) < (N : Int)) = true := decide_eq_true (by omega)
    first | refine Gx.a (by kernel_rfl) fun K hK => ?_ | refine Gx.b (by kernel_rfl) fun K hK => ?_ | refine Gx.c (by kernel_rfl) fun K hK => ?_
    simp only [XM, XA, XB, gateX, Nat.reduceAdd, Nat.reduceLeDiff, Nat.reduceSub, Nat.reduceMul, ↓reduceIte, Int.reduceToNat, Int.reduceLE, beq_self_eq_true, b2]
    refine hK _ ?_
    first | refine Gx.t rfl ?_ | refine XWP.seq (Gx.t rfl ?_)
    refine XWP.skip ?_
    refine XWP.seq ?_
    first | refine XWP.block ?_ | refine XWP.seq (XWP.block ?_)
    have hsl := stepv_len (p := qs L1) ea i
    have hcs := hst i (by omega)
    have hW6 : wtB n ((stepv (qs S) (qs L1) n i).map toRaw) = true := wtB_raw hsl (stepv_nn ea ha hpn i)
    have hcf : fitR ((stepv (qs S) (qs L1) n i).map toRaw) := hcs.fitR (by omega)
    have hcq : CB M (qs ((stepv (qs S) (qs L1) n i).map toRaw)) := by rw [qs_toRaw]; exact hcs
    first | refine Gx.a (by kernel_rfl) fun K hK => ?_ | refine Gx.b (by kernel_rfl) fun K hK => ?_ | refine Gx.c (by kernel_rfl) fun K hK => ?_
    simp only [XM, XA, XB, gateX, Nat.reduceAdd, Nat.reduceLeDiff, Nat.reduceSub, Nat.reduceMul, ↓reduceIte, Int.reduceToNat, Int.reduceLE, beq_self_eq_true]
    refine call_go (by kernel_rfl) rfl (cafter_c _ _ _ _ n m L1 L2 _ (h1.up hV6) (h2.up hV6) (Rats.raws hu) f1 f2 hcf hC hW6 A B M hA hB hcq (by omega)) fun v7 V7 hV7 h7 => ?_
    obtain ⟨w7, u7, rfl, hw7, hu7⟩ := h7
    rw [qs_toRaw] at hw7 hu7
    simp only [XM, XA, XB, gateX, Nat.reduceAdd, Nat.reduceLeDiff, Nat.reduceSub, Nat.reduceMul, ↓reduceIte, Int.reduceToNat, Int.reduceLE, beq_self_eq_true]
    refine hK _ ?_
    have lt := thr_len (stepv (qs S) (qs L1) n i) (qs L2) m
    obtain ⟨A7, c7, rfl, _, _⟩ := hu7.form
    obtain ⟨b', o', rfl⟩ := SlAt.addr hu7 (by omega)
    obtain ⟨m3, n3, d3, hx3, ⟨p1, p2, p3⟩, hld3⟩ := Rats.get hu7 x (by omega)
    first | refine Gx.a (by kernel_rfl) fun K hK => ?_ | refine Gx.b (by kernel_rfl) fun K hK => ?_ | refine Gx.c (by kernel_rfl) fun K hK => ?_
    simp only [XM, XA, XB, gateX, Nat.reduceAdd, Nat.reduceLeDiff, Nat.reduceSub, Nat.reduceMul, ↓reduceIte, Int.reduceToNat, Int.reduceLE, beq_self_eq_true]
    refine ⟨by omega, by omega, ld_mem (hld3 _) ?_⟩
    simp only [XM, XA, XB, gateX, Nat.reduceAdd, Nat.reduceLeDiff, Nat.reduceSub, Nat.reduceMul, ↓reduceIte, Int.reduceToNat, Int.reduceLE, beq_self_eq_true]
    refine bs_go (by kernel_rfl) #[(0, .agg #[m3, n3, d3])] (by simp [ev_tmp, SV.val]) (bs_rat elemT_22) fun b3 hb3 hb4 => ?_
    simp only [XM, XA, XB, gateX, Nat.reduceAdd, Nat.reduceLeDiff, Nat.reduceSub, Nat.reduceMul, ↓reduceIte, Int.reduceToNat, Int.reduceLE, beq_self_eq_true]
    refine ap_go elemT_22 (by kernel_rfl) zeroT_34 rfl (by omega) (own_upd hown hb3) (src3 (upd_at _ _ _) p1 p2 p3) (by omega) (by omega) fun v' H' hres => ?_
    simp only [XM, XA, XB, gateX, Nat.reduceAdd, Nat.reduceLeDiff, Nat.reduceSub, Nat.reduceMul, ↓reduceIte, Int.reduceToNat, Int.reduceLE, beq_self_eq_true]
    refine hK _ ?_
    first | refine Gx.a (by kernel_rfl) fun K hK => ?_ | refine Gx.b (by kernel_rfl) fun K hK => ?_ | refine Gx.c (by kernel_rfl) fun K hK => ?_
    simp only [XM, XA, XB, gateX, Nat.reduceAdd, Nat.reduceLeDiff, Nat.reduceSub, Nat.reduceMul, ↓reduceIte, Int.reduceToNat, Int.reduceLE, beq_self_eq_true, i64_succ i (by omega)]
    have hrow' := (hrow.mono ratE_ok hV7).snoc p1 p2 p3 hx3
    rw [← endsL_succ] at hrow'
    exact hK _ ⟨r - 1, by omega, fun f => ⟨i + 1, V7, _, _, _, _, StIs.of (by exact rfl), View.le_trans hV6 hV7, by omega, hw7, hres.1, hrow'⟩⟩
  rintro s ⟨V6, H6, w, cells, hs, hown, hrow⟩
  obtain ⟨z, rfl⟩ := hs.out
  try dsimp only
  have ll := endsL_len (qs S) (qs L1) (qs L2) n m x N
  first | refine Gx.a (by kernel_rfl) fun K hK => ?_ | refine Gx.b (by kernel_rfl) fun K hK => ?_ | refine Gx.c (by kernel_rfl) fun K hK => ?_
  simp only [XM, XA, XB, gateX, Nat.reduceAdd, Nat.reduceLeDiff, Nat.reduceSub, Nat.reduceMul, ↓reduceIte, Int.reduceToNat, Int.reduceLE, beq_self_eq_true]
  refine hK _ (XWP.ret ?_)
  try simp only [thenX_ret, inBlockX_ret]
  rcases own_parts hown with ⟨rfl, hn0, rfl⟩ | ⟨g, cap, rfl, hg, hle, hcap, _⟩
  · refine ret_go _ rfl ⟨fun h => absurd he h, fun _ => ⟨_, rfl, ?_⟩⟩
    rw [List.length_eq_zero_iff.1 (ll.trans hn0)]; exact SlAt.nil _
  · refine ret_pub g _ hg fun o ho hle' => ret_go _ rfl ⟨fun h => absurd he h, fun _ => ⟨_, rfl, ?_⟩⟩
    exact hrow.pub ratE_ok ho hle' ll hle (by unfold maxLen at hcap; omega)
end Go.Proofs.Ythoboehbadmlmaa
end
section
namespace Go.Proofs.Ythoboehbadmlmaa
def mS (a b : List Rat) (n c i k : Nat) : Nat → Rat
  | 0 => 0
  | j + 1 => mS a b n c i k j + cf a (i * n + j) * cf b (j * c + k)
def mfull (a b : List Rat) (n c t : Nat) : Rat := mS a b n c (t / c) (t % c) n
/-- the numbers before tt are through, the one at tt to j -/
def mf (a b : List Rat) (n c tt j : Nat) : Nat → Rat := fun t => if t < tt then mfull a b n c t else if t = tt then mS a b n c (t / c) (t % c) j else 0
def mmul (a b : List Rat) (r n c : Nat) : List Rat := mk (r * c) (mfull a b n c)
theorem mmul_len (a b : List Rat) (r n c : Nat) : (mmul a b r n c).length = r * c := mk_len _ _
theorem mk_eq {m : Nat} {f g : Nat → Rat} (h : ∀ j, j < m → f j = g j) : mk m f = mk m g := by
  unfold mk
  exact List.map_congr_left fun j hj => h j (List.mem_range.1 hj)
theorem mk_put {m j : Nat} {f : Nat → Rat} {x : Rat} (hj : j < m) : (mk m f).set j x = mk m (fun c => if c = j then x else f c) := by
  unfold mk
  refine List.ext_getElem? fun i => ?_
  by_cases hi : i < m
  · by_cases e : j = i
    · subst e
      rw [List.getElem?_set_self (by simpa using hi)]
      simp [hi]
    · rw [List.getElem?_set_ne e]
      simp only [List.getElem?_map, List.getElem?_range hi, Option.map_some]
      rw [if_neg (fun e' => e e'.symm)]
  · rw [List.getElem?_eq_none (by simp; omega), List.getElem?_eq_none (by simp; omega)]
theorem mf_set {a b : List Rat} {n c tt j R : Nat} (h : tt < R) : (mk R (mf a b n c tt j)).set tt (mS a b n c (tt / c) (tt % c) (j + 1)) = mk R (mf a b n c tt (j + 1)) := by
  rw [mk_put h]
  refine mk_eq fun t _ => ?_
  unfold mf
  by_cases e : t = tt
  · rw [if_pos e, e, if_neg (by omega), if_pos rfl]
  · rw [if_neg e, if_neg e, if_neg e]
theorem mf_end (a b : List Rat) (n c tt R : Nat) : mk R (mf a b n c tt n) = mk R (mf a b n c (tt + 1) 0) := by
  refine mk_eq fun t _ => ?_
  unfold mf
  by_cases e : t = tt
  · rw [if_neg (by omega), if_pos e, if_pos (by omega)]; rfl
  · by_cases h : t < tt
    · rw [if_pos h, if_pos (by omega)]
    · rw [if_neg h, if_neg e, if_neg (by omega)]
      split <;> rfl
theorem mf_zero (a b : List Rat) (n c R : Nat) : mk R (mf a b n c 0 0) = mk R fun _ => 0 := by
  refine mk_eq fun t _ => ?_
  unfold mf
  rw [if_neg (by omega)]
  split <;> rfl
theorem mf_all (a b : List Rat) (n c R : Nat) : mk R (mf a b n c R 0) = mk R (mfull a b n c) := by
  refine mk_eq fun t ht => ?_
  unfold mf
  rw [if_pos ht]
theorem div_at {i k c : Nat} (hk : k < c) : (i * c + k) / c = i ∧ (i * c + k) % c = k := by
  refine ⟨?_, ?_⟩
  · rw [Nat.add_comm, Nat.add_mul_div_right _ _ (by omega), Nat.div_eq_of_lt hk, Nat.zero_add]
  · rw [Nat.add_comm, Nat.add_mul_mod_self_right, Nat.mod_eq_of_lt hk]
theorem mS_tS (a b : List Rat) (n c k : Nat) : ∀ j, mS a b n c 0 k j = tS a b c k j
  | 0 => rfl
  | j + 1 => by rw [mS, tS, mS_tS a b n c k j, Nat.zero_mul, Nat.zero_add]
theorem mmul_one {a b : List Rat} {n c : Nat} (h : a.length = n) : mmul a b 1 n c = thr a b c := by
  unfold mmul thr
  rw [Nat.one_mul, h]
  refine mk_eq fun t ht => ?_
  unfold mfull
  rw [Nat.div_eq_of_lt ht, Nat.mod_eq_of_lt ht, mS_tS]
theorem mS_over {A B D E : Nat} {a b : List Rat} (hD : 0 < D) (hE : 0 < E) (ha : ∀ i, Over D A (cf a i)) (hb : ∀ i, Over E B (cf b i)) (n c i k : Nat) : ∀ j, Over (D * E) (A + B + j) (mS a b n c i k j)
  | 0 => Over.zero _ _
  | j + 1 => by
    have h1 := (ha (i * n + j)).mul (hb (j * c + k))
    have := (mS_over hD hE ha hb n c i k j).add (Nat.mul_pos hD hE) (h1.mono (show A + B ≤ A + B + j by omega))
    exact this
theorem mS_QB {A B : Nat} {a b : List Rat} (ha : CB A a) (hb : CB B b) (n c i k j : Nat) : QB (A + B + j) (mS a b n c i k j) := by
  obtain ⟨D, d1, d2, d3⟩ := ha
  obtain ⟨E, e1, e2, e3⟩ := hb
  exact (mS_over d1 e1 d3 e3 n c i k j).qb (Nat.le_trans (two_mul_le d2 e2) (two_mono (by omega)))
end Go.Proofs.Ythoboehbadmlmaa
end
section
namespace Go.Proofs.Ythoboehbadmlmaa
open Go Go.RowKit
set_option linter.unusedSimpArgs false
set_option linter.unusedVariables false
attribute [local irreducible] XWP Spec SpecO XPub XCall seqX clX apX stX ldX iaX slX
theorem st_one {P : Program} {t i off : Nat} {s : XS} {ops : Array Oper} {rest : List Oper} {K : XS → Prop} {d : Option Tmp} {v : Value} {vs : List Value} (hs : shapeT P t = some (false, 1)) (hb : s.bx[i]? = some vs) (h1 : isOne v = true) (hl : off < vs.length) (h : seqX P ops rest K (XS.put ⟨s.t, s.bx.set i (vs.set off v), s.H, s.V⟩ d (.v undef))) : stX P ops rest K s d t (.p i off) (.v v) := by
  unfold stX loudX
  have e0 : XS.ev ⟨[.p i off, .v v], s.bx, s.H, s.V⟩ (.tmp 0) = .p i off := rfl
  have e1 : XS.ev ⟨[.p i off, .v v], s.bx, s.H, s.V⟩ (.tmp 1) = .v v := rfl
  simp only [e0, e1, hs, hb]
  have ec : v.cells = #[v] := by cases v <;> first | rfl | cases h1
  refine ⟨by rw [ec]; rfl, by rw [ec]; simp [h1], by omega, ?_⟩
  have : splice vs off v.cells.toList = vs.set off v := by
    rw [ec]
    unfold splice
    rw [List.set_eq_take_append_cons_drop, if_pos hl]
    simp
  rw [this]; exact h
theorem placesT_68 : placesT Try.prog 68 = some [(0, 1), (1, 1), (2, 1)] := by kernel_rfl
theorem bd_mat2 {x y : Value} (hx : isOne x = true) (hy : isOne y = true) : BuildsTo Try.prog 68 #[(0, x), (1, y)] (.agg #[x, y, .slice none 0 0]) := by
  refine bd_run placesT_68 zeroT_68 ?_
  show Instr.fill _ _ [(0, x), (1, y)] = _
  rw [fill_one (off := 0) rfl hx (by simp), fill_one (off := 1) rfl hy (by simp)]; rfl
theorem bd_mat3 {x y z : Value} (hx : isOne x = true) (hy : isOne y = true) (hz : isOne z = true) : BuildsTo Try.prog 68 #[(0, x), (1, y), (2, z)] (.agg #[x, y, z]) := by
  refine bd_run placesT_68 zeroT_68 ?_
  show Instr.fill _ _ [(0, x), (1, y), (2, z)] = _
  rw [fill_one (off := 0) rfl hx (by simp), fill_one (off := 1) rfl hy (by simp), fill_one (off := 2) rfl hz (by simp)]; rfl
theorem own_isOne {H : Heap} {e sz n : Nat} {v : Value} {xs : List Value} (h : Own H e sz v n xs) : isOne v = true := by
  obtain ⟨_, ⟨rfl, _⟩ | ⟨g, cap, rfl, _⟩⟩ := h <;> rfl
theorem dzeros_o (V : View) (r c : Nat) (hr : r ≤ 60) (hc : c ≤ 60) : SpecO Try.prog 138 [.int .i64 (r : Int), .int .i64 (c : Int)] V fun v' V' o => ∃ sl cells, v' = .agg #[.int .i64 (r : Int), .int .i64 (c : Int), sl] ∧ Own (addRow (fun _ => none) o) 34 3 sl (r * c) cells ∧ RowAt ratE V' cells (mk (r * c) fun _ => 0) := by
  have hrc : r * c ≤ 3600 := Nat.le_trans (Nat.mul_le_mul hr hc) (by decide)
  have w : IntKind.i64.wrap ((r : Int) * (c : Int)) = ((r * c : Nat) : Int) := by rw [← Int.natCast_mul, wrap_id (by omega) (by omega)]
  generalize hR : r * c = R at *
  refine (SpecO.enter Try.func138 rfl fun Γ => ?_)
  simp only [Try.ntmps138, List.map_cons, List.map_nil, List.length_cons, List.length_nil, Nat.reduceAdd, Nat.reduceSub, List.replicate_succ, List.replicate_zero, List.cons_append, List.nil_append]
  first | refine Gx.a (by kernel_rfl) fun K hK => ?_ | refine Gx.b (by kernel_rfl) fun K hK => ?_ | refine Gx.c (by kernel_rfl) fun K hK => ?_
  simp only [XM, XA, XB, gateX, Nat.reduceAdd, Nat.reduceLeDiff, Nat.reduceSub, Nat.reduceMul, ↓reduceIte, Int.reduceToNat, Int.reduceLE, beq_self_eq_true]
  refine hK _ ?_
  first | refine Gx.a (by kernel_rfl) fun K hK => ?_ | refine Gx.b (by kernel_rfl) fun K hK => ?_ | refine Gx.c (by kernel_rfl) fun K hK => ?_
  simp only [XM, XA, XB, gateX, Nat.reduceAdd, Nat.reduceLeDiff, Nat.reduceSub, Nat.reduceMul, ↓reduceIte, Int.reduceToNat, Int.reduceLE, beq_self_eq_true]
  refine bd_go (by kernel_rfl) #[(0, .int .i64 (r : Int)), (1, .int .i64 (c : Int))] (by simp [ev_tmp, SV.val]) (bd_mat2 rfl rfl) ?_
  simp only [XM, XA, XB, gateX, Nat.reduceAdd, Nat.reduceLeDiff, Nat.reduceSub, Nat.reduceMul, ↓reduceIte, Int.reduceToNat, Int.reduceLE, beq_self_eq_true]
  refine st_mat shapeT_68 rfl rfl rfl rfl rfl ?_
  simp only [XM, XA, XB, gateX, Nat.reduceAdd, Nat.reduceLeDiff, Nat.reduceSub, Nat.reduceMul, ↓reduceIte, Int.reduceToNat, Int.reduceLE, beq_self_eq_true]
  refine hK _ ?_
  clear hK
  refine XWP.cut (fun s => ∃ (V2 : View) (H5 : Heap) (sl : Value) (cells : List Value), StIs (fun Z => [Z 0,Z 1,Z 2,Z 3, .p 0 0, .p 1 0, Z 6,Z 7,Z 8,Z 9,Z 10,Z 11,Z 12,Z 13,Z 14,Z 15,Z 16,Z 17,Z 18,Z 19,Z 20,Z 21,Z 22,Z 23]) [[.int .i64 0, .int .i64 0, .slice none 0 0], [.int .i64 (r : Int), .int .i64 (c : Int), sl]] H5 V2 s ∧ Own H5 34 3 sl R cells ∧ RowAt ratE V2 cells (mk R fun _ => 0)) ?_ ?_
  · first | refine Gx.a (by kernel_rfl) fun K hK => ?_ | refine Gx.b (by kernel_rfl) fun K hK => ?_ | refine Gx.c (by kernel_rfl) fun K hK => ?_
    simp only [XM, XA, XB, gateX, Nat.reduceAdd, Nat.reduceLeDiff, Nat.reduceSub, Nat.reduceMul, ↓reduceIte, Int.reduceToNat, Int.reduceLE, beq_self_eq_true]
    refine hK _ ?_
    clear hK
    first | refine XWP.block ?_ | refine XWP.seq (XWP.block ?_)
    refine XWP.loop (fun q s => ∃ (k : Nat) (V2 : View) (H5 : Heap) (sl : Value) (cells : List Value), StIs (fun Z => [.v (.int .i64 (r : Int)), .v (.int .i64 (c : Int)), Z 2,Z 3, .p 0 0, .p 1 0, .v (.int .i64 (k : Int)), Z 7,Z 8,Z 9,Z 10,Z 11,Z 12,Z 13,Z 14,Z 15,Z 16,Z 17,Z 18,Z 19,Z 20,Z 21,Z 22,Z 23]) [[.int .i64 0, .int .i64 0, .slice none 0 0], [.int .i64 (r : Int), .int .i64 (c : Int), sl]] H5 V2 s ∧ q + k = R ∧ Own H5 34 3 sl k cells ∧ RowAt ratE V2 cells (mk k fun _ => 0)) R ⟨0, V, _, _, [], StIs.of (by exact rfl), by omega, own_nil, RowAt.nil _⟩ ?_
    rintro q s ⟨k, V2, H5, sl, cells, hs, hq, hown, hrow⟩
    obtain ⟨z, rfl⟩ := hs.out
    try dsimp only
    clear hs
    refine XWP.seq ?_
    by_cases hk : k < R
    rotate_left
    · obtain rfl : k = R := by omega
      have b1 : decide ((k : Int) < (k : Int)) = false := decide_eq_false (by omega)
      first | refine Gx.a (by kernel_rfl) fun K hK => ?_ | refine Gx.b (by kernel_rfl) fun K hK => ?_ | refine Gx.c (by kernel_rfl) fun K hK => ?_
      simp only [XM, XA, XB, gateX, Nat.reduceAdd, Nat.reduceLeDiff, Nat.reduceSub, Nat.reduceMul, ↓reduceIte, Int.reduceToNat, Int.reduceLE, beq_self_eq_true, w, b1]
      refine hK _ ?_
      first | refine Gx.f rfl ?_ | refine XWP.seq (Gx.f rfl ?_)
      refine XWP.exit ?_
      exact ⟨V2, H5, sl, cells, StIs.of (by exact rfl), hown, hrow⟩
    have b1 : decide ((k : Int) < (R : Int)) = true := decide_eq_true (by omega)
    first | refine Gx.a (by kernel_rfl) fun K hK => ?_ | refine Gx.b (by kernel_rfl) fun K hK => ?_ | refine Gx.c (by kernel_rfl) fun K hK => ?_
    simp only [XM, XA, XB, gateX, Nat.reduceAdd, Nat.reduceLeDiff, Nat.reduceSub, Nat.reduceMul, ↓reduceIte, Int.reduceToNat, Int.reduceLE, beq_self_eq_true, w, b1]
    refine hK _ ?_
    first | refine Gx.t rfl ?_ | refine XWP.seq (Gx.t rfl ?_)
    refine XWP.skip ?_
    refine XWP.seq ?_
    first | refine XWP.block ?_ | refine XWP.seq (XWP.block ?_)
    (first | refine XWP.drw [0, 1, 2, 3, 4, 5, 6] (by kernel_rfl) (by kernel_rfl) (by kernel_rfl) fun K hK => ?_ | refine XWP.seq (XWP.drw [0, 1, 2, 3, 4, 5, 6] (by kernel_rfl) (by kernel_rfl) (by kernel_rfl) fun K hK => ?_) | refine XWP.drw1 [0, 1, 2, 3, 4, 5, 6] (by kernel_rfl) (by kernel_rfl) (by kernel_rfl) fun K hK => ?_) <;> dsimp only [pickOps, List.getElem?_cons_zero, List.getElem?_cons_succ]
    simp only [XM, XA, XB, gateX, Nat.reduceAdd, Nat.reduceLeDiff, Nat.reduceSub, Nat.reduceMul, ↓reduceIte, Int.reduceToNat, Int.reduceLE, beq_self_eq_true]
    refine call_go (by kernel_rfl) rfl (pzero_c _) fun v3 V3 hV3 h3 => ?_
    obtain ⟨x3, y3, rfl, o1, o2⟩ := h3.form
    simp only [XM, XA, XB, gateX, Nat.reduceAdd, Nat.reduceLeDiff, Nat.reduceSub, Nat.reduceMul, ↓reduceIte, Int.reduceToNat, Int.reduceLE, beq_self_eq_true]
    refine bs_go (by kernel_rfl) #[(0, .agg #[.bool (ng 0), x3, y3])] (by simp [ev_tmp, SV.val]) (bs_rat elemT_22) fun b3 hb3 hb4 => ?_
    simp only [XM, XA, XB, gateX, Nat.reduceAdd, Nat.reduceLeDiff, Nat.reduceSub, Nat.reduceMul, ↓reduceIte, Int.reduceToNat, Int.reduceLE, beq_self_eq_true]
    refine ap_go elemT_22 (by kernel_rfl) zeroT_34 rfl (by omega) (own_upd hown hb3) (src3 (upd_at _ _ _) rfl o1 o2) (by omega) (by omega) fun v' H' hres => ?_
    simp only [XM, XA, XB, gateX, Nat.reduceAdd, Nat.reduceLeDiff, Nat.reduceSub, Nat.reduceMul, ↓reduceIte, Int.reduceToNat, Int.reduceLE, beq_self_eq_true]
    refine st_one shapeT_22 rfl (own_isOne hres.1) (by simp) ?_
    simp only [XM, XA, XB, gateX, Nat.reduceAdd, Nat.reduceLeDiff, Nat.reduceSub, Nat.reduceMul, ↓reduceIte, Int.reduceToNat, Int.reduceLE, beq_self_eq_true]
    refine hK _ ?_
    first | refine Gx.a (by kernel_rfl) fun K hK => ?_ | refine Gx.b (by kernel_rfl) fun K hK => ?_ | refine Gx.c (by kernel_rfl) fun K hK => ?_
    simp only [XM, XA, XB, gateX, Nat.reduceAdd, Nat.reduceLeDiff, Nat.reduceSub, Nat.reduceMul, ↓reduceIte, Int.reduceToNat, Int.reduceLE, beq_self_eq_true, i64_succ k (by omega)]
    have hrow' := (hrow.mono ratE_ok hV3).snoc (show isOne (.bool (ng 0)) = true from rfl) o1 o2 h3
    rw [← mk_succ k fun _ => 0] at hrow'
    exact hK _ ⟨q - 1, by omega, k + 1, V3, _, _, _, StIs.of (by exact rfl), by omega, hres.1, hrow'⟩
  rintro s ⟨V2, H5, sl, cells, hs, hown, hrow⟩
  obtain ⟨z, rfl⟩ := hs.out
  try dsimp only
  have osl := own_isOne hown
  first | refine Gx.a (by kernel_rfl) fun K hK => ?_ | refine Gx.b (by kernel_rfl) fun K hK => ?_ | refine Gx.c (by kernel_rfl) fun K hK => ?_
  simp only [XM, XA, XB, gateX, Nat.reduceAdd, Nat.reduceLeDiff, Nat.reduceSub, Nat.reduceMul, ↓reduceIte, Int.reduceToNat, Int.reduceLE, beq_self_eq_true]
  refine st_mat shapeT_68 rfl rfl rfl rfl osl ?_
  simp only [XM, XA, XB, gateX, Nat.reduceAdd, Nat.reduceLeDiff, Nat.reduceSub, Nat.reduceMul, ↓reduceIte, Int.reduceToNat, Int.reduceLE, beq_self_eq_true]
  refine hK _ (XWP.ret ?_)
  try simp only [thenX_ret, inBlockX_ret]
  rcases own_parts hown with ⟨rfl, h0, rfl⟩ | ⟨g, cap, rfl, hg, hle, hcap, hcl⟩
  · refine ret_own _ none (by simp [resAll, resV, cellsV, shapeT_68]; rfl) (fun g' q e => by cases e) ⟨_, [], rfl, ⟨by rw [h0]; rfl, .inl ⟨rfl, h0⟩⟩, hrow⟩
  · refine ret_own _ (some (g, _)) (by simp [resAll, resV, cellsV, shapeT_68]; rfl) (fun g' q e => by cases e; exact hg) ⟨_, cells, rfl, own3 (show upd (fun _ => none) g (some _) g = some _ from upd_at _ _ _) hcl hle (by unfold maxLen at hcap; omega), hrow⟩
end Go.Proofs.Ythoboehbadmlmaa
end
