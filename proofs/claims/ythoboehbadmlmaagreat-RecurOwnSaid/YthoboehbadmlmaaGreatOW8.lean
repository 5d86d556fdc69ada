/- The law RecurOwn answers true at every input: every square matrix is a root of its characteristic polynomial. (part 8 of 11) -/
import Derived.OrdersHeld
import Derived.Below
import Derived.Tactics
import Derived.KernelRfl
import Derived.RangeFuncCalls
import Derived.RangeFuncFrom
import Derived.RangeFuncLeaves
import Derived.OrdersIn
import Derived.Laws.AppendOwn
import Derived.Laws.MakeOwn
import Derived.Laws.CopyRow
import Derived.Laws.Cells
import Derived.Laws.World
import Derived.Laws.Alloc2
import Derived.Laws.NewBlocks
import Derived.Maps.AppendAt
import Derived.Test.YthoboehbadmlmaaGreatProg
import Init.Data.List.Lemmas
import Init.Omega
import Derived.WalkKit
import Derived.ProofKit
import Derived.OpenShut
import Derived.ChangeOld
import Derived.SizedLaws
import Derived.ChangeSlices
import Derived.ChangeArms
import Derived.Deep.Slices
import Derived.Test.YthoboehbadmlmaaGreatOW7
section
namespace Go.Proofs.YthoboehbadmlmaaGreat
open Go Go.RowKit
set_option linter.unusedSimpArgs false
set_option linter.unusedVariables false
attribute [local irreducible] XWP Spec SpecO XPub XCall seqX clX apX stX ldX iaX slX
def matR (r c : Int) (L : List Raw) : Bool := decide (0 ≤ r ∧ r ≤ 60 ∧ 0 ≤ c ∧ c ≤ 60 ∧ (L.length : Int) = r * c) && okR L
theorem mul60 {r c : Int} (h1 : 0 ≤ r) (h2 : r ≤ 60) (h3 : 0 ≤ c) (h4 : c ≤ 60) : 0 ≤ r * c ∧ r * c ≤ 3600 :=
  ⟨Int.mul_nonneg h1 h3, Int.le_trans (Int.mul_le_mul h2 h4 h3 (by omega)) (by omega)⟩
theorem matR_bad {r c : Int} {L : List Raw} (h : ¬ (0 ≤ r ∧ r ≤ 60 ∧ 0 ≤ c ∧ c ≤ 60 ∧ (L.length : Int) = r * c)) : matR r c L = false := by unfold matR; rw [decide_eq_false h]; rfl
theorem cmright_c (V : View) (s : Value) (r c : Int) (l : List Raw) (h : Raws V s l) (f : fitR l) (ll : l.length ≤ 1000000) : Spec Tryz.prog 37 [.agg #[.int .i64 r, .int .i64 c, s]] V fun v' V' => v' = .bool (matR r c l) := by
  obtain ⟨A, cp, rfl, hc, hm⟩ := h.form
  refine (Spec.enter Tryz.func37 rfl fun Γ => ?_)
  simp only [Tryz.ntmps37, List.map_cons, List.map_nil, List.length_cons, List.length_nil, Nat.reduceAdd, Nat.reduceSub, List.replicate_succ, List.replicate_zero, List.cons_append, List.nil_append]
  refine Gx.a (by kernel_rfl) fun K hK => ?_
  simp only [XA]
  refine hK _ ?_
  refine XWP.seq ?_
  by_cases d1 : r < 0
  · have b1 : decide (r < 0) = true := decide_eq_true d1
    have e := matR_bad (r := r) (c := c) (L := l) (by omega)
    refine Gx.a (by kernel_rfl) fun K hK => ?_
    simp only [XM, XA, XB, gateX, ↓reduceIte, b1]
    refine hK _ ?_
    refine Gx.t rfl ?_
    refine Gx.a (by kernel_rfl) fun K hK => ?_
    simp only [XA]
    refine hK _ (XWP.ret ?_)
    try simp only [thenX_ret, inBlockX_ret]
    refine ret_go _ rfl ?_
    rw [e]; rfl
  have b1 : decide (r < 0) = false := decide_eq_false d1
  by_cases d2 : 60 < r
  · have b2 : decide (60 < r) = true := decide_eq_true d2
    have e := matR_bad (r := r) (c := c) (L := l) (by omega)
    refine Gx.a (by kernel_rfl) fun K hK => ?_
    simp only [XM, XA, XB, gateX, ↓reduceIte, beq_self_eq_true, b1, b2]
    refine hK _ ?_
    refine Gx.t rfl ?_
    refine Gx.a (by kernel_rfl) fun K hK => ?_
    simp only [XA]
    refine hK _ (XWP.ret ?_)
    try simp only [thenX_ret, inBlockX_ret]
    refine ret_go _ rfl ?_
    rw [e]; rfl
  have b2 : decide (60 < r) = false := decide_eq_false d2
  by_cases d3 : c < 0
  · have b3 : decide (c < 0) = true := decide_eq_true d3
    have e := matR_bad (r := r) (c := c) (L := l) (by omega)
    refine Gx.a (by kernel_rfl) fun K hK => ?_
    simp only [XM, XA, XB, gateX, ↓reduceIte, beq_self_eq_true, b1, b2, b3]
    refine hK _ ?_
    refine Gx.t rfl ?_
    refine Gx.a (by kernel_rfl) fun K hK => ?_
    simp only [XA]
    refine hK _ (XWP.ret ?_)
    try simp only [thenX_ret, inBlockX_ret]
    refine ret_go _ rfl ?_
    rw [e]; rfl
  have b3 : decide (c < 0) = false := decide_eq_false d3
  by_cases d4 : 60 < c
  · have b4 : decide (60 < c) = true := decide_eq_true d4
    have e := matR_bad (r := r) (c := c) (L := l) (by omega)
    refine Gx.a (by kernel_rfl) fun K hK => ?_
    simp only [XM, XA, XB, gateX, ↓reduceIte, beq_self_eq_true, b1, b2, b3, b4]
    refine hK _ ?_
    refine Gx.t rfl ?_
    refine Gx.a (by kernel_rfl) fun K hK => ?_
    simp only [XA]
    refine hK _ (XWP.ret ?_)
    try simp only [thenX_ret, inBlockX_ret]
    refine ret_go _ rfl ?_
    rw [e]; rfl
  have b4 : decide (60 < c) = false := decide_eq_false d4
  have hm60 := mul60 (r := r) (c := c) (by omega) (by omega) (by omega) (by omega)
  have w : IntKind.i64.wrap (r * c) = r * c := wrap_id (by omega) (by omega)
  by_cases d5 : (l.length : Int) = r * c
  rotate_left
  · have b5 : decide ((l.length : Int) = r * c) = false := decide_eq_false d5
    have e := matR_bad (r := r) (c := c) (L := l) (by omega)
    refine Gx.a (by kernel_rfl) fun K hK => ?_
    simp only [XM, XA, XB, gateX, ↓reduceIte, beq_self_eq_true, b1, b2, b3, b4, w, b5]
    refine hK _ ?_
    refine Gx.t rfl ?_
    refine Gx.a (by kernel_rfl) fun K hK => ?_
    simp only [XA]
    refine hK _ (XWP.ret ?_)
    try simp only [thenX_ret, inBlockX_ret]
    refine ret_go _ rfl ?_
    rw [e]; rfl
  have b5 : decide ((l.length : Int) = r * c) = true := decide_eq_true d5
  refine Gx.a (by kernel_rfl) fun K hK => ?_
  simp only [XM, XA, XB, gateX, ↓reduceIte, beq_self_eq_true, b1, b2, b3, b4, w, b5]
  refine hK _ ?_
  refine Gx.f rfl ?_
  refine XWP.skip ?_
  have eM : matR r c l = okR l := by unfold matR; rw [decide_eq_true ⟨by omega, by omega, by omega, by omega, d5⟩]; rfl
  rw [eM]
  clear eM
  refine XWP.cutD 1 (fun s => ∃ V2, StIs (fun Z => [Z 0,Z 1,Z 2,Z 3,Z 4,Z 5,Z 6,Z 7,Z 8,Z 9,Z 10,Z 11,Z 12,Z 13,Z 14,Z 15,Z 16,Z 17,Z 18,Z 19,Z 20,Z 21,Z 22,Z 23,Z 24,Z 25,Z 26,Z 27,Z 28,Z 29,Z 30,Z 31,Z 32,Z 33,Z 34,Z 35,Z 36,Z 37,Z 38,Z 39,Z 40,Z 41,Z 42,Z 43,Z 44]) [[.int .i64 r, .int .i64 c, .slice A l.length cp]] (fun _ => none) V2 s ∧ okR l = true) ?_ ?_
  · refine Gx.a (by kernel_rfl) fun K hK => ?_
    simp only [XM, XA, XB]
    refine hK _ ?_
    clear hK
    refine XWP.block ?_
    refine XWP.loopD 1 (fun n s => ∃ (k : Nat) (V2 : View), StIs (fun Z => [Z 0, .p 0 0, Z 2,Z 3,Z 4,Z 5,Z 6,Z 7,Z 8,Z 9,Z 10,Z 11,Z 12,Z 13,Z 14,Z 15,Z 16,Z 17,Z 18,Z 19,Z 20,Z 21,Z 22,Z 23,Z 24,Z 25,Z 26,Z 27,Z 28,Z 29,Z 30,Z 31,Z 32,Z 33,Z 34, .v (.slice A l.length cp), .v (.int .i64 (l.length : Int)), .v (.int .i64 (k : Int)), Z 38,Z 39,Z 40,Z 41,Z 42,Z 43,Z 44]) [[.int .i64 r, .int .i64 c, .slice A l.length cp]] (fun _ => none) V2 s ∧ V.le V2 ∧ n + k = l.length ∧ okR (l.take k) = true) l.length ⟨0, V, StIs.of (by exact rfl), View.le_refl _, rfl, by simp [okR]⟩ ?_
    rintro n s ⟨k, V2, hs, hV2, hn, hk⟩
    obtain ⟨u, rfl⟩ := hs.out
    try dsimp only
    by_cases hlt : k < l.length
    · have b6 : decide ((k : Int) < (l.length : Int)) = true := decide_eq_true (by omega)
      refine Gx.a (by kernel_rfl) fun K hK => ?_
      simp only [XA, XB, b6]
      refine hK _ ?_
      refine XWP.seq (Gx.t rfl ?_)
      refine XWP.skip ?_
      refine XWP.seq ?_
      refine XWP.block ?_
      refine Gx.a (by kernel_rfl) fun K hK => ?_
      have hv2 := Raws.up h hV2
      obtain ⟨b, o, rfl⟩ := SlAt.addr hv2 (by omega)
      obtain ⟨x, hx, ⟨m3, n3, d3, rfl, p1, p2, p3⟩, hld⟩ := SlAt.load hv2 k hlt
      simp only [XA, XB]
      refine ⟨by omega, by omega, ld_mem (hld _) ?_⟩
      simp only [XA, XB]
      refine st_rat rfl rfl p1 p2 p3 ?_
      simp only [XA]
      refine hK _ ?_
      have ff := f _ (List.getElem_mem hlt)
      refine Gx.a (by kernel_rfl) fun K hK => ?_
      simp only [XA, XB, Nat.reduceAdd, Nat.reduceLeDiff, ↓reduceIte]
      refine call_go (by kernel_rfl) rfl (qright_c _ _ _ _ _ hx ff.1 ff.2) fun v3 V3 hV3 h3 => ?_
      subst h3
      have et : l.take (k + 1) = l.take k ++ [l[k]] := by rw [List.take_succ_eq_append_getElem hlt]
      cases hr : rawOk l[k].m l[k].nd l[k].dd
      · simp only [XA]
        refine hK _ ?_
        refine Gx.t rfl ?_
        refine Gx.a (by kernel_rfl) fun K hK => ?_
        simp only [XA]
        refine hK _ (XWP.ret ?_)
        try simp only [thenX_ret, inBlockX_ret]
        refine ret_go _ rfl ?_
        have : okR l = false := by
          unfold okR
          rw [List.all_eq_false]
          exact ⟨l[k], List.getElem_mem hlt, by unfold Raw.ok; rw [hr]; simp⟩
        rw [this]; rfl
      · simp only [XA]
        refine hK _ ?_
        refine Gx.f rfl ?_
        refine XWP.skip ?_
        refine Gx.c (by kernel_rfl) fun K hK => ?_
        simp only [XA, XB, i64_succ k (by omega)]
        refine hK _ ⟨n - 1, by omega, fun f => ⟨k + 1, V3, StIs.of (by exact rfl), View.le_trans hV2 hV3, by omega, ?_⟩⟩
        unfold okR at hk ⊢
        rw [et, List.all_append, hk]
        simp [Raw.ok, hr]
    · have b6 : decide ((k : Int) < (l.length : Int)) = false := decide_eq_false (by omega)
      refine Gx.a (by kernel_rfl) fun K hK => ?_
      simp only [XA, XB, b6]
      refine hK _ ?_
      refine XWP.seq (Gx.f rfl ?_)
      refine XWP.exit ?_
      rw [List.take_of_length_le (by omega)] at hk
      exact fun f => ⟨V2, StIs.of (by exact rfl), hk⟩
  rintro s ⟨V2, hs, hk⟩
  obtain ⟨u, rfl⟩ := hs.out
  try dsimp only
  refine Gx.a (by kernel_rfl) fun K hK => ?_
  simp only [XA]
  refine hK _ (XWP.ret ?_)
  try simp only [thenX_ret, inBlockX_ret]
  refine ret_go _ rfl ?_
  rw [hk]; rfl
theorem dmright_c (V : View) (s : Value) (r c : Int) (l : List Raw) (h : Raws V s l) (f : fitR l) (ll : l.length ≤ 1000000) : Spec Tryz.prog 15 [.agg #[.int .i64 r, .int .i64 c, s]] V fun v' V' => v' = .bool (matR r c l) := by
  obtain ⟨A, cp, rfl, hc, hm⟩ := h.form
  refine (Spec.enter Tryz.func15 rfl fun Γ => ?_)
  simp only [Tryz.ntmps15, List.map_cons, List.map_nil, List.length_cons, List.length_nil, Nat.reduceAdd, Nat.reduceSub, List.replicate_succ, List.replicate_zero, List.cons_append, List.nil_append]
  refine Gx.a (by kernel_rfl) fun K hK => ?_
  simp only [XA]
  refine hK _ ?_
  refine XWP.seq ?_
  by_cases d1 : r < 0
  · have b1 : decide (r < 0) = true := decide_eq_true d1
    have e := matR_bad (r := r) (c := c) (L := l) (by omega)
    refine Gx.a (by kernel_rfl) fun K hK => ?_
    simp only [XM, XA, XB, gateX, ↓reduceIte, b1]
    refine hK _ ?_
    refine Gx.t rfl ?_
    refine Gx.a (by kernel_rfl) fun K hK => ?_
    simp only [XA]
    refine hK _ (XWP.ret ?_)
    try simp only [thenX_ret, inBlockX_ret]
    refine ret_go _ rfl ?_
    rw [e]; rfl
  have b1 : decide (r < 0) = false := decide_eq_false d1
  by_cases d2 : 60 < r
  · have b2 : decide (60 < r) = true := decide_eq_true d2
    have e := matR_bad (r := r) (c := c) (L := l) (by omega)
    refine Gx.a (by kernel_rfl) fun K hK => ?_
    simp only [XM, XA, XB, gateX, ↓reduceIte, beq_self_eq_true, b1, b2]
    refine hK _ ?_
    refine Gx.t rfl ?_
    refine Gx.a (by kernel_rfl) fun K hK => ?_
    simp only [XA]
    refine hK _ (XWP.ret ?_)
    try simp only [thenX_ret, inBlockX_ret]
    refine ret_go _ rfl ?_
    rw [e]; rfl
  have b2 : decide (60 < r) = false := decide_eq_false d2
  by_cases d3 : c < 0
  · have b3 : decide (c < 0) = true := decide_eq_true d3
    have e := matR_bad (r := r) (c := c) (L := l) (by omega)
    refine Gx.a (by kernel_rfl) fun K hK => ?_
    simp only [XM, XA, XB, gateX, ↓reduceIte, beq_self_eq_true, b1, b2, b3]
    refine hK _ ?_
    refine Gx.t rfl ?_
    refine Gx.a (by kernel_rfl) fun K hK => ?_
    simp only [XA]
    refine hK _ (XWP.ret ?_)
    try simp only [thenX_ret, inBlockX_ret]
    refine ret_go _ rfl ?_
    rw [e]; rfl
  have b3 : decide (c < 0) = false := decide_eq_false d3
  by_cases d4 : 60 < c
  · have b4 : decide (60 < c) = true := decide_eq_true d4
    have e := matR_bad (r := r) (c := c) (L := l) (by omega)
    refine Gx.a (by kernel_rfl) fun K hK => ?_
    simp only [XM, XA, XB, gateX, ↓reduceIte, beq_self_eq_true, b1, b2, b3, b4]
    refine hK _ ?_
    refine Gx.t rfl ?_
    refine Gx.a (by kernel_rfl) fun K hK => ?_
    simp only [XA]
    refine hK _ (XWP.ret ?_)
    try simp only [thenX_ret, inBlockX_ret]
    refine ret_go _ rfl ?_
    rw [e]; rfl
  have b4 : decide (60 < c) = false := decide_eq_false d4
  have hm60 := mul60 (r := r) (c := c) (by omega) (by omega) (by omega) (by omega)
  have w : IntKind.i64.wrap (r * c) = r * c := wrap_id (by omega) (by omega)
  by_cases d5 : (l.length : Int) = r * c
  rotate_left
  · have b5 : decide ((l.length : Int) = r * c) = false := decide_eq_false d5
    have e := matR_bad (r := r) (c := c) (L := l) (by omega)
    refine Gx.a (by kernel_rfl) fun K hK => ?_
    simp only [XM, XA, XB, gateX, ↓reduceIte, beq_self_eq_true, b1, b2, b3, b4, w, b5]
    refine hK _ ?_
    refine Gx.t rfl ?_
    refine Gx.a (by kernel_rfl) fun K hK => ?_
    simp only [XA]
    refine hK _ (XWP.ret ?_)
    try simp only [thenX_ret, inBlockX_ret]
    refine ret_go _ rfl ?_
    rw [e]; rfl
  have b5 : decide ((l.length : Int) = r * c) = true := decide_eq_true d5
  refine Gx.a (by kernel_rfl) fun K hK => ?_
  simp only [XM, XA, XB, gateX, ↓reduceIte, beq_self_eq_true, b1, b2, b3, b4, w, b5]
  refine hK _ ?_
  refine Gx.f rfl ?_
  refine XWP.skip ?_
  have eM : matR r c l = okR l := by unfold matR; rw [decide_eq_true ⟨by omega, by omega, by omega, by omega, d5⟩]; rfl
  rw [eM]
  clear eM
  refine XWP.cutD 1 (fun s => ∃ V2, StIs (fun Z => [Z 0,Z 1,Z 2,Z 3,Z 4,Z 5,Z 6,Z 7,Z 8,Z 9,Z 10,Z 11,Z 12,Z 13,Z 14,Z 15,Z 16,Z 17,Z 18,Z 19,Z 20,Z 21,Z 22,Z 23,Z 24,Z 25,Z 26,Z 27,Z 28,Z 29,Z 30,Z 31,Z 32,Z 33,Z 34,Z 35,Z 36,Z 37,Z 38,Z 39,Z 40,Z 41,Z 42,Z 43,Z 44]) [[.int .i64 r, .int .i64 c, .slice A l.length cp]] (fun _ => none) V2 s ∧ okR l = true) ?_ ?_
  · refine Gx.a (by kernel_rfl) fun K hK => ?_
    simp only [XM, XA, XB]
    refine hK _ ?_
    clear hK
    refine XWP.block ?_
    refine XWP.loopD 1 (fun n s => ∃ (k : Nat) (V2 : View), StIs (fun Z => [Z 0, .p 0 0, Z 2,Z 3,Z 4,Z 5,Z 6,Z 7,Z 8,Z 9,Z 10,Z 11,Z 12,Z 13,Z 14,Z 15,Z 16,Z 17,Z 18,Z 19,Z 20,Z 21,Z 22,Z 23,Z 24,Z 25,Z 26,Z 27,Z 28,Z 29,Z 30,Z 31,Z 32,Z 33,Z 34, .v (.slice A l.length cp), .v (.int .i64 (l.length : Int)), .v (.int .i64 (k : Int)), Z 38,Z 39,Z 40,Z 41,Z 42,Z 43,Z 44]) [[.int .i64 r, .int .i64 c, .slice A l.length cp]] (fun _ => none) V2 s ∧ V.le V2 ∧ n + k = l.length ∧ okR (l.take k) = true) l.length ⟨0, V, StIs.of (by exact rfl), View.le_refl _, rfl, by simp [okR]⟩ ?_
    rintro n s ⟨k, V2, hs, hV2, hn, hk⟩
    obtain ⟨u, rfl⟩ := hs.out
    try dsimp only
    by_cases hlt : k < l.length
    · have b6 : decide ((k : Int) < (l.length : Int)) = true := decide_eq_true (by omega)
      refine Gx.a (by kernel_rfl) fun K hK => ?_
      simp only [XA, XB, b6]
      refine hK _ ?_
      refine XWP.seq (Gx.t rfl ?_)
      refine XWP.skip ?_
      refine XWP.seq ?_
      refine XWP.block ?_
      refine Gx.a (by kernel_rfl) fun K hK => ?_
      have hv2 := Raws.up h hV2
      obtain ⟨b, o, rfl⟩ := SlAt.addr hv2 (by omega)
      obtain ⟨x, hx, ⟨m3, n3, d3, rfl, p1, p2, p3⟩, hld⟩ := SlAt.load hv2 k hlt
      simp only [XA, XB]
      refine ⟨by omega, by omega, ld_mem (hld _) ?_⟩
      simp only [XA, XB]
      refine st_rat rfl rfl p1 p2 p3 ?_
      simp only [XA]
      refine hK _ ?_
      have ff := f _ (List.getElem_mem hlt)
      refine Gx.a (by kernel_rfl) fun K hK => ?_
      simp only [XA, XB, Nat.reduceAdd, Nat.reduceLeDiff, ↓reduceIte]
      refine call_go (by kernel_rfl) rfl (pright_c _ _ _ _ _ hx ff.1 ff.2) fun v3 V3 hV3 h3 => ?_
      subst h3
      have et : l.take (k + 1) = l.take k ++ [l[k]] := by rw [List.take_succ_eq_append_getElem hlt]
      cases hr : rawOk l[k].m l[k].nd l[k].dd
      · simp only [XA]
        refine hK _ ?_
        refine Gx.t rfl ?_
        refine Gx.a (by kernel_rfl) fun K hK => ?_
        simp only [XA]
        refine hK _ (XWP.ret ?_)
        try simp only [thenX_ret, inBlockX_ret]
        refine ret_go _ rfl ?_
        have : okR l = false := by
          unfold okR
          rw [List.all_eq_false]
          exact ⟨l[k], List.getElem_mem hlt, by unfold Raw.ok; rw [hr]; simp⟩
        rw [this]; rfl
      · simp only [XA]
        refine hK _ ?_
        refine Gx.f rfl ?_
        refine XWP.skip ?_
        refine Gx.c (by kernel_rfl) fun K hK => ?_
        simp only [XA, XB, i64_succ k (by omega)]
        refine hK _ ⟨n - 1, by omega, fun f => ⟨k + 1, V3, StIs.of (by exact rfl), View.le_trans hV2 hV3, by omega, ?_⟩⟩
        unfold okR at hk ⊢
        rw [et, List.all_append, hk]
        simp [Raw.ok, hr]
    · have b6 : decide ((k : Int) < (l.length : Int)) = false := decide_eq_false (by omega)
      refine Gx.a (by kernel_rfl) fun K hK => ?_
      simp only [XA, XB, b6]
      refine hK _ ?_
      refine XWP.seq (Gx.f rfl ?_)
      refine XWP.exit ?_
      rw [List.take_of_length_le (by omega)] at hk
      exact fun f => ⟨V2, StIs.of (by exact rfl), hk⟩
  rintro s ⟨V2, hs, hk⟩
  obtain ⟨u, rfl⟩ := hs.out
  try dsimp only
  refine Gx.a (by kernel_rfl) fun K hK => ?_
  simp only [XA]
  refine hK _ (XWP.ret ?_)
  try simp only [thenX_ret, inBlockX_ret]
  refine ret_go _ rfl ?_
  rw [hk]; rfl
end Go.Proofs.YthoboehbadmlmaaGreat
end
section
namespace Go.Proofs.YthoboehbadmlmaaGreat
open Go Go.RowKit
set_option linter.unusedSimpArgs false
set_option linter.unusedVariables false
attribute [local irreducible] XWP Spec SpecO XPub XCall seqX clX apX stX ldX iaX slX
end Go.Proofs.YthoboehbadmlmaaGreat
end
section
namespace Go.Proofs.YthoboehbadmlmaaGreat
open Go Go.RowKit
set_option linter.unusedSimpArgs false
set_option linter.unusedVariables false
attribute [local irreducible] XWP Spec SpecO XPub XCall seqX clX apX stX ldX iaX slX
theorem st_mat {P : Program} {t i : Nat} {s : XS} {ops : Array Oper} {rest : List Oper} {K : XS → Prop} {d : Option Tmp} {m n e : Value} {vs : List Value} (hs : shapeT P t = some (true, 3)) (hb : s.bx[i]? = some vs) (hl : vs.length = 3) (h0 : isOne m = true) (h1 : isOne n = true) (h2 : isOne e = true) (h : seqX P ops rest K (XS.put ⟨s.t, s.bx.set i [m, n, e], s.H, s.V⟩ d (.v undef))) : stX P ops rest K s d t (.p i 0) (.v (.agg #[m, n, e])) := by
  refine st_agg (cs := [m, n, e]) hs hb rfl ⟨rfl, by simp [h0, h1, h2], by omega, ?_⟩
  have : splice vs 0 [m, n, e] = [m, n, e] := by
    unfold splice; simp [hl]
  rw [this]; exact h
end Go.Proofs.YthoboehbadmlmaaGreat
end
section
namespace Go.Proofs.YthoboehbadmlmaaGreat
open Go Go.RowKit
set_option linter.unusedSimpArgs false
set_option linter.unusedVariables false
attribute [local irreducible] XWP Spec SpecO XPub XCall seqX clX apX stX ldX iaX slX
end Go.Proofs.YthoboehbadmlmaaGreat
end
section
namespace Go.Proofs.YthoboehbadmlmaaGreat
open Go Go.RowKit
set_option linter.unusedSimpArgs false
set_option linter.unusedVariables false
attribute [local irreducible] XWP Spec SpecO XPub XCall seqX clX apX stX ldX iaX slX
end Go.Proofs.YthoboehbadmlmaaGreat
end
section
namespace Go.Proofs.YthoboehbadmlmaaGreat
open Go Go.RowKit
set_option linter.unusedSimpArgs false
set_option linter.unusedVariables false
attribute [local irreducible] XWP Spec SpecO XPub XCall seqX clX apX stX ldX iaX slX
theorem rowQ_load {H : Heap} {V : View} {b e tot : Nat} {cells : List Value} {xs : List Rat} (hr : H b = some ⟨e, cells, tot⟩) (h : RowAt ratE V cells xs) (i : Nat) (hi : i < xs.length) : ∃ m n d, RatC V (.agg #[m, n, d]) (cf xs i) ∧ (isOne m = true ∧ isOne n = true ∧ isOne d = true) ∧ Loads Tryz.prog H V 48 b (i * 3) (.agg #[m, n, d]) := by
  obtain ⟨v, h1, ⟨m, n, d, rfl, o1⟩, h2⟩ := RowAt.load hr h i hi
  rw [cf_get hi] at h1
  exact ⟨m, n, d, h1, o1, h2⟩
end Go.Proofs.YthoboehbadmlmaaGreat
end
section
namespace Go.Proofs.YthoboehbadmlmaaGreat
open Go Go.RowKit
set_option linter.unusedSimpArgs false
set_option linter.unusedVariables false
attribute [local irreducible] XWP Spec SpecO XPub XCall seqX clX apX stX ldX iaX slX
end Go.Proofs.YthoboehbadmlmaaGreat
end
section
namespace Go.Proofs.YthoboehbadmlmaaGreat
open Go Go.RowKit
set_option linter.unusedSimpArgs false
set_option linter.unusedVariables false
attribute [local irreducible] XWP Spec SpecO XPub XCall seqX clX apX stX ldX iaX slX
end Go.Proofs.YthoboehbadmlmaaGreat
end
section
namespace Go.Proofs.YthoboehbadmlmaaGreat
open Go Go.RowKit
set_option linter.unusedSimpArgs false
set_option linter.unusedVariables false
attribute [local irreducible] XWP Spec SpecO XPub XCall seqX clX apX stX ldX iaX slX
theorem RowAt.append {α : Type} {E : View → Value → α → Prop} {V : View} {c1 c2 : List Value} {l1 l2 : List α} (h1 : RowAt E V c1 l1) (h2 : RowAt E V c2 l2) : RowAt E V (c1 ++ c2) (l1 ++ l2) := by
  have e1 := h1.1
  have e2 := h2.1
  refine ⟨by rw [List.length_append, List.length_append, e1, e2]; omega, fun i x hi => ?_⟩
  by_cases hlt : i < l1.length
  · rw [List.getElem?_append_left hlt] at hi
    obtain ⟨m, n, d, g1, g2, g3, r⟩ := h1.2 i x hi
    refine ⟨m, n, d, ?_, ?_, ?_, r⟩
    · show (c1 ++ c2)[i * 3]? = _
      rw [List.getElem?_append_left (by omega)]; exact g1
    · show (c1 ++ c2)[i * 3 + 1]? = _
      rw [List.getElem?_append_left (by omega)]; exact g2
    · show (c1 ++ c2)[i * 3 + 2]? = _
      rw [List.getElem?_append_left (by omega)]; exact g3
  · rw [List.getElem?_append_right (by omega)] at hi
    obtain ⟨m, n, d, g1, g2, g3, r⟩ := h2.2 (i - l1.length) x hi
    refine ⟨m, n, d, ?_, ?_, ?_, r⟩
    · show (c1 ++ c2)[i * 3]? = _
      rw [List.getElem?_append_right (by omega), show i * 3 - c1.length = (i - l1.length) * 3 by omega]; exact g1
    · show (c1 ++ c2)[i * 3 + 1]? = _
      rw [List.getElem?_append_right (by omega), show i * 3 + 1 - c1.length = (i - l1.length) * 3 + 1 by omega]; exact g2
    · show (c1 ++ c2)[i * 3 + 2]? = _
      rw [List.getElem?_append_right (by omega), show i * 3 + 2 - c1.length = (i - l1.length) * 3 + 2 by omega]; exact g3
end Go.Proofs.YthoboehbadmlmaaGreat
end
section
namespace Go.Proofs.YthoboehbadmlmaaGreat
set_option linter.unusedVariables false
abbrev Grid := Nat → Nat → Rat
def swp (p t i : Nat) : Nat := if i = p then t else if i = t then p else i
def gsw (G : Grid) (p t : Nat) : Grid := fun i j => G (swp p t i) j
def gcol (G : Grid) (t k : Nat) : Grid := fun i j => if i = t then G t j / G t k else G i j - G i k * (G t j / G t k)
theorem swp_swp (p t i : Nat) : swp p t (swp p t i) = i := by unfold swp; split <;> (try split) <;> (try split) <;> omega
theorem swp_lt {p t i R : Nat} (hp : p < R) (ht : t < R) (hi : i < R) : swp p t i < R := by unfold swp; split <;> (try split) <;> omega
theorem Sm_lin (f g x : Nat → Rat) (c : Rat) (n : Nat) : Sm (fun j => (f j - c * g j) * x j) n = Sm (fun j => f j * x j) n - c * Sm (fun j => g j * x j) n := by
  induction n with
  | zero => simp only [Sm]; grind
  | succ n ih => simp only [Sm, ih]; grind
/-- the numbers that are read off -/
def gx (G : Grid) (wh : Nat → Int) (n c : Nat) : Rat := if 0 ≤ wh c then G (wh c).toNat n else 0
end Go.Proofs.YthoboehbadmlmaaGreat
end
section
namespace Go.Proofs.YthoboehbadmlmaaGreat
open Go Go.RowKit
set_option linter.unusedSimpArgs false
set_option linter.unusedVariables false
attribute [local irreducible] XWP Spec SpecO XPub XCall seqX clX apX stX ldX iaX slX
theorem upd_off {H : Heap} {b k : Nat} {r : Option Row} (h : k ≠ b) : upd H b r k = H k := by unfold upd; rw [if_neg h]
def GRow (H : Heap) (V : View) (m : Nat) (f : Nat → Rat) (av : List Nat) (v : Value) : Prop :=
  ∃ b c cs, v = .slice (some ⟨b, 0, none⟩) m c ∧ H b = some ⟨48, cs, c * 3⟩ ∧ RowAt ratE V cs (mk m f) ∧ m ≤ c ∧ c ≤ maxLen ∧ b ∉ av
structure GCells (H : Heap) (V : View) (R m : Nat) (G : Grid) (av : List Nat) (cells : List Value) : Prop where
  len : cells.length = R
  row : ∀ (i : Nat) (v : Value), cells[i]? = some v → GRow H V m (G i) av v
  inj : ∀ (i j b c c' : Nat), cells[i]? = some (Value.slice (some ⟨b, 0, none⟩) m c) → cells[j]? = some (Value.slice (some ⟨b, 0, none⟩) m c') → i = j
def GridAt (H : Heap) (V : View) (v : Value) (R m : Nat) (G : Grid) (av : List Nat) : Prop :=
  ∃ cells, Own H 22 1 v R cells ∧ GCells H V R m G av cells
theorem mk_congr {m : Nat} {f g : Nat → Rat} (h : ∀ j, j < m → f j = g j) : mk m f = mk m g := by
  unfold mk
  exact List.map_congr_left fun j hj => h j (List.mem_range.1 hj)
theorem GRow.congr {H : Heap} {V : View} {m : Nat} {f g : Nat → Rat} {av : List Nat} {v : Value} (h : GRow H V m f av v) (e : ∀ j, j < m → f j = g j) : GRow H V m g av v := by
  obtain ⟨b, c, cs, h1, h2, h3, h4⟩ := h
  rw [mk_congr e] at h3
  exact ⟨b, c, cs, h1, h2, h3, h4⟩
theorem GRow.mono {H : Heap} {V V' : View} {m : Nat} {f : Nat → Rat} {av : List Nat} {v : Value} (h : GRow H V m f av v) (hV : V.le V') : GRow H V' m f av v := by
  obtain ⟨b, c, cs, h1, h2, h3, h4⟩ := h
  exact ⟨b, c, cs, h1, h2, h3.mono ratE_ok hV, h4⟩
theorem GridAt.mono {H : Heap} {V V' : View} {v : Value} {R m : Nat} {G : Grid} {av : List Nat} (h : GridAt H V v R m G av) (hV : V.le V') : GridAt H V' v R m G av := by
  obtain ⟨cells, h1, h2⟩ := h
  exact ⟨cells, h1, h2.len, fun i v hv => (h2.row i v hv).mono hV, h2.inj⟩
theorem GridAt.congr {H : Heap} {V : View} {v : Value} {R m : Nat} {G G' : Grid} {av : List Nat} (h : GridAt H V v R m G av) (e : ∀ i j, i < R → j < m → G i j = G' i j) : GridAt H V v R m G' av := by
  obtain ⟨cells, h1, h2⟩ := h
  refine ⟨cells, h1, h2.len, fun i v hv => (h2.row i v hv).congr fun j hj => e i j ?_ hj, h2.inj⟩
  rw [← h2.len]
  exact (List.getElem?_eq_some_iff.1 hv).1
/-- what else is written, leaves it -/
theorem GridAt.frame {H H' : Heap} {V : View} {v : Value} {R m : Nat} {G : Grid} {av av' : List Nat} (h : GridAt H V v R m G av)
    (h1 : ∀ k cs tot, H k = some ⟨22, cs, tot⟩ → H' k = H k) (h2 : ∀ k cs tot, k ∉ av → H k = some ⟨48, cs, tot⟩ → H' k = H k ∧ k ∉ av') : GridAt H' V v R m G av' := by
  obtain ⟨cells, ho, hc⟩ := h
  refine ⟨cells, ⟨ho.1, ?_⟩, hc.len, fun i v hv => ?_, hc.inj⟩
  · rcases ho.2 with h | ⟨b, cap, e, hb, h3⟩
    · exact .inl h
    · exact .inr ⟨b, cap, e, by rw [h1 b _ _ hb]; exact hb, h3⟩
  · obtain ⟨b, c, cs, e, hb, h3, h4, h5, h6⟩ := hc.row i v hv
    obtain ⟨a1, a2⟩ := h2 b _ _ h6 hb
    exact ⟨b, c, cs, e, by rw [a1]; exact hb, h3, h4, h5, a2⟩
/-- one row: how to read it, how to write it -/
theorem GridAt.at {H : Heap} {V : View} {v : Value} {R m : Nat} {G : Grid} {av : List Nat} (h : GridAt H V v R m G av) {i : Nat} (hi : i < R) :
    ∃ g cap b c cs, v = .slice (some ⟨g, 0, none⟩) R cap ∧ Loads Tryz.prog H V 22 g i (.slice (some ⟨b, 0, none⟩) m c) ∧ H b = some ⟨48, cs, c * 3⟩ ∧ RowAt ratE V cs (mk m (G i)) ∧ m ≤ c ∧ c ≤ maxLen ∧ b ∉ av ∧
      ∀ V' cs' f, V.le V' → RowAt ratE V' cs' (mk m f) → GridAt (upd H b (some ⟨48, cs', c * 3⟩)) V' v R m (fun i' => if i' = i then f else G i') av := by
  obtain ⟨cells, ho, hc⟩ := h
  rcases own_parts ho with ⟨_, h0, _⟩ | ⟨g, cap, rfl, hg, hle, hcap, hcl⟩
  · omega
  have hlt : i < cells.length := by rw [hc.len]; exact hi
  obtain ⟨b, c, cs, e, hb, h3, h4, h5, h6⟩ := hc.row i cells[i] (List.getElem?_eq_getElem hlt)
  refine ⟨g, cap, b, c, cs, rfl, ⟨false, 1, shapeT_22, .inr ⟨rfl, .inl ⟨_, hg, by rw [List.getElem?_eq_getElem hlt, e]⟩⟩⟩, hb, h3, h4, h5, h6, fun V' cs' f hV hrow => ?_⟩
  have hgb : g ≠ b := fun e => by subst e; rw [hg] at hb; cases hb
  refine ⟨cells, ⟨ho.1, .inr ⟨g, cap, rfl, by unfold upd; rw [if_neg hgb]; exact hg, hle, hcap⟩⟩, hc.len, fun j w hw => ?_, hc.inj⟩
  by_cases hji : j = i
  · subst hji
    rw [List.getElem?_eq_getElem hlt, e] at hw
    cases hw
    exact ⟨b, c, cs', rfl, upd_at _ _ _, by rw [if_pos rfl]; exact hrow, h4, h5, h6⟩
  · obtain ⟨b', c', cs2, e', hb', g3, g4⟩ := hc.row j w hw
    subst e'
    have hne : b' ≠ b := fun hbb => hji (hc.inj j i b' c' c hw (by rw [List.getElem?_eq_getElem hlt, e, hbb]))
    refine ⟨b', c', cs2, rfl, by unfold upd; rw [if_neg hne]; exact hb', ?_, g4⟩
    try dsimp only
    rw [if_neg hji]; exact g3.mono ratE_ok hV
/-- two rows change their places -/
theorem GridAt.swap {H : Heap} {V : View} {v : Value} {R m : Nat} {G : Grid} {av : List Nat} (h : GridAt H V v R m G av) {p t : Nat} (hp : p < R) (ht : t < R) :
    ∃ g cap cells vp vt, v = .slice (some ⟨g, 0, none⟩) R cap ∧ H g = some ⟨22, cells, cap * 1⟩ ∧ cells.length = R ∧ Loads Tryz.prog H V 22 g p vp ∧ Loads Tryz.prog H V 22 g t vt ∧ isOne vp = true ∧ isOne vt = true ∧
      GridAt (upd (upd H g (some ⟨22, cells.set p vt, cap * 1⟩)) g (some ⟨22, (cells.set p vt).set t vp, cap * 1⟩)) V v R m (gsw G p t) av := by
  obtain ⟨cells, ho, hc⟩ := h
  rcases own_parts ho with ⟨_, h0, _⟩ | ⟨g, cap, rfl, hg, hle, hcap, hcl⟩
  · omega
  have lp : p < cells.length := by rw [hc.len]; exact hp
  have lt : t < cells.length := by rw [hc.len]; exact ht
  have hone : ∀ i (hi : i < cells.length), isOne cells[i] = true := fun i hi => by
    obtain ⟨b, c, cs, e, _⟩ := hc.row i cells[i] (List.getElem?_eq_getElem hi)
    rw [e]; rfl
  have hget : ∀ i, ((cells.set p cells[t]).set t cells[p])[i]? = cells[swp p t i]? := fun i => by
    unfold swp
    by_cases e1 : t = i
    · subst e1
      rw [List.getElem?_set_self (by rw [List.length_set]; exact lt)]
      by_cases e2 : t = p
      · subst e2; rw [if_pos rfl, List.getElem?_eq_getElem lt]
      · rw [if_neg e2, if_pos rfl, List.getElem?_eq_getElem lp]
    · rw [List.getElem?_set_ne e1]
      by_cases e2 : p = i
      · subst e2; rw [List.getElem?_set_self lp, if_pos rfl, List.getElem?_eq_getElem lt]
      · rw [List.getElem?_set_ne e2, if_neg (Ne.symm e2), if_neg (Ne.symm e1)]
  refine ⟨g, cap, cells, cells[p], cells[t], rfl, hg, hc.len, ⟨false, 1, shapeT_22, .inr ⟨rfl, .inl ⟨_, hg, List.getElem?_eq_getElem lp⟩⟩⟩, ⟨false, 1, shapeT_22, .inr ⟨rfl, .inl ⟨_, hg, List.getElem?_eq_getElem lt⟩⟩⟩, hone p lp, hone t lt, ?_⟩
  refine ⟨(cells.set p cells[t]).set t cells[p], ⟨by rw [List.length_set, List.length_set]; exact ho.1, .inr ⟨g, cap, rfl, upd_at _ _ _, hle, hcap⟩⟩, by rw [List.length_set, List.length_set]; exact hc.len, fun i w hw => ?_, fun i j b c c' h1 h2 => ?_⟩
  · rw [hget] at hw
    obtain ⟨b, c, cs, e, hb, h3, h4⟩ := hc.row _ w hw
    have hbg : b ≠ g := fun e => by subst e; rw [hg] at hb; cases hb
    exact ⟨b, c, cs, e, by unfold upd; rw [if_neg hbg, if_neg hbg]; exact hb, h3, h4⟩
  · rw [hget] at h1 h2
    have := hc.inj _ _ b c c' h1 h2
    rw [← swp_swp p t i, this, swp_swp]
theorem eRR : elemT Tryz.prog 97 = some 22 := elemT_97
theorem kRR : kindT Tryz.prog 97 = 2 := kindT_97
theorem eII : elemT Tryz.prog 94 = some 3 := elemT_94
theorem kII : kindT Tryz.prog 94 = 2 := kindT_94
theorem GridAt.alloc {H : Heap} {V : View} {v : Value} {R m b : Nat} {r : Option Row} {G : Grid} {av : List Nat} (h : GridAt H V v R m G av) (hb : H b = none) : GridAt (upd H b r) V v R m G av := by
  have key : ∀ k q, H k = some q → upd H b r k = H k := fun k q hk => by
    unfold upd
    split
    · rename_i e; rw [e, hb] at hk; cases hk
    · rfl
  exact h.frame (fun k cs tot hk => key k _ hk) fun k cs tot ha hk => ⟨key k _ hk, ha⟩
theorem own_one {H : Heap} {e sz n : Nat} {v : Value} {xs : List Value} (h : Own H e sz v n xs) : isOne v = true := by
  rcases own_parts h with ⟨rfl, _, _⟩ | ⟨b, cap, rfl, _⟩ <;> rfl
theorem mk_set1 {m j : Nat} {f : Nat → Rat} {x : Rat} (hj : j < m) : (mk m f).set j x = mk m (fun c => if c = j then x else f c) := by
  apply List.ext_getElem?
  intro i
  by_cases hi : i < m
  · by_cases e : j = i
    · subst e; rw [List.getElem?_set_self (by rw [mk_len]; exact hj)]; simp [mk, hj]
    · rw [List.getElem?_set_ne e]
      have e' : ¬ i = j := fun h => e h.symm
      simp [mk, hi, e']
  · rw [List.getElem?_eq_none (by rw [List.length_set, mk_len]; omega), List.getElem?_eq_none (by rw [mk_len]; omega)]
def ge (B : Nat) : Nat → Nat
  | 0 => B
  | k + 1 => 4 * ge B k + 2
theorem ge_mono (B : Nat) {i j : Nat} (h : i ≤ j) : ge B i ≤ ge B j := by
  induction j with
  | zero => rw [show i = 0 by omega]; exact Nat.le_refl _
  | succ j ih =>
    rcases Nat.eq_or_lt_of_le h with h1 | h1
    · subst h1; exact Nat.le_refl _
    · have := ih (by omega)
      simp only [ge]; omega
end Go.Proofs.YthoboehbadmlmaaGreat
end
section
namespace Go.Proofs.YthoboehbadmlmaaGreat
open Go Go.RowKit
set_option linter.unusedSimpArgs false
set_option linter.unusedVariables false
attribute [local irreducible] XWP Spec SpecO XPub XCall seqX clX apX stX ldX iaX slX
end Go.Proofs.YthoboehbadmlmaaGreat
end
section
namespace Go.Proofs.YthoboehbadmlmaaGreat
open Go Go.RowKit
set_option linter.unusedSimpArgs false
set_option linter.unusedVariables false
attribute [local irreducible] XWP Spec SpecO XPub XCall seqX clX apX stX ldX iaX slX
end Go.Proofs.YthoboehbadmlmaaGreat
end
section
namespace Go.Proofs.YthoboehbadmlmaaGreat
open Go Go.RowKit
set_option linter.unusedSimpArgs false
set_option linter.unusedVariables false
attribute [local irreducible] XWP Spec SpecO XPub XCall seqX clX apX stX ldX iaX slX
end Go.Proofs.YthoboehbadmlmaaGreat
end
section
namespace Go.Proofs.YthoboehbadmlmaaGreat
set_option linter.unusedVariables false
end Go.Proofs.YthoboehbadmlmaaGreat
end
section
namespace Go.Proofs.YthoboehbadmlmaaGreat
open Go Go.RowKit
set_option linter.unusedSimpArgs false
set_option linter.unusedVariables false
attribute [local irreducible] XWP Spec SpecO XPub XCall seqX clX apX stX ldX iaX slX
end Go.Proofs.YthoboehbadmlmaaGreat
end
section
namespace Go.Proofs.YthoboehbadmlmaaGreat
set_option linter.unusedVariables false
theorem mk_eq {m : Nat} {f g : Nat → Rat} (h : ∀ j, j < m → f j = g j) : mk m f = mk m g := by
  unfold mk
  exact List.map_congr_left fun j hj => h j (List.mem_range.1 hj)
end Go.Proofs.YthoboehbadmlmaaGreat
end
section
namespace Go.Proofs.YthoboehbadmlmaaGreat
open Go Go.RowKit
set_option linter.unusedSimpArgs false
set_option linter.unusedVariables false
attribute [local irreducible] XWP Spec SpecO XPub XCall seqX clX apX stX ldX iaX slX
theorem st_one {P : Program} {t i off : Nat} {s : XS} {ops : Array Oper} {rest : List Oper} {K : XS → Prop} {d : Option Tmp} {v : Value} {vs : List Value} (hs : shapeT P t = some (false, 1)) (hb : s.bx[i]? = some vs) (h1 : isOne v = true) (hl : off < vs.length) (h : seqX P ops rest K (XS.put ⟨s.t, s.bx.set i (vs.set off v), s.H, s.V⟩ d (.v undef))) : stX P ops rest K s d t (.p i off) (.v v) := by
  unfold stX loudX
  have e0 : XS.ev ⟨[.p i off, .v v], s.bx, s.H, s.V⟩ (.tmp 0) = .p i off := rfl
  have e1 : XS.ev ⟨[.p i off, .v v], s.bx, s.H, s.V⟩ (.tmp 1) = .v v := rfl
  simp only [e0, e1, hs, hb]
  have ec : v.cells = #[v] := by cases v <;> first | rfl | cases h1
  refine ⟨by rw [ec]; rfl, by rw [ec]; simp [h1], by omega, ?_⟩
  have : splice vs off v.cells.toList = vs.set off v := by
    rw [ec]
    unfold splice
    rw [List.set_eq_take_append_cons_drop, if_pos hl]
    simp
  rw [this]; exact h
theorem placesT_34 : placesT Tryz.prog 34 = some [(0, 1), (1, 1), (2, 1)] := by kernel_rfl
theorem bd_mat2 {x y : Value} (hx : isOne x = true) (hy : isOne y = true) : BuildsTo Tryz.prog 34 #[(0, x), (1, y)] (.agg #[x, y, .slice none 0 0]) := by
  refine bd_run placesT_34 zeroT_34 ?_
  show Instr.fill _ _ [(0, x), (1, y)] = _
  rw [fill_one (off := 0) rfl hx (by simp), fill_one (off := 1) rfl hy (by simp)]; rfl
theorem placesT_24 : placesT Tryz.prog 24 = some [(0, 1), (1, 1), (2, 1)] := by kernel_rfl
theorem bd_mtx2 {x y : Value} (hx : isOne x = true) (hy : isOne y = true) : BuildsTo Tryz.prog 24 #[(0, x), (1, y)] (.agg #[x, y, .slice none 0 0]) := by
  refine bd_run placesT_24 zeroT_24 ?_
  show Instr.fill _ _ [(0, x), (1, y)] = _
  rw [fill_one (off := 0) rfl hx (by simp), fill_one (off := 1) rfl hy (by simp)]; rfl
theorem own_isOne {H : Heap} {e sz n : Nat} {v : Value} {xs : List Value} (h : Own H e sz v n xs) : isOne v = true := by
  obtain ⟨_, ⟨rfl, _⟩ | ⟨g, cap, rfl, _⟩⟩ := h <;> rfl
theorem dzeros_o (V : View) (r c : Nat) (hr : r ≤ 60) (hc : c ≤ 60) : SpecO Tryz.prog 55 [.int .i64 (r : Int), .int .i64 (c : Int)] V fun v' V' o => ∃ sl cells, v' = .agg #[.int .i64 (r : Int), .int .i64 (c : Int), sl] ∧ Own (addRow (fun _ => none) o) 48 3 sl (r * c) cells ∧ RowAt ratE V' cells (mk (r * c) fun _ => 0) := by
  have hrc : r * c ≤ 3600 := Nat.le_trans (Nat.mul_le_mul hr hc) (by decide)
  have w : IntKind.i64.wrap ((r : Int) * (c : Int)) = ((r * c : Nat) : Int) := by rw [← Int.natCast_mul, wrap_id (by omega) (by omega)]
  generalize hR : r * c = R at *
  refine (SpecO.enter Tryz.func55 rfl fun Γ => ?_)
  simp only [Tryz.ntmps55, List.map_cons, List.map_nil, List.length_cons, List.length_nil, Nat.reduceAdd, Nat.reduceSub, List.replicate_succ, List.replicate_zero, List.cons_append, List.nil_append]
  refine Gx.a (by kernel_rfl) fun K hK => ?_
  simp only [XM, XA]
  refine hK _ ?_
  refine Gx.a (by kernel_rfl) fun K hK => ?_
  simp only [XA]
  refine bd_go (by kernel_rfl) #[(0, .int .i64 (r : Int)), (1, .int .i64 (c : Int))] (by simp [ev_tmp, SV.val]) (bd_mat2 rfl rfl) ?_
  simp only [XM, XA]
  refine st_mat shapeT_34 rfl rfl rfl rfl rfl ?_
  simp only [XA]
  refine hK _ ?_
  clear hK
  refine XWP.cut (fun s => ∃ (V2 : View) (H5 : Heap) (sl : Value) (cells : List Value), StIs (fun Z => [Z 0,Z 1,Z 2,Z 3, .p 0 0, .p 1 0, Z 6,Z 7,Z 8,Z 9,Z 10,Z 11,Z 12,Z 13,Z 14,Z 15,Z 16,Z 17,Z 18,Z 19,Z 20,Z 21,Z 22,Z 23]) [[.int .i64 0, .int .i64 0, .slice none 0 0], [.int .i64 (r : Int), .int .i64 (c : Int), sl]] H5 V2 s ∧ Own H5 48 3 sl R cells ∧ RowAt ratE V2 cells (mk R fun _ => 0)) ?_ ?_
  · refine Gx.a (by kernel_rfl) fun K hK => ?_
    simp only [XA]
    refine hK _ ?_
    clear hK
    refine XWP.block ?_
    refine XWP.loop (fun q s => ∃ (k : Nat) (V2 : View) (H5 : Heap) (sl : Value) (cells : List Value), StIs (fun Z => [.v (.int .i64 (r : Int)), .v (.int .i64 (c : Int)), Z 2,Z 3, .p 0 0, .p 1 0, .v (.int .i64 (k : Int)), Z 7,Z 8,Z 9,Z 10,Z 11,Z 12,Z 13,Z 14,Z 15,Z 16,Z 17,Z 18,Z 19,Z 20,Z 21,Z 22,Z 23]) [[.int .i64 0, .int .i64 0, .slice none 0 0], [.int .i64 (r : Int), .int .i64 (c : Int), sl]] H5 V2 s ∧ q + k = R ∧ Own H5 48 3 sl k cells ∧ RowAt ratE V2 cells (mk k fun _ => 0)) R ⟨0, V, _, _, [], StIs.of (by exact rfl), by omega, own_nil, RowAt.nil _⟩ ?_
    rintro q s ⟨k, V2, H5, sl, cells, hs, hq, hown, hrow⟩
    obtain ⟨z, rfl⟩ := hs.out
    try dsimp only
    clear hs
    refine XWP.seq ?_
    by_cases hk : k < R
    rotate_left
    · obtain rfl : k = R := by omega
      have b1 : decide ((k : Int) < (k : Int)) = false := decide_eq_false (by omega)
      refine Gx.a (by kernel_rfl) fun K hK => ?_
      simp only [XA, XB, w, b1]
      refine hK _ ?_
      refine Gx.f rfl ?_
      refine XWP.exit ?_
      exact ⟨V2, H5, sl, cells, StIs.of (by exact rfl), hown, hrow⟩
    have b1 : decide ((k : Int) < (R : Int)) = true := decide_eq_true (by omega)
    refine Gx.a (by kernel_rfl) fun K hK => ?_
    simp only [XA, XB, w, b1]
    refine hK _ ?_
    refine Gx.t rfl ?_
    refine XWP.skip ?_
    refine XWP.seq ?_
    refine XWP.block ?_
    (refine XWP.drw1 [0, 1, 2, 3, 4, 5, 6] (by kernel_rfl) (by kernel_rfl) (by kernel_rfl) fun K hK => ?_) <;> dsimp only [pickOps, List.getElem?_cons_zero, List.getElem?_cons_succ]
    simp only [XM, XA, XB]
    refine call_go (by kernel_rfl) rfl (pzero_c _) fun v3 V3 hV3 h3 => ?_
    obtain ⟨x3, y3, rfl, o1, o2⟩ := h3.form
    simp only [XA]
    refine bs_go (by kernel_rfl) #[(0, .agg #[.bool (ng 0), x3, y3])] (by simp [ev_tmp, SV.val]) (bs_rat elemT_22) fun b3 hb3 hb4 => ?_
    simp only [XA, Nat.reduceAdd]
    refine ap_go elemT_22 (by kernel_rfl) zeroT_48 rfl (by omega) (own_upd hown hb3) (src3 (upd_at _ _ _) rfl o1 o2) (by omega) (by omega) fun v' H' hres => ?_
    simp only [XM, XA]
    refine st_one shapeT_22 rfl (own_isOne hres.1) (by simp) ?_
    simp only [XA]
    refine hK _ ?_
    refine Gx.c (by kernel_rfl) fun K hK => ?_
    simp only [XA, XB, i64_succ k (by omega)]
    have hrow' := (hrow.mono ratE_ok hV3).snoc (show isOne (.bool (ng 0)) = true from rfl) o1 o2 h3
    rw [← mk_succ k fun _ => 0] at hrow'
    exact hK _ ⟨q - 1, by omega, k + 1, V3, _, _, _, StIs.of (by exact rfl), by omega, hres.1, hrow'⟩
  rintro s ⟨V2, H5, sl, cells, hs, hown, hrow⟩
  obtain ⟨z, rfl⟩ := hs.out
  try dsimp only
  have osl := own_isOne hown
  refine Gx.a (by kernel_rfl) fun K hK => ?_
  simp only [XM, XA, Nat.reduceAdd, Nat.reduceLeDiff, ↓reduceIte]
  refine st_mat shapeT_34 rfl rfl rfl rfl osl ?_
  simp only [XA]
  refine hK _ (XWP.ret ?_)
  try simp only [thenX_ret, inBlockX_ret]
  rcases own_parts hown with ⟨rfl, h0, rfl⟩ | ⟨g, cap, rfl, hg, hle, hcap, hcl⟩
  · refine ret_own _ none (by simp [resAll, resV, cellsV, shapeT_34]; rfl) (fun g' q e => by cases e) ⟨_, [], rfl, ⟨by rw [h0]; rfl, .inl ⟨rfl, h0⟩⟩, hrow⟩
  · refine ret_own _ (some (g, _)) (by simp [resAll, resV, cellsV, shapeT_34]; rfl) (fun g' q e => by cases e; exact hg) ⟨_, cells, rfl, own3 (show upd (fun _ => none) g (some _) g = some _ from upd_at _ _ _) hcl hle (by unfold maxLen at hcap; omega), hrow⟩
end Go.Proofs.YthoboehbadmlmaaGreat
end
section
namespace Go.Proofs.YthoboehbadmlmaaGreat
open Go Go.RowKit
/-! ### The last box becomes a row -/
def rowS (m b : Nat) : SV → SV
  | .v x => .v x
  | .p j o => if j = m then .v (.pointer (some ⟨b, o, none⟩)) else .p j o
theorem rowS_v (m b : Nat) (x : Value) : rowS m b (.v x) = .v x := rfl
theorem rowS_p (m b j o : Nat) : rowS m b (.p j o) = if j = m then .v (.pointer (some ⟨b, o, none⟩)) else .p j o := rfl
theorem XWP.row1 {Γ : Cx} {P : Program} {c : Code} {Q : Exit → XS → Prop} {t : List SV} {bx : List (List Value)} {vs : List Value} {H : Heap} {V : View}
    (h : ∀ b e, H b = none → V b = none → XWP Γ P c Q ⟨t.map (rowS bx.length b), bx, upd H b (some ⟨e, vs, vs.length⟩), V⟩) : XWP Γ P c Q ⟨t, bx ++ [vs], H, V⟩ := by
  intro bl a w hc
  have hlt : bx.length < (bx ++ [vs]).length := by simp
  obtain ⟨ty, hh⟩ := hc.cw.box bx.length vs (by simp)
  obtain ⟨b1, b2, b3⟩ := hc.cs.bxH bx.length hlt
  refine h (bl bx.length) ty b1 b2 bl a w ⟨?_, hc.df, ⟨fun i us hi => hc.cw.box i us ?_, fun b r hb => ?_, hc.cw.view, hc.cw.below⟩, ⟨fun i j hi hj => hc.cs.inj i j (by dsimp only at hi ⊢; rw [List.length_append]; omega) (by dsimp only at hj ⊢; rw [List.length_append]; omega), fun i hi => ?_, fun b r hb => ?_, hc.cs.V0, hc.cs.frm⟩, fun x hx => ?_⟩
  · rw [hc.tm, List.map_map]
    congr 1
    refine List.map_congr_left fun x _ => ?_
    cases x with
    | v x => rfl
    | p j o =>
      simp only [Function.comp_apply, rowS]
      split
      · rename_i e; subst e; rfl
      · rfl
  · dsimp only at hi ⊢
    have hl : i < bx.length := (List.getElem?_eq_some_iff.1 hi).1
    rw [List.getElem?_append_left hl]; exact hi
  · dsimp only at hb
    unfold upd at hb
    split at hb
    · rename_i e; subst e; cases hb
      exact ⟨[], by simpa using hh, by simp⟩
    · exact hc.cw.row b r hb
  · dsimp only at hi
    have hl : i < (bx ++ [vs]).length := by rw [List.length_append]; omega
    have := hc.cs.bxH i hl
    refine ⟨?_, this.2⟩
    dsimp only
    unfold upd
    rw [if_neg (fun e => by have := hc.cs.inj i bx.length hl hlt e; omega)]; exact this.1
  · dsimp only at hb
    unfold upd at hb
    split at hb
    · rename_i e; subst e; exact ⟨b2, b3⟩
    · exact hc.cs.HV b r hb
  · obtain ⟨y, hy, rfl⟩ := List.mem_map.1 hx
    have := hc.ok y hy
    cases y with
    | v x => trivial
    | p j o =>
      have hj : j < (bx ++ [vs]).length := this
      show SV.ok _ (if j = bx.length then SV.v _ else .p j o)
      split
      · trivial
      · rename_i hne
        show j < bx.length
        rw [List.length_append] at hj
        simp only [List.length_cons, List.length_nil] at hj
        omega

/-! ### What an iterator promises: it yields these, in order, as long as yield answers true -/
def IterX (P : Program) (gf : Nat) (lb : Array Value) (V : View) (L : List (Array Value)) : Prop :=
  ∀ (l : Nat) (J : Nat → World → Prop) (Jx : World → Prop) (W : World), J 0 W → (∀ r W1, J r W1 → V.sub W1) → (∀ W1, Jx W1 → V.sub W1) →
    (∀ r W1 args, L[r]? = some args → J r W1 → YieldAt Fence.wide 0 P l args W1 fun e W' => (e = .returned (.bool true) ∧ J (r + 1) W') ∨ (e = .returned (.bool false) ∧ Jx W')) →
    CallsIn Fence.wide 0 P gf (#[.func (.yield l) #[] #[]] ++ lb) W fun e W' => (∃ v, e = .returned v) ∧ (J L.length W' ∨ Jx W')
def setPs : List Tmp → List Value → List SV → List SV
  | p :: ps, v :: vs, t => setPs ps vs (t.set p (.v v))
  | _, _, t => t
theorem setPs_conc {bl : Nat → Nat} : ∀ (ps : List Tmp) (vs : List Value) (t : List SV), (ps.zip vs).foldl (fun (t : Array Value) (q : Tmp × Value) => t.setIfInBounds q.1 q.2) (t.map (SV.conc bl)).toArray = ((setPs ps vs t).map (SV.conc bl)).toArray
  | [], _, t => by simp [setPs]
  | _ :: _, [], t => by simp [setPs]
  | p :: ps, v :: vs, t => by
    simp only [List.zip_cons_cons, List.foldl_cons, setPs]
    rw [← setPs_conc ps vs (t.set p (.v v))]
    congr 1
    simp [List.map_set, SV.conc]
theorem setPs_ok {n : Nat} : ∀ (ps : List Tmp) (vs : List Value) (t : List SV), (∀ x ∈ t, x.ok n) → ∀ x ∈ setPs ps vs t, x.ok n
  | [], _, t, h => by simpa [setPs] using h
  | _ :: _, [], t, h => by simpa [setPs] using h
  | p :: ps, v :: vs, t, h => by
    simp only [setPs]
    refine setPs_ok ps vs _ fun x hx => ?_
    rcases List.mem_or_eq_of_mem_set hx with h1 | rfl
    · exact h x h1
    · trivial
/-- how a round's body may be left -/
def roundQ (I : Heap → View → Prop) (Ix : Heap → View → Prop) : Exit → XS → Prop
  | .normal, s => I s.H s.V
  | .ret, s => Ix s.H s.V
  | _, _ => False
theorem CW.nobox {Γ : Cx} {bl bl' : Nat → Nat} {bx : List (List Value)} {H : Heap} {V : View} {w : World} (h : CW Γ bl bx H V w) : CW Γ bl' [] H V w := ⟨fun i vs hi => by simp at hi, h.row, h.view, h.below⟩
theorem CS.nobox {Γ : Cx} {bl bl' : Nat → Nat} {bx : List (List Value)} {H : Heap} {V : View} (h : CS Γ bl bx H V) : CS Γ bl' [] H V := ⟨fun i j hi => by simp at hi, fun i hi => by simp at hi, h.HV, h.V0, h.frm⟩
theorem CW.cx {Γ Γ' : Cx} {bl : Nat → Nat} {bx : List (List Value)} {H : Heap} {V : View} {w : World} (h : CW Γ bl bx H V w) (e : Γ'.w0 = Γ.w0) : CW Γ' bl bx H V w := ⟨h.box, h.row, h.view, by rw [e]; exact h.below⟩
theorem CS.cx {Γ Γ' : Cx} {bl : Nat → Nat} {bx : List (List Value)} {H : Heap} {V : View} (h : CS Γ bl bx H V) (e : Γ'.w0 = Γ.w0) (e' : Γ'.V0 = Γ.V0) : CS Γ' bl bx H V := ⟨h.inj, fun i hi => by rw [e]; exact h.bxH i hi, fun b r hb => by rw [e]; exact h.HV b r hb, by rw [e']; exact h.V0, by rw [e, e']; exact h.frm⟩
theorem wpIn_any {Γ : Cx} {P : Program} {c : Code} {Q : Exit → Act → World → Prop} {a : Act} {w : World} {n m : Nat} (h : c.wpIn Γ.F n P Q a w) : c.wpIn Γ.F m P Q a w := fun b k cs hro hb _ => h b k cs hro hb (Γ.room _)
theorem others_put {w w1 : World} {l : Nat} (h : KeepsOthers w1 w) (hl : w1.heap.size ≤ l) (o : Obj) : KeepsOthers w1 (w.putObj l o) :=
  ⟨by rw [World.putObj_size]; exact h.size, fun k ob hk ho => by
    have := (Array.getElem?_eq_some_iff.1 hk).1
    rw [World.putObj_heap_other (by omega)]; exact h.same k ob hk ho⟩
theorem CW.allocO {Γ : Cx} {bl : Nat → Nat} {H : Heap} {V : View} {w : World} (h : CW Γ bl [] H V w) (o : Obj) : CW Γ bl [] H V (w.alloc o) :=
  ⟨fun i vs hi => by simp at hi, fun b r hb => by
    obtain ⟨ex, hh, hl⟩ := h.row b r hb
    exact ⟨ex, by rw [Below.heap_alloc w _ _ (h.lt_row hb)]; exact hh, hl⟩, view_alloc h.view _, h.below.alloc h.below.size _⟩
theorem mk_turn {Γ Γ' : Cx} {a : Act} {w : World} {l : Nat} {o o' : Obj} (h : Mk Γ a w) (hl : w.heap[l]? = some o) (ho : ∀ d, o ≠ .deferred d) (e0 : Γ'.w0 = Γ.w0) (e1 : Γ'.w1 = w.putObj l o') (e2 : ∃ r, Γ'.rd = some r) : Mk Γ' a (w.putObj l o') := by
  obtain ⟨⟨ms, h1, h2, h3⟩, _⟩ := h
  obtain ⟨r2, e2⟩ := e2
  refine ⟨⟨ms, h1, h2, fun D hD => ⟨by unfold Cx.base; rw [e2]; dsimp only; rw [e0]; exact Nat.le_trans (Cx.base_ge _) (h3 D hD).1, ?_⟩⟩, by rw [e1]; exact KeepsOthers.refl _⟩
  refine (World.putObj_heap_other (fun e => ?_)).trans (h3 D hD).2
  have := (h3 D hD).2
  rw [e, hl] at this
  cases this; exact ho _ rfl
/-- **A range over a function.** -/
theorem XWP.range {Γ : Cx} {P : Program} (hΓ : Γ.Plain) {g : Operand} {ps : Array Tmp} {assign body : Code} {Q : Exit → XS → Prop} {t : List SV} {H : Heap} {V : View} {gf : Nat} {lb : Array Value} {L : List (Array Value)} {I : Nat → Heap → View → Prop} {Ix : Heap → View → Prop}
    (hg : (⟨t, [], H, V⟩ : XS).ev g = .v (.func (.func gf) #[] lb)) (hcall : callable P gf = true) (hps : ∀ args ∈ L, args.size = ps.size) (it : IterX P gf lb V L) (h0 : I 0 H V) (hle : ∀ r H' V', I r H' V' → V.le V') (hleX : ∀ H' V', Ix H' V' → V.le V')
    (hr : ∀ (Γ' : Cx) (r : Nat) (args : Array Value) (H' : Heap) (V' : View), L[r]? = some args → I r H' V' → XWP Γ' P assign (fun e s1 => match e with | .normal => ∀ Γ'' : Cx, XWP Γ'' P body (roundQ (I (r + 1)) Ix) s1 | _ => False) ⟨setPs ps.toList args.toList t, [], H', V'⟩)
    (hdone : ∀ H' V', I L.length H' V' → Q .normal ⟨t, [], H', V'⟩) (hstop : ∀ H' V', Ix H' V' → Q .ret ⟨t, [], H', V'⟩) : XWP Γ P (.rangeFunc g ps assign body) Q ⟨t, [], H, V⟩ := by
  intro bl a w hC
  obtain ⟨⟨ms, m1, m2, m3⟩, m4⟩ := hC.df
  have eF : Γ.F = Fence.wide := by unfold Cx.F; rw [hΓ.1]; rfl
  have hev : a.eval g = .func (.func gf) #[] lb := by rw [hC.ev, hg]; rfl
  have hok : ∀ x ∈ t, x.ok 0 := hC.ok
  have htm : a.tmps = (t.map (SV.conc bl)).toArray := hC.tm
  refine wpIn_any (n := 1) (wpIn_rangeFunc fun fn _ => ?_)
  obtain ⟨rec, hrec⟩ : ∃ rec : LoopState → Option Code → Loop, rec = fun st pe => { state := st, pending := pe, fn, tmps := a.tmps, params := ps, assign, body, defers := w.heap.size } := ⟨_, rfl⟩
  obtain ⟨W1, hW1⟩ : ∃ W1, (w.alloc (.deferred (some []))).alloc (.loop (rec .ready none)) = W1 := ⟨_, rfl⟩
  have hL1 : W1.heap[w.heap.size + 1]? = some (.loop (rec .ready none)) := by
    rw [← hW1]; have := World.alloc_heap_new (w.alloc (.deferred (some []))) (.loop (rec .ready none)); rwa [World.size_alloc] at this
  have hK1 : W1.heap[w.heap.size]? = some (.deferred (some [])) := by
    rw [← hW1]; exact (Below.heap_alloc _ _ _ (by simp)).trans (World.alloc_heap_new w _)
  have hcw1 : CW Γ bl [] H V W1 := by rw [← hW1]; exact (CW.allocO hC.cw _).allocO _
  have hko1 : KeepsOthers w W1 := by rw [← hW1]; exact (KeepsOthers.alloc _ _).trans (KeepsOthers.alloc _ _)
  have hws : Γ.w0.heap.size ≤ w.heap.size := hC.cw.below.size
  have hw1s : Γ.w1.heap.size ≤ w.heap.size := m4.size
  have hmlt : ∀ E ∈ ms, E < w.heap.size := fun E hE => (Array.getElem?_eq_some_iff.1 (m3 E hE).2).1
  refine ⟨w.heap.size + 1, [{ target := .collected w.heap.size, args := #[] }], W1, { target := .fn (.func gf) lb, args := #[.func (.yield (w.heap.size + 1)) #[] #[]] }, W1, gf, #[.func (.yield (w.heap.size + 1)) #[] #[]] ++ lb, W1, ?_, ?_, fun _ _ => trivial, ?_, fun _ => Nat.le_refl _, ?_⟩
  · show (Instr.enterLoop fn a.tmps ps assign body Γ.rd).run P w = _
    rw [hΓ.1, ← hW1, hrec]; exact run_enterLoop_outer _ _ _ _ _
  · simp only [resolve, hev]
    simp [go_sem]
  · unfold callable at hcall
    cases hf : P.funcs[gf]? with
    | none => simp [hf] at hcall
    | some fn =>
      simp [hf] at hcall
      have hb : fn.body ≠ none := fun hn => by simp [hn] at hcall
      simp [invoke, callFunc, hf, hcall.1, hb]
  rw [eF]
  have keepE : ∀ {A B : World}, (∀ E ∈ ms, A.heap[E]? = some (.deferred (some []))) → KeepsOthers A B → ∀ E ∈ ms, B.heap[E]? = some (.deferred (some [])) := fun h k E hE => k.same E _ (h E hE) rfl
  have putE : ∀ {A : World} (o : Obj), (∀ E ∈ ms, A.heap[E]? = some (.deferred (some []))) → ∀ E ∈ ms, (A.putObj (w.heap.size + 1) o).heap[E]? = some (.deferred (some [])) := fun o h E hE =>
    (World.putObj_heap_other (by have := hmlt E hE; omega)).trans (h E hE)
  have fini : ∀ (A : World) (H' : Heap) (V' : View), CW Γ bl [] H' V' A → CS Γ bl [] H' V' → (∀ E ∈ ms, A.heap[E]? = some (.deferred (some []))) → KeepsOthers Γ.w1 A → A.heap[w.heap.size]? = some (.deferred (some [])) →
      Conc Γ bl ⟨t, [], H', V'⟩ { a with defers := { target := .collected w.heap.size, args := #[] } :: a.defers } A := fun A H' V' c1 c2 c3 c4 c5 =>
    ⟨htm, ⟨⟨w.heap.size :: ms, by simp [m1], List.nodup_cons.2 ⟨fun h => by have := hmlt _ h; omega, m2⟩, fun D hD => by
      rcases List.mem_cons.1 hD with rfl | h
      · exact ⟨Cx.base_le _ hws hw1s, c5⟩
      · exact ⟨(m3 D h).1, c3 D h⟩⟩, c4⟩, c1, c2, hok⟩
  refine (it (w.heap.size + 1)
    (fun r W => ∃ H' V', I r H' V' ∧ CW Γ bl [] H' V' W ∧ CS Γ bl [] H' V' ∧ (∀ E ∈ ms, W.heap[E]? = some (.deferred (some []))) ∧ KeepsOthers Γ.w1 W ∧ W.heap[w.heap.size + 1]? = some (.loop (rec .ready none)) ∧ W.heap[w.heap.size]? = some (.deferred (some [])))
    (fun W => ∃ H' V', Ix H' V' ∧ CW Γ bl [] H' V' W ∧ CS Γ bl [] H' V' ∧ (∀ E ∈ ms, W.heap[E]? = some (.deferred (some []))) ∧ KeepsOthers Γ.w1 W ∧ W.heap[w.heap.size + 1]? = some (.loop (rec .done (some .ret))) ∧ W.heap[w.heap.size]? = some (.deferred (some [])))
    W1 ⟨H, V, h0, hcw1, hC.cs.nobox, keepE (fun E hE => (m3 E hE).2) hko1, m4.trans hko1, hL1, hK1⟩ (fun r W ⟨H', V', hI, cw, _⟩ k o hk => cw.view k o (hle r H' V' hI k o hk)) (fun W ⟨H', V', hI, cw, _⟩ k o hk => cw.view k o (hleX H' V' hI k o hk)) ?_).mono ?_
  · rintro r W args hLr ⟨H', V', hI, cw, cs, me, ko, hl, hk⟩
    have hsz : args.size = ps.size := hps args (List.mem_of_getElem? hLr)
    have hy := run_yield (P := P) (args := args) hl (by rw [hrec]; exact hsz)
    refine ⟨fn, _, assign, body, by rw [hy, hrec], roundIn_of_wpIn trivial ?_⟩
    have hx := hr ⟨Γ.w0, Γ.V0, W, some (w.heap.size + 1)⟩ r args H' V' hLr hI bl { tmps := (ps.zip args).foldl (fun tmps (t, a) => tmps.setIfInBounds t a) a.tmps, defers := [] } W
      ⟨by rw [htm, ← setPs_conc, ← Array.foldl_toList, Array.toList_zip], ⟨⟨[], rfl, List.nodup_nil, fun D hD => by simp at hD⟩, KeepsOthers.refl _⟩, cw.cx rfl, cs.cx rfl rfl, setPs_ok _ _ _ hok⟩
    refine wpIn_mono hx ?_
    rintro e a1 Wa ⟨bl1, s1, hC1, hq⟩
    cases e with
    | normal =>
      have hla := hC1.df.2.same _ _ hl rfl
      have hka := hC1.df.2.same _ _ hk rfl
      have hlt : w.heap.size + 1 < Wa.heap.size := (Array.getElem?_eq_some_iff.1 hla).1
      refine ⟨_, run_beginRound hla (by rw [hrec]), ?_⟩
      obtain ⟨W2, hW2⟩ : ∃ W2, W2 = Wa.putObj (w.heap.size + 1) (.loop { rec .ready none with state := .busy }) := ⟨_, rfl⟩
      rw [← hW2]
      have hl2 : W2.heap[w.heap.size + 1]? = some (.loop { rec .ready none with state := .busy }) := by rw [hW2]; exact World.putObj_heap_same hlt
      have hk2 : W2.heap[w.heap.size]? = some (.deferred (some [])) := by rw [hW2]; exact (World.putObj_heap_other (by omega)).trans hka
      have hb := hq ⟨Γ.w0, Γ.V0, W2, some (w.heap.size + 1)⟩ bl1 a1 W2 ⟨hC1.tm, by
        rw [hW2]; exact mk_turn hC1.df hla (fun d h => by cases h) rfl rfl ⟨_, rfl⟩, by
        rw [hW2]; exact (CW.turn (Γ := ⟨Γ.w0, Γ.V0, W, some (w.heap.size + 1)⟩) hΓ.2 hC1.cw hC1.cs hla rfl (Nat.le_trans hws (Nat.le_succ _)) _).cx rfl, hC1.cs.cx rfl rfl, hC1.ok⟩
      refine wpIn_mono hb ?_
      rintro e a3 W3 ⟨bl3, s3, hC3, hq3⟩
      have hl3 := hC3.df.2.same _ _ hl2 rfl
      have hk3 := hC3.df.2.same _ _ hk2 rfl
      have hlt3 : w.heap.size + 1 < W3.heap.size := (Array.getElem?_eq_some_iff.1 hl3).1
      have hend := fun jump : Option Code => run_endRound (P := P) jump hl3
      have me3 : ∀ E ∈ ms, W3.heap[E]? = some (.deferred (some [])) := keepE (by rw [hW2]; exact putE _ (keepE me hC1.df.2)) hC3.df.2
      have ko3 : KeepsOthers Γ.w1 W3 := KeepsOthers.trans (by rw [hW2]; exact others_put (ko.trans hC1.df.2) (by omega) _) hC3.df.2
      have fin4 : ∀ o : Obj, CW Γ bl [] s3.H s3.V (W3.putObj (w.heap.size + 1) o) ∧ CS Γ bl [] s3.H s3.V ∧ (∀ E ∈ ms, (W3.putObj (w.heap.size + 1) o).heap[E]? = some (.deferred (some []))) ∧ KeepsOthers Γ.w1 (W3.putObj (w.heap.size + 1) o) ∧ (W3.putObj (w.heap.size + 1) o).heap[w.heap.size + 1]? = some o ∧ (W3.putObj (w.heap.size + 1) o).heap[w.heap.size]? = some (.deferred (some [])) := fun o => by
        have c0 : CS Γ bl [] s3.H s3.V := (hC3.cs.cx (Γ' := Γ) rfl rfl).nobox
        exact ⟨((hC3.cw.cx (Γ' := Γ) rfl).nobox).turn hΓ.2 c0 hl3 rfl (by omega) o, c0, putE o me3, others_put ko3 (by omega) o, World.putObj_heap_same hlt3, (World.putObj_heap_other (by omega)).trans hk3⟩
      cases e with
      | normal =>
        obtain ⟨f1, f2, f3, f4, f5, f6⟩ := fin4 (.loop (rec .ready none))
        refine ⟨_, _, hend none, .inl ⟨rfl, s3.H, s3.V, hq3, ?_⟩⟩
        rw [hrec] at f1 f3 f4 f5 f6 ⊢
        exact ⟨f1, f2, f3, f4, f5, f6⟩
      | ret =>
        obtain ⟨f1, f2, f3, f4, f5, f6⟩ := fin4 (.loop (rec .done (some .ret)))
        refine ⟨_, _, hend (some .ret), .inr ⟨rfl, s3.H, s3.V, hq3, ?_⟩⟩
        rw [hrec] at f1 f3 f4 f5 f6 ⊢
        exact ⟨f1, f2, f3, f4, f5, f6⟩
      | _ => exact hq3.elim
    | _ => exact hq.elim
  · rintro e W2 ⟨⟨v, rfl⟩, (⟨H', V', hI, cw, cs, me, ko, hl, hk⟩ | ⟨H', V', hI, cw, cs, me, ko, hl, hk⟩)⟩
    · have he := run_endLoop (P := P) hl (by rw [hrec]; simp)
      rw [hrec] at he
      refine ⟨none, _, he, ?_⟩
      exact ⟨bl, _, fini _ H' V' (cw.turn hΓ.2 cs hl rfl (by omega) _) cs (putE _ me) (others_put ko (by omega) _) ((World.putObj_heap_other (by omega)).trans hk), hdone H' V' hI⟩
    · have he := run_endLoop (P := P) hl (by rw [hrec]; simp)
      rw [hrec] at he
      refine ⟨some .ret, _, he, ?_⟩
      exact wpIn_ret ⟨bl, _, fini _ H' V' (cw.turn hΓ.2 cs hl rfl (by omega) _) cs (putE _ me) (others_put ko (by omega) _) ((World.putObj_heap_other (by omega)).trans hk), hstop H' V' hI⟩
end Go.Proofs.YthoboehbadmlmaaGreat
end
section
namespace Go.Proofs.YthoboehbadmlmaaGreat
open Go Go.RowKit
set_option linter.unusedVariables false
/-- a row is published, anywhere -/
theorem XWP.pub {Γ : Cx} {P : Program} {c : Code} {Q : Exit → XS → Prop} {t : List SV} {bx : List (List Value)} {H : Heap} {V : View} (b : Nat) (r : Row) (hr : H b = some r)
    (h : ∀ o, RowObj r o → V.le (addV V b o) → XWP Γ P c Q ⟨t, bx, upd H b none, addV V b o⟩) : XWP Γ P c Q ⟨t, bx, H, V⟩ := by
  intro bl a w hc
  obtain ⟨o, ho, h3, h4, _, h6⟩ := pub_row hc.cw hc.cs hr
  exact h o ho h6 bl a w ⟨hc.tm, hc.df, h3, h4, hc.ok⟩
/-- a row made new is none that is there -/
theorem new_ne {H : Heap} {b g : Nat} {r : Row} (hb : H b = none) (hg : H g = some r) : g ≠ b := fun e => by rw [e, hb] at hg; cases hg
def MPost (P : Program) (rs : List ResultVar) (R : Value → Heap → View → Prop) : Exit → XS → Prop
  | .normal, s | .ret, s => XPub (fun s' => ∃ vs, resAll P s' rs = some vs ∧ R (oneOf vs) s'.H s'.V) s
  | _, _ => False
/-- A contract over the caller's own rows: from (H, V) to a result and (H', V'). -/
def MSpec (P : Program) (f : FuncId) (args : List Value) (H : Heap) (V : View) (R : Value → Heap → View → Prop) : Prop :=
  ∃ fn c, P.funcs[f]? = some fn ∧ fn.body = some c ∧ ∀ Γ : Cx, Γ.Plain → XWP Γ P c (MPost P fn.results.toList R) ⟨args.map .v ++ List.replicate (fn.ntmps - args.length) (.v undef), [], H, V⟩
theorem MPost_ret {P : Program} {rs : List ResultVar} {R : Value → Heap → View → Prop} {s : XS} : MPost P rs R .ret s = XPub (fun s' => ∃ vs, resAll P s' rs = some vs ∧ R (oneOf vs) s'.H s'.V) s := rfl
theorem MPost_normal {P : Program} {rs : List ResultVar} {R : Value → Heap → View → Prop} {s : XS} : MPost P rs R .normal s = XPub (fun s' => ∃ vs, resAll P s' rs = some vs ∧ R (oneOf vs) s'.H s'.V) s := rfl
theorem MPost.mono {P : Program} {rs : List ResultVar} {R R' : Value → Heap → View → Prop} (hr : ∀ v H V, R v H V → R' v H V) {e : Exit} {s : XS} (h : MPost P rs R e s) : MPost P rs R' e s := by
  cases e with
  | normal => rw [MPost_normal] at h ⊢; exact XPub.mono h fun s' ⟨vs, h1, h2⟩ => ⟨vs, h1, hr _ _ _ h2⟩
  | ret => rw [MPost_ret] at h ⊢; exact XPub.mono h fun s' ⟨vs, h1, h2⟩ => ⟨vs, h1, hr _ _ _ h2⟩
  | _ => exact h
theorem MSpec.mono {P : Program} {f : FuncId} {args : List Value} {H : Heap} {V : View} {R R' : Value → Heap → View → Prop} (h : MSpec P f args H V R) (hr : ∀ v H V, R v H V → R' v H V) : MSpec P f args H V R' := by
  obtain ⟨fn, c, h1, h2, h3⟩ := h
  exact ⟨fn, c, h1, h2, fun Γ hΓ => (h3 Γ hΓ).mono fun e s h => h.mono hr⟩
theorem MSpec.enter {P : Program} {f : FuncId} {fn : Func} {c : Code} {args : List Value} {H : Heap} {V : View} {R : Value → Heap → View → Prop} (hf : P.funcs[f]? = some fn) (hb : fn.body = some c)
    (h : ∀ Γ : Cx, Γ.Plain → XWP Γ P c (MPost P fn.results.toList R) ⟨args.map .v ++ List.replicate (fn.ntmps - args.length) (.v undef), [], H, V⟩) : MSpec P f args H V R := ⟨fn, c, hf, hb, h⟩
theorem retM_go {P : Program} {rs : List ResultVar} {R : Value → Heap → View → Prop} {s : XS} (vs : List Value) (h : resAll P s rs = some vs) (hR : R (oneOf vs) s.H s.V) : MPost P rs R .ret s := by rw [MPost_ret]; exact XPub.now ⟨vs, h, hR⟩
theorem leave_marksK {Γ : Cx} {P : Program} {bl : Nat → Nat} {bx : List (List Value)} {H : Heap} {V : View} (hV0 : Γ.V0.sub Γ.w0) (W0 : World) {fn : Func} {R : Ending → World → Prop} {tmps : Array Value} (hs : CS Γ bl bx H V) : ∀ (ms : List Nat) (w : World), CW Γ bl bx H V w → KeepsOthers W0 w → ms.Nodup → (∀ D ∈ ms, (Γ.w0.heap.size ≤ D ∧ W0.heap.size ≤ D) ∧ w.heap[D]? = some (.deferred (some []))) →
    (∀ w', CW Γ bl bx H V w' → KeepsOthers W0 w' → ∃ v, (results fn tmps).run P w' = .ok v w' ∧ R (.returned v) w') → LeavesInM Fence.wide 0 P fn tmps R (ms.map fun D => { target := .collected D, args := #[] }) .returning w
  | [], w, h, ho, _, _, k => k w h ho
  | D :: ms, w, h, ho, hn, hD, k => by
    obtain ⟨⟨h1, h1'⟩, h2⟩ := hD D (by simp)
    obtain ⟨n1, n2⟩ := List.nodup_cons.1 hn
    refine ⟨by simp, .inl ⟨D, _, rfl, run_takeDeferred h2, leave_marksK hV0 W0 hs ms _ (h.turn hV0 hs h2 rfl h1 _) (others_put ho h1' _) n2 (fun E hE => ?_) k⟩⟩
    obtain ⟨h3, h4⟩ := hD E (by simp [hE])
    exact ⟨h3, (World.putObj_heap_other (fun e => n1 (by rw [← e]; exact hE))).trans h4⟩
/-- The call, in the world. -/
theorem MSpec.calls {P : Program} {f : FuncId} {args : List Value} {H : Heap} {V : View} {R : Value → Heap → View → Prop} (h : MSpec P f args H V R) {Γ : Cx} (hV0 : Γ.V0.sub Γ.w0) {bl : Nat → Nat} {w : World} (hw : CW Γ bl [] H V w) (hs : CS Γ bl [] H V) :
    Calls P f args.toArray w fun e w' => ∃ v H' V', e = .returned v ∧ CW Γ bl [] H' V' w' ∧ CS Γ bl [] H' V' ∧ KeepsOthers w w' ∧ R v H' V' := by
  obtain ⟨fn, c, hf, hb, h⟩ := h
  refine (callsIn_wide (n := 0)).1 (callsIn_of_wp_marks hf hb trivial ?_)
  have hc : Conc ⟨Γ.w0, Γ.V0, w, none⟩ bl ⟨args.map .v ++ List.replicate (fn.ntmps - args.length) (.v undef), [], H, V⟩ { tmps := args.toArray ++ Array.replicate (fn.ntmps - args.toArray.size) undef, defers := [] } w := by
    refine ⟨?_, ⟨⟨[], rfl, List.nodup_nil, fun D hD => by simp at hD⟩, KeepsOthers.refl _⟩, hw.cx rfl, hs.cx rfl rfl, fun x hx => ?_⟩
    · have e1 : (SV.conc bl) ∘ SV.v = id := rfl
      have e2 : (SV.conc bl (SV.v undef)) = undef := rfl
      simp [List.map_append, List.map_map, List.map_replicate, e1, e2]
    · simp only [List.mem_append, List.mem_map, List.mem_replicate] at hx
      rcases hx with ⟨_, _, rfl⟩ | ⟨_, rfl⟩ <;> trivial
  refine wpIn_mono (h ⟨Γ.w0, Γ.V0, w, none⟩ ⟨rfl, hV0⟩ bl _ w hc) ?_
  have fin : ∀ bl1 s a w', Conc ⟨Γ.w0, Γ.V0, w, none⟩ bl1 s a w' → MPost P fn.results.toList R .ret s → LeavesInM Fence.wide 0 P fn a.tmps (fun e w' => ∃ v H' V', e = .returned v ∧ CW Γ bl [] H' V' w' ∧ CS Γ bl [] H' V' ∧ KeepsOthers w w' ∧ R v H' V') a.defers .returning w' := by
    intro bl1 s a w' hC hR
    obtain ⟨H', V', h1, h2, _, _, vs, hvs, hR⟩ := hR ⟨Γ.w0, Γ.V0, w, none⟩ bl1 w' hC.cw hC.cs
    obtain ⟨⟨ms, e1, e2, e3⟩, e4⟩ := hC.df
    rw [e1]
    refine leave_marksK (Γ := ⟨Γ.w0, Γ.V0, w, none⟩) hV0 w h2 ms w' h1 e4 e2 (fun D hD => ⟨⟨Nat.le_trans (Cx.base_ge _) (e3 D hD).1, Nat.le_trans (Cx.base_w1 ⟨Γ.w0, Γ.V0, w, none⟩ rfl) (e3 D hD).1⟩, (e3 D hD).2⟩) fun w'' h3 h4 => ⟨_, ?_, _, H', V', rfl, (h3.cx (Γ' := Γ) rfl).nobox, (h2.cx (Γ' := Γ) rfl rfl).nobox, h4, hR⟩
    exact results_run (Γ := ⟨Γ.w0, Γ.V0, w, none⟩) (a := { tmps := a.tmps, defers := [] }) (s := ⟨s.t, s.bx, H', V'⟩) ⟨hC.tm, ⟨⟨[], rfl, List.nodup_nil, fun D hD => by simp at hD⟩, h4⟩, h3, h2, hC.ok⟩ vs hvs
  rintro e a w' ⟨bl1, s, hC, hq⟩
  cases e with
  | normal => exact fin bl1 s a w' hC hq
  | ret => exact fin bl1 s a w' hC hq
  | _ => exact hq.elim

section
variable {Γ : Cx} {P : Program} {ops : Array Oper} {Q : Exit → XS → Prop}
end
end Go.Proofs.YthoboehbadmlmaaGreat
end
section
namespace Go.Proofs.YthoboehbadmlmaaGreat
open Go Go.RowKit
set_option linter.unusedSimpArgs false
set_option linter.unusedVariables false
attribute [local irreducible] XWP Spec SpecO XPub XCall seqX clX apX stX ldX iaX slX
section
variable {α : Type} {E : El α}
end
theorem flat_one {n : Nat} (u : Value) : (List.replicate n [u]).flatten = List.replicate n u := by
  induction n with
  | zero => rfl
  | succ n ih => rw [List.replicate_succ, List.flatten_cons, ih, List.replicate_succ]; rfl
end Go.Proofs.YthoboehbadmlmaaGreat
end
section
namespace Go.Proofs.YthoboehbadmlmaaGreat
set_option linter.unusedVariables false
def LinG (G : Grid) (R n : Nat) (r x : Nat → Rat) : Prop := ∀ i, i < R → Sm (fun j => G i j * x j) n = r i
/-- fewer equations than unknowns -/
theorem few_eqs : ∀ (n R : Nat) (G : Grid), R < n → ∃ x : Nat → Rat, (∃ j, j < n ∧ x j ≠ 0) ∧ LinG G R n (fun _ => 0) x
  | 0, R, G, h => by omega
  | n + 1, R, G, h => by
    by_cases hz : ∀ i, i < R → G i n = 0
    · refine ⟨fun j => if j = n then 1 else 0, ⟨n, by omega, by dsimp only; rw [if_pos rfl]; decide⟩, fun i hi => ?_⟩
      refine Sm_zero _ fun j hj => ?_
      by_cases e : j = n
      · rw [e, hz i hi]; grind
      · dsimp only; rw [if_neg e]; grind
    · obtain ⟨p, hp⟩ := Classical.not_forall.1 hz
      obtain ⟨hpR, hd⟩ := Classical.not_imp.1 hp
      obtain ⟨s, hs⟩ : ∃ s : Nat → Nat, s = fun i => if i < p then i else i + 1 := ⟨_, rfl⟩
      obtain ⟨x, ⟨j0, hj0, hx0⟩, hx⟩ := few_eqs n (R - 1) (fun i j => G (s i) j - (G (s i) n / G p n) * G p j) (by omega)
      obtain ⟨S, hS⟩ : ∃ S, S = Sm (fun j => G p j * x j) n := ⟨_, rfl⟩
      refine ⟨fun j => if j = n then -(S / G p n) else x j, ⟨j0, by omega, by dsimp only; rw [if_neg (by omega)]; exact hx0⟩, fun i hi => ?_⟩
      have hsum : ∀ i, Sm (fun j => G i j * (if j = n then -(S / G p n) else x j)) (n + 1) = Sm (fun j => G i j * x j) n + G i n * -(S / G p n) := fun i => by
        rw [Sm, if_pos rfl]
        congr 1
        exact Sm_congr _ fun j hj => by rw [if_neg (by omega)]
      rw [hsum]
      by_cases e : i = p
      · rw [e, ← hS, Rat.mul_comm, Rat.neg_mul, Rat.div_mul_cancel hd]; grind
      · have hi' : ∃ k, k < R - 1 ∧ s k = i := by
          by_cases h1 : i < p
          · exact ⟨i, by omega, by rw [hs]; dsimp only; rw [if_pos h1]⟩
          · exact ⟨i - 1, by omega, by rw [hs]; dsimp only; rw [if_neg (by omega)]; omega⟩
        obtain ⟨k, hk, rfl⟩ := hi'
        have h1 := hx k hk
        dsimp only at h1
        rw [Sm_lin, ← hS] at h1
        rw [Rat.div_def] at h1 ⊢
        grind
end Go.Proofs.YthoboehbadmlmaaGreat
end
section
namespace Go.Proofs.YthoboehbadmlmaaGreat
set_option linter.unusedVariables false
theorem Sm_sub (f g : Nat → Rat) (n : Nat) : Sm (fun j => f j - g j) n = Sm f n - Sm g n := by
  induction n with
  | zero => simp only [Sm]; grind
  | succ n ih => simp only [Sm, ih]; grind
theorem Sm_swap (f : Nat → Nat → Rat) (n m : Nat) : Sm (fun i => Sm (f i) m) n = Sm (fun j => Sm (fun i => f i j) n) m := by
  induction n with
  | zero => simp only [Sm]; exact (Sm_zero m fun j _ => rfl).symm
  | succ n ih => simp only [Sm, ih, Sm_add]
end Go.Proofs.YthoboehbadmlmaaGreat
end
section
namespace Go.Proofs.YthoboehbadmlmaaGreat
set_option linter.unusedVariables false
end Go.Proofs.YthoboehbadmlmaaGreat
end
section
namespace Go.Proofs.YthoboehbadmlmaaGreat
open Go Go.RowKit
set_option linter.unusedSimpArgs false
set_option linter.unusedVariables false
attribute [local irreducible] XWP Spec SpecO XPub XCall seqX clX apX stX ldX iaX slX
/-- a grid, row by row -/
def flatF (G : Grid) (C : Nat) (p : Nat) : Rat := G (p / C) (p % C)
def flatG (G : Grid) (R C : Nat) : List Rat := mk (R * C) (flatF G C)
theorem flatF_at (G : Grid) {C i k : Nat} (hk : k < C) : flatF G C (i * C + k) = G i k := by
  unfold flatF
  have e1 : (i * C + k) / C = i := by rw [Nat.mul_comm, Nat.mul_add_div (by omega), Nat.div_eq_of_lt hk, Nat.add_zero]
  have e2 : (i * C + k) % C = k := by rw [Nat.mul_comm, Nat.mul_add_mod, Nat.mod_eq_of_lt hk]
  rw [e1, e2]
theorem flatG_len (G : Grid) (R C : Nat) : (flatG G R C).length = R * C := mk_len _ _
theorem pos_lt {R C i k : Nat} (hi : i < R) (hk : k < C) : i * C + k < R * C := by
  have := Nat.mul_le_mul_right C (show i + 1 ≤ R by omega)
  rw [Nat.add_mul, Nat.one_mul] at this; omega
theorem flatG_at (G : Grid) {R C i k : Nat} (hi : i < R) (hk : k < C) : cf (flatG G R C) (i * C + k) = G i k := by
  unfold flatG
  rw [cf_mk, if_pos (pos_lt hi hk), flatF_at G hk]
theorem flatG_congr {G G' : Grid} {R C : Nat} (h : ∀ i k, i < R → k < C → G i k = G' i k) : flatG G R C = flatG G' R C := by
  unfold flatG
  refine mk_eq fun p hp => ?_
  have hC : 0 < C := by
    rcases Nat.eq_zero_or_pos C with e | e
    · rw [e, Nat.mul_zero] at hp; omega
    · exact e
  exact h _ _ (by rw [Nat.div_lt_iff_lt_mul hC]; exact hp) (Nat.mod_lt _ hC)
/-- a list, read as a grid -/
def gridL (l : List Rat) (C : Nat) : Grid := fun i k => cf l (i * C + k)
theorem flatG_gridL {l : List Rat} {R C : Nat} (h : l.length = R * C) : flatG (gridL l C) R C = l := by
  refine List.ext_getElem (by rw [flatG_len, h]) fun p h1 h2 => ?_
  rw [cf_get h1, cf_get h2]
  have hC : 0 < C := by
    rcases Nat.eq_zero_or_pos C with e | e
    · rw [e, Nat.mul_zero] at h; omega
    · exact e
  unfold flatG
  rw [cf_mk, if_pos (by omega)]
  unfold flatF gridL
  rw [Nat.mul_comm, Nat.div_add_mod]
section
variable {Γ : Cx} {P : Program} {Q : Exit → XS → Prop} {t : List SV} {bx : List (List Value)} {H : Heap} {V : View}
/-- an own list of digits is published -/
theorem XWP.pubN {c : Code} {e n : Nat} {v : Value} {ds : List Nat} (hown : Own H e 1 v n (u32s ds)) (hd : Dig ds) (h : ∀ H' V', V.le V' → NatAt V' v ds → (∀ k, v.ownBlock ≠ some k → H' k = H k) → XWP Γ P c Q ⟨t, bx, H', V'⟩) : XWP Γ P c Q ⟨t, bx, H, V⟩ := by
  have hl : ds.length = n := by have := hown.1; simpa [u32s] using this
  rcases own_parts hown with ⟨rfl, h0, _⟩ | ⟨g, cap, rfl, hg, hle, hcap, _⟩
  · refine h H V (View.le_refl _) ?_ fun _ _ => rfl
    rw [List.length_eq_zero_iff.1 (show ds.length = 0 by omega)]; exact NatAt.nil V
  · refine XWP.pub g _ hg fun o ho hle' => h _ _ hle' (NatAt.pub ho hd hl hle (by unfold maxLen at hcap; omega)) fun k hk => ?_
    unfold upd
    rw [if_neg fun e => hk (by rw [e]; rfl)]
/-- an own list of fractions is published -/
theorem XWP.pubR {α : Type} {E : El α} (hE : ElOk E) {c : Code} {e n : Nat} {v : Value} {cells : List Value} {l : List α} (hown : Own H e 3 v n cells) (hrow : RowAt E V cells l) (h : ∀ H' V', V.le V' → SlAt E V' v l → (∀ k, v.ownBlock ≠ some k → H' k = H k) → XWP Γ P c Q ⟨t, bx, H', V'⟩) : XWP Γ P c Q ⟨t, bx, H, V⟩ := by
  have h1 := hown.1
  have h2 := hrow.1
  have hl : l.length = n := by omega
  rcases own_parts hown with ⟨rfl, h0, _⟩ | ⟨g, cap, rfl, hg, hle, hcap, _⟩
  · refine h H V (View.le_refl _) ?_ fun _ _ => rfl
    rw [List.length_eq_zero_iff.1 (show l.length = 0 by omega)]; exact SlAt.nil V
  · refine XWP.pub g _ hg fun o ho hle' => h _ _ hle' (hrow.pub hE ho hle' hl hle (by unfold maxLen at hcap; omega)) fun k hk => ?_
    unfold upd
    rw [if_neg fun e => hk (by rw [e]; rfl)]
variable {ops : Array Oper} {rest : List Oper} {K : XS → Prop} {s : XS} {d : Option Tmp}
/-- a call of a function value with captures -/
theorem call_gob {f : FuncId} {ys lb : List Value} {R : Value → View → Prop} (hc : callable P f = true) (hs : Spec P f (ys ++ lb) s.V R)
    (h : ∀ v V', s.V.le V' → R v V' → seqX P ops rest K (XS.put ⟨s.t, s.bx, s.H, V'⟩ d (.v v))) : clX P ops rest K s d f (ys.map .v ++ lb.map .v) := by
  have e1 : ((ys.map SV.v ++ lb.map SV.v).all SV.isV) = true := by
    rw [← List.map_append, List.all_map]; exact List.all_eq_true.2 fun _ _ => rfl
  have e2 : (ys.map SV.v ++ lb.map SV.v).map SV.val = ys ++ lb := by
    rw [← List.map_append, List.map_map]; exact List.map_id' _
  exact call_go hc e1 (by rw [e2]; exact hs) h
end
theorem copied_c (V : View) (v : Value) (q : Rat) (h : RatC V v q) (f : QF q) : Spec Tryz.prog 162 [v] V fun v' V' => RatC V' v' q := by
  obtain ⟨n, d, rfl, hn, hd⟩ := h
  obtain ⟨A1, c1, rfl, hc1, hm1⟩ := NatAt.form hn
  obtain ⟨A2, c2, rfl, hc2, hm2⟩ := NatAt.form hd
  have l1 := f.fits.1.len
  have l2 := f.fits.2.len
  refine (Spec.enter Tryz.func162 rfl fun Γ => ?_)
  simp only [Tryz.ntmps162, List.map_cons, List.map_nil, List.length_cons, List.length_nil, Nat.reduceAdd, Nat.reduceSub, List.replicate_succ, List.replicate_zero, List.cons_append, List.nil_append]
  refine Gx.a (by kernel_rfl) fun K hK => ?_
  simp only [XA, XB]
  refine hK _ ?_
  (refine XWP.drw [0, 1, 2, 3, 5, 6, 4, 7, 8, 9] (by kernel_rfl) (by kernel_rfl) (by kernel_rfl) fun K hK => ?_) <;> dsimp only [pickOps, List.getElem?_cons_zero, List.getElem?_cons_succ]
  simp only [XA, XB]
  refine ap_go elemT_46 (by kernel_rfl) zeroT_147 rfl (by omega) (n := 0) (xs := []) own_nil (src_nat hn _) (by omega) (by omega) fun v1 H1 r1 => ?_
  simp only [XA]
  refine ap_go elemT_46 (by kernel_rfl) zeroT_147 rfl (by omega) (n := 0) (xs := []) own_nil (src_nat hd _) (by omega) (by omega) fun v2 H2 r2 => ?_
  obtain ⟨o1, k1, f1⟩ := r1
  obtain ⟨o2, k2, f2⟩ := r2
  simp only [List.nil_append, Nat.zero_add] at o1 o2
  try dsimp only at k1 f1 k2 f2
  have i1 := own_one o1
  have i2 := own_one o2
  have o1' : Own H2 147 1 v1 (dg q.num.natAbs).length (u32s (dg q.num.natAbs)) := by
    refine ⟨o1.1, ?_⟩
    rcases o1.2 with h | ⟨b, cap, rfl, hb, h3⟩
    · exact .inl h
    · refine .inr ⟨b, cap, rfl, ?_, h3⟩
      rw [k2 b fun e => ?_]
      · exact hb
      · rcases f2 b e with h | ⟨h, _⟩
        · cases h
        · rw [hb] at h; cases h
  have dj : ∀ k, v1.ownBlock = some k → v2.ownBlock ≠ some k := fun k e1 e2 => by
    rcases f2 k e2 with h | ⟨h, _⟩
    · cases h
    · rcases o1.2 with ⟨rfl, _⟩ | ⟨b, cap, rfl, hb, _⟩
      · cases e1
      · have : b = k := by simpa [Value.ownBlock] using e1
        subst this; rw [hb] at h; cases h
  simp only [XA]
  refine bd_go (by kernel_rfl) #[(0, .bool (ng q)), (1, v1), (2, v2)] (by simp [ev_tmp, SV.val]) (bd_rat3 rfl i1 i2) ?_
  simp only [XA]
  refine st_rat rfl rfl rfl i1 i2 ?_
  simp only [XA]
  refine hK _ ?_
  refine XWP.pubN o1' (Dig_dg _) fun H3 V3 hV3 g1 hk3 => ?_
  have o2' : Own H3 147 1 v2 (dg q.den).length (u32s (dg q.den)) := by
    refine ⟨o2.1, ?_⟩
    rcases o2.2 with h | ⟨b, cap, rfl, hb, h3⟩
    · exact .inl h
    · exact .inr ⟨b, cap, rfl, by rw [hk3 b fun e => dj b e rfl]; exact hb, h3⟩
  refine XWP.pubN o2' (Dig_dg _) fun H4 V4 hV4 g2 hk4 => ?_
  refine XWP.ret ?_
  try simp only [thenX_ret, inBlockX_ret]
  exact ret_rat1 rfl rfl rfl ⟨_, _, rfl, NatAt.mono g1 hV4, g2⟩
/-- a filled matrix: its row is the caller's -/
theorem filled_o (V : View) {g : FuncId} {lb : List Value} (R C : Nat) (G : Grid) (hcl : callable Tryz.prog g = true) (hR : R ≤ 1000) (hC : C ≤ 1000)
    (hf : ∀ V' i k, V.le V' → i < R → k < C → Spec Tryz.prog g ([.int .i64 (i : Int), .int .i64 (k : Int)] ++ lb) V' fun v' V'' => RatC V'' v' (G i k)) :
    SpecO Tryz.prog 87 [.int .i64 (R : Int), .int .i64 (C : Int), .func (.func g) #[] lb.toArray] V fun v' V' o => ∃ sl cells, v' = .agg #[.int .i64 (R : Int), .int .i64 (C : Int), sl] ∧ Own (addRow (fun _ => none) o) 48 3 sl (R * C) cells ∧ RowAt ratE V' cells (flatG G R C) := by
  have hRC : R * C ≤ 1000000 := Nat.le_trans (Nat.mul_le_mul hR hC) (by decide)
  refine (SpecO.enter Tryz.func87 rfl fun Γ => ?_)
  simp only [Tryz.ntmps87, List.map_cons, List.map_nil, List.length_cons, List.length_nil, Nat.reduceAdd, Nat.reduceSub, List.replicate_succ, List.replicate_zero, List.cons_append, List.nil_append]
  refine Gx.a (by kernel_rfl) fun K hK => ?_
  simp only [XM, XA]
  refine hK _ ?_
  refine Gx.a (by kernel_rfl) fun K hK => ?_
  simp only [XA]
  refine bd_go (by kernel_rfl) #[(0, .int .i64 (R : Int)), (1, .int .i64 (C : Int))] (by simp [ev_tmp, SV.val]) (bd_mtx2 rfl rfl) ?_
  simp only [XM, XA]
  refine st_mat shapeT_24 rfl rfl rfl rfl rfl ?_
  simp only [XA]
  refine hK _ ?_
  clear hK
  refine XWP.cut (fun s => ∃ (V2 : View) (H5 : Heap) (sl : Value) (cells : List Value), StIs (fun Z => [Z 0,Z 1,Z 2,Z 3,Z 4,Z 5, .p 0 0, .p 1 0, Z 8,Z 9,Z 10,Z 11,Z 12,Z 13,Z 14,Z 15,Z 16,Z 17,Z 18,Z 19,Z 20,Z 21,Z 22,Z 23,Z 24,Z 25,Z 26,Z 27,Z 28,Z 29,Z 30,Z 31,Z 32]) [[.int .i64 0, .int .i64 0, .slice none 0 0], [.int .i64 (R : Int), .int .i64 (C : Int), sl]] H5 V2 s ∧ Own H5 48 3 sl (R * C) cells ∧ RowAt ratE V2 cells (flatG G R C)) ?_ ?_
  · refine Gx.a (by kernel_rfl) fun K hK => ?_
    simp only [XA]
    refine hK _ ?_
    clear hK
    refine XWP.block ?_
    refine XWP.loop (fun q s => ∃ (i : Nat) (V2 : View) (H5 : Heap) (sl : Value) (cells : List Value), StIs (fun Z => [.v (.int .i64 (R : Int)), .v (.int .i64 (C : Int)), .v (.func (.func g) #[] lb.toArray), Z 3,Z 4,Z 5, .p 0 0, .p 1 0, Z 8,Z 9,Z 10,Z 11,Z 12, .v (.int .i64 (R : Int)), .v (.int .i64 (i : Int)), Z 15,Z 16,Z 17,Z 18,Z 19,Z 20,Z 21,Z 22,Z 23,Z 24,Z 25,Z 26,Z 27,Z 28,Z 29,Z 30,Z 31,Z 32]) [[.int .i64 0, .int .i64 0, .slice none 0 0], [.int .i64 (R : Int), .int .i64 (C : Int), sl]] H5 V2 s ∧ q + i = R ∧ V.le V2 ∧ Own H5 48 3 sl (i * C) cells ∧ RowAt ratE V2 cells (mk (i * C) (flatF G C))) R ⟨0, V, _, _, [], StIs.of (by exact rfl), by omega, View.le_refl _, by rw [Nat.zero_mul]; exact own_nil, by rw [Nat.zero_mul]; exact RowAt.nil _⟩ ?_
    rintro q s ⟨i, V2, H5, sl, cells, hs, hq, hV2, hown, hrow⟩
    obtain ⟨z, rfl⟩ := hs.out
    try dsimp only
    clear hs
    by_cases hi : i < R
    rotate_left
    · obtain rfl : i = R := by omega
      have b1 : decide ((i : Int) < (i : Int)) = false := decide_eq_false (by omega)
      refine Gx.a (by kernel_rfl) fun K hK => ?_
      simp only [XA, XB, b1]
      refine hK _ ?_
      refine XWP.seq (Gx.f rfl ?_)
      refine XWP.exit ?_
      exact ⟨V2, H5, sl, cells, StIs.of (by exact rfl), hown, hrow⟩
    have b1 : decide ((i : Int) < (R : Int)) = true := decide_eq_true (by omega)
    refine Gx.a (by kernel_rfl) fun K hK => ?_
    simp only [XA, XB, b1]
    refine hK _ ?_
    refine XWP.seq (Gx.t rfl ?_)
    refine XWP.skip ?_
    refine XWP.cut (fun s => ∃ (V3 : View) (H6 : Heap) (sl : Value) (cells : List Value), StIs (fun Z => [.v (.int .i64 (R : Int)), .v (.int .i64 (C : Int)), .v (.func (.func g) #[] lb.toArray), Z 3,Z 4,Z 5, .p 0 0, .p 1 0, Z 8,Z 9,Z 10,Z 11,Z 12, .v (.int .i64 (R : Int)), .v (.int .i64 (i : Int)), Z 15,Z 16,Z 17,Z 18,Z 19,Z 20,Z 21,Z 22,Z 23,Z 24,Z 25,Z 26,Z 27,Z 28,Z 29,Z 30,Z 31,Z 32]) [[.int .i64 0, .int .i64 0, .slice none 0 0], [.int .i64 (R : Int), .int .i64 (C : Int), sl]] H6 V3 s ∧ V2.le V3 ∧ Own H6 48 3 sl ((i + 1) * C) cells ∧ RowAt ratE V3 cells (mk ((i + 1) * C) (flatF G C))) ?_ ?_
    · refine XWP.block ?_
      refine Gx.a (by kernel_rfl) fun K hK => ?_
      simp only [XA]
      refine hK _ ?_
      refine Gx.a (by kernel_rfl) fun K hK => ?_
      simp only [XA]
      refine hK _ ?_
      clear hK
      refine XWP.block ?_
      refine XWP.loop (fun r s => ∃ (k : Nat) (V3 : View) (H6 : Heap) (sl : Value) (cells : List Value), StIs (fun Z => [.v (.int .i64 (R : Int)), .v (.int .i64 (C : Int)), .v (.func (.func g) #[] lb.toArray), Z 3,Z 4,Z 5, .p 0 0, .p 1 0, .v (.int .i64 (i : Int)), Z 9,Z 10,Z 11,Z 12, .v (.int .i64 (R : Int)), .v (.int .i64 (i : Int)), Z 15,Z 16, .v (.int .i64 (C : Int)), .v (.int .i64 (k : Int)), Z 19,Z 20,Z 21,Z 22,Z 23,Z 24,Z 25,Z 26,Z 27,Z 28,Z 29,Z 30,Z 31,Z 32]) [[.int .i64 0, .int .i64 0, .slice none 0 0], [.int .i64 (R : Int), .int .i64 (C : Int), sl]] H6 V3 s ∧ r + k = C ∧ V2.le V3 ∧ Own H6 48 3 sl (i * C + k) cells ∧ RowAt ratE V3 cells (mk (i * C + k) (flatF G C))) C ⟨0, V2, _, _, _, StIs.of (by exact rfl), by omega, View.le_refl _, hown, hrow⟩ ?_
      clear hown hrow
      rintro r s ⟨k, V3, H6, sl, cells, hs, hr, hV3, hown, hrow⟩
      obtain ⟨z, rfl⟩ := hs.out
      try dsimp only
      clear hs
      by_cases hk : k < C
      rotate_left
      · obtain rfl : k = C := by omega
        have b2 : decide ((k : Int) < (k : Int)) = false := decide_eq_false (by omega)
        refine Gx.a (by kernel_rfl) fun K hK => ?_
        simp only [XA, XB, b2]
        refine hK _ ?_
        refine XWP.seq (Gx.f rfl ?_)
        refine XWP.exit ?_
        have e : (i + 1) * k = i * k + k := by rw [Nat.add_mul, Nat.one_mul]
        exact ⟨V3, H6, sl, cells, StIs.of (by exact rfl), hV3, by rw [e]; exact hown, by rw [e]; exact hrow⟩
      have b2 : decide ((k : Int) < (C : Int)) = true := decide_eq_true (by omega)
      have hp := pos_lt hi hk
      refine Gx.a (by kernel_rfl) fun K hK => ?_
      simp only [XA, XB, b2]
      refine hK _ ?_
      refine XWP.seq (Gx.t rfl ?_)
      refine XWP.skip ?_
      refine XWP.seq ?_
      refine XWP.block ?_
      refine Gx.a (by kernel_rfl) fun K hK => ?_
      simp only [XA]
      refine hK _ ?_
      (refine XWP.drw1 [0, 1, 2, 3, 4, 5, 6, 7, 8, 9] (by kernel_rfl) (by kernel_rfl) (by kernel_rfl) fun K hK => ?_) <;> dsimp only [pickOps, List.getElem?_cons_zero, List.getElem?_cons_succ]
      simp only [XM, XA, XB, cv_gob]
      refine call_gob (ys := [.int .i64 (i : Int), .int .i64 (k : Int)]) hcl (hf _ i k (View.le_trans hV2 hV3) hi hk) fun v4 V4 hV4 h4 => ?_
      obtain ⟨x4, y4, rfl, o1, o2⟩ := h4.form
      simp only [XA]
      refine bs_go (by kernel_rfl) #[(0, .agg #[.bool (ng (G i k)), x4, y4])] (by simp [ev_tmp, SV.val]) (bs_rat elemT_22) fun b3 hb3 hb4 => ?_
      simp only [XA, Nat.reduceAdd]
      refine ap_go elemT_22 (by kernel_rfl) zeroT_48 rfl (by omega) (own_upd hown hb3) (src3 (upd_at _ _ _) rfl o1 o2) (by omega) (by omega) fun v' H' hres => ?_
      simp only [XM, XA]
      refine st_one shapeT_22 rfl (own_isOne hres.1) (by simp) ?_
      simp only [XA]
      refine hK _ ?_
      have hrow' := (hrow.mono ratE_ok hV4).snoc (show isOne (.bool (ng (G i k))) = true from rfl) o1 o2 h4
      rw [← flatF_at G hk, ← mk_succ (i * C + k) (flatF G C)] at hrow'
      rw [← flatF_at G hk] at hres
      refine Gx.c (by kernel_rfl) fun K hK => ?_
      simp only [XA, XB, i64_succ k (by omega)]
      exact hK _ ⟨r - 1, by omega, k + 1, V4, _, _, _, StIs.of (by exact rfl), by omega, View.le_trans hV3 hV4, by rw [← Nat.add_assoc]; exact hres.1, by rw [← Nat.add_assoc]; exact hrow'⟩
    clear hown hrow
    rintro s ⟨V3, H6, sl, cells, hs, hV3, hown, hrow⟩
    obtain ⟨z, rfl⟩ := hs.out
    try dsimp only
    refine Gx.c (by kernel_rfl) fun K hK => ?_
    simp only [XA, XB, i64_succ i (by omega)]
    exact hK _ ⟨q - 1, by omega, i + 1, V3, _, _, _, StIs.of (by exact rfl), by omega, View.le_trans hV2 hV3, hown, hrow⟩
  rintro s ⟨V2, H5, sl, cells, hs, hown, hrow⟩
  obtain ⟨z, rfl⟩ := hs.out
  try dsimp only
  have osl := own_isOne hown
  refine Gx.a (by kernel_rfl) fun K hK => ?_
  simp only [XM, XA, Nat.reduceAdd, Nat.reduceLeDiff, ↓reduceIte]
  refine st_mat shapeT_24 rfl rfl rfl rfl osl ?_
  simp only [XA]
  refine hK _ (XWP.ret ?_)
  try simp only [thenX_ret, inBlockX_ret]
  rcases own_parts hown with ⟨rfl, h0, rfl⟩ | ⟨g, cap, rfl, hg, hle, hcap, hcl⟩
  · refine ret_own _ none (by simp [resAll, resV, cellsV, shapeT_24]; rfl) (fun g' q e => by cases e) ⟨_, [], rfl, ⟨by rw [h0]; rfl, .inl ⟨rfl, h0⟩⟩, hrow⟩
  · refine ret_own _ (some (g, _)) (by simp [resAll, resV, cellsV, shapeT_24]; rfl) (fun g' q e => by cases e; exact hg) ⟨_, cells, rfl, own3 (show upd (fun _ => none) g (some _) g = some _ from upd_at _ _ _) hcl hle (by unfold maxLen at hcap; omega), hrow⟩
end Go.Proofs.YthoboehbadmlmaaGreat
end
section
namespace Go.Proofs.YthoboehbadmlmaaGreat
open Go Go.RowKit
set_option linter.unusedSimpArgs false
set_option linter.unusedVariables false
attribute [local irreducible] XWP Spec SpecO XPub XCall seqX clX apX stX ldX iaX slX
theorem dg_nil {a : Nat} (h : (dg a).length = 0) : a = 0 := by
  have := len_zero a
  rw [decide_eq_true (by omega)] at this
  exact of_decide_eq_true this.symm
theorem dg_of_zero {q : Rat} (h : q = 0) : decide ((0 : Int) < ((dg q.num.natAbs).length : Int)) = false := by
  subst h
  show decide ((0 : Int) < ((dg 0).length : Int)) = false
  rw [dg_zero]; rfl
theorem wr_mul {i C : Nat} (hi : i ≤ 1000) (hC : C ≤ 1000) : IntKind.i64.wrap ((i : Int) * (C : Int)) = ((i * C : Nat) : Int) := by
  have := Nat.mul_le_mul hi hC
  rw [← Int.natCast_mul, wrap_id (by omega) (by omega)]
theorem wr_add {p k : Nat} (hp : p ≤ 1000000) (hk : k ≤ 1000000) : IntKind.i64.wrap ((p : Int) + (k : Int)) = ((p + k : Nat) : Int) := by rw [wrap_id (by omega) (by omega)]; omega
end Go.Proofs.YthoboehbadmlmaaGreat
end
section
namespace Go.Proofs.YthoboehbadmlmaaGreat
open Go Go.RowKit
set_option linter.unusedSimpArgs false
set_option linter.unusedVariables false
attribute [local irreducible] XWP Spec SpecO XPub XCall seqX clX apX stX ldX iaX slX
end Go.Proofs.YthoboehbadmlmaaGreat
end
section
namespace Go.Proofs.YthoboehbadmlmaaGreat
open Go Go.RowKit
set_option linter.unusedSimpArgs false
set_option linter.unusedVariables false
attribute [local irreducible] XWP Spec SpecO XPub XCall seqX clX apX stX ldX iaX slX
theorem row_obj {e : TypeId} {vs : List Value} {o : Obj} (h : RowObj ⟨e, vs, vs.length⟩ o) : o = .cells vs.toArray e (0, 0) := by
  obtain ⟨ex, rfl, hl⟩ := h
  have : ex = [] := List.length_eq_zero_iff.1 (by simpa using hl)
  rw [this, List.append_nil]
theorem ldV1 {V : View} {b e : Nat} {vs : List Value} {fr} (h : V b = some (.cells vs.toArray e fr)) {off t m : Nat} {u : Value} (hu : vs[off]? = some u) (ht : shapeT Tryz.prog t = some (false, m)) (H : Heap) : Loads Tryz.prog H V t b off u :=
  ⟨false, m, ht, .inr ⟨rfl, .inr ⟨_, e, fr, h, by rw [List.getElem?_toArray]; exact hu⟩⟩⟩
theorem ldV3 {V : View} {b e : Nat} {x y z : Value} {fr} (h : V b = some (.cells [x, y, z].toArray e fr)) {t : Nat} (ht : shapeT Tryz.prog t = some (true, 3)) (H : Heap) : Loads Tryz.prog H V t b 0 (.agg #[x, y, z]) := by
  refine ⟨true, 3, ht, .inl ⟨rfl, [x, y, z], rfl, fun j u hj => ?_, rfl⟩⟩
  exact .inr ⟨_, e, fr, h, by rw [List.getElem?_toArray, Nat.zero_add]; exact hj⟩
theorem addV_at (V : View) (b : Nat) (o : Obj) : addV V b o b = some o := by unfold addV; rw [if_pos rfl]
end Go.Proofs.YthoboehbadmlmaaGreat
end
section
namespace Go.Proofs.YthoboehbadmlmaaGreat
open Go Go.RowKit
set_option linter.unusedSimpArgs false
set_option linter.unusedVariables false
attribute [local irreducible] XWP Spec SpecO XPub XCall seqX clX apX stX ldX iaX slX
end Go.Proofs.YthoboehbadmlmaaGreat
end
section
namespace Go.Proofs.YthoboehbadmlmaaGreat
open Go Go.RowKit
set_option linter.unusedSimpArgs false
set_option linter.unusedVariables false
attribute [local irreducible] XWP Spec SpecO XPub XCall seqX clX apX stX ldX iaX slX
/-- rows in memory, each with a block of its own; those before k are made -/
structure RowsK (H : Heap) (V : View) (R k : Nat) (mm : Nat → Nat) (G : Grid) (cells : List Value) : Prop where
  len : cells.length = R
  row : ∀ i, i < k → ∃ b c cs, cells[i]? = some (.slice (some ⟨b, 0, none⟩) (mm i) c) ∧ H b = some ⟨48, cs, c * 3⟩ ∧ RowAt ratE V cs (mk (mm i) (G i)) ∧ mm i ≤ c ∧ c ≤ maxLen
  inj : ∀ (i j b m c m' c' : Nat), i < k → j < k → cells[i]? = some (Value.slice (some ⟨b, 0, none⟩) m c) → cells[j]? = some (Value.slice (some ⟨b, 0, none⟩) m' c') → i = j
/-- a row is put in place -/
theorem RowsK.put {H H' : Heap} {V : View} {R k i : Nat} {mm : Nat → Nat} {G : Grid} {cells cs : List Value} {b c : Nat} {m : Nat} {f : Nat → Rat} (h : RowsK H V R k mm G cells) (hi : i < R) (hik : i ≤ k)
    (hb : H' b = some ⟨48, cs, c * 3⟩) (hr : RowAt ratE V cs (Go.Proofs.YthoboehbadmlmaaGreat.mk m f)) (hc : m ≤ c) (hm : c ≤ maxLen)
    (keep : ∀ j b' m' c', j < k → j ≠ i → cells[j]? = some (Value.slice (some ⟨b', 0, none⟩) m' c') → b' ≠ b ∧ H' b' = H b') :
    RowsK H' V R (if i = k then k + 1 else k) (fun j => if j = i then m else mm j) (fun j => if j = i then f else G j) (cells.set i (.slice (some ⟨b, 0, none⟩) m c)) := by
  have hlt : i < cells.length := by rw [h.len]; exact hi
  have lim : ∀ j, j < (if i = k then k + 1 else k) → j = i ∨ (j < k ∧ j ≠ i) := fun j hj => by
    split at hj <;> omega
  refine ⟨by rw [List.length_set]; exact h.len, fun j hj => ?_, fun j j' b1 m1 c1 m2 c2 hj hj' h1 h2 => ?_⟩
  · rcases lim j hj with rfl | ⟨h1, h2⟩
    · refine ⟨b, c, cs, ?_, hb, ?_, ?_, hm⟩
      · rw [List.getElem?_set_self hlt, if_pos rfl]
      · rw [if_pos rfl, if_pos rfl]; exact hr
      · rw [if_pos rfl]; exact hc
    · obtain ⟨b', c', cs', a1, a2, a3, a4, a5⟩ := h.row j h1
      obtain ⟨k1, k2⟩ := keep j b' _ c' h1 h2 a1
      refine ⟨b', c', cs', ?_, by rw [k2]; exact a2, ?_, ?_, a5⟩
      · rw [List.getElem?_set_ne (Ne.symm h2), if_neg h2]; exact a1
      · rw [if_neg h2, if_neg h2]; exact a3
      · rw [if_neg h2]; exact a4
  · rcases lim j hj with rfl | ⟨g1, g2⟩ <;> rcases lim j' hj' with rfl | ⟨g3, g4⟩
    · rfl
    · rw [List.getElem?_set_self hlt] at h1
      rw [List.getElem?_set_ne (Ne.symm g4)] at h2
      cases h1
      exact absurd rfl (keep j' _ _ _ g3 g4 h2).1
    · rw [List.getElem?_set_self hlt] at h2
      rw [List.getElem?_set_ne (Ne.symm g2)] at h1
      cases h2
      exact absurd rfl (keep j _ _ _ g1 g2 h1).1
    · rw [List.getElem?_set_ne (Ne.symm g2)] at h1
      rw [List.getElem?_set_ne (Ne.symm g4)] at h2
      exact h.inj j j' b1 m1 c1 m2 c2 g1 g3 h1 h2
theorem RowsK.congr {H : Heap} {V : View} {R k : Nat} {mm mm' : Nat → Nat} {G G' : Grid} {cells : List Value} (h : RowsK H V R k mm G cells) (em : ∀ i, i < k → mm i = mm' i) (e : ∀ i j, i < k → j < mm i → G i j = G' i j) : RowsK H V R k mm' G' cells :=
  ⟨h.len, fun i hi => by
    obtain ⟨b, c, cs, a1, a2, a3, a4, a5⟩ := h.row i hi
    refine ⟨b, c, cs, by rw [← em i hi]; exact a1, a2, ?_, by rw [← em i hi]; exact a4, a5⟩
    rw [← em i hi, ← mk_congr (e i · hi)]; exact a3, h.inj⟩
/-- all rows of one length: a grid -/
theorem RowsK.grid {H : Heap} {V : View} {R m g cap : Nat} {G : Grid} {cells : List Value} {av : List Nat} (h : RowsK H V R R (fun _ => m) G cells) (hg : H g = some ⟨22, cells, cap * 1⟩) (hc : R ≤ cap) (hm : cap ≤ maxLen) (hav : ∀ (i b m' c' : Nat), i < R → cells[i]? = some (Value.slice (some ⟨b, 0, none⟩) m' c') → b ∉ av) : GridAt H V (.slice (some ⟨g, 0, none⟩) R cap) R m G av := by
  refine ⟨cells, ⟨by rw [h.len, Nat.mul_one], .inr ⟨g, cap, rfl, hg, hc, hm⟩⟩, h.len, fun i v hv => ?_, fun i j b c c' h1 h2 => ?_⟩
  · have hi : i < R := by rw [← h.len]; exact (List.getElem?_eq_some_iff.1 hv).1
    obtain ⟨b, c, cs, a1, a2, a3, a4, a5⟩ := h.row i hi
    have hn := hav i b _ _ hi a1
    rw [hv] at a1
    cases a1
    exact ⟨b, c, cs, rfl, a2, a3, a4, a5, hn⟩
  · have hi : i < R := by rw [← h.len]; exact (List.getElem?_eq_some_iff.1 h1).1
    have hj : j < R := by rw [← h.len]; exact (List.getElem?_eq_some_iff.1 h2).1
    exact h.inj i j b m c m c' hi hj h1 h2
theorem cf_row {l : List Rat} {R C i k : Nat} (hl : l.length = R * C) (hi : i < R) (hk : k < C) : cf ((l.take ((i + 1) * C)).drop (i * C)) k = cf l (i * C + k) := by
  have h1 := pos_lt hi hk
  have h2 : i * C + k < (i + 1) * C := by rw [Nat.add_mul, Nat.one_mul]; omega
  have h3 : (i + 1) * C ≤ l.length := by rw [hl]; exact Nat.mul_le_mul_right C (by omega)
  have e1 : k < ((l.take ((i + 1) * C)).drop (i * C)).length := by rw [List.length_drop, List.length_take]; omega
  rw [← cf_get e1, ← cf_get (show i * C + k < l.length by omega)]
  simp
theorem row_len {l : List Rat} {R C i : Nat} (hl : l.length = R * C) (hi : i < R) : ((l.take ((i + 1) * C)).drop (i * C)).length = C := by
  have h3 : (i + 1) * C ≤ l.length := by rw [hl]; exact Nat.mul_le_mul_right C (by omega)
  rw [List.length_drop, List.length_take, Nat.min_eq_left h3, Nat.add_mul, Nat.one_mul]; omega
theorem row_nat {H : Heap} {V : View} {e c n : Nat} {v' : Value} {xs : List Value} (h : Own H e 3 v' n xs) (hn : 1 ≤ n) : ∃ b cap, v' = .slice (some ⟨b, 0, none⟩) n cap ∧ H b = some ⟨e, xs, cap * 3⟩ ∧ n ≤ cap ∧ cap ≤ maxLen := by
  rcases own_parts h with ⟨_, h0, _⟩ | ⟨b, cap, e1, e2, e3, e4, _⟩
  · omega
  · exact ⟨b, cap, e1, e2, e3, e4⟩
set_option maxHeartbeats 4000000 in
theorem drows_m (H0 : Heap) (V : View) (s : Value) (n c : Nat) (l : List Rat) (h : Rats V s l) (ll : l.length = n * c) (hn : n ≤ 60) (hc1 : 0 < n → 1 ≤ c) (hc : c ≤ 60) :
    MSpec Tryz.prog 57 [.agg #[.int .i64 (n : Int), .int .i64 (c : Int), s]] H0 V fun v' H' V' => V' = V ∧ (∀ k r, H0 k = some r → H' k = some r) ∧ ∃ g cells, v' = .slice (some ⟨g, 0, none⟩) n n ∧ H0 g = none ∧ H' g = some ⟨22, cells, n⟩ ∧
      RowsK H' V n n (fun _ => c) (gridL l c) cells ∧ ∀ i, i < n → ∀ b m' c', cells[i]? = some (Value.slice (some ⟨b, 0, none⟩) m' c') → H0 b = none := by
  obtain ⟨A, cp, rfl, hcp, hm⟩ := h.form
  have hnc : n * c ≤ 3600 := Nat.le_trans (Nat.mul_le_mul hn hc) (by decide)
  refine (MSpec.enter Tryz.func57 rfl fun Γ hΓ => ?_)
  simp only [Tryz.ntmps57, List.map_cons, List.map_nil, List.length_cons, List.length_nil, Nat.reduceAdd, Nat.reduceSub, List.replicate_succ, List.replicate_zero, List.cons_append, List.nil_append]
  refine Gx.a (by kernel_rfl) fun K hK => ?_
  simp only [XA]
  refine hK _ ?_
  refine Gx.a (by kernel_rfl) fun K hK => ?_
  simp only [XM, XA, XB]
  refine mk_go rfl rfl elemT_97 zeroT_22 (by omega) (by omega) (by omega) (by omega) rfl (by omega) fun g hg1 hg2 => ?_
  have hg1 : H0 g = none := hg1
  simp only [XA, flat_one]
  refine hK _ ?_
  refine XWP.cut (fun s => ∃ (H2 : Heap) (outs : List Value), StIs (fun Z => [Z 0,Z 1,Z 2, .v (.slice (some ⟨g, 0, none⟩) n n), Z 4,Z 5,Z 6,Z 7,Z 8,Z 9,Z 10,Z 11,Z 12,Z 13,Z 14,Z 15,Z 16,Z 17,Z 18,Z 19,Z 20,Z 21,Z 22,Z 23,Z 24,Z 25,Z 26,Z 27,Z 28,Z 29,Z 30,Z 31]) [[.int .i64 (n : Int), .int .i64 (c : Int), .slice A l.length cp]] H2 V s ∧ (∀ k r, H0 k = some r → H2 k = some r) ∧ H2 g = some ⟨22, outs, n⟩ ∧ RowsK H2 V n n (fun _ => c) (gridL l c) outs ∧ ∀ i, i < n → ∀ b m' c', outs[i]? = some (Value.slice (some ⟨b, 0, none⟩) m' c') → H0 b = none) ?_ ?_
  · refine Gx.a (by kernel_rfl) fun K hK => ?_
    simp only [XN, XA]
    refine hK _ ?_
    clear hK
    refine XWP.block ?_
    refine XWP.loop (fun q s => ∃ (i : Nat) (H2 : Heap) (outs : List Value), StIs (fun Z => [Z 0, .p 0 0, Z 2, .v (.slice (some ⟨g, 0, none⟩) n n), Z 4,Z 5,Z 6,Z 7,Z 8, .v (.int .i64 (n : Int)), .v (.int .i64 (i : Int)), Z 11,Z 12,Z 13,Z 14,Z 15,Z 16,Z 17,Z 18,Z 19,Z 20,Z 21,Z 22,Z 23,Z 24,Z 25,Z 26,Z 27,Z 28,Z 29,Z 30,Z 31]) [[.int .i64 (n : Int), .int .i64 (c : Int), .slice A l.length cp]] H2 V s ∧ q + i = n ∧ (∀ k r, H0 k = some r → H2 k = some r) ∧ H2 g = some ⟨22, outs, n⟩ ∧ RowsK H2 V n i (fun _ => c) (gridL l c) outs ∧ ∀ j, j < i → ∀ b m' c', outs[j]? = some (Value.slice (some ⟨b, 0, none⟩) m' c') → H0 b = none) n ⟨0, _, _, StIs.of (by exact rfl), by omega, fun k r hk => (upd_off (new_ne hg1 hk)).trans hk, upd_at _ _ _, ⟨List.length_replicate, fun i hi => by omega, fun i j _ _ _ _ _ hi => by omega⟩, fun j hj => by omega⟩ ?_
    rintro q s ⟨i, H2, outs, hs, hq, hkeep, hg, hrows, hfr⟩
    obtain ⟨z, rfl⟩ := hs.out
    try dsimp only
    clear hs
    by_cases hi : i < n
    rotate_left
    · obtain rfl : i = n := by omega
      have b1 : decide ((i : Int) < (i : Int)) = false := decide_eq_false (by omega)
      refine Gx.a (by kernel_rfl) fun K hK => ?_
      simp only [XA, XB, b1]
      refine hK _ ?_
      refine XWP.seq (Gx.f rfl ?_)
      refine XWP.exit ?_
      exact ⟨H2, outs, StIs.of (by exact rfl), hkeep, hg, hrows, hfr⟩
    have hc1 := hc1 (by omega)
    have b1 : decide ((i : Int) < (n : Int)) = true := decide_eq_true (by omega)
    refine Gx.a (by kernel_rfl) fun K hK => ?_
    simp only [XA, XB, b1]
    refine hK _ ?_
    refine XWP.seq (Gx.t rfl ?_)
    refine XWP.skip ?_
    have w1 := wr_mul (i := i) (C := c) (by omega) (by omega)
    have w2 := wr_mul (i := i + 1) (C := c) (by omega) (by omega)
    have w3 := i64_succ i (by omega)
    have hle : i * c ≤ (i + 1) * c := Nat.mul_le_mul_right c (by omega)
    have hle2 : (i + 1) * c ≤ l.length := by rw [ll]; exact Nat.mul_le_mul_right c (by omega)
    have hrow : Rats V (sliceV A cp 3 (i * c) ((i + 1) * c)) ((l.take ((i + 1) * c)).drop (i * c)) := SlAt.drop (SlAt.take h hle2) (by rw [List.length_take, Nat.min_eq_left hle2]; exact hle)
    have hrl := row_len ll hi
    have hcf : ∀ k, k < c → cf ((l.take ((i + 1) * c)).drop (i * c)) k = gridL l c i k := fun k hk => cf_row ll hi hk
    generalize (l.take ((i + 1) * c)).drop (i * c) = R at *
    obtain ⟨cs, hcs, hsrc⟩ := hrow.src
    have eR : R = mk c (gridL l c i) := List.ext_getElem (by rw [mk_len, hrl]) fun k a b => by rw [cf_get a, cf_get b, cf_mk, if_pos (by omega)]; exact hcf k (by omega)
    rw [eR] at hcs
    rw [hrl] at hsrc
    refine XWP.seq ?_
    refine XWP.block ?_
    refine Gx.a (by kernel_rfl) fun K hK => ?_
    simp only [XA]
    refine hK _ ?_
    refine Gx.c (by kernel_rfl) fun K hK => ?_
    simp only [XA]
    refine bs_go (by kernel_rfl) #[] (by simp) (bs_zero elemT_22 zeroT_48) fun b0 hb0 hb0' => ?_
    simp only [XM, XA, XB, w1, w2, w3]
    refine ⟨by omega, by omega, by omega, ?_⟩
    try simp only [XM, XN, XA, XB, gateX, Nat.reduceAdd, Nat.reduceLeDiff, Nat.reduceSub, Nat.reduceMul, ↓reduceIte, Int.reduceToNat, Int.reduceLE, beq_self_eq_true]
    have own0 : Own (upd H2 b0 (some ⟨48, [], 0⟩)) 48 3 (.slice (some ⟨b0, 0, none⟩) 0 0) 0 [] := ⟨rfl, .inr ⟨b0, 0, rfl, upd_at _ _ _, Nat.le_refl _, by unfold maxLen; omega⟩⟩
    refine ap_go elemT_22 (by kernel_rfl) zeroT_48 rfl (by omega) own0 (hsrc _) (by omega) (by omega) fun v' H3 hres => ?_
    obtain ⟨ho, hk3, hg3⟩ := hres
    rw [Nat.zero_add, List.nil_append] at ho
    obtain ⟨b, cap, rfl, hb, hcap, hmax⟩ := row_nat (V := V) (c := c) ho hc1
    have hbn : H2 b = none := by
      rcases hg3 b rfl with e | ⟨e, _⟩
      · have : b0 = b := by simpa [Value.ownBlock] using e
        rw [← this]; exact hb0
      · have e' : upd H2 b0 (some ⟨48, [], 0⟩) b = none := e
        by_cases e2 : b = b0
        · rw [e2]; exact hb0
        · rwa [upd_off e2] at e'
    have hk4 : ∀ k r, H2 k = some r → k ≠ b ∧ H3 k = some r := fun k r hk => by
      have n1 : k ≠ b := new_ne hbn hk
      have n2 : k ≠ b0 := new_ne hb0 hk
      exact ⟨n1, (hk3 k (fun e => n1 (by simpa [Value.ownBlock] using e.symm))).trans ((upd_off n2).trans hk)⟩
    have hgb := (hk4 g _ hg).2
    have ngb := (hk4 g _ hg).1
    simp only [XN, XA, XB]
    refine ⟨by omega, by omega, ?_⟩
    refine st_row shapeT_22 rfl rfl hgb (by have := hrows.len; dsimp only; omega) ?_
    simp only [XA]
    refine hK _ ?_
    refine Gx.c (by kernel_rfl) fun K hK => ?_
    simp only [XA, XB, w3]
    have hput := hrows.put (H' := upd H3 g (some ⟨22, outs.set i (.slice (some ⟨b, 0, none⟩) c cap), n⟩)) (i := i) (f := gridL l c i) hi (Nat.le_refl _) ((upd_off (Ne.symm ngb)).trans hb) hcs hcap hmax fun j b' m' c' hj hne hjc => by
      obtain ⟨b2, c2, cs2, a1, a2, _⟩ := hrows.row j hj
      rw [hjc] at a1
      cases a1
      obtain ⟨n1, n2⟩ := hk4 b' _ a2
      exact ⟨n1, by rw [upd_off (fun e => by rw [e, hg] at a2; cases a2), n2, a2]⟩
    rw [if_pos rfl] at hput
    refine hK _ ⟨q - 1, by omega, i + 1, _, _, StIs.of (by exact rfl), by omega, fun k r hk => ?_, upd_at _ _ _, hput.congr (fun j _ => by split <;> rfl) (fun j k _ _ => by split <;> simp_all), fun j hj b' m' c' hjc => ?_⟩
    · by_cases e : k = g
      · rw [e, hg1] at hk; cases hk
      · rw [upd_off e]; exact (hk4 k r (hkeep k r hk)).2
    · by_cases e : j = i
      · rw [e, List.getElem?_set_self (by rw [hrows.len]; exact hi)] at hjc
        cases hjc
        cases e2 : H0 b
        · rfl
        · rw [hkeep b _ e2] at hbn; cases hbn
      · rw [List.getElem?_set_ne (Ne.symm e)] at hjc
        exact hfr j (by omega) b' m' c' hjc
  rintro s ⟨H2, outs, hs, hkeep, hg, hrows, hfr⟩
  obtain ⟨z, rfl⟩ := hs.out
  try dsimp only
  refine Gx.a (by kernel_rfl) fun K hK => ?_
  simp only [XA]
  refine hK _ (XWP.ret ?_)
  try simp only [thenX_ret, inBlockX_ret]
  exact retM_go _ rfl ⟨rfl, hkeep, g, outs, rfl, hg1, hg, hrows, hfr⟩
end Go.Proofs.YthoboehbadmlmaaGreat
end
section
namespace Go.Proofs.YthoboehbadmlmaaGreat
set_option linter.unusedVariables false
def sg1 (k : Nat) : Rat := if k % 2 = 0 then 1 else -1
def sk (j k : Nat) : Nat := if k < j then k else k + 1
def minor (G : Grid) (j : Nat) : Grid := fun i k => G (i + 1) (sk j k)
def detL : Nat → Grid → Rat
  | 0, _ => 1
  | n + 1, G => Sm (fun j => sg1 j * (G 0 j * detL n (minor G j))) (n + 1)
theorem sg1_succ (k : Nat) : sg1 (k + 1) = - sg1 k := by
  unfold sg1
  split <;> split <;> first | omega | grind
theorem sk_lt {n j k : Nat} (hk : k < n) : sk j k < n + 1 := by unfold sk; split <;> omega
theorem detL_congr : ∀ (n : Nat) {G H : Grid}, (∀ i k, i < n → k < n → G i k = H i k) → detL n G = detL n H
  | 0, _, _, _ => rfl
  | n + 1, G, H, h => by
    unfold detL
    refine Sm_congr _ fun j hj => ?_
    have e := detL_congr n (G := minor G j) (H := minor H j) fun i k hi hk => h (i + 1) (sk j k) (by omega) (sk_lt hk)
    rw [h 0 j (by omega) hj, e]
def setR (G : Grid) (r : Nat) (v : Nat → Rat) : Grid := fun i k => if i = r then v k else G i k
theorem setR_at (G : Grid) (r : Nat) (v : Nat → Rat) (k : Nat) : setR G r v r k = v k := by unfold setR; rw [if_pos rfl]
theorem setR_off {G : Grid} {r i : Nat} (v : Nat → Rat) (k : Nat) (h : i ≠ r) : setR G r v i k = G i k := by unfold setR; rw [if_neg h]
theorem minor_set0 (G : Grid) (v : Nat → Rat) (j : Nat) : minor (setR G 0 v) j = minor G j := by
  funext i k; unfold minor; exact setR_off v _ (by omega)
theorem minor_setS (G : Grid) (r : Nat) (v : Nat → Rat) (j : Nat) : minor (setR G (r + 1) v) j = setR (minor G j) r (fun k => v (sk j k)) := by
  funext i k; unfold minor setR
  by_cases e : i = r
  · rw [if_pos (by omega), if_pos e]
  · rw [if_neg (by omega), if_neg e]
/-- linear in each row -/
theorem detL_lin (a b : Rat) : ∀ (n : Nat) (G : Grid) (r : Nat) (v w : Nat → Rat), r < n → detL n (setR G r fun k => a * v k + b * w k) = a * detL n (setR G r v) + b * detL n (setR G r w)
  | 0, _, _, _, _, h => by omega
  | n + 1, G, 0, v, w, _ => by
    unfold detL
    simp only [minor_set0, setR_at]
    rw [← Sm_mul, ← Sm_mul, ← Sm_add]
    exact Sm_congr _ fun j _ => by grind
  | n + 1, G, r + 1, v, w, h => by
    unfold detL
    simp only [minor_setS]
    rw [← Sm_mul, ← Sm_mul, ← Sm_add]
    refine Sm_congr _ fun j hj => ?_
    rw [detL_lin a b n (minor G j) r (fun k => v (sk j k)) (fun k => w (sk j k)) (by omega), setR_off _ _ (by omega), setR_off _ _ (by omega), setR_off _ _ (by omega)]
    grind
theorem detL_scale (a : Rat) {n : Nat} {G : Grid} {r : Nat} (v : Nat → Rat) (hr : r < n) : detL n (setR G r fun k => a * v k) = a * detL n (setR G r v) := by
  have := detL_lin a 0 n G r v v hr
  rw [show (fun k => a * v k + 0 * v k) = fun k => a * v k by funext k; grind] at this
  rw [this]; grind
theorem detL_zrow {n : Nat} {G : Grid} {r : Nat} (hr : r < n) (h : ∀ k, k < n → G r k = 0) : detL n G = 0 := by
  have e : detL n G = detL n (setR G r fun k => 0 * G r k) := detL_congr n fun i k hi hk => by
    by_cases ei : i = r
    · subst ei; rw [setR_at, h k hk]; grind
    · rw [setR_off _ _ ei]
  rw [e, detL_scale 0 _ hr]; grind
theorem Sm_skip (g : Nat → Rat) : ∀ (n j : Nat), j ≤ n → Sm g (n + 1) = g j + Sm (fun k => g (sk j k)) n
  | 0, j, h => by
    have : j = 0 := by omega
    subst this
    simp only [Sm]; grind
  | n + 1, j, h => by
    by_cases e : j = n + 1
    · subst e
      have : Sm (fun k => g (sk (n + 1) k)) (n + 1) = Sm g (n + 1) := Sm_congr _ fun k hk => by unfold sk; rw [if_pos hk]
      rw [this]
      show Sm g (n + 1) + g (n + 1) = _
      grind
    · have ih := Sm_skip g n j (by omega)
      show Sm g (n + 1) + g (n + 1) = g j + (Sm (fun k => g (sk j k)) n + g (sk j n))
      rw [ih]
      have : sk j n = n + 1 := by unfold sk; rw [if_neg (by omega)]
      rw [this]; grind
/-- both columns left out -/
def s2 (j k b : Nat) : Nat := if b < min j k then b else if b + 1 < max j k then b + 1 else b + 2
theorem s2_comm (j k b : Nat) : s2 j k b = s2 k j b := by unfold s2; rw [Nat.min_comm, Nat.max_comm]
theorem sk_sk (j k b : Nat) : sk j (sk k b) = s2 j (sk j k) b := by
  unfold s2 sk
  by_cases h1 : k < j <;> by_cases h2 : b < k <;> by_cases h3 : b < j <;> by_cases h4 : b + 1 < j <;> simp only [h1, h2, h3, h4, ↓reduceIte] <;> (try split) <;> (try split) <;> (try split) <;> omega
def eps (j k : Nat) : Rat := if j = k then 0 else if k < j then 1 else -1
theorem eps_anti (j k : Nat) : eps k j = - eps j k := by
  unfold eps
  by_cases e : j = k
  · rw [if_pos e, if_pos e.symm]; grind
  · rw [if_neg e, if_neg (Ne.symm e)]
    by_cases h : k < j
    · rw [if_pos h, if_neg (by omega)]
    · rw [if_neg h, if_pos (by omega)]; grind
theorem eps_sk (j k : Nat) : eps j (sk j k) * sg1 (sk j k) = sg1 k := by
  unfold eps sk
  by_cases h : k < j
  · rw [if_pos h, if_neg (by omega), if_pos h]; grind
  · rw [if_neg h, if_neg (by omega), if_neg (by omega), sg1_succ]; grind
theorem detL_two (n : Nat) (G : Grid) : detL (n + 2) G = Sm (fun j => Sm (fun k => eps j k * (sg1 j * sg1 k * (G 0 j * G 1 k * detL n (fun i b => G (i + 2) (s2 j k b))))) (n + 2)) (n + 2) := by
  rw [detL]
  refine Sm_congr _ fun j hj => ?_
  rw [Sm_skip _ (n + 1) j (by omega)]
  have e0 : eps j j = 0 := by unfold eps; rw [if_pos rfl]
  rw [e0, detL, ← Sm_mul, ← Sm_mul]
  have : ∀ x : Rat, 0 * x = 0 := fun x => by grind
  rw [this, Rat.zero_add]
  refine Sm_congr _ fun k hk => ?_
  have e1 : detL n (minor (minor G j) k) = detL n (fun i b => G (i + 2) (s2 j (sk j k) b)) := by
    congr 1; funext i b; unfold minor; rw [sk_sk]
  have e2 : minor G j 0 k = G 1 (sk j k) := rfl
  have e3 := eps_sk j k
  rw [e1, e2, ← e3]
  grind
theorem detL_adj0 {n : Nat} {G : Grid} (h : ∀ k, k < n + 2 → G 0 k = G 1 k) : detL (n + 2) G = 0 := by
  obtain ⟨F, hF⟩ : ∃ F : Nat → Nat → Rat, F = fun j k => eps j k * (sg1 j * sg1 k * (G 0 j * G 1 k * detL n (fun i b => G (i + 2) (s2 j k b)))) := ⟨_, rfl⟩
  have e1 : detL (n + 2) G = Sm (fun j => Sm (F j) (n + 2)) (n + 2) := by rw [hF]; exact detL_two n G
  have e2 : detL (n + 2) G = Sm (fun k => Sm (fun j => F j k) (n + 2)) (n + 2) := by rw [e1, Sm_swap]
  have e3 : Sm (fun k => Sm (fun j => F j k) (n + 2)) (n + 2) = -1 * Sm (fun k => Sm (F k) (n + 2)) (n + 2) := by
    rw [← Sm_mul]
    refine Sm_congr _ fun k hk => ?_
    rw [← Sm_mul]
    refine Sm_congr _ fun j hj => ?_
    rw [hF]
    show eps j k * (sg1 j * sg1 k * (G 0 j * G 1 k * detL n (fun i b => G (i + 2) (s2 j k b)))) = -1 * (eps k j * (sg1 k * sg1 j * (G 0 k * G 1 j * detL n (fun i b => G (i + 2) (s2 k j b)))))
    have : (fun i b => G (i + 2) (s2 k j b)) = fun i b => G (i + 2) (s2 j k b) := by funext i b; rw [s2_comm]
    rw [this, eps_anti j k, h j hj, h k hk]
    grind
  rw [e3, ← e1] at e2
  grind
theorem detL_adj : ∀ (n r : Nat) {G : Grid}, r + 1 < n → (∀ k, k < n → G r k = G (r + 1) k) → detL n G = 0
  | 0, _, _, h, _ => by omega
  | 1, _, _, h, _ => by omega
  | n + 2, 0, G, _, h => detL_adj0 h
  | n + 2, r + 1, G, hr, h => by
    rw [detL]
    refine Sm_zero _ fun j hj => ?_
    rw [detL_adj (n + 1) r (G := minor G j) (by omega) fun k hk => h (sk j k) (sk_lt hk)]
    grind
def set2 (G : Grid) (r s : Nat) (v w : Nat → Rat) : Grid := setR (setR G r v) s w
theorem set2_comm {G : Grid} {r s : Nat} (h : r ≠ s) (v w : Nat → Rat) : set2 G r s v w = setR (setR G s w) r v := by
  funext i k; unfold set2 setR
  by_cases e : i = s
  · rw [if_pos e, if_neg (by omega), if_pos e]
  · rw [if_neg e]
    by_cases e2 : i = r
    · rw [if_pos e2, if_pos e2]
    · rw [if_neg e2, if_neg e2, if_neg e]
theorem detL_polar {n : Nat} {G : Grid} {r s : Nat} (hr : r < n) (hs : s < n) (hne : r ≠ s) (H : ∀ v, detL n (set2 G r s v v) = 0) (v w : Nat → Rat) : detL n (set2 G r s v w) = - detL n (set2 G r s w v) := by
  have h1 := H fun k => 1 * v k + 1 * w k
  have h2 : detL n (set2 G r s (fun k => 1 * v k + 1 * w k) fun k => 1 * v k + 1 * w k) = 1 * detL n (set2 G r s (fun k => 1 * v k + 1 * w k) v) + 1 * detL n (set2 G r s (fun k => 1 * v k + 1 * w k) w) := detL_lin 1 1 n _ s v w hs
  have h3 : ∀ u, detL n (set2 G r s (fun k => 1 * v k + 1 * w k) u) = 1 * detL n (set2 G r s v u) + 1 * detL n (set2 G r s w u) := fun u => by
    rw [set2_comm hne, set2_comm hne, set2_comm hne]; exact detL_lin 1 1 n _ r v w hr
  rw [h1, h3, h3, H v, H w] at h2
  grind
theorem set2_self {G : Grid} {r s : Nat} (v w : Nat → Rat) (hv : ∀ k, v k = G r k) (hw : ∀ k, w k = G s k) : set2 G r s v w = G := by
  funext i k; unfold set2 setR
  by_cases e : i = s
  · rw [if_pos e, hw, e]
  · rw [if_neg e]
    by_cases e2 : i = r
    · rw [if_pos e2, hv, e2]
    · rw [if_neg e2]
/-- two rows that are the same -/
theorem detL_alt {n : Nat} : ∀ (d i : Nat) {G : Grid}, i + d + 1 < n → (∀ k, G i k = G (i + d + 1) k) → detL n G = 0
  | 0, i, G, h, e => detL_adj n i h fun k _ => e k
  | d + 1, i, G, h, e => by
    have H : ∀ v, detL n (set2 G (i + d + 1) (i + d + 2) v v) = 0 := fun v => by
      have h1 : i + d + 1 + 1 < n := by omega
      refine detL_adj n (i + d + 1) h1 fun k _ => ?_
      show setR (setR G (i + d + 1) v) (i + d + 2) v (i + d + 1) k = setR (setR G (i + d + 1) v) (i + d + 2) v (i + d + 2) k
      rw [setR_off (r := i + d + 2) (i := i + d + 1) _ _ (by omega), setR_at, setR_at]
    have hp := detL_polar (n := n) (G := G) (r := i + d + 1) (s := i + d + 2) (by omega) (by omega) (by omega) H (G (i + d + 1)) (G (i + d + 2))
    rw [set2_self _ _ (fun _ => rfl) (fun _ => rfl)] at hp
    have ih := detL_alt (n := n) d i (G := set2 G (i + d + 1) (i + d + 2) (G (i + d + 2)) (G (i + d + 1))) (by omega) fun k => by
      show setR (setR G (i + d + 1) (G (i + d + 2))) (i + d + 2) (G (i + d + 1)) i k = setR (setR G (i + d + 1) (G (i + d + 2))) (i + d + 2) (G (i + d + 1)) (i + d + 1) k
      rw [setR_off (r := i + d + 2) (i := i) _ _ (by omega), setR_off (r := i + d + 1) (i := i) _ _ (by omega), setR_off (r := i + d + 2) (i := i + d + 1) _ _ (by omega), setR_at]
      exact e k
    rw [hp, ih]; grind
theorem detL_same {n i j : Nat} {G : Grid} (hi : i < n) (hj : j < n) (hne : i ≠ j) (e : ∀ k, G i k = G j k) : detL n G = 0 := by
  rcases Nat.lt_or_ge i j with h | h
  · have ej : i + (j - i - 1) + 1 = j := by omega
    exact detL_alt (j - i - 1) i (by omega) fun k => by rw [ej]; exact e k
  · have ej : j + (i - j - 1) + 1 = i := by omega
    exact detL_alt (i - j - 1) j (by omega) fun k => by rw [ej]; exact (e k).symm
theorem detL_set_same {n i j : Nat} {G : Grid} (hi : i < n) (hj : j < n) (hne : i ≠ j) : detL n (setR G i (G j)) = 0 :=
  detL_same hi hj hne fun k => by rw [setR_at, setR_off _ _ (Ne.symm hne)]
theorem setR_self (G : Grid) (r : Nat) : setR G r (G r) = G := by
  funext i k; unfold setR
  split
  · rename_i e; rw [e]
  · rfl
/-- the steps of an elimination -/
theorem detL_sub {n i t : Nat} {G : Grid} (f : Rat) (hi : i < n) (ht : t < n) (hne : i ≠ t) : detL n (setR G i fun k => G i k - f * G t k) = detL n G := by
  have := detL_lin 1 (-f) n G i (G i) (G t) hi
  rw [setR_self, detL_set_same hi ht hne] at this
  rw [show (fun k => G i k - f * G t k) = fun k => 1 * G i k + -f * G t k by funext k; grind, this]
  grind
theorem detL_swap {n p t : Nat} {G : Grid} (hp : p < n) (ht : t < n) (hne : p ≠ t) : detL n (gsw G p t) = - detL n G := by
  have hp2 := detL_polar (n := n) (G := G) hp ht hne (fun v => detL_same hp ht hne fun k => by unfold set2; rw [setR_off _ _ hne, setR_at, setR_at]) (G t) (G p)
  rw [set2_self (G := G) (r := p) (s := t) (G p) (G t) (fun _ => rfl) (fun _ => rfl)] at hp2
  rw [← hp2]
  congr 1
  funext i k
  unfold gsw swp set2 setR
  by_cases e : i = t
  · subst e; simp [Ne.symm hne]
  · by_cases e2 : i = p
    · subst e2; simp [e]
    · simp [e, e2]
def gid : Grid := fun i k => if i = k then 1 else 0
theorem detL_id : ∀ n, detL n gid = 1
  | 0 => rfl
  | n + 1 => by
    rw [detL, Sm_one (k := 0) (by omega) fun j hj hne => by
      have : gid 0 j = 0 := by unfold gid; rw [if_neg (Ne.symm hne)]
      rw [this]; grind]
    have e1 : minor gid 0 = gid := by
      funext i k; unfold minor gid sk
      simp
    rw [e1, detL_id n]
    unfold sg1 gid
    rw [if_pos rfl, if_pos (by rfl)]
    grind
/-- the adjugate -/
def adjG (n : Nat) (G : Grid) : Grid := fun i j => detL n (setR G j (gid i))
theorem detL_row {n j : Nat} (G : Grid) (v : Nat → Rat) (hj : j < n) : detL n (setR G j v) = Sm (fun i => v i * adjG n G i j) n := by
  have key : ∀ m, m ≤ n → detL n (setR G j fun k => if k < m then v k else 0) = Sm (fun i => v i * adjG n G i j) m := by
    intro m
    induction m with
    | zero => intro _; exact detL_zrow hj fun k _ => by rw [setR_at, if_neg (by omega)]
    | succ m ih =>
      intro hm
      have e : detL n (setR G j fun k => if k < m + 1 then v k else 0) = detL n (setR G j fun k => 1 * (if k < m then v k else 0) + v m * gid m k) := by
        congr 1; congr 1; funext k
        unfold gid
        by_cases h1 : k < m
        · rw [if_pos (by omega), if_pos h1, if_neg (by omega)]; grind
        · rw [if_neg h1]
          by_cases h2 : m = k
          · subst h2; rw [if_pos (by omega), if_pos rfl]; grind
          · rw [if_neg (by omega), if_neg h2]; grind
      rw [e, detL_lin 1 (v m) n G j _ _ hj, ih (by omega)]
      show _ = Sm (fun i => v i * adjG n G i j) m + v m * adjG n G m j
      unfold adjG
      grind
  rw [← key n (Nat.le_refl _)]
  exact detL_congr n fun i k hi hk => by
    by_cases e : i = j
    · subst e; rw [setR_at, setR_at, if_pos hk]
    · rw [setR_off _ _ e, setR_off _ _ e]
theorem adj_mul {n k j : Nat} (G : Grid) (hk : k < n) (hj : j < n) : Sm (fun i => G k i * adjG n G i j) n = if k = j then detL n G else 0 := by
  rw [← detL_row G (G k) hj]
  by_cases e : k = j
  · subst e; rw [setR_self, if_pos rfl]
  · rw [if_neg e, detL_set_same hj hk (Ne.symm e)]
end Go.Proofs.YthoboehbadmlmaaGreat
end
