/- The recurrence package's Fraction, Series and Sum agree with the reference's, errors included. (part 8 of 12) -/
import Derived.OrdersHeld
import Derived.Below
import Derived.Tactics
import Derived.KernelRfl
import Derived.RangeFuncCalls
import Derived.RangeFuncFrom
import Derived.RangeFuncLeaves
import Derived.OrdersIn
import Derived.Laws.AppendOwn
import Derived.Laws.MakeOwn
import Derived.Laws.CopyRow
import Derived.Laws.Cells
import Derived.Laws.World
import Derived.Laws.Alloc2
import Derived.Laws.NewBlocks
import Derived.Maps.AppendAt
import Derived.Test.YthoboehbadmlmaaProg
import Init.Data.List.Lemmas
import Init.Omega
import Derived.Test.YthoboehbadmlmaaFR7
section
namespace Go.Proofs.Ythoboehbadmlmaa
open Go Go.RowKit
set_option linter.unusedSimpArgs false
set_option linter.unusedVariables false
attribute [local irreducible] XWP Spec SpecO XPub XCall seqX clX apX stX ldX iaX slX
abbrev Rats (V : View) (v : Value) (l : List Rat) : Prop := SlAt ratE V v l
theorem Rats.up {V V' : View} {v : Value} {l : List Rat} (h : Rats V v l) (hV : V.le V') : Rats V' v l := SlAt.mono ratE_ok h hV
theorem Rats.get {V : View} {b o n c : Nat} {l : List Rat} (h : Rats V (.slice (some ⟨b, o, none⟩) n c) l) (i : Nat) (hi : i < l.length) : ∃ m n d, RatC V (.agg #[m, n, d]) (cf l i) ∧ (isOne m = true ∧ isOne n = true ∧ isOne d = true) ∧ ∀ H, Loads Try.prog H V 34 b (o + i * 3) (.agg #[m, n, d]) := by
  obtain ⟨v, h1, ⟨m, n, d, rfl, o1⟩, h2⟩ := SlAt.load h i hi
  rw [cf_get hi] at h1
  exact ⟨m, n, d, h1, o1, h2⟩
theorem RatC.form {V : View} {v : Value} {q : Rat} (h : RatC V v q) : ∃ x y, v = .agg #[.bool (ng q), x, y] ∧ isOne x = true ∧ isOne y = true := by
  obtain ⟨n, d, e, h1, h2⟩ := h; exact ⟨n, d, e, h1.one, h2.one⟩
theorem czero_c (V : View) (v : Value) (q : Rat) (h : RatC V v q) : Spec Try.prog 54 [v] V fun v' V' => v' = .bool (decide (q = 0)) := by
  obtain ⟨n, d, rfl, hn, hd⟩ := h
  obtain ⟨A, c, rfl, _, _⟩ := NatAt.form hn
  refine (Spec.enter Try.func54 rfl fun Γ => ?_)
  simp only [Try.ntmps54, List.map_cons, List.map_nil, List.length_cons, List.length_nil, Nat.reduceAdd, Nat.reduceSub, List.replicate_succ, List.replicate_zero, List.cons_append, List.nil_append]
  first | refine Gx.a (by kernel_rfl) fun K hK => ?_ | refine Gx.b (by kernel_rfl) fun K hK => ?_ | refine Gx.c (by kernel_rfl) fun K hK => ?_
  simp only [XA, XB, gateX, Nat.reduceAdd, Nat.reduceLeDiff, Nat.reduceSub, Nat.reduceMul, ↓reduceIte, Int.reduceToNat, Int.reduceLE, beq_self_eq_true]
  refine hK _ ?_
  first | refine Gx.a (by kernel_rfl) fun K hK => ?_ | refine Gx.b (by kernel_rfl) fun K hK => ?_ | refine Gx.c (by kernel_rfl) fun K hK => ?_
  simp only [XA, XB, gateX, Nat.reduceAdd, Nat.reduceLeDiff, Nat.reduceSub, Nat.reduceMul, ↓reduceIte, Int.reduceToNat, Int.reduceLE, beq_self_eq_true, len_zero]
  refine hK _ (XWP.ret ?_)
  try simp only [thenX_ret, inBlockX_ret]
  refine ret_go _ rfl ?_
  show Value.bool _ = _
  congr 1
  rw [decide_eq_decide]
  exact (rat_zero_iff q).symm
theorem cget_c (V : View) (v : Value) (l : List Rat) (i : Nat) (h : Rats V v l) (hi : i ≤ 4611686018427387904) : Spec Try.prog 58 [v, .int .i64 (i : Int)] V fun v' V' => RatC V' v' (cf l i) := by
  obtain ⟨A, c, rfl, hc, hm⟩ := h.form
  refine (Spec.enter Try.func58 rfl fun Γ => ?_)
  simp only [Try.ntmps58, List.map_cons, List.map_nil, List.length_cons, List.length_nil, Nat.reduceAdd, Nat.reduceSub, List.replicate_succ, List.replicate_zero, List.cons_append, List.nil_append]
  first | refine Gx.a (by kernel_rfl) fun K hK => ?_ | refine Gx.b (by kernel_rfl) fun K hK => ?_ | refine Gx.c (by kernel_rfl) fun K hK => ?_
  simp only [XA, XB, gateX, Nat.reduceAdd, Nat.reduceLeDiff, Nat.reduceSub, Nat.reduceMul, ↓reduceIte, Int.reduceToNat, Int.reduceLE, beq_self_eq_true]
  refine hK _ ?_
  refine XWP.seq ?_
  by_cases hlt : i < l.length
  · have b1 : decide ((i : Int) < (l.length : Int)) = true := decide_eq_true (by omega)
    obtain ⟨b, o, rfl⟩ := h.addr (by omega)
    obtain ⟨m, n, d, hx, ⟨o1, o2, o3⟩, hld⟩ := Rats.get h i hlt
    first | refine Gx.a (by kernel_rfl) fun K hK => ?_ | refine Gx.b (by kernel_rfl) fun K hK => ?_ | refine Gx.c (by kernel_rfl) fun K hK => ?_
    simp only [XA, XB, gateX, Nat.reduceAdd, Nat.reduceLeDiff, Nat.reduceSub, Nat.reduceMul, ↓reduceIte, Int.reduceToNat, Int.reduceLE, beq_self_eq_true, b1]
    refine hK _ ?_
    first | refine Gx.t rfl ?_ | refine XWP.seq (Gx.t rfl ?_)
    first | refine Gx.a (by kernel_rfl) fun K hK => ?_ | refine Gx.b (by kernel_rfl) fun K hK => ?_ | refine Gx.c (by kernel_rfl) fun K hK => ?_
    simp only [XA, XB, gateX, Nat.reduceAdd, Nat.reduceLeDiff, Nat.reduceSub, Nat.reduceMul, ↓reduceIte, Int.reduceToNat, Int.reduceLE, beq_self_eq_true]
    refine ⟨by omega, by omega, ld_mem (hld _) ?_⟩
    simp only [XA, XB, gateX, Nat.reduceAdd, Nat.reduceLeDiff, Nat.reduceSub, Nat.reduceMul, ↓reduceIte, Int.reduceToNat, Int.reduceLE, beq_self_eq_true]
    refine st_rat rfl rfl o1 o2 o3 ?_
    simp only [XA, XB, gateX, Nat.reduceAdd, Nat.reduceLeDiff, Nat.reduceSub, Nat.reduceMul, ↓reduceIte, Int.reduceToNat, Int.reduceLE, beq_self_eq_true]
    refine hK _ (XWP.ret ?_)
    try simp only [thenX_ret, inBlockX_ret]
    exact ret_rat1 rfl rfl rfl hx
  · have b1 : decide ((i : Int) < (l.length : Int)) = false := decide_eq_false (by omega)
    first | refine Gx.a (by kernel_rfl) fun K hK => ?_ | refine Gx.b (by kernel_rfl) fun K hK => ?_ | refine Gx.c (by kernel_rfl) fun K hK => ?_
    simp only [XA, XB, gateX, Nat.reduceAdd, Nat.reduceLeDiff, Nat.reduceSub, Nat.reduceMul, ↓reduceIte, Int.reduceToNat, Int.reduceLE, beq_self_eq_true, b1]
    refine hK _ ?_
    first | refine Gx.f rfl ?_ | refine XWP.seq (Gx.f rfl ?_)
    refine XWP.skip ?_
    first | refine Gx.a (by kernel_rfl) fun K hK => ?_ | refine Gx.b (by kernel_rfl) fun K hK => ?_ | refine Gx.c (by kernel_rfl) fun K hK => ?_
    simp only [XA, XB, gateX, Nat.reduceAdd, Nat.reduceLeDiff, Nat.reduceSub, Nat.reduceMul, ↓reduceIte, Int.reduceToNat, Int.reduceLE, beq_self_eq_true]
    refine call_go (by kernel_rfl) rfl (qzero_c _) fun v1 V1 hV1 h1 => ?_
    obtain ⟨x, y, rfl, hx, hy⟩ := h1
    simp only [XA, XB, gateX, Nat.reduceAdd, Nat.reduceLeDiff, Nat.reduceSub, Nat.reduceMul, ↓reduceIte, Int.reduceToNat, Int.reduceLE, beq_self_eq_true]
    refine st_rat rfl rfl rfl hx.one hy.one ?_
    simp only [XA, XB, gateX, Nat.reduceAdd, Nat.reduceLeDiff, Nat.reduceSub, Nat.reduceMul, ↓reduceIte, Int.reduceToNat, Int.reduceLE, beq_self_eq_true]
    refine hK _ (XWP.ret ?_)
    try simp only [thenX_ret, inBlockX_ret]
    refine ret_rat1 rfl rfl rfl ?_
    rw [cf_none (by omega)]
    exact ⟨_, _, rfl, hx, hy⟩
theorem ctrim_c (V : View) (v : Value) (l : List Rat) (h : Rats V v l) : Spec Try.prog 83 [v] V fun v' V' => Rats V' v' (trimQ l) := by
  obtain ⟨A, c, rfl, hc, hm⟩ := h.form
  refine (Spec.enter Try.func83 rfl fun Γ => ?_)
  simp only [Try.ntmps83, List.map_cons, List.map_nil, List.length_cons, List.length_nil, Nat.reduceAdd, Nat.reduceSub, List.replicate_succ, List.replicate_zero, List.cons_append, List.nil_append]
  first | refine Gx.a (by kernel_rfl) fun K hK => ?_ | refine Gx.b (by kernel_rfl) fun K hK => ?_ | refine Gx.c (by kernel_rfl) fun K hK => ?_
  simp only [XA, XB, gateX, Nat.reduceAdd, Nat.reduceLeDiff, Nat.reduceSub, Nat.reduceMul, ↓reduceIte, Int.reduceToNat, Int.reduceLE, beq_self_eq_true]
  refine hK _ ?_
  clear hK
  refine XWP.cut (fun s => ∃ (k : Nat) (V2 : View), StIs (fun Z => [.v (.slice A k c), Z 1,Z 2,Z 3,Z 4,Z 5,Z 6,Z 7,Z 8,Z 9,Z 10,Z 11,Z 12,Z 13,Z 14,Z 15,Z 16,Z 17,Z 18,Z 19,Z 20]) [] (fun _ => none) V2 s ∧ V.le V2 ∧ k ≤ l.length ∧ l.take k = trimQ l) ?_ ?_
  · first | refine XWP.block ?_ | refine XWP.seq (XWP.block ?_)
    refine XWP.loop (fun k s => ∃ (V2 : View), StIs (fun Z => [.v (.slice A k c), Z 1,Z 2,Z 3,Z 4,Z 5,Z 6,Z 7,Z 8,Z 9,Z 10,Z 11,Z 12,Z 13,Z 14,Z 15,Z 16,Z 17,Z 18,Z 19,Z 20]) [] (fun _ => none) V2 s ∧ V.le V2 ∧ k ≤ l.length ∧ trimQ (l.take k) = trimQ l) l.length ⟨V, StIs.of (by exact rfl), View.le_refl _, Nat.le_refl _, by simp⟩ ?_
    rintro k s ⟨V2, hs, hV2, hk, ht⟩
    obtain ⟨u, rfl⟩ := hs.out
    try dsimp only
    refine XWP.seq ?_
    by_cases h0 : k = 0
    · subst h0
      have b1 : decide ((0 : Int) < ((0 : Nat) : Int)) = false := decide_eq_false (by omega)
      first | refine Gx.a (by kernel_rfl) fun K hK => ?_ | refine Gx.b (by kernel_rfl) fun K hK => ?_ | refine Gx.c (by kernel_rfl) fun K hK => ?_
      simp only [XA, XB, gateX, Nat.reduceAdd, Nat.reduceLeDiff, Nat.reduceSub, Nat.reduceMul, ↓reduceIte, Int.reduceToNat, Int.reduceLE, beq_self_eq_true, b1]
      refine hK _ ?_
      first | refine Gx.f rfl ?_ | refine XWP.seq (Gx.f rfl ?_)
      refine XWP.exit ?_
      exact ⟨0, V2, StIs.of (by exact rfl), hV2, hk, ht⟩
    · have b1 : decide ((0 : Int) < (k : Int)) = true := decide_eq_true (by omega)
      obtain ⟨b, o, rfl⟩ := h.addr (by omega)
      obtain ⟨m, n, d, hx, ⟨o1, o2, o3⟩, hld⟩ := Rats.get (h.up hV2) (k - 1) (by omega)
      have w1 := i64_pred k (by omega) (by omega)
      have ek : l.take k = l.take (k - 1) ++ [cf l (k - 1)] := by rw [← takeQ_snoc (by omega)]; congr 1; omega
      first | refine Gx.a (by kernel_rfl) fun K hK => ?_ | refine Gx.b (by kernel_rfl) fun K hK => ?_ | refine Gx.c (by kernel_rfl) fun K hK => ?_
      simp only [XA, XB, gateX, Nat.reduceAdd, Nat.reduceLeDiff, Nat.reduceSub, Nat.reduceMul, ↓reduceIte, Int.reduceToNat, Int.reduceLE, beq_self_eq_true, b1, w1]
      refine ⟨by omega, by omega, ld_mem (hld _) ?_⟩
      simp only [XA, XB, gateX, Nat.reduceAdd, Nat.reduceLeDiff, Nat.reduceSub, Nat.reduceMul, ↓reduceIte, Int.reduceToNat, Int.reduceLE, beq_self_eq_true]
      refine call_go (by kernel_rfl) rfl (czero_c _ _ _ hx) fun v3 V3 hV3 h3 => ?_
      subst h3
      by_cases hz : cf l (k - 1) = 0
      · have b2 : decide (cf l (k - 1) = 0) = true := decide_eq_true hz
        simp only [XA, XB, gateX, Nat.reduceAdd, Nat.reduceLeDiff, Nat.reduceSub, Nat.reduceMul, ↓reduceIte, Int.reduceToNat, Int.reduceLE, beq_self_eq_true, b2]
        refine hK _ ?_
        first | refine Gx.t rfl ?_ | refine XWP.seq (Gx.t rfl ?_)
        refine XWP.skip ?_
        first | refine XWP.block ?_ | refine XWP.seq (XWP.block ?_)
        first | refine Gx.a (by kernel_rfl) fun K hK => ?_ | refine Gx.b (by kernel_rfl) fun K hK => ?_ | refine Gx.c (by kernel_rfl) fun K hK => ?_
        simp only [XA, XB, gateX, Nat.reduceAdd, Nat.reduceLeDiff, Nat.reduceSub, Nat.reduceMul, ↓reduceIte, Int.reduceToNat, Int.reduceLE, beq_self_eq_true, w1]
        refine ⟨by omega, by omega, by omega, ?_⟩
        refine hK _ ⟨k - 1, by omega, V3, StIs.of (by exact rfl), View.le_trans hV2 hV3, by omega, ?_⟩
        rw [← ht, ek, hz, trimQ_snoc_zero]
      · have b2 : decide (cf l (k - 1) = 0) = false := decide_eq_false hz
        simp only [XA, XB, gateX, Nat.reduceAdd, Nat.reduceLeDiff, Nat.reduceSub, Nat.reduceMul, ↓reduceIte, Int.reduceToNat, Int.reduceLE, beq_self_eq_true, b2]
        refine hK _ ?_
        first | refine Gx.f rfl ?_ | refine XWP.seq (Gx.f rfl ?_)
        refine XWP.exit ?_
        refine ⟨k, V3, StIs.of (by exact rfl), View.le_trans hV2 hV3, hk, ?_⟩
        rw [← ht, ek, trimQ_snoc _ _ hz]
  rintro s ⟨k, V2, hs, hV2, hk, ht⟩
  obtain ⟨u, rfl⟩ := hs.out
  try dsimp only
  first | refine Gx.a (by kernel_rfl) fun K hK => ?_ | refine Gx.b (by kernel_rfl) fun K hK => ?_ | refine Gx.c (by kernel_rfl) fun K hK => ?_
  simp only [XA, XB, gateX, Nat.reduceAdd, Nat.reduceLeDiff, Nat.reduceSub, Nat.reduceMul, ↓reduceIte, Int.reduceToNat, Int.reduceLE, beq_self_eq_true]
  refine hK _ (XWP.ret ?_)
  try simp only [thenX_ret, inBlockX_ret]
  refine ret_go _ rfl ?_
  rw [← ht]
  exact SlAt.take (h.up hV2) hk
theorem all3 {a b c : Value} (h1 : isOne a = true) (h2 : isOne b = true) (h3 : isOne c = true) : [a, b, c].all isOne = true := by simp [h1, h2, h3]
theorem max_nat (a b : Nat) : (if (b : Int) > (a : Int) then (b : Int) else (a : Int)) = ((max a b : Nat) : Int) := by split <;> omega
theorem mk_set {β : Type} (n : Nat) (g : Nat → β) (k : Nat) (x : β) : ((List.range n).map g).set k x = (List.range n).map fun i => if i = k then x else g i := by
  refine List.ext_getElem? fun i => ?_
  by_cases hi : i < n
  · by_cases e : k = i
    · subst e
      rw [List.getElem?_set_self (by simpa using hi)]
      simp [hi]
    · rw [List.getElem?_set_ne e]
      simp only [List.getElem?_map, List.getElem?_range hi, Option.map_some]
      rw [if_neg (fun e' => e e'.symm)]
  · rw [List.getElem?_eq_none (by simp; omega), List.getElem?_eq_none (by simp; omega)]
/-- the numbers up to k are written -/
def part (n : Nat) (f : Nat → Rat) (k : Nat) : List (Option Rat) := (List.range n).map fun i => if i < k then some (f i) else none
theorem part_zero (n : Nat) (f : Nat → Rat) : part n f 0 = List.replicate n none := by
  unfold part
  refine List.ext_getElem? fun i => ?_
  by_cases hi : i < n
  · simp [hi]
  · rw [List.getElem?_eq_none (by simp; omega), List.getElem?_eq_none (by simp; omega)]
theorem part_len (n : Nat) (f : Nat → Rat) (k : Nat) : (part n f k).length = n := by simp [part]
theorem part_step (n : Nat) (f : Nat → Rat) (k : Nat) : (part n f k).set k (some (f k)) = part n f (k + 1) := by
  unfold part
  rw [mk_set]
  refine List.map_congr_left fun i _ => ?_
  by_cases e : i = k
  · subst e; simp
  · rw [if_neg e]
    by_cases h : i < k
    · rw [if_pos h, if_pos (by omega)]
    · rw [if_neg h, if_neg (by omega)]
theorem part_all (n : Nat) (f : Nat → Rat) : part n f n = (mk n f).map some := by
  unfold part mk
  rw [List.map_map]
  refine List.map_congr_left fun i hi => ?_
  rw [if_pos (List.mem_range.1 hi)]; rfl
theorem part_set2 (n : Nat) (f : Nat → Rat) (k : Nat) (x y : Option Rat) : ((part n f k).set k x).set k y = (part n f k).set k y := List.set_set ..
theorem cadd_c (V : View) (v u w : Value) (p q : List Rat) (c : Rat) (up A B C : Nat) (hv : Rats V v p) (hu : Rats V u q) (hw : RatC V w c) (hp : ∀ x ∈ p, QB A x) (hq : ∀ x ∈ q, QB B x) (hc : QB C c) (hABC : A + B + C + 2 ≤ 17592186044416) (lp : p.length ≤ 1000000) (lq : q.length + up ≤ 1000000) :
    Spec Try.prog 56 [v, u, w, .int .i64 (up : Int)] V fun v' V' => Rats V' v' (pAdd p q c up) := by
  obtain ⟨A1, c1, rfl, hc1, hm1⟩ := hv.form
  obtain ⟨A2, c2, rfl, hc2, hm2⟩ := hu.form
  obtain ⟨xw, yw, rfl, ow1, ow2⟩ := hw.form
  refine (Spec.enter Try.func56 rfl fun Γ => ?_)
  simp only [Try.ntmps56, List.map_cons, List.map_nil, List.length_cons, List.length_nil, Nat.reduceAdd, Nat.reduceSub, List.replicate_succ, List.replicate_zero, List.cons_append, List.nil_append]
  first | refine Gx.a (by kernel_rfl) fun K hK => ?_ | refine Gx.b (by kernel_rfl) fun K hK => ?_ | refine Gx.c (by kernel_rfl) fun K hK => ?_
  simp only [XA, XB, gateX, Nat.reduceAdd, Nat.reduceLeDiff, Nat.reduceSub, Nat.reduceMul, ↓reduceIte, Int.reduceToNat, Int.reduceLE, beq_self_eq_true]
  refine hK _ ?_
  first | refine Gx.a (by kernel_rfl) fun K hK => ?_ | refine Gx.b (by kernel_rfl) fun K hK => ?_ | refine Gx.c (by kernel_rfl) fun K hK => ?_
  simp only [XA, XB, gateX, Nat.reduceAdd, Nat.reduceLeDiff, Nat.reduceSub, Nat.reduceMul, ↓reduceIte, Int.reduceToNat, Int.reduceLE, beq_self_eq_true, i64_add q.length up (by omega), max_nat]
  obtain ⟨N, hN⟩ : ∃ N, N = max p.length (q.length + up) := ⟨_, rfl⟩
  rw [← hN]
  have hNl : N ≤ 1000000 := by omega
  refine mk_go rfl rfl elemT_22 zeroT_34 (by omega) (by omega) (by omega) (by omega) rfl (by omega) fun g hg1 hg2 => ?_
  simp only [XA, XB, gateX, Nat.reduceAdd, Nat.reduceLeDiff, Nat.reduceSub, Nat.reduceMul, ↓reduceIte, Int.reduceToNat, Int.reduceLE, beq_self_eq_true]
  refine hK _ ?_
  clear hK
  refine XWP.cut (fun s => ∃ (V2 : View) (H5 : Heap) (cells : List Value), StIs (fun Z => [Z 0,Z 1,Z 2,Z 3,Z 4,Z 5,Z 6,Z 7,Z 8, .v (.slice (some ⟨g, 0, none⟩) N N), Z 10,Z 11,Z 12,Z 13,Z 14,Z 15,Z 16,Z 17,Z 18,Z 19,Z 20,Z 21,Z 22,Z 23,Z 24,Z 25,Z 26,Z 27,Z 28,Z 29,Z 30,Z 31,Z 32,Z 33,Z 34,Z 35,Z 36,Z 37,Z 38,Z 39,Z 40,Z 41,Z 42,Z 43,Z 44,Z 45,Z 46,Z 47,Z 48,Z 49,Z 50,Z 51,Z 52,Z 53,Z 54,Z 55,Z 56,Z 57,Z 58,Z 59,Z 60,Z 61]) [[.bool (ng c), xw, yw]] H5 V2 s ∧ H5 g = some ⟨34, cells, N * 3⟩ ∧ RowAt ratE V2 cells (mk N (pAt p q c up))) ?_ ?_
  · first | refine Gx.a (by kernel_rfl) fun K hK => ?_ | refine Gx.b (by kernel_rfl) fun K hK => ?_ | refine Gx.c (by kernel_rfl) fun K hK => ?_
    simp only [XA, XB, gateX, Nat.reduceAdd, Nat.reduceLeDiff, Nat.reduceSub, Nat.reduceMul, ↓reduceIte, Int.reduceToNat, Int.reduceLE, beq_self_eq_true]
    refine hK _ ?_
    clear hK
    first | refine XWP.block ?_ | refine XWP.seq (XWP.block ?_)
    refine XWP.loop (fun n s => ∃ (k : Nat) (V2 : View) (H5 : Heap) (cells : List Value), StIs (fun Z => [.v (.slice A1 p.length c1), .v (.slice A2 q.length c2), Z 2, .v (.int .i64 (up : Int)), Z 4, Z 5, .p 0 0, Z 7,Z 8, .v (.slice (some ⟨g, 0, none⟩) N N), Z 10,Z 11,Z 12,Z 13,Z 14,Z 15,Z 16,Z 17,Z 18,Z 19, .v (.int .i64 (N : Int)), .v (.int .i64 (k : Int)), Z 22,Z 23,Z 24,Z 25,Z 26,Z 27,Z 28,Z 29,Z 30,Z 31,Z 32,Z 33,Z 34,Z 35,Z 36,Z 37,Z 38,Z 39,Z 40,Z 41,Z 42,Z 43,Z 44,Z 45,Z 46,Z 47,Z 48,Z 49,Z 50,Z 51,Z 52,Z 53,Z 54,Z 55,Z 56,Z 57,Z 58,Z 59,Z 60,Z 61]) [[.bool (ng c), xw, yw]] H5 V2 s ∧ V.le V2 ∧ n + k = N ∧ H5 g = some ⟨34, cells, N * 3⟩ ∧ RowAt (optE ratE) V2 cells (part N (pAt p q c up) k)) N ⟨0, V, _, _, StIs.of (by exact rfl), View.le_refl _, rfl, by rw [upd_at], by rw [part_zero]; exact RowAt.new V N⟩ ?_
    rintro n s ⟨k, V2, H5, cells, hs, hV2, hn, hH, hrow⟩
    obtain ⟨z, rfl⟩ := hs.out
    try dsimp only
    by_cases hk : k < N
    · have b1 : decide ((k : Int) < (N : Int)) = true := decide_eq_true (by omega)
      first | refine Gx.a (by kernel_rfl) fun K hK => ?_ | refine Gx.b (by kernel_rfl) fun K hK => ?_ | refine Gx.c (by kernel_rfl) fun K hK => ?_
      simp only [XA, XB, gateX, Nat.reduceAdd, Nat.reduceLeDiff, Nat.reduceSub, Nat.reduceMul, ↓reduceIte, Int.reduceToNat, Int.reduceLE, beq_self_eq_true, b1]
      refine hK _ ?_
      first | refine Gx.t rfl ?_ | refine XWP.seq (Gx.t rfl ?_)
      refine XWP.skip ?_
      refine XWP.seq ?_
      first | refine XWP.block ?_ | refine XWP.seq (XWP.block ?_)
      first | refine Gx.a (by kernel_rfl) fun K hK => ?_ | refine Gx.b (by kernel_rfl) fun K hK => ?_ | refine Gx.c (by kernel_rfl) fun K hK => ?_
      simp only [XA, XB, gateX, Nat.reduceAdd, Nat.reduceLeDiff, Nat.reduceSub, Nat.reduceMul, ↓reduceIte, Int.reduceToNat, Int.reduceLE, beq_self_eq_true]
      refine hK _ ?_
      first | refine Gx.a (by kernel_rfl) fun K hK => ?_ | refine Gx.b (by kernel_rfl) fun K hK => ?_ | refine Gx.c (by kernel_rfl) fun K hK => ?_
      simp only [XA, XB, gateX, Nat.reduceAdd, Nat.reduceLeDiff, Nat.reduceSub, Nat.reduceMul, ↓reduceIte, Int.reduceToNat, Int.reduceLE, beq_self_eq_true]
      refine call_go (by kernel_rfl) rfl (cget_c _ _ _ k (Rats.up hv hV2) (by omega)) fun v3 V3 hV3 h3 => ?_
      simp only [XA, XB, gateX, Nat.reduceAdd, Nat.reduceLeDiff, Nat.reduceSub, Nat.reduceMul, ↓reduceIte, Int.reduceToNat, Int.reduceLE, beq_self_eq_true]
      refine call_go (by kernel_rfl) rfl (qzero_c _) fun v4 V4 hV4 h4 => ?_
      simp only [XA, XB, gateX, Nat.reduceAdd, Nat.reduceLeDiff, Nat.reduceSub, Nat.reduceMul, ↓reduceIte, Int.reduceToNat, Int.reduceLE, beq_self_eq_true]
      have f1 : QB A (cf p k) := by
        by_cases h : k < p.length
        · exact hp _ (cf_mem h)
        · rw [cf_none (by omega)]; exact QB_zero A
      refine call_go (by kernel_rfl) rfl (qadd_c _ _ _ _ _ (h3.mono hV4) h4 (QF.of f1 (by omega)) QF_zero) fun v5 V5 hV5 h5 => ?_
      rw [Rat.add_zero] at h5
      obtain ⟨x5, y5, rfl, o5, o6⟩ := h5.form
      have hrow := ((hrow.mono (optE_ok ratE_ok) hV3).mono (optE_ok ratE_ok) hV4).mono (optE_ok ratE_ok) hV5
      have hl := hrow.1
      rw [part_len] at hl
      simp only [XA, XB, gateX, Nat.reduceAdd, Nat.reduceLeDiff, Nat.reduceSub, Nat.reduceMul, ↓reduceIte, Int.reduceToNat, Int.reduceLE, beq_self_eq_true]
      refine ⟨by omega, by omega, ?_⟩
      refine st_rowA shapeT_34 (all3 rfl o5 o6) rfl hH (by dsimp only; omega) ?_
      simp only [XA, XB, gateX, Nat.reduceAdd, Nat.reduceLeDiff, Nat.reduceSub, Nat.reduceMul, ↓reduceIte, Int.reduceToNat, Int.reduceLE, beq_self_eq_true]
      refine hK _ ?_
      have hrow2 := hrow.set k (by rw [part_len]; omega) (x := some (cf p k)) (show isOne (.bool (ng (cf p k))) = true from rfl) o5 o6 h5
      clear hK
      refine XWP.post (fun s => ∃ (V6 : View) (H6 : Heap) (cells : List Value), StIs (fun Z => [.v (.slice A1 p.length c1), .v (.slice A2 q.length c2), Z 2, .v (.int .i64 (up : Int)), Z 4, Z 5, .p 0 0, Z 7,Z 8, .v (.slice (some ⟨g, 0, none⟩) N N), Z 10,Z 11,Z 12,Z 13,Z 14,Z 15,Z 16,Z 17,Z 18,Z 19, .v (.int .i64 (N : Int)), .v (.int .i64 (k : Int)), Z 22,Z 23,Z 24,Z 25,Z 26,Z 27,Z 28,Z 29,Z 30,Z 31,Z 32,Z 33,Z 34,Z 35,Z 36,Z 37,Z 38,Z 39,Z 40,Z 41,Z 42,Z 43,Z 44,Z 45,Z 46,Z 47,Z 48,Z 49,Z 50,Z 51,Z 52,Z 53,Z 54,Z 55,Z 56,Z 57,Z 58,Z 59,Z 60,Z 61]) [[.bool (ng c), xw, yw]] H6 V6 s ∧ V.le V6 ∧ H6 g = some ⟨34, cells, N * 3⟩ ∧ RowAt (optE ratE) V6 cells (part N (pAt p q c up) (k + 1))) ?_ ?_
      · first | refine Gx.a (by kernel_rfl) fun K hK => ?_ | refine Gx.b (by kernel_rfl) fun K hK => ?_ | refine Gx.c (by kernel_rfl) fun K hK => ?_
        by_cases hin : up ≤ k ∧ k - up < q.length
        · obtain ⟨hup, hlt⟩ := hin
          have b2 : decide ((up : Int) ≤ (k : Int)) = true := decide_eq_true (by omega)
          have w1 := i64_sub k up (by omega) (by omega)
          have b3 : decide (((k - up : Nat) : Int) < (q.length : Int)) = true := decide_eq_true (by omega)
          simp only [XA, XB, gateX, Nat.reduceAdd, Nat.reduceLeDiff, Nat.reduceSub, Nat.reduceMul, ↓reduceIte, Int.reduceToNat, Int.reduceLE, beq_self_eq_true, b2, w1, b3]
          refine hK _ ?_
          first | refine Gx.t rfl ?_ | refine XWP.seq (Gx.t rfl ?_)
          (first | refine XWP.drw [0, 1, 2, 3, 4, 5, 6, 7, 8, 9, 10, 11, 12, 13, 14, 15, 16] (by kernel_rfl) (by kernel_rfl) (by kernel_rfl) fun K hK => ?_ | refine XWP.seq (XWP.drw [0, 1, 2, 3, 4, 5, 6, 7, 8, 9, 10, 11, 12, 13, 14, 15, 16] (by kernel_rfl) (by kernel_rfl) (by kernel_rfl) fun K hK => ?_) | refine XWP.drw1 [0, 1, 2, 3, 4, 5, 6, 7, 8, 9, 10, 11, 12, 13, 14, 15, 16] (by kernel_rfl) (by kernel_rfl) (by kernel_rfl) fun K hK => ?_) <;> dsimp only [pickOps, List.getElem?_cons_zero, List.getElem?_cons_succ]
          have hu5 := Rats.up hu (View.le_trans hV2 (View.le_trans hV3 (View.le_trans hV4 hV5)))
          obtain ⟨b, o, rfl⟩ := SlAt.addr hu5 (by omega)
          obtain ⟨m, n', d, hx, ⟨o1, o2, o3⟩, hld⟩ := Rats.get hu5 (k - up) hlt
          have hH6 : upd H5 g (some ⟨34, splice cells (k * 3) [.bool (ng (cf p k)), x5, y5], N * 3⟩) g = some ⟨34, splice cells (k * 3) [.bool (ng (cf p k)), x5, y5], N * 3⟩ := upd_at _ _ _
          have hl2 := hrow2.1
          rw [List.length_set, part_len] at hl2
          have hcell : ∀ j u, [Value.bool (ng (cf p k)), x5, y5][j]? = some u → CellAt (upd H5 g (some ⟨34, splice cells (k * 3) [.bool (ng (cf p k)), x5, y5], N * 3⟩)) V5 g (k * 3 + j) u := fun j u hj => .inl ⟨_, hH6, by
            dsimp only
            rw [splice_get _ _ _ _ _ (by omega)]
            match j, hj with
            | 0, hj => rw [if_pos (by omega)]; exact hj
            | 1, hj => rw [if_neg (by omega), if_pos (by omega)]; exact hj
            | 2, hj => rw [if_neg (by omega), if_neg (by omega), if_pos (by omega)]; exact hj⟩
          simp only [XA, XB, gateX, Nat.reduceAdd, Nat.reduceLeDiff, Nat.reduceSub, Nat.reduceMul, ↓reduceIte, Int.reduceToNat, Int.reduceLE, beq_self_eq_true, w1]
          refine ⟨by omega, by omega, ld_mem ⟨true, 3, shapeT_34, .inl ⟨rfl, _, rfl, hcell, rfl⟩⟩ ?_⟩
          simp only [XA, XB, gateX, Nat.reduceAdd, Nat.reduceLeDiff, Nat.reduceSub, Nat.reduceMul, ↓reduceIte, Int.reduceToNat, Int.reduceLE, beq_self_eq_true, w1]
          refine ⟨by omega, by omega, ld_mem (hld _) ?_⟩
          simp only [XA, XB, gateX, Nat.reduceAdd, Nat.reduceLeDiff, Nat.reduceSub, Nat.reduceMul, ↓reduceIte, Int.reduceToNat, Int.reduceLE, beq_self_eq_true]
          have f2 : QB B (cf q (k - up)) := hq _ (cf_mem hlt)
          have f3 := f2.mul hc
          refine call_go (by kernel_rfl) rfl (qmul_c _ _ _ _ _ hx (RatC.mono hw (View.le_trans hV2 (View.le_trans hV3 (View.le_trans hV4 hV5)))) (QF.of f2 (by omega)) (QF.of hc (by omega))) fun v6 V6 hV6 h6 => ?_
          simp only [XA, XB, gateX, Nat.reduceAdd, Nat.reduceLeDiff, Nat.reduceSub, Nat.reduceMul, ↓reduceIte, Int.reduceToNat, Int.reduceLE, beq_self_eq_true]
          refine call_go (by kernel_rfl) rfl (qadd_c _ _ _ _ _ (h5.mono hV6) h6 (QF.of f1 (by omega)) (QF.of f3 (by omega))) fun v7 V7 hV7 h7 => ?_
          obtain ⟨x7, y7, rfl, o7, o8⟩ := h7.form
          simp only [XA, XB, gateX, Nat.reduceAdd, Nat.reduceLeDiff, Nat.reduceSub, Nat.reduceMul, ↓reduceIte, Int.reduceToNat, Int.reduceLE, beq_self_eq_true]
          refine ⟨by omega, by omega, ?_⟩
          refine st_rowA shapeT_34 (all3 rfl o7 o8) rfl hH6 (by dsimp only; omega) ?_
          simp only [XA, XB, gateX, Nat.reduceAdd, Nat.reduceLeDiff, Nat.reduceSub, Nat.reduceMul, ↓reduceIte, Int.reduceToNat, Int.reduceLE, beq_self_eq_true]
          have hrow3 := ((hrow2.mono (optE_ok ratE_ok) hV6).mono (optE_ok ratE_ok) hV7).set k (by rw [List.length_set, part_len]; omega) (x := some (cf p k + cf q (k - up) * c)) (show isOne (.bool (ng (cf p k + cf q (k - up) * c))) = true from rfl) o7 o8 h7
          refine hK _ ⟨V7, _, _, StIs.of (by exact rfl), View.le_trans hV2 (View.le_trans hV3 (View.le_trans hV4 (View.le_trans hV5 (View.le_trans hV6 hV7)))), upd_at _ _ _, ?_⟩
          have e : cf p k + cf q (k - up) * c = pAt p q c up k := by unfold pAt; rw [if_pos hup]
          rw [part_set2, e, part_step, ← e] at hrow3
          exact hrow3
        · have e : cf p k = pAt p q c up k := by
            unfold pAt
            by_cases hup : up ≤ k
            · rw [if_pos hup, cf_none (l := q) (by omega), Rat.zero_mul, Rat.add_zero]
            · rw [if_neg hup, Rat.add_zero]
          rw [e, part_step, ← e] at hrow2
          by_cases hup : up ≤ k
          · have b2 : decide ((up : Int) ≤ (k : Int)) = true := decide_eq_true (by omega)
            have w1 := i64_sub k up (by omega) (by omega)
            have b3 : decide (((k - up : Nat) : Int) < (q.length : Int)) = false := decide_eq_false (by omega)
            simp only [XA, XB, gateX, Nat.reduceAdd, Nat.reduceLeDiff, Nat.reduceSub, Nat.reduceMul, ↓reduceIte, Int.reduceToNat, Int.reduceLE, beq_self_eq_true, b2, w1, b3]
            refine hK _ ?_
            first | refine Gx.f rfl ?_ | refine XWP.seq (Gx.f rfl ?_)
            refine XWP.skip ?_
            exact ⟨V5, _, _, StIs.of (by exact rfl), View.le_trans hV2 (View.le_trans hV3 (View.le_trans hV4 hV5)), upd_at _ _ _, hrow2⟩
          · have b2 : decide ((up : Int) ≤ (k : Int)) = false := decide_eq_false (by omega)
            simp only [XA, XB, gateX, Nat.reduceAdd, Nat.reduceLeDiff, Nat.reduceSub, Nat.reduceMul, ↓reduceIte, Int.reduceToNat, Int.reduceLE, beq_self_eq_true, b2]
            refine hK _ ?_
            first | refine Gx.f rfl ?_ | refine XWP.seq (Gx.f rfl ?_)
            refine XWP.skip ?_
            exact ⟨V5, _, _, StIs.of (by exact rfl), View.le_trans hV2 (View.le_trans hV3 (View.le_trans hV4 hV5)), upd_at _ _ _, hrow2⟩
      · rintro s ⟨V6, H6, cells6, hs6, hV6, hH6, hrow6⟩
        obtain ⟨z6, rfl⟩ := hs6.out
        try dsimp only
        first | refine Gx.a (by kernel_rfl) fun K hK => ?_ | refine Gx.b (by kernel_rfl) fun K hK => ?_ | refine Gx.c (by kernel_rfl) fun K hK => ?_
        simp only [XA, XB, gateX, Nat.reduceAdd, Nat.reduceLeDiff, Nat.reduceSub, Nat.reduceMul, ↓reduceIte, Int.reduceToNat, Int.reduceLE, beq_self_eq_true, i64_succ k (by omega)]
        exact hK _ ⟨n - 1, by omega, k + 1, V6, H6, cells6, StIs.of (by exact rfl), hV6, by omega, hH6, hrow6⟩
    · have b1 : decide ((k : Int) < (N : Int)) = false := decide_eq_false (by omega)
      obtain rfl : k = N := by omega
      first | refine Gx.a (by kernel_rfl) fun K hK => ?_ | refine Gx.b (by kernel_rfl) fun K hK => ?_ | refine Gx.c (by kernel_rfl) fun K hK => ?_
      simp only [XA, XB, gateX, Nat.reduceAdd, Nat.reduceLeDiff, Nat.reduceSub, Nat.reduceMul, ↓reduceIte, Int.reduceToNat, Int.reduceLE, beq_self_eq_true, b1]
      refine hK _ ?_
      first | refine Gx.f rfl ?_ | refine XWP.seq (Gx.f rfl ?_)
      refine XWP.exit ?_
      rw [part_all] at hrow
      exact ⟨V2, H5, cells, StIs.of (by exact rfl), hH, hrow.all⟩
  rintro s ⟨V2, H5, cells, hs, hH, hrow⟩
  obtain ⟨z, rfl⟩ := hs.out
  try dsimp only
  first | refine Gx.a (by kernel_rfl) fun K hK => ?_ | refine Gx.b (by kernel_rfl) fun K hK => ?_ | refine Gx.c (by kernel_rfl) fun K hK => ?_
  simp only [XA, XB, gateX, Nat.reduceAdd, Nat.reduceLeDiff, Nat.reduceSub, Nat.reduceMul, ↓reduceIte, Int.reduceToNat, Int.reduceLE, beq_self_eq_true]
  refine call_pub g _ hH (fun o ho hle' => ?_) (by kernel_rfl) rfl
  refine call_go (by kernel_rfl) rfl (ctrim_c _ _ _ (hrow.pub ratE_ok ho hle' (mk_len _ _) (Nat.le_refl _) (by omega))) fun v3 V3 hV3 h3 => ?_
  simp only [XA, XB, gateX, Nat.reduceAdd, Nat.reduceLeDiff, Nat.reduceSub, Nat.reduceMul, ↓reduceIte, Int.reduceToNat, Int.reduceLE, beq_self_eq_true]
  refine hK _ (XWP.ret ?_)
  try simp only [thenX_ret, inBlockX_ret]
  refine ret_go _ rfl ?_
  unfold pAdd
  rw [← hN]
  exact h3
theorem off_c (V : View) (v u : Value) (l q : List Rat) (t : Nat) (hv : Rats V v l) (hu : Rats V u q) (ht : t < l.length) (ll : l.length ≤ 1000000) (lq : q.length ≤ 1000000) (hl : ∀ x ∈ l, QF x) (hq : ∀ x ∈ q, QF x) (hs : ∀ k, k < min q.length (t + 1) → QF (offS l q t k) ∧ QF (cf q k * cf l (t - k))) :
    Spec Try.prog 53 [v, u, .int .i64 (t : Int)] V fun v' V' => RatC V' v' (off l q t) := by
  obtain ⟨A1, c1, rfl, hc1, hm1⟩ := hv.form
  obtain ⟨A2, c2, rfl, hc2, hm2⟩ := hu.form
  refine (Spec.enter Try.func53 rfl fun Γ => ?_)
  simp only [Try.ntmps53, List.map_cons, List.map_nil, List.length_cons, List.length_nil, Nat.reduceAdd, Nat.reduceSub, List.replicate_succ, List.replicate_zero, List.cons_append, List.nil_append]
  first | refine Gx.a (by kernel_rfl) fun K hK => ?_ | refine Gx.b (by kernel_rfl) fun K hK => ?_ | refine Gx.c (by kernel_rfl) fun K hK => ?_
  simp only [XA, XB, gateX, Nat.reduceAdd, Nat.reduceLeDiff, Nat.reduceSub, Nat.reduceMul, ↓reduceIte, Int.reduceToNat, Int.reduceLE, beq_self_eq_true]
  refine hK _ ?_
  first | refine Gx.a (by kernel_rfl) fun K hK => ?_ | refine Gx.b (by kernel_rfl) fun K hK => ?_ | refine Gx.c (by kernel_rfl) fun K hK => ?_
  simp only [XA, XB, gateX, Nat.reduceAdd, Nat.reduceLeDiff, Nat.reduceSub, Nat.reduceMul, ↓reduceIte, Int.reduceToNat, Int.reduceLE, beq_self_eq_true]
  refine call_go (by kernel_rfl) rfl (qzero_c _) fun v1 V1 hV1 h1 => ?_
  obtain ⟨x1, y1, rfl, o1, o2⟩ := h1.form
  simp only [XA, XB, gateX, Nat.reduceAdd, Nat.reduceLeDiff, Nat.reduceSub, Nat.reduceMul, ↓reduceIte, Int.reduceToNat, Int.reduceLE, beq_self_eq_true]
  refine st_rat rfl rfl rfl o1 o2 ?_
  simp only [XA, XB, gateX, Nat.reduceAdd, Nat.reduceLeDiff, Nat.reduceSub, Nat.reduceMul, ↓reduceIte, Int.reduceToNat, Int.reduceLE, beq_self_eq_true]
  refine hK _ ?_
  clear hK
  obtain ⟨M, hM⟩ : ∃ M, M = min q.length (t + 1) := ⟨_, rfl⟩
  refine XWP.cut (fun s => ∃ (V2 : View) (m : Bool) (x y : Value), StIs (fun Z => [Z 0,Z 1,Z 2,Z 3,Z 4,Z 5, .p 0 0, .p 1 0, Z 8,Z 9,Z 10,Z 11,Z 12,Z 13,Z 14,Z 15,Z 16,Z 17,Z 18,Z 19,Z 20,Z 21,Z 22,Z 23,Z 24,Z 25,Z 26,Z 27,Z 28,Z 29,Z 30,Z 31,Z 32,Z 33,Z 34]) [[.bool false, .slice none 0 0, .slice none 0 0], [.bool m, x, y]] (fun _ => none) V2 s ∧ RatC V2 (.agg #[.bool m, x, y]) (off l q t) ∧ isOne x = true ∧ isOne y = true) ?_ ?_
  · first | refine Gx.a (by kernel_rfl) fun K hK => ?_ | refine Gx.b (by kernel_rfl) fun K hK => ?_ | refine Gx.c (by kernel_rfl) fun K hK => ?_
    simp only [XA, XB, gateX, Nat.reduceAdd, Nat.reduceLeDiff, Nat.reduceSub, Nat.reduceMul, ↓reduceIte, Int.reduceToNat, Int.reduceLE, beq_self_eq_true]
    refine hK _ ?_
    clear hK
    first | refine XWP.block ?_ | refine XWP.seq (XWP.block ?_)
    refine XWP.loop (fun n s => ∃ (k : Nat) (V2 : View) (m : Bool) (x y : Value), StIs (fun Z => [.v (.slice A1 l.length c1), .v (.slice A2 q.length c2), .v (.int .i64 (t : Int)), Z 3,Z 4,Z 5, .p 0 0, .p 1 0, .v (.int .i64 (k : Int)), Z 9,Z 10,Z 11,Z 12,Z 13,Z 14,Z 15,Z 16,Z 17,Z 18,Z 19,Z 20,Z 21,Z 22,Z 23,Z 24,Z 25,Z 26,Z 27,Z 28,Z 29,Z 30,Z 31,Z 32,Z 33,Z 34]) [[.bool false, .slice none 0 0, .slice none 0 0], [.bool m, x, y]] (fun _ => none) V2 s ∧ V.le V2 ∧ n + k = M ∧ RatC V2 (.agg #[.bool m, x, y]) (offS l q t k) ∧ isOne x = true ∧ isOne y = true) M ⟨0, V1, _, x1, y1, StIs.of (by exact rfl), hV1, rfl, h1, o1, o2⟩ ?_
    clear h1 o1 o2
    rintro n s ⟨k, V2, m, x, y, hs', hV2, hn, h1, o1, o2⟩
    obtain ⟨z, rfl⟩ := hs'.out
    try dsimp only
    refine XWP.seq ?_
    by_cases hk : k < M
    · have b1 : decide ((k : Int) < (q.length : Int)) = true := decide_eq_true (by omega)
      have b2 : decide ((k : Int) ≤ (t : Int)) = true := decide_eq_true (by omega)
      first | refine Gx.a (by kernel_rfl) fun K hK => ?_ | refine Gx.b (by kernel_rfl) fun K hK => ?_ | refine Gx.c (by kernel_rfl) fun K hK => ?_
      simp only [XA, XB, gateX, Nat.reduceAdd, Nat.reduceLeDiff, Nat.reduceSub, Nat.reduceMul, ↓reduceIte, Int.reduceToNat, Int.reduceLE, beq_self_eq_true, b1, b2]
      refine hK _ ?_
      first | refine Gx.t rfl ?_ | refine XWP.seq (Gx.t rfl ?_)
      refine XWP.skip ?_
      refine XWP.seq ?_
      first | refine XWP.block ?_ | refine XWP.seq (XWP.block ?_)
      (first | refine XWP.drw [0, 1, 2, 3, 4, 5, 6, 7, 8, 9, 10, 11, 12, 13] (by kernel_rfl) (by kernel_rfl) (by kernel_rfl) fun K hK => ?_ | refine XWP.seq (XWP.drw [0, 1, 2, 3, 4, 5, 6, 7, 8, 9, 10, 11, 12, 13] (by kernel_rfl) (by kernel_rfl) (by kernel_rfl) fun K hK => ?_) | refine XWP.drw1 [0, 1, 2, 3, 4, 5, 6, 7, 8, 9, 10, 11, 12, 13] (by kernel_rfl) (by kernel_rfl) (by kernel_rfl) fun K hK => ?_) <;> dsimp only [pickOps, List.getElem?_cons_zero, List.getElem?_cons_succ]
      have hv2 := Rats.up hv hV2
      have hu2 := Rats.up hu hV2
      obtain ⟨b, o, rfl⟩ := SlAt.addr hv2 (by omega)
      obtain ⟨b', o', rfl⟩ := SlAt.addr hu2 (by omega)
      obtain ⟨m3, n3, d3, hx3, ⟨p1, p2, p3⟩, hld3⟩ := Rats.get hv2 (t - k) (by omega)
      obtain ⟨m4, n4, d4, hx4, ⟨r1, r2, r3⟩, hld4⟩ := Rats.get hu2 k (by omega)
      have w1 := i64_sub t k (by omega) (by omega)
      obtain ⟨g1, g2⟩ := hs k (by omega)
      simp only [XA, XB, gateX, Nat.reduceAdd, Nat.reduceLeDiff, Nat.reduceSub, Nat.reduceMul, ↓reduceIte, Int.reduceToNat, Int.reduceLE, beq_self_eq_true]
      refine ⟨by omega, by omega, ld_mem (hld4 _) ?_⟩
      simp only [XA, XB, gateX, Nat.reduceAdd, Nat.reduceLeDiff, Nat.reduceSub, Nat.reduceMul, ↓reduceIte, Int.reduceToNat, Int.reduceLE, beq_self_eq_true, w1]
      refine ⟨by omega, by omega, ld_mem (hld3 _) ?_⟩
      simp only [XA, XB, gateX, Nat.reduceAdd, Nat.reduceLeDiff, Nat.reduceSub, Nat.reduceMul, ↓reduceIte, Int.reduceToNat, Int.reduceLE, beq_self_eq_true]
      refine call_go (by kernel_rfl) rfl (qmul_c _ _ _ _ _ hx4 hx3 (hq _ (cf_mem (by omega))) (hl _ (cf_mem (by omega)))) fun v5 V5 hV5 h5 => ?_
      simp only [XA, XB, gateX, Nat.reduceAdd, Nat.reduceLeDiff, Nat.reduceSub, Nat.reduceMul, ↓reduceIte, Int.reduceToNat, Int.reduceLE, beq_self_eq_true]
      refine call_go (by kernel_rfl) rfl (qadd_c _ _ _ _ _ (h1.mono hV5) h5 g1 g2) fun v6 V6 hV6 h6 => ?_
      obtain ⟨x6, y6, rfl, o6, o7⟩ := h6.form
      simp only [XA, XB, gateX, Nat.reduceAdd, Nat.reduceLeDiff, Nat.reduceSub, Nat.reduceMul, ↓reduceIte, Int.reduceToNat, Int.reduceLE, beq_self_eq_true]
      refine st_rat rfl rfl rfl o6 o7 ?_
      simp only [XA, XB, gateX, Nat.reduceAdd, Nat.reduceLeDiff, Nat.reduceSub, Nat.reduceMul, ↓reduceIte, Int.reduceToNat, Int.reduceLE, beq_self_eq_true]
      refine hK _ ?_
      first | refine Gx.a (by kernel_rfl) fun K hK => ?_ | refine Gx.b (by kernel_rfl) fun K hK => ?_ | refine Gx.c (by kernel_rfl) fun K hK => ?_
      simp only [XA, XB, gateX, Nat.reduceAdd, Nat.reduceLeDiff, Nat.reduceSub, Nat.reduceMul, ↓reduceIte, Int.reduceToNat, Int.reduceLE, beq_self_eq_true, i64_succ k (by omega)]
      exact hK _ ⟨n - 1, by omega, k + 1, V6, _, x6, y6, StIs.of (by exact rfl), View.le_trans hV2 (View.le_trans hV5 hV6), by omega, h6, o6, o7⟩
    · obtain rfl : k = M := by omega
      have fin : RatC V2 (.agg #[.bool m, x, y]) (off l q t) := by unfold off; rw [← hM]; exact h1
      by_cases hk1 : k < q.length
      · have b1 : decide ((k : Int) < (q.length : Int)) = true := decide_eq_true (by omega)
        have b2 : decide ((k : Int) ≤ (t : Int)) = false := decide_eq_false (by omega)
        first | refine Gx.a (by kernel_rfl) fun K hK => ?_ | refine Gx.b (by kernel_rfl) fun K hK => ?_ | refine Gx.c (by kernel_rfl) fun K hK => ?_
        simp only [XA, XB, gateX, Nat.reduceAdd, Nat.reduceLeDiff, Nat.reduceSub, Nat.reduceMul, ↓reduceIte, Int.reduceToNat, Int.reduceLE, beq_self_eq_true, b1, b2]
        refine hK _ ?_
        first | refine Gx.f rfl ?_ | refine XWP.seq (Gx.f rfl ?_)
        refine XWP.exit ?_
        exact ⟨V2, m, x, y, StIs.of (by exact rfl), fin, o1, o2⟩
      · have b1 : decide ((k : Int) < (q.length : Int)) = false := decide_eq_false (by omega)
        first | refine Gx.a (by kernel_rfl) fun K hK => ?_ | refine Gx.b (by kernel_rfl) fun K hK => ?_ | refine Gx.c (by kernel_rfl) fun K hK => ?_
        simp only [XA, XB, gateX, Nat.reduceAdd, Nat.reduceLeDiff, Nat.reduceSub, Nat.reduceMul, ↓reduceIte, Int.reduceToNat, Int.reduceLE, beq_self_eq_true, b1]
        refine hK _ ?_
        first | refine Gx.f rfl ?_ | refine XWP.seq (Gx.f rfl ?_)
        refine XWP.exit ?_
        exact ⟨V2, m, x, y, StIs.of (by exact rfl), fin, o1, o2⟩
  rintro s ⟨V2, m, x, y, hs', h1, o1, o2⟩
  obtain ⟨z, rfl⟩ := hs'.out
  try dsimp only
  first | refine Gx.a (by kernel_rfl) fun K hK => ?_ | refine Gx.b (by kernel_rfl) fun K hK => ?_ | refine Gx.c (by kernel_rfl) fun K hK => ?_
  simp only [XA, XB, gateX, Nat.reduceAdd, Nat.reduceLeDiff, Nat.reduceSub, Nat.reduceMul, ↓reduceIte, Int.reduceToNat, Int.reduceLE, beq_self_eq_true]
  refine st_rat rfl rfl rfl o1 o2 ?_
  simp only [XA, XB, gateX, Nat.reduceAdd, Nat.reduceLeDiff, Nat.reduceSub, Nat.reduceMul, ↓reduceIte, Int.reduceToNat, Int.reduceLE, beq_self_eq_true]
  refine hK _ (XWP.ret ?_)
  try simp only [thenX_ret, inBlockX_ret]
  exact ret_rat1 rfl rfl rfl h1
end Go.Proofs.Ythoboehbadmlmaa
end
section
namespace Go.Proofs.Ythoboehbadmlmaa
open Go Go.RowKit
set_option linter.unusedSimpArgs false
set_option linter.unusedVariables false
attribute [local irreducible] XWP Spec SpecO XPub XCall seqX clX apX stX ldX iaX slX
def Raw.q (r : Raw) : Rat := rv r.m (nv r.nd) (nv r.dd)
def Raw.ok (r : Raw) : Bool := rawOk r.m r.nd r.dd
def Raw.fit (r : Raw) : Prop := r.nd.length ≤ 4398046511104 ∧ r.dd.length ≤ 4398046511104
abbrev Raws (V : View) (v : Value) (l : List Raw) : Prop := SlAt rawE V v l
def okR (l : List Raw) : Bool := l.all Raw.ok
def fitR (l : List Raw) : Prop := ∀ r ∈ l, r.fit
def qs (l : List Raw) : List Rat := l.map Raw.q
theorem qs_len (l : List Raw) : (qs l).length = l.length := by simp [qs]
theorem Raws.up {V V' : View} {v : Value} {l : List Raw} (h : Raws V v l) (hV : V.le V') : Raws V' v l := SlAt.mono rawE_ok h hV
/-- valid fractions are fractions -/
theorem Raws.rats {V : View} {v : Value} {l : List Raw} (h : Raws V v l) (hk : okR l = true) : Rats V v (qs l) := by
  obtain ⟨A, c, rfl, h1, h2, h3⟩ := h
  refine ⟨A, c, by rw [qs_len], by rw [qs_len]; exact h1, h2, ?_⟩
  rcases h3 with rfl | ⟨b, o, arr, ty, fr, e1, e2, h4⟩
  · exact .inl rfl
  · refine .inr ⟨b, o, arr, ty, fr, e1, e2, fun i x hi => ?_⟩
    unfold qs at hi
    rw [List.getElem?_map] at hi
    cases hr : l[i]? with
    | none => rw [hr] at hi; cases hi
    | some r =>
      rw [hr] at hi; cases hi
      obtain ⟨m, n, d, g1, g2, g3, o1, o2, o3, hE⟩ := h4 i r hr
      exact ⟨m, n, d, g1, g2, g3, o1, o2, o3, RawAt.rat hE (List.all_eq_true.1 hk r (List.mem_of_getElem? hr))⟩
def toRaw (q : Rat) : Raw := ⟨ng q, dg q.num.natAbs, dg q.den⟩
theorem rightB_dg (n : Nat) : rightB (dg n) = true := by
  unfold rightB
  cases hl : (dg n).getLast? with
  | none => rfl
  | some d => have := dg_last n d hl; simp [this]
theorem toRaw_ok (q : Rat) : (toRaw q).ok = true := by
  show rawOk (ng q) (dg q.num.natAbs) (dg q.den) = true
  unfold rawOk
  rw [rightB_dg, rightB_dg, nv_dg, nv_dg]
  have h1 : (dg q.den).length ≠ 0 := fun e => q.den_nz (sz_eq_zero e)
  have h2 : Nat.gcd q.num.natAbs q.den = 1 := q.reduced
  have h3 : (decide ((dg q.num.natAbs).length = 0) && ng q) = false := by
    by_cases e : (dg q.num.natAbs).length = 0
    · have e2 : q.num.natAbs = 0 := sz_eq_zero e
      unfold ng
      rw [decide_eq_false (p := q.num < 0) (by omega)]; simp
    · rw [decide_eq_false e]; rfl
  rw [h3, decide_eq_false h1, decide_eq_true h2]; rfl
theorem toRaw_q (q : Rat) : (toRaw q).q = q := by
  show rv (ng q) (nv (dg q.num.natAbs)) (nv (dg q.den)) = q
  rw [nv_dg, nv_dg, rv_self]
theorem Rats.raws {V : View} {v : Value} {l : List Rat} (h : Rats V v l) : Raws V v (l.map toRaw) := by
  obtain ⟨A, c, rfl, h1, h2, h3⟩ := h
  refine ⟨A, c, by rw [List.length_map], by rw [List.length_map]; exact h1, h2, ?_⟩
  rcases h3 with rfl | ⟨b, o, arr, ty, fr, e1, e2, h4⟩
  · exact .inl rfl
  · refine .inr ⟨b, o, arr, ty, fr, e1, e2, fun i x hi => ?_⟩
    rw [List.getElem?_map] at hi
    cases hr : l[i]? with
    | none => rw [hr] at hi; cases hi
    | some r =>
      rw [hr] at hi; cases hi
      obtain ⟨m, n, d, g1, g2, g3, o1, o2, o3, hE⟩ := h4 i r hr
      exact ⟨m, n, d, g1, g2, g3, o1, o2, o3, hE⟩
theorem okR_toRaw (l : List Rat) : okR (l.map toRaw) = true := by
  unfold okR
  rw [List.all_map]
  exact List.all_eq_true.2 fun q _ => toRaw_ok q
theorem qs_toRaw (l : List Rat) : qs (l.map toRaw) = l := by
  unfold qs
  rw [List.map_map]
  have : Raw.q ∘ toRaw = id := by funext q; exact toRaw_q q
  rw [this, List.map_id]
theorem fitR_toRaw {l : List Rat} (h : ∀ x ∈ l, QF x) : fitR (l.map toRaw) := fun r hr => by
  obtain ⟨q, hq, rfl⟩ := List.mem_map.1 hr
  exact ⟨(h q hq).fits.1, (h q hq).fits.2⟩

theorem fine1_c (V : View) (v : Value) (r : Raw) (h : rawE V v r) (f : r.fit) : Spec Try.prog 101 [v] V fun v' V' => v' = .bool (!r.ok) := by
  have h0 := h
  obtain ⟨n, d, rfl, hn, hd⟩ := h
  refine (Spec.enter Try.func101 rfl fun Γ => ?_)
  simp only [Try.ntmps101, List.map_cons, List.map_nil, List.length_cons, List.length_nil, Nat.reduceAdd, Nat.reduceSub, List.replicate_succ, List.replicate_zero, List.cons_append, List.nil_append]
  first | refine Gx.a (by kernel_rfl) fun K hK => ?_ | refine Gx.b (by kernel_rfl) fun K hK => ?_ | refine Gx.c (by kernel_rfl) fun K hK => ?_
  simp only [XA, XB, gateX, Nat.reduceAdd, Nat.reduceLeDiff, Nat.reduceSub, Nat.reduceMul, ↓reduceIte, Int.reduceToNat, Int.reduceLE, beq_self_eq_true]
  refine hK _ ?_
  first | refine Gx.a (by kernel_rfl) fun K hK => ?_ | refine Gx.b (by kernel_rfl) fun K hK => ?_ | refine Gx.c (by kernel_rfl) fun K hK => ?_
  simp only [XA, XB, gateX, Nat.reduceAdd, Nat.reduceLeDiff, Nat.reduceSub, Nat.reduceMul, ↓reduceIte, Int.reduceToNat, Int.reduceLE, beq_self_eq_true]
  refine call_go (by kernel_rfl) rfl (qright_c _ _ _ _ _ h0 f.1 f.2) fun v1 V1 hV1 h1 => ?_
  subst h1
  simp only [XA, XB, gateX, Nat.reduceAdd, Nat.reduceLeDiff, Nat.reduceSub, Nat.reduceMul, ↓reduceIte, Int.reduceToNat, Int.reduceLE, beq_self_eq_true]
  refine hK _ (XWP.ret ?_)
  try simp only [thenX_ret, inBlockX_ret]
  refine ret_go _ rfl ?_
  rfl
theorem index_c (V : View) (v : Value) (l : List Raw) (h : Raws V v l) (f : fitR l) (ll : l.length ≤ 1000000) : Spec Try.prog 129 [v, .func (.func 101) #[] #[]] V fun v' V' => ∃ r : Int, v' = .int .i64 r ∧ decide (0 ≤ r) = !okR l := by
  obtain ⟨A, c, rfl, hc, hm⟩ := h.form
  refine (Spec.enter Try.func129 rfl fun Γ => ?_)
  simp only [Try.ntmps129, List.map_cons, List.map_nil, List.length_cons, List.length_nil, Nat.reduceAdd, Nat.reduceSub, List.replicate_succ, List.replicate_zero, List.cons_append, List.nil_append]
  first | refine Gx.a (by kernel_rfl) fun K hK => ?_ | refine Gx.b (by kernel_rfl) fun K hK => ?_ | refine Gx.c (by kernel_rfl) fun K hK => ?_
  simp only [XA, XB, gateX, Nat.reduceAdd, Nat.reduceLeDiff, Nat.reduceSub, Nat.reduceMul, ↓reduceIte, Int.reduceToNat, Int.reduceLE, beq_self_eq_true]
  refine hK _ ?_
  refine XWP.cut (fun s => StIs (fun Z => [Z 0,Z 1,Z 2,Z 3,Z 4,Z 5,Z 6,Z 7,Z 8,Z 9,Z 10,Z 11,Z 12,Z 13,Z 14,Z 15,Z 16,Z 17,Z 18]) [] (fun _ => none) s.V s ∧ okR l = true) ?_ ?_
  · first | refine Gx.a (by kernel_rfl) fun K hK => ?_ | refine Gx.b (by kernel_rfl) fun K hK => ?_ | refine Gx.c (by kernel_rfl) fun K hK => ?_
    simp only [XA, XB, gateX, Nat.reduceAdd, Nat.reduceLeDiff, Nat.reduceSub, Nat.reduceMul, ↓reduceIte, Int.reduceToNat, Int.reduceLE, beq_self_eq_true]
    refine hK _ ?_
    clear hK
    first | refine XWP.block ?_ | refine XWP.seq (XWP.block ?_)
    refine XWP.loop (fun n s => ∃ (k : Nat) (V2 : View), StIs (fun Z => [.v (.slice A l.length c), .v (.func (.func 101) #[] #[]), Z 2,Z 3,Z 4,Z 5,Z 6, .v (.int .i64 (l.length : Int)), .v (.int .i64 (k : Int)), Z 9,Z 10,Z 11,Z 12,Z 13,Z 14,Z 15,Z 16,Z 17,Z 18]) [] (fun _ => none) V2 s ∧ V.le V2 ∧ n + k = l.length ∧ okR (l.take k) = true) l.length ⟨0, V, StIs.of (by exact rfl), View.le_refl _, rfl, by simp [okR]⟩ ?_
    rintro n s ⟨k, V2, hs, hV2, hn, hk⟩
    obtain ⟨u, rfl⟩ := hs.out
    try dsimp only
    by_cases hlt : k < l.length
    · have b1 : decide ((k : Int) < (l.length : Int)) = true := decide_eq_true (by omega)
      first | refine Gx.a (by kernel_rfl) fun K hK => ?_ | refine Gx.b (by kernel_rfl) fun K hK => ?_ | refine Gx.c (by kernel_rfl) fun K hK => ?_
      simp only [XA, XB, gateX, Nat.reduceAdd, Nat.reduceLeDiff, Nat.reduceSub, Nat.reduceMul, ↓reduceIte, Int.reduceToNat, Int.reduceLE, beq_self_eq_true, b1]
      refine hK _ ?_
      first | refine Gx.t rfl ?_ | refine XWP.seq (Gx.t rfl ?_)
      refine XWP.skip ?_
      refine XWP.seq ?_
      first | refine XWP.block ?_ | refine XWP.seq (XWP.block ?_)
      first | refine Gx.a (by kernel_rfl) fun K hK => ?_ | refine Gx.b (by kernel_rfl) fun K hK => ?_ | refine Gx.c (by kernel_rfl) fun K hK => ?_
      simp only [XA, XB, gateX, Nat.reduceAdd, Nat.reduceLeDiff, Nat.reduceSub, Nat.reduceMul, ↓reduceIte, Int.reduceToNat, Int.reduceLE, beq_self_eq_true]
      refine hK _ ?_
      first | refine Gx.a (by kernel_rfl) fun K hK => ?_ | refine Gx.b (by kernel_rfl) fun K hK => ?_ | refine Gx.c (by kernel_rfl) fun K hK => ?_
      have hv2 := Raws.up h hV2
      obtain ⟨b, o, rfl⟩ := SlAt.addr hv2 (by omega)
      obtain ⟨x, hx, ⟨m3, n3, d3, rfl, p1, p2, p3⟩, hld⟩ := SlAt.load hv2 k hlt
      simp only [XA, XB, gateX, Nat.reduceAdd, Nat.reduceLeDiff, Nat.reduceSub, Nat.reduceMul, ↓reduceIte, Int.reduceToNat, Int.reduceLE, beq_self_eq_true]
      refine ⟨by omega, by omega, ld_mem (hld _) ?_⟩
      simp only [XA, XB, gateX, Nat.reduceAdd, Nat.reduceLeDiff, Nat.reduceSub, Nat.reduceMul, ↓reduceIte, Int.reduceToNat, Int.reduceLE, beq_self_eq_true]
      refine call_go (by kernel_rfl) rfl (fine1_c _ _ _ hx (f _ (List.getElem_mem hlt))) fun v3 V3 hV3 h3 => ?_
      subst h3
      have et : l.take (k + 1) = l.take k ++ [l[k]] := by rw [List.take_succ_eq_append_getElem hlt]
      cases hr : l[k].ok
      · simp only [XA, XB, gateX, Nat.reduceAdd, Nat.reduceLeDiff, Nat.reduceSub, Nat.reduceMul, ↓reduceIte, Int.reduceToNat, Int.reduceLE, beq_self_eq_true]
        refine hK _ ?_
        first | refine Gx.t rfl ?_ | refine XWP.seq (Gx.t rfl ?_)
        first | refine Gx.a (by kernel_rfl) fun K hK => ?_ | refine Gx.b (by kernel_rfl) fun K hK => ?_ | refine Gx.c (by kernel_rfl) fun K hK => ?_
        simp only [XA, XB, gateX, Nat.reduceAdd, Nat.reduceLeDiff, Nat.reduceSub, Nat.reduceMul, ↓reduceIte, Int.reduceToNat, Int.reduceLE, beq_self_eq_true]
        refine hK _ (XWP.ret ?_)
        try simp only [thenX_ret, inBlockX_ret]
        refine ret_go _ rfl ?_
        refine ⟨k, rfl, ?_⟩
        have : okR l = false := by
          unfold okR
          rw [List.all_eq_false]
          exact ⟨l[k], List.getElem_mem hlt, by rw [hr]; simp⟩
        rw [this, decide_eq_true (by omega)]; rfl
      · simp only [XA, XB, gateX, Nat.reduceAdd, Nat.reduceLeDiff, Nat.reduceSub, Nat.reduceMul, ↓reduceIte, Int.reduceToNat, Int.reduceLE, beq_self_eq_true]
        refine hK _ ?_
        first | refine Gx.f rfl ?_ | refine XWP.seq (Gx.f rfl ?_)
        refine XWP.skip ?_
        first | refine Gx.a (by kernel_rfl) fun K hK => ?_ | refine Gx.b (by kernel_rfl) fun K hK => ?_ | refine Gx.c (by kernel_rfl) fun K hK => ?_
        simp only [XA, XB, gateX, Nat.reduceAdd, Nat.reduceLeDiff, Nat.reduceSub, Nat.reduceMul, ↓reduceIte, Int.reduceToNat, Int.reduceLE, beq_self_eq_true, i64_succ k (by omega)]
        refine hK _ ⟨n - 1, by omega, k + 1, V3, StIs.of (by exact rfl), View.le_trans hV2 hV3, by omega, ?_⟩
        unfold okR at hk ⊢
        rw [et, List.all_append, hk]
        simp [hr]
    · have b1 : decide ((k : Int) < (l.length : Int)) = false := decide_eq_false (by omega)
      first | refine Gx.a (by kernel_rfl) fun K hK => ?_ | refine Gx.b (by kernel_rfl) fun K hK => ?_ | refine Gx.c (by kernel_rfl) fun K hK => ?_
      simp only [XA, XB, gateX, Nat.reduceAdd, Nat.reduceLeDiff, Nat.reduceSub, Nat.reduceMul, ↓reduceIte, Int.reduceToNat, Int.reduceLE, beq_self_eq_true, b1]
      refine hK _ ?_
      first | refine Gx.f rfl ?_ | refine XWP.seq (Gx.f rfl ?_)
      refine XWP.exit ?_
      rw [List.take_of_length_le (by omega)] at hk
      exact ⟨StIs.of (by exact rfl), hk⟩
  rintro s ⟨hs, hk⟩
  obtain ⟨t, bx, H, V2⟩ := s
  obtain ⟨u, e⟩ := hs.out
  cases e
  try dsimp only
  first | refine Gx.a (by kernel_rfl) fun K hK => ?_ | refine Gx.b (by kernel_rfl) fun K hK => ?_ | refine Gx.c (by kernel_rfl) fun K hK => ?_
  simp only [XA, XB, gateX, Nat.reduceAdd, Nat.reduceLeDiff, Nat.reduceSub, Nat.reduceMul, ↓reduceIte, Int.reduceToNat, Int.reduceLE, beq_self_eq_true]
  refine hK _ (XWP.ret ?_)
  try simp only [thenX_ret, inBlockX_ret]
  refine ret_go _ rfl ?_
  exact ⟨-1, rfl, by rw [hk]; rfl⟩
theorem contains_c (V : View) (v : Value) (l : List Raw) (h : Raws V v l) (f : fitR l) (ll : l.length ≤ 1000000) : Spec Try.prog 100 [v, .func (.func 101) #[] #[]] V fun v' V' => v' = .bool (!okR l) := by
  refine (Spec.enter Try.func100 rfl fun Γ => ?_)
  simp only [Try.ntmps100, List.map_cons, List.map_nil, List.length_cons, List.length_nil, Nat.reduceAdd, Nat.reduceSub, List.replicate_succ, List.replicate_zero, List.cons_append, List.nil_append]
  first | refine Gx.a (by kernel_rfl) fun K hK => ?_ | refine Gx.b (by kernel_rfl) fun K hK => ?_ | refine Gx.c (by kernel_rfl) fun K hK => ?_
  simp only [XA, XB, gateX, Nat.reduceAdd, Nat.reduceLeDiff, Nat.reduceSub, Nat.reduceMul, ↓reduceIte, Int.reduceToNat, Int.reduceLE, beq_self_eq_true]
  refine hK _ ?_
  first | refine Gx.a (by kernel_rfl) fun K hK => ?_ | refine Gx.b (by kernel_rfl) fun K hK => ?_ | refine Gx.c (by kernel_rfl) fun K hK => ?_
  simp only [XA, XB, gateX, Nat.reduceAdd, Nat.reduceLeDiff, Nat.reduceSub, Nat.reduceMul, ↓reduceIte, Int.reduceToNat, Int.reduceLE, beq_self_eq_true]
  refine call_go (by kernel_rfl) rfl (index_c _ _ _ h f ll) fun v1 V1 hV1 h1 => ?_
  obtain ⟨r, rfl, hr⟩ := h1
  simp only [XA, XB, gateX, Nat.reduceAdd, Nat.reduceLeDiff, Nat.reduceSub, Nat.reduceMul, ↓reduceIte, Int.reduceToNat, Int.reduceLE, beq_self_eq_true, hr]
  refine hK _ (XWP.ret ?_)
  try simp only [thenX_ret, inBlockX_ret]
  refine ret_go _ rfl ?_
  rfl
theorem fine_c (V : View) (v : Value) (l : List Raw) (h : Raws V v l) (f : fitR l) (ll : l.length ≤ 1000000) : Spec Try.prog 51 [v] V fun v' V' => v' = .bool (okR l) := by
  refine (Spec.enter Try.func51 rfl fun Γ => ?_)
  simp only [Try.ntmps51, List.map_cons, List.map_nil, List.length_cons, List.length_nil, Nat.reduceAdd, Nat.reduceSub, List.replicate_succ, List.replicate_zero, List.cons_append, List.nil_append]
  first | refine Gx.a (by kernel_rfl) fun K hK => ?_ | refine Gx.b (by kernel_rfl) fun K hK => ?_ | refine Gx.c (by kernel_rfl) fun K hK => ?_
  simp only [XA, XB, gateX, Nat.reduceAdd, Nat.reduceLeDiff, Nat.reduceSub, Nat.reduceMul, ↓reduceIte, Int.reduceToNat, Int.reduceLE, beq_self_eq_true]
  refine hK _ ?_
  first | refine Gx.a (by kernel_rfl) fun K hK => ?_ | refine Gx.b (by kernel_rfl) fun K hK => ?_ | refine Gx.c (by kernel_rfl) fun K hK => ?_
  simp only [XA, XB, gateX, Nat.reduceAdd, Nat.reduceLeDiff, Nat.reduceSub, Nat.reduceMul, ↓reduceIte, Int.reduceToNat, Int.reduceLE, beq_self_eq_true]
  refine call_go (by kernel_rfl) rfl (contains_c _ _ _ h f ll) fun v1 V1 hV1 h1 => ?_
  subst h1
  simp only [XA, XB, gateX, Nat.reduceAdd, Nat.reduceLeDiff, Nat.reduceSub, Nat.reduceMul, ↓reduceIte, Int.reduceToNat, Int.reduceLE, beq_self_eq_true]
  refine hK _ (XWP.ret ?_)
  try simp only [thenX_ret, inBlockX_ret]
  refine ret_go _ rfl ?_
  show Value.bool _ = _
  rw [Bool.not_not]
def polB (l : List Rat) : Bool := decide (l.length = 0) || !decide (cf l (l.length - 1) = 0)
def rightP (l : List Raw) : Bool := decide (l.length ≤ 1000) && okR l && polB (qs l)
theorem polB_iff (l : List Rat) : polB l = true ↔ PolQ l := by
  unfold polB PolQ
  rw [Bool.or_eq_true, decide_eq_true_eq, Bool.not_eq_true', decide_eq_false_iff_not]
  constructor
  · rintro (h | h) h0
    · omega
    · exact h
  · intro h
    rcases Nat.eq_zero_or_pos l.length with h0 | h0
    · exact .inl h0
    · exact .inr (h h0)
theorem cright_c (V : View) (v : Value) (l : List Raw) (h : Raws V v l) (f : fitR l) (ll : l.length ≤ 1000000) : Spec Try.prog 32 [v] V fun v' V' => v' = .bool (rightP l) := by
  obtain ⟨A, c, rfl, hc, hm⟩ := h.form
  refine (Spec.enter Try.func32 rfl fun Γ => ?_)
  simp only [Try.ntmps32, List.map_cons, List.map_nil, List.length_cons, List.length_nil, Nat.reduceAdd, Nat.reduceSub, List.replicate_succ, List.replicate_zero, List.cons_append, List.nil_append]
  first | refine Gx.a (by kernel_rfl) fun K hK => ?_ | refine Gx.b (by kernel_rfl) fun K hK => ?_ | refine Gx.c (by kernel_rfl) fun K hK => ?_
  simp only [XA, XB, gateX, Nat.reduceAdd, Nat.reduceLeDiff, Nat.reduceSub, Nat.reduceMul, ↓reduceIte, Int.reduceToNat, Int.reduceLE, beq_self_eq_true]
  refine hK _ ?_
  first | refine Gx.a (by kernel_rfl) fun K hK => ?_ | refine Gx.b (by kernel_rfl) fun K hK => ?_ | refine Gx.c (by kernel_rfl) fun K hK => ?_
  by_cases h1 : l.length ≤ 1000
  · have b1 : decide ((l.length : Int) ≤ 1000) = true := decide_eq_true (by omega)
    simp only [XA, XB, gateX, Nat.reduceAdd, Nat.reduceLeDiff, Nat.reduceSub, Nat.reduceMul, ↓reduceIte, Int.reduceToNat, Int.reduceLE, beq_self_eq_true, b1]
    refine call_go (by kernel_rfl) rfl (fine_c _ _ _ h f ll) fun v1 V1 hV1 h1' => ?_
    subst h1'
    cases hk : okR l
    · simp only [XA, XB, gateX, Nat.reduceAdd, Nat.reduceLeDiff, Nat.reduceSub, Nat.reduceMul, ↓reduceIte, Int.reduceToNat, Int.reduceLE, beq_self_eq_true]
      refine hK _ (XWP.ret ?_)
      try simp only [thenX_ret, inBlockX_ret]
      refine ret_go _ rfl ?_
      unfold rightP; rw [hk, decide_eq_true h1]; rfl
    by_cases h0 : l.length = 0
    · have b2 : decide ((l.length : Int) = 0) = true := decide_eq_true (by omega)
      simp only [XA, XB, gateX, Nat.reduceAdd, Nat.reduceLeDiff, Nat.reduceSub, Nat.reduceMul, ↓reduceIte, Int.reduceToNat, Int.reduceLE, beq_self_eq_true, b2]
      refine hK _ (XWP.ret ?_)
      try simp only [thenX_ret, inBlockX_ret]
      refine ret_go _ rfl ?_
      unfold rightP polB; rw [hk, decide_eq_true h1, decide_eq_true (p := (qs l).length = 0) (by rw [qs_len]; exact h0)]; rfl
    · have b2 : decide ((l.length : Int) = 0) = false := decide_eq_false (by omega)
      have w1 := i64_pred l.length (by omega) (by omega)
      have hr := (Raws.rats h hk).up hV1
      obtain ⟨b, o, rfl⟩ := h.addr (by omega)
      obtain ⟨m3, n3, d3, hx, ⟨p1, p2, p3⟩, hld⟩ := Rats.get hr (l.length - 1) (by rw [qs_len]; omega)
      simp only [XA, XB, gateX, Nat.reduceAdd, Nat.reduceLeDiff, Nat.reduceSub, Nat.reduceMul, ↓reduceIte, Int.reduceToNat, Int.reduceLE, beq_self_eq_true, b2, w1]
      refine ⟨by omega, by omega, ld_mem (hld _) ?_⟩
      simp only [XA, XB, gateX, Nat.reduceAdd, Nat.reduceLeDiff, Nat.reduceSub, Nat.reduceMul, ↓reduceIte, Int.reduceToNat, Int.reduceLE, beq_self_eq_true]
      refine call_go (by kernel_rfl) rfl (czero_c _ _ _ hx) fun v2 V2 hV2 h2 => ?_
      subst h2
      simp only [XA, XB, gateX, Nat.reduceAdd, Nat.reduceLeDiff, Nat.reduceSub, Nat.reduceMul, ↓reduceIte, Int.reduceToNat, Int.reduceLE, beq_self_eq_true]
      refine hK _ (XWP.ret ?_)
      try simp only [thenX_ret, inBlockX_ret]
      refine ret_go _ rfl ?_
      unfold rightP polB; rw [hk, decide_eq_true h1, qs_len, decide_eq_false (p := l.length = 0) h0]; rfl
  · have b1 : decide ((l.length : Int) ≤ 1000) = false := decide_eq_false (by omega)
    simp only [XA, XB, gateX, Nat.reduceAdd, Nat.reduceLeDiff, Nat.reduceSub, Nat.reduceMul, ↓reduceIte, Int.reduceToNat, Int.reduceLE, beq_self_eq_true, b1]
    refine hK _ (XWP.ret ?_)
    try simp only [thenX_ret, inBlockX_ret]
    refine ret_go _ rfl ?_
    unfold rightP; rw [decide_eq_false h1]; rfl
end Go.Proofs.Ythoboehbadmlmaa
end
section
namespace Go.Proofs.Ythoboehbadmlmaa
set_option linter.unusedVariables false
/-- x is a whole number over D -/
def Over (D : Nat) (B : Nat) (x : Rat) : Prop := ∃ n : Int, n.natAbs ≤ 2 ^ B ∧ x = mkRat n D
/-- one denominator for all -/
def CB (B : Nat) (l : List Rat) : Prop := ∃ D : Nat, 0 < D ∧ D ≤ 2 ^ B ∧ ∀ i, Over D B (cf l i)
theorem mkRat_sg (n : Int) (d : Nat) : mkRat n d = rv (decide (n < 0)) n.natAbs d := by unfold rv; rw [sg_self]
theorem Over.qb {D B : Nat} {x : Rat} (h : Over D B x) (hD : D ≤ 2 ^ B) : QB B x := by
  obtain ⟨n, h1, rfl⟩ := h
  rw [mkRat_sg]; exact QB_rv _ h1 hD
theorem CB.at {B : Nat} {l : List Rat} (h : CB B l) (i : Nat) : QB B (cf l i) := by
  obtain ⟨D, _, h2, h3⟩ := h; exact (h3 i).qb h2
theorem CB.mem {B : Nat} {l : List Rat} (h : CB B l) : ∀ x ∈ l, QB B x := fun x hx => by
  obtain ⟨i, hi, rfl⟩ := List.mem_iff_getElem.1 hx
  rw [cf_get hi]; exact h.at i
theorem CB.mono {A B : Nat} {l : List Rat} (h : CB A l) (hB : A ≤ B) : CB B l := by
  obtain ⟨D, h1, h2, h3⟩ := h
  refine ⟨D, h1, Nat.le_trans h2 (two_mono hB), fun i => ?_⟩
  obtain ⟨n, h4, h5⟩ := h3 i
  exact ⟨n, Nat.le_trans h4 (two_mono hB), h5⟩
theorem Over.zero (D B : Nat) : Over D B 0 := ⟨0, by simp, by simp⟩
theorem CB_nil (B : Nat) : CB B [] := ⟨1, by omega, Nat.succ_le_of_lt (two_pos B), fun i => by rw [cf_none (by simp)]; exact Over.zero _ _⟩
/-- another denominator -/
theorem Over.scale {D E B C : Nat} {x : Rat} (h : Over D B x) (hE : 0 < E) (hC : E ≤ 2 ^ C) : Over (D * E) (B + C) x := by
  obtain ⟨n, h1, rfl⟩ := h
  refine ⟨n * E, ?_, ?_⟩
  · rw [Int.natAbs_mul, Int.natAbs_natCast]; exact two_mul_le h1 hC
  · rw [Rat.mkRat_mul_right (by omega)]
theorem Over.mul {D E B C : Nat} {x y : Rat} (hx : Over D B x) (hy : Over E C y) : Over (D * E) (B + C) (x * y) := by
  obtain ⟨n, h1, rfl⟩ := hx
  obtain ⟨m, h2, rfl⟩ := hy
  exact ⟨n * m, by rw [Int.natAbs_mul]; exact two_mul_le h1 h2, Rat.mkRat_mul_mkRat _ _ _ _⟩
theorem mkRat_add_same (n m : Int) {D : Nat} (hD : 0 < D) : mkRat n D + mkRat m D = mkRat (n + m) D := by
  rw [Rat.mkRat_add_mkRat _ _ (by omega) (by omega), ← Int.add_mul, Rat.mkRat_mul_right (by omega)]
theorem Over.add {D B : Nat} {x y : Rat} (hD : 0 < D) (hx : Over D B x) (hy : Over D B y) : Over D (B + 1) (x + y) := by
  obtain ⟨n, h1, rfl⟩ := hx
  obtain ⟨m, h2, rfl⟩ := hy
  exact ⟨n + m, Nat.le_trans (Int.natAbs_add_le _ _) (two_add_le h1 h2), mkRat_add_same n m hD⟩
theorem Over.mono {D A B : Nat} {x : Rat} (h : Over D A x) (hB : A ≤ B) : Over D B x := by
  obtain ⟨n, h1, h2⟩ := h; exact ⟨n, Nat.le_trans h1 (two_mono hB), h2⟩
theorem Over.neg {D A : Nat} {x : Rat} (h : Over D A x) : Over D A (-x) := by
  obtain ⟨n, h1, rfl⟩ := h; exact ⟨-n, by rw [Int.natAbs_neg]; exact h1, Rat.neg_mkRat _ _⟩
theorem QB.over {B : Nat} {x : Rat} (h : QB B x) : Over x.den B x := ⟨x.num, h.1, (Rat.mkRat_self x).symm⟩
theorem den_pos (x : Rat) : 0 < x.den := Nat.pos_of_ne_zero x.den_nz
theorem CB_one {B : Nat} {x : Rat} (h : QB B x) : CB B [x] := ⟨x.den, den_pos x, h.2, fun i => by
  cases i with
  | zero => exact h.over
  | succ i => rw [cf_none (by simp)]; exact Over.zero _ _⟩
theorem cf_append_left {l m : List Rat} {i : Nat} (h : i < l.length) : cf (l ++ m) i = cf l i := by
  unfold cf; simp only [List.getD_eq_getElem?_getD]; rw [List.getElem?_append_left h]
theorem cf_append_right {l m : List Rat} {i : Nat} (h : l.length ≤ i) : cf (l ++ m) i = cf m (i - l.length) := by
  unfold cf; simp only [List.getD_eq_getElem?_getD]; rw [List.getElem?_append_right h]
theorem CB.append {A B : Nat} {l m : List Rat} (hl : CB A l) (hm : CB B m) : CB (A + B) (l ++ m) := by
  obtain ⟨D, d1, d2, d3⟩ := hl
  obtain ⟨E, e1, e2, e3⟩ := hm
  refine ⟨D * E, Nat.mul_pos d1 e1, two_mul_le d2 e2, fun i => ?_⟩
  by_cases hi : i < l.length
  · rw [cf_append_left hi]; exact (d3 i).scale e1 e2
  · rw [cf_append_right (by omega)]
    have := (e3 (i - l.length)).scale d1 d2
    rw [Nat.mul_comm, Nat.add_comm]; exact this
/-- of single fractions -/
theorem CB_of {B : Nat} : ∀ (l : List Rat), (∀ x ∈ l, QB B x) → CB (l.length * B) l
  | [], _ => CB_nil _
  | x :: l, h => by
    have h1 := CB_one (h x (by simp))
    have h2 := CB_of l fun y hy => h y (by simp [hy])
    have := h1.append h2
    have e : (x :: l).length * B = B + l.length * B := by rw [List.length_cons, Nat.add_mul, Nat.one_mul, Nat.add_comm]
    rw [e]; exact this
theorem CB.take {B : Nat} {l : List Rat} (h : CB B l) (k : Nat) : CB B (l.take k) := by
  obtain ⟨D, d1, d2, d3⟩ := h
  refine ⟨D, d1, d2, fun i => ?_⟩
  by_cases hi : i < k
  · have : cf (l.take k) i = cf l i := by unfold cf; simp [hi]
    rw [this]; exact d3 i
  · rw [cf_none (by simp; omega)]; exact Over.zero _ _
theorem CB.trim {B : Nat} {l : List Rat} (h : CB B l) : CB B (trimQ l) := by
  obtain ⟨D, d1, d2, d3⟩ := h
  exact ⟨D, d1, d2, fun i => by rw [cf_trimQ]; exact d3 i⟩
theorem CB.padd {A B C : Nat} {p q : List Rat} {c : Rat} (hp : CB A p) (hq : CB B q) (hc : QB C c) (up : Nat) : CB (A + B + C + 1) (pAdd p q c up) := by
  obtain ⟨D, d1, d2, d3⟩ := hp
  obtain ⟨E, e1, e2, e3⟩ := hq
  have hEc : E * c.den ≤ 2 ^ (B + C) := two_mul_le e2 hc.2
  have pEc : 0 < E * c.den := Nat.mul_pos e1 (den_pos c)
  refine ⟨D * (E * c.den), Nat.mul_pos d1 pEc, Nat.le_trans (two_mul_le d2 hEc) (two_mono (by omega)), fun i => ?_⟩
  rw [cf_pAdd]
  unfold pAt
  have h1 : Over (D * (E * c.den)) (A + (B + C)) (cf p i) := (d3 i).scale pEc hEc
  have h2 : Over (D * (E * c.den)) (A + (B + C)) (if up ≤ i then cf q (i - up) * c else 0) := by
    split
    · have := ((e3 (i - up)).mul hc.over).scale d1 d2
      rw [Nat.mul_comm, Nat.add_comm A]; exact this
    · exact Over.zero _ _
  have := h1.add (Nat.mul_pos d1 pEc) h2
  exact this.mono (by omega)
/-- sums of products: e: the number of them is at most 2^e -/
theorem Over.offs {D E A B : Nat} {l q : List Rat} (hD : 0 < D) (hE : 0 < E) (hl : ∀ i, Over D A (cf l i)) (hq : ∀ i, Over E B (cf q i)) (t k e : Nat) (hk : k ≤ 2 ^ e) : Over (D * E) (A + B + e) (offS l q t k) := by
  have key : ∀ k, ∃ n : Int, n.natAbs ≤ k * 2 ^ (A + B) ∧ offS l q t k = mkRat n (D * E) := by
    intro k
    induction k with
    | zero => exact ⟨0, by simp, by simp [offS]⟩
    | succ k ih =>
      obtain ⟨n, h1, h2⟩ := ih
      have h3 := (hq k).mul (hl (t - k))
      rw [Nat.mul_comm E D, Nat.add_comm B A] at h3
      obtain ⟨m, h4, h5⟩ := h3
      refine ⟨n + m, ?_, ?_⟩
      · have := Int.natAbs_add_le n m
        rw [Nat.add_mul, Nat.one_mul]; omega
      · rw [offS, h2, h5, mkRat_add_same _ _ (Nat.mul_pos hD hE)]
  obtain ⟨n, h1, h2⟩ := key k
  refine ⟨n, ?_, h2⟩
  rw [Nat.add_comm (A + B) e, Nat.pow_add]
  exact Nat.le_trans h1 (Nat.mul_le_mul_right _ hk)
theorem CB.offs {A B : Nat} {l q : List Rat} (hl : CB A l) (hq : CB B q) (t k e : Nat) (hk : k ≤ 2 ^ e) : QB (A + B + e) (offS l q t k) := by
  obtain ⟨D, d1, d2, d3⟩ := hl
  obtain ⟨E, e1, e2, e3⟩ := hq
  exact (Over.offs d1 e1 d3 e3 t k e hk).qb (Nat.le_trans (two_mul_le d2 e2) (two_mono (by omega)))
theorem QB.qf {B : Nat} {q : Rat} (h : QB B q) (hB : B ≤ 17592186044416) : QF q := QF.of h hB
theorem CB.qf {B : Nat} {l : List Rat} (h : CB B l) (hB : B ≤ 17592186044416) : ∀ x ∈ l, QF x := fun x hx => QF.of (h.mem x hx) hB

/-! the product -/
def mulI (p q : List Rat) : Nat → List Rat
  | 0 => []
  | k + 1 => if cf p k = 0 then mulI p q k else pAdd (mulI p q k) q (cf p k) k
def mulP (p q : List Rat) : List Rat := mulI p q p.length
theorem mulI_len (p q : List Rat) (k : Nat) : (mulI p q k).length ≤ q.length + k := by
  induction k with
  | zero => simp [mulI]
  | succ k ih =>
    unfold mulI
    split
    · omega
    · have := pAdd_len (mulI p q k) q (cf p k) k; omega
theorem mulI_CB {A B : Nat} {p q : List Rat} (hp : CB A p) (hq : CB B q) (k : Nat) : CB (k * (A + B + 1)) (mulI p q k) := by
  induction k with
  | zero => exact CB_nil _
  | succ k ih =>
    unfold mulI
    split
    · exact ih.mono (Nat.mul_le_mul_right _ (by omega))
    · have := CB.padd ih hq (hp.at k) k
      refine this.mono ?_
      rw [Nat.add_mul]; omega
theorem mulI_pol (p q : List Rat) (k : Nat) : PolQ (mulI p q k) := by
  induction k with
  | zero => intro h; simp [mulI] at h
  | succ k ih =>
    unfold mulI
    split
    · exact ih
    · exact pAdd_pol _ _ _ _

/-! the quotient -/
def topQ (rest q : List Rat) : Rat := cf rest (rest.length - 1) / cf q (q.length - 1)
def divF (q : List Rat) : Nat → List Rat → List Rat → List Rat × List Rat
  | 0, rest, out => (out, rest)
  | n + 1, rest, out => if q.length ≤ rest.length then divF q n (pAdd rest q (-topQ rest q) (rest.length - q.length)) (out.set (rest.length - q.length) (topQ rest q)) else (out, rest)
def divP (p q : List Rat) : List Rat × List Rat :=
  let r := pAdd p [] 1 0
  let d := divF q (r.length + 1) r (if q.length ≤ r.length then List.replicate (r.length - q.length + 1) 0 else [])
  (trimQ d.1, d.2)
theorem div_less {rest q : List Rat} (hq : 0 < q.length) (hl : cf q (q.length - 1) ≠ 0) (h : q.length ≤ rest.length) : (pAdd rest q (-topQ rest q) (rest.length - q.length)).length < rest.length := by
  have h1 := pAdd_len rest q (-topQ rest q) (rest.length - q.length)
  have h2 := pAdd_pol rest q (-topQ rest q) (rest.length - q.length)
  rcases Nat.lt_or_ge (pAdd rest q (-topQ rest q) (rest.length - q.length)).length rest.length with h3 | h3
  · exact h3
  · have e : (pAdd rest q (-topQ rest q) (rest.length - q.length)).length = rest.length := by omega
    have := h2 (by omega)
    rw [e, cf_pAdd] at this
    unfold pAt at this
    rw [if_pos (by omega), show rest.length - 1 - (rest.length - q.length) = q.length - 1 from by omega] at this
    refine absurd ?_ this
    unfold topQ
    rw [Rat.mul_neg, Rat.mul_comm, Rat.div_mul_cancel hl, Rat.add_neg_cancel]
theorem divF_fuel {q : List Rat} (hq : 0 < q.length) (hl : cf q (q.length - 1) ≠ 0) : ∀ (n m : Nat) (rest out : List Rat), rest.length < n → rest.length < m → divF q n rest out = divF q m rest out := by
  intro n
  induction n with
  | zero => intro m rest out h; omega
  | succ n ih =>
    intro m rest out h1 h2
    obtain ⟨m, rfl⟩ : ∃ k, m = k + 1 := ⟨m - 1, by omega⟩
    rw [divF, divF]
    split
    · rename_i h
      have := div_less hq hl h
      exact ih m _ _ (by omega) (by omega)
    · rfl
theorem divF_step {q : List Rat} (hq : 0 < q.length) (hl : cf q (q.length - 1) ≠ 0) {rest out : List Rat} (h : q.length ≤ rest.length) : divF q (rest.length + 1) rest out = divF q ((pAdd rest q (-topQ rest q) (rest.length - q.length)).length + 1) (pAdd rest q (-topQ rest q) (rest.length - q.length)) (out.set (rest.length - q.length) (topQ rest q)) := by
  have h1 := div_less hq hl h
  rw [divF, if_pos h]
  exact divF_fuel hq hl _ _ _ _ (by omega) (by omega)
theorem divF_end {q rest out : List Rat} (h : ¬ q.length ≤ rest.length) : divF q (rest.length + 1) rest out = (out, rest) := by rw [divF, if_neg h]
end Go.Proofs.Ythoboehbadmlmaa
end
section
namespace Go.Proofs.Ythoboehbadmlmaa
set_option linter.unusedVariables false
def scaledP (p : List Rat) : List Rat := pAdd [] p (1 / cf p (p.length - 1)) 0
theorem cf_scaledP (p : List Rat) (i : Nat) : cf (scaledP p) i = cf p i * (1 / cf p (p.length - 1)) := by
  unfold scaledP
  rw [cf_pAdd]
  unfold pAt
  rw [if_pos (Nat.zero_le _), cf_none (by simp), Rat.zero_add, Nat.sub_zero]
theorem one_ne : (1 : Rat) ≠ 0 := by decide
theorem scaledP_len {p : List Rat} (hp : PolQ p) : (scaledP p).length = p.length := by
  have h1 : (scaledP p).length ≤ p.length := by
    have := pAdd_len [] p (1 / cf p (p.length - 1)) 0
    simpa [scaledP] using this
  rcases Nat.eq_zero_or_pos p.length with h0 | h0
  · have : p = [] := List.length_eq_zero_iff.1 h0
    omega
  · have hl := hp h0
    have h2 := h1
    rcases Nat.lt_or_ge (scaledP p).length p.length with h3 | h3
    · have := cf_scaledP p (p.length - 1)
      rw [cf_none (by omega), Rat.mul_comm, Rat.div_mul_cancel hl] at this
      exact absurd this.symm one_ne
    · omega
theorem scaledP_last {p : List Rat} (hp : PolQ p) (h0 : 0 < p.length) : cf (scaledP p) ((scaledP p).length - 1) = 1 := by
  rw [scaledP_len hp, cf_scaledP, Rat.mul_comm, Rat.div_mul_cancel (hp h0)]
theorem scaledP_pol (p : List Rat) : PolQ (scaledP p) := pAdd_pol _ _ _ _
theorem scaledP_CB {A : Nat} {p : List Rat} (hp : CB A p) : CB (2 * A + 1) (scaledP p) := by
  have hq : QB A (1 / cf p (p.length - 1)) := by
    have := (QB_one 0).div (hp.at (p.length - 1))
    rw [Nat.zero_add] at this; exact this
  exact (CB.padd (CB_nil 0) hp hq 0).mono (by omega)
theorem divF_rest {q : List Rat} (hq : 0 < q.length) (hl : cf q (q.length - 1) ≠ 0) : ∀ (n : Nat) (rest out : List Rat), rest.length < n → PolQ rest → (divF q n rest out).2.length < q.length ∧ PolQ (divF q n rest out).2 := by
  intro n
  induction n with
  | zero => intro rest out h; omega
  | succ n ih =>
    intro rest out h hp
    rw [divF]
    split
    · rename_i hle
      have := div_less hq hl hle
      exact ih _ _ (by omega) (pAdd_pol _ _ _ _)
    · rename_i hle
      exact ⟨Nat.lt_of_not_le hle, hp⟩
theorem divP_rest {p q : List Rat} (hq : 0 < q.length) (hl : cf q (q.length - 1) ≠ 0) : (divP p q).2.length < q.length ∧ PolQ (divP p q).2 :=
  divF_rest hq hl _ _ _ (by omega) (pAdd_pol _ _ _ _)
def comF : Nat → List Rat → List Rat → List Rat
  | 0, p, _ => p
  | n + 1, p, q => if 0 < q.length then comF n q (divP p (scaledP q)).2 else p
def comP (p q : List Rat) : List Rat := scaledP (comF (q.length + 1) p q)
theorem com_less {p q : List Rat} (hq : PolQ q) (h0 : 0 < q.length) : (divP p (scaledP q)).2.length < q.length ∧ PolQ (divP p (scaledP q)).2 := by
  have h1 := scaledP_len hq
  have h2 := divP_rest (p := p) (q := scaledP q) (by omega) (by rw [scaledP_last hq h0]; exact one_ne)
  rw [h1] at h2; exact h2
theorem comF_fuel : ∀ (n m : Nat) (p q : List Rat), PolQ q → q.length < n → q.length < m → comF n p q = comF m p q := by
  intro n
  induction n with
  | zero => intro m p q _ h; omega
  | succ n ih =>
    intro m p q hq h1 h2
    obtain ⟨m, rfl⟩ : ∃ k, m = k + 1 := ⟨m - 1, by omega⟩
    rw [comF, comF]
    split
    · rename_i h0
      obtain ⟨h3, h4⟩ := com_less (p := p) hq h0
      exact ih m _ _ h4 (by omega) (by omega)
    · rfl
theorem comF_step {p q : List Rat} (hq : PolQ q) (h0 : 0 < q.length) : comF (q.length + 1) p q = comF ((divP p (scaledP q)).2.length + 1) q (divP p (scaledP q)).2 := by
  obtain ⟨h3, h4⟩ := com_less (p := p) hq h0
  rw [comF, if_pos h0]
  exact comF_fuel _ _ _ _ h4 (by omega) (by omega)
theorem comF_end {p q : List Rat} (h : ¬ 0 < q.length) : comF (q.length + 1) p q = p := by rw [comF, if_neg h]
/-- the bound of a round -/
def gb (M r s : Nat) : Nat := 5 ^ r * (2 ^ s * (M + 1))
theorem gb_mono {M r s r' s' : Nat} (h1 : r ≤ r') (h2 : s ≤ s') : gb M r s ≤ gb M r' s' := Nat.mul_le_mul (Nat.pow_le_pow_right (by omega) h1) (Nat.mul_le_mul_right _ (two_mono h2))
theorem gb_zero (M : Nat) : gb M 0 0 = M + 1 := by simp [gb]
theorem gb_step {M r s k N : Nat} (h : N + 1 ≤ gb M r s) : 2 ^ k * (5 * N + 4) + 1 ≤ gb M (r + 1) (s + k) := by
  have e : gb M (r + 1) (s + k) = 5 * (2 ^ k * gb M r s) := by
    unfold gb
    rw [Nat.pow_succ, Nat.pow_add, Nat.mul_comm (5 ^ r) 5, Nat.mul_assoc 5, Nat.mul_comm (2 ^ s) (2 ^ k), Nat.mul_assoc (2 ^ k), Nat.mul_left_comm (2 ^ k) (5 ^ r)]
  rw [e]
  have h1 := Nat.mul_le_mul_left (2 ^ k) h
  have h2 := two_pos k
  rw [Nat.mul_add] at h1 ⊢
  rw [Nat.mul_left_comm (2 ^ k) 5]
  omega
end Go.Proofs.Ythoboehbadmlmaa
end
section
namespace Go.Proofs.Ythoboehbadmlmaa
open Go Go.RowKit
set_option linter.unusedSimpArgs false
set_option linter.unusedVariables false
attribute [local irreducible] XWP Spec SpecO XPub XCall seqX clX apX stX ldX iaX slX
theorem cmul_c (V : View) (v u : Value) (p q : List Rat) (A B : Nat) (hv : Rats V v p) (hu : Rats V u q) (hp : CB A p) (hq : CB B q) (hfit : p.length * (A + B + 1) + A + B + 2 ≤ 17592186044416) (lp : q.length + p.length ≤ 1000000) :
    Spec Try.prog 77 [v, u] V fun v' V' => Rats V' v' (mulP p q) := by
  obtain ⟨A1, c1, rfl, hc1, hm1⟩ := hv.form
  obtain ⟨A2, c2, rfl, hc2, hm2⟩ := hu.form
  refine (Spec.enter Try.func77 rfl fun Γ => ?_)
  simp only [Try.ntmps77, List.map_cons, List.map_nil, List.length_cons, List.length_nil, Nat.reduceAdd, Nat.reduceSub, List.replicate_succ, List.replicate_zero, List.cons_append, List.nil_append]
  first | refine Gx.a (by kernel_rfl) fun K hK => ?_ | refine Gx.b (by kernel_rfl) fun K hK => ?_ | refine Gx.c (by kernel_rfl) fun K hK => ?_
  simp only [XA, XB, gateX, Nat.reduceAdd, Nat.reduceLeDiff, Nat.reduceSub, Nat.reduceMul, ↓reduceIte, Int.reduceToNat, Int.reduceLE, beq_self_eq_true]
  refine hK _ ?_
  first | refine Gx.a (by kernel_rfl) fun K hK => ?_ | refine Gx.b (by kernel_rfl) fun K hK => ?_ | refine Gx.c (by kernel_rfl) fun K hK => ?_
  simp only [XA, XB, gateX, Nat.reduceAdd, Nat.reduceLeDiff, Nat.reduceSub, Nat.reduceMul, ↓reduceIte, Int.reduceToNat, Int.reduceLE, beq_self_eq_true]
  refine hK _ ?_
  clear hK
  refine XWP.cutD 0 (fun s => ∃ (V2 : View) (w : Value), StIs (fun Z => [Z 0,Z 1,Z 2,Z 3,Z 4, .v w, Z 6,Z 7,Z 8,Z 9,Z 10,Z 11,Z 12,Z 13,Z 14,Z 15,Z 16,Z 17,Z 18,Z 19,Z 20,Z 21,Z 22,Z 23,Z 24]) [] (fun _ => none) V2 s ∧ Rats V2 w (mulP p q)) ?_ ?_
  · first | refine Gx.a (by kernel_rfl) fun K hK => ?_ | refine Gx.b (by kernel_rfl) fun K hK => ?_ | refine Gx.c (by kernel_rfl) fun K hK => ?_
    simp only [XA, XB, gateX, Nat.reduceAdd, Nat.reduceLeDiff, Nat.reduceSub, Nat.reduceMul, ↓reduceIte, Int.reduceToNat, Int.reduceLE, beq_self_eq_true]
    refine hK _ ?_
    clear hK
    first | refine XWP.block ?_ | refine XWP.seq (XWP.block ?_)
    refine XWP.loopD 0 (fun n s => ∃ (k : Nat) (V2 : View) (w : Value), StIs (fun Z => [.v (.slice A1 p.length c1), .v (.slice A2 q.length c2), Z 2,Z 3,Z 4, .v w, Z 6,Z 7, .v (.slice A1 p.length c1), .v (.int .i64 (p.length : Int)), .v (.int .i64 (k : Int)), Z 11,Z 12,Z 13,Z 14,Z 15,Z 16,Z 17,Z 18,Z 19,Z 20,Z 21,Z 22,Z 23,Z 24]) [] (fun _ => none) V2 s ∧ V.le V2 ∧ n + k = p.length ∧ Rats V2 w (mulI p q k)) p.length ⟨0, V, _, StIs.of (by exact rfl), View.le_refl _, rfl, SlAt.nil V⟩ ?_
    rintro n s ⟨k, V2, w, hs, hV2, hn, hw⟩
    obtain ⟨z, rfl⟩ := hs.out
    try dsimp only
    by_cases hk : k < p.length
    · have b1 : decide ((k : Int) < (p.length : Int)) = true := decide_eq_true (by omega)
      first | refine Gx.a (by kernel_rfl) fun K hK => ?_ | refine Gx.b (by kernel_rfl) fun K hK => ?_ | refine Gx.c (by kernel_rfl) fun K hK => ?_
      simp only [XA, XB, gateX, Nat.reduceAdd, Nat.reduceLeDiff, Nat.reduceSub, Nat.reduceMul, ↓reduceIte, Int.reduceToNat, Int.reduceLE, beq_self_eq_true, b1]
      refine hK _ ?_
      first | refine Gx.t rfl ?_ | refine XWP.seq (Gx.t rfl ?_)
      refine XWP.skip ?_
      refine XWP.seq ?_
      first | refine XWP.block ?_ | refine XWP.seq (XWP.block ?_)
      first | refine Gx.a (by kernel_rfl) fun K hK => ?_ | refine Gx.b (by kernel_rfl) fun K hK => ?_ | refine Gx.c (by kernel_rfl) fun K hK => ?_
      have hv2 := Rats.up hv hV2
      have hu2 := Rats.up hu hV2
      obtain ⟨b, o, rfl⟩ := SlAt.addr hv2 (by omega)
      obtain ⟨m3, n3, d3, hx3, ⟨p1, p2, p3⟩, hld3⟩ := Rats.get hv2 k hk
      simp only [XA, XB, gateX, Nat.reduceAdd, Nat.reduceLeDiff, Nat.reduceSub, Nat.reduceMul, ↓reduceIte, Int.reduceToNat, Int.reduceLE, beq_self_eq_true]
      refine ⟨by omega, by omega, ld_mem (hld3 _) ?_⟩
      simp only [XA, XB, gateX, Nat.reduceAdd, Nat.reduceLeDiff, Nat.reduceSub, Nat.reduceMul, ↓reduceIte, Int.reduceToNat, Int.reduceLE, beq_self_eq_true]
      refine st_rat rfl rfl p1 p2 p3 ?_
      simp only [XA, XB, gateX, Nat.reduceAdd, Nat.reduceLeDiff, Nat.reduceSub, Nat.reduceMul, ↓reduceIte, Int.reduceToNat, Int.reduceLE, beq_self_eq_true]
      refine hK _ ?_
      clear hK
      refine XWP.post (fun s => ∃ (V3 : View) (w : Value), StIs (fun Z => [.v (.slice (some ⟨b, o, none⟩) p.length c1), .v (.slice A2 q.length c2), Z 2,Z 3,Z 4, .v w, Z 6,Z 7, .v (.slice (some ⟨b, o, none⟩) p.length c1), .v (.int .i64 (p.length : Int)), .v (.int .i64 (k : Int)), Z 11,Z 12,Z 13,Z 14,Z 15,Z 16,Z 17,Z 18,Z 19,Z 20,Z 21,Z 22,Z 23,Z 24]) [[m3, n3, d3]] (fun _ => none) V3 s ∧ V.le V3 ∧ Rats V3 w (mulI p q (k + 1))) ?_ ?_
      · first | refine Gx.a (by kernel_rfl) fun K hK => ?_ | refine Gx.b (by kernel_rfl) fun K hK => ?_ | refine Gx.c (by kernel_rfl) fun K hK => ?_
        simp only [XA, XB, gateX, Nat.reduceAdd, Nat.reduceLeDiff, Nat.reduceSub, Nat.reduceMul, ↓reduceIte, Int.reduceToNat, Int.reduceLE, beq_self_eq_true]
        refine call_go (by kernel_rfl) rfl (czero_c _ _ _ hx3) fun v4 V4 hV4 h4 => ?_
        subst h4
        by_cases hz : cf p k = 0
        · have b2 : decide (cf p k = 0) = true := decide_eq_true hz
          simp only [XA, XB, gateX, Nat.reduceAdd, Nat.reduceLeDiff, Nat.reduceSub, Nat.reduceMul, ↓reduceIte, Int.reduceToNat, Int.reduceLE, beq_self_eq_true, b2]
          refine hK _ ?_
          first | refine Gx.f rfl ?_ | refine XWP.seq (Gx.f rfl ?_)
          refine XWP.skip ?_
          refine ⟨V4, w, StIs.of (by exact rfl), View.le_trans hV2 hV4, ?_⟩
          rw [mulI, if_pos hz]; exact hw.up hV4
        · have b2 : decide (cf p k = 0) = false := decide_eq_false hz
          simp only [XA, XB, gateX, Nat.reduceAdd, Nat.reduceLeDiff, Nat.reduceSub, Nat.reduceMul, ↓reduceIte, Int.reduceToNat, Int.reduceLE, beq_self_eq_true, b2]
          refine hK _ ?_
          first | refine Gx.t rfl ?_ | refine XWP.seq (Gx.t rfl ?_)
          first | refine Gx.a (by kernel_rfl) fun K hK => ?_ | refine Gx.b (by kernel_rfl) fun K hK => ?_ | refine Gx.c (by kernel_rfl) fun K hK => ?_
          simp only [XA, XB, gateX, Nat.reduceAdd, Nat.reduceLeDiff, Nat.reduceSub, Nat.reduceMul, ↓reduceIte, Int.reduceToNat, Int.reduceLE, beq_self_eq_true]
          have hI := mulI_CB hp hq k
          have hl := mulI_len p q k
          have hkm : k * (A + B + 1) + (A + B + 1) ≤ p.length * (A + B + 1) := by
            have := Nat.mul_le_mul_right (A + B + 1) (show k + 1 ≤ p.length from hk)
            rw [Nat.add_mul] at this; omega
          refine call_go (by kernel_rfl) rfl (cadd_c _ _ _ _ _ _ _ k _ _ _ (hw.up hV4) (hu2.up hV4) (hx3.mono hV4) hI.mem hq.mem (hp.at k) (by omega) (by omega) (by omega)) fun v5 V5 hV5 h5 => ?_
          simp only [XA, XB, gateX, Nat.reduceAdd, Nat.reduceLeDiff, Nat.reduceSub, Nat.reduceMul, ↓reduceIte, Int.reduceToNat, Int.reduceLE, beq_self_eq_true]
          refine hK _ ⟨V5, v5, StIs.of (by exact rfl), View.le_trans hV2 (View.le_trans hV4 hV5), ?_⟩
          rw [mulI, if_neg hz]; exact h5
      · rintro s ⟨V3, w, hs, hV3, hw⟩
        obtain ⟨z, rfl⟩ := hs.out
        try dsimp only
        first | refine Gx.a (by kernel_rfl) fun K hK => ?_ | refine Gx.b (by kernel_rfl) fun K hK => ?_ | refine Gx.c (by kernel_rfl) fun K hK => ?_
        simp only [XA, XB, gateX, Nat.reduceAdd, Nat.reduceLeDiff, Nat.reduceSub, Nat.reduceMul, ↓reduceIte, Int.reduceToNat, Int.reduceLE, beq_self_eq_true, i64_succ k (by omega)]
        exact hK _ ⟨n - 1, by omega, fun f => ⟨k + 1, V3, w, StIs.of (by exact rfl), hV3, by omega, hw⟩⟩
    · have b1 : decide ((k : Int) < (p.length : Int)) = false := decide_eq_false (by omega)
      obtain rfl : k = p.length := by omega
      first | refine Gx.a (by kernel_rfl) fun K hK => ?_ | refine Gx.b (by kernel_rfl) fun K hK => ?_ | refine Gx.c (by kernel_rfl) fun K hK => ?_
      simp only [XA, XB, gateX, Nat.reduceAdd, Nat.reduceLeDiff, Nat.reduceSub, Nat.reduceMul, ↓reduceIte, Int.reduceToNat, Int.reduceLE, beq_self_eq_true, b1]
      refine hK _ ?_
      first | refine Gx.f rfl ?_ | refine XWP.seq (Gx.f rfl ?_)
      refine XWP.exit ?_
      exact fun f => ⟨V2, w, StIs.of (by exact rfl), hw⟩
  rintro s ⟨V2, w, hs, hw⟩
  obtain ⟨z, rfl⟩ := hs.out
  try dsimp only
  first | refine Gx.a (by kernel_rfl) fun K hK => ?_ | refine Gx.b (by kernel_rfl) fun K hK => ?_ | refine Gx.c (by kernel_rfl) fun K hK => ?_
  simp only [XA, XB, gateX, Nat.reduceAdd, Nat.reduceLeDiff, Nat.reduceSub, Nat.reduceMul, ↓reduceIte, Int.reduceToNat, Int.reduceLE, beq_self_eq_true]
  refine hK _ (XWP.ret ?_)
  try simp only [thenX_ret, inBlockX_ret]
  refine ret_go _ rfl ?_
  exact hw
theorem cscaled_c (V : View) (v : Value) (p : List Rat) (A : Nat) (hv : Rats V v p) (hp : CB A p) (h0 : 0 < p.length) (hl : cf p (p.length - 1) ≠ 0) (hfit : 2 * A + 2 ≤ 17592186044416) (lp : p.length ≤ 1000000) :
    Spec Try.prog 74 [v] V fun v' V' => Rats V' v' (scaledP p) := by
  obtain ⟨A1, c1, rfl, hc1, hm1⟩ := hv.form
  refine (Spec.enter Try.func74 rfl fun Γ => ?_)
  simp only [Try.ntmps74, List.map_cons, List.map_nil, List.length_cons, List.length_nil, Nat.reduceAdd, Nat.reduceSub, List.replicate_succ, List.replicate_zero, List.cons_append, List.nil_append]
  first | refine Gx.a (by kernel_rfl) fun K hK => ?_ | refine Gx.b (by kernel_rfl) fun K hK => ?_ | refine Gx.c (by kernel_rfl) fun K hK => ?_
  simp only [XA, XB, gateX, Nat.reduceAdd, Nat.reduceLeDiff, Nat.reduceSub, Nat.reduceMul, ↓reduceIte, Int.reduceToNat, Int.reduceLE, beq_self_eq_true]
  refine hK _ ?_
  refine XWP.cut (fun s => ∃ (V2 : View) (m x y : Value), StIs (fun Z => [.v (.slice A1 p.length c1), Z 1,Z 2, .p 0 0, Z 4,Z 5,Z 6,Z 7,Z 8,Z 9,Z 10,Z 11,Z 12,Z 13,Z 14,Z 15,Z 16,Z 17,Z 18]) [[m, x, y]] (fun _ => none) V2 s ∧ V.le V2 ∧ RatC V2 (.agg #[m, x, y]) (1 / cf p (p.length - 1))) ?_ ?_
  · (first | refine XWP.drwT (.lin [1, 2, 3, 4, 5, 6] (.two (.lin [0] (.two (.lin [7, 8, 9, 10, 11, 12, 13] .nil) (.lin [11, 7, 8, 9, 10, 12, 13] .nil))) (.lin [11, 0, 7, 8, 9, 10, 12, 13] .nil))) (by kernel_rfl) (by kernel_rfl) (by kernel_rfl) fun K hK => ?_ | refine XWP.seq (XWP.drwT (.lin [1, 2, 3, 4, 5, 6] (.two (.lin [0] (.two (.lin [7, 8, 9, 10, 11, 12, 13] .nil) (.lin [11, 7, 8, 9, 10, 12, 13] .nil))) (.lin [11, 0, 7, 8, 9, 10, 12, 13] .nil))) (by kernel_rfl) (by kernel_rfl) (by kernel_rfl) fun K hK => ?_) | refine XWP.drwT1 (.lin [1, 2, 3, 4, 5, 6] (.two (.lin [0] (.two (.lin [7, 8, 9, 10, 11, 12, 13] .nil) (.lin [11, 7, 8, 9, 10, 12, 13] .nil))) (.lin [11, 0, 7, 8, 9, 10, 12, 13] .nil))) (by kernel_rfl) (by kernel_rfl) (by kernel_rfl) fun K hK => ?_)
    obtain ⟨b, o, rfl⟩ := SlAt.addr hv (by omega)
    obtain ⟨m3, n3, d3, hx3, ⟨p1, p2, p3⟩, hld3⟩ := Rats.get hv (p.length - 1) (by omega)
    have w1 := i64_pred p.length (by omega) (by omega)
    simp only [XA, XB, gateX, Nat.reduceAdd, Nat.reduceLeDiff, Nat.reduceSub, Nat.reduceMul, ↓reduceIte, Int.reduceToNat, Int.reduceLE, beq_self_eq_true, w1]
    refine ⟨by omega, by omega, ld_mem (hld3 _) ?_⟩
    simp only [XA, XB, gateX, Nat.reduceAdd, Nat.reduceLeDiff, Nat.reduceSub, Nat.reduceMul, ↓reduceIte, Int.reduceToNat, Int.reduceLE, beq_self_eq_true]
    refine And.intro ?_ ?_
    all_goals refine call_go (by kernel_rfl) rfl (qone_c _) fun v1 V1 hV1 h1 => ?_
    all_goals simp only [XA, XB, gateX, Nat.reduceAdd, Nat.reduceLeDiff, Nat.reduceSub, Nat.reduceMul, ↓reduceIte, Int.reduceToNat, Int.reduceLE, beq_self_eq_true]
    all_goals try refine And.intro ?_ ?_
    all_goals refine call_go (by kernel_rfl) rfl (qdiv_c _ _ _ _ _ h1 (hx3.mono hV1) QF_one (QF.of (hp.at _) (by omega))) fun v2 V2 hV2 h2 => ?_
    all_goals obtain ⟨r, rfl, hr⟩ := h2.2 hl
    all_goals obtain ⟨x, y, rfl, ox, oy⟩ := hr.form
    all_goals simp only [XA, XB, gateX, Nat.reduceAdd, Nat.reduceLeDiff, Nat.reduceSub, Nat.reduceMul, ↓reduceIte, Int.reduceToNat, Int.reduceLE, beq_self_eq_true]
    all_goals refine st_rat rfl rfl rfl ox oy ?_
    all_goals simp only [XA, XB, gateX, Nat.reduceAdd, Nat.reduceLeDiff, Nat.reduceSub, Nat.reduceMul, ↓reduceIte, Int.reduceToNat, Int.reduceLE, beq_self_eq_true]
    all_goals exact hK _ ⟨V2, _, x, y, StIs.of (by exact rfl), View.le_trans hV1 hV2, hr⟩
  rintro s ⟨V2, m, x, y, hs, hV2, hr⟩
  obtain ⟨z, rfl⟩ := hs.out
  try dsimp only
  have hq : QB A (1 / cf p (p.length - 1)) := by
    have := (QB_one 0).div (hp.at (p.length - 1))
    rw [Nat.zero_add] at this; exact this
  first | refine Gx.a (by kernel_rfl) fun K hK => ?_ | refine Gx.b (by kernel_rfl) fun K hK => ?_ | refine Gx.c (by kernel_rfl) fun K hK => ?_
  simp only [XA, XB, gateX, Nat.reduceAdd, Nat.reduceLeDiff, Nat.reduceSub, Nat.reduceMul, ↓reduceIte, Int.reduceToNat, Int.reduceLE, beq_self_eq_true]
  refine call_go (by kernel_rfl) rfl (cadd_c _ _ _ _ [] p _ 0 0 A A (SlAt.nil _) (hv.up hV2) hr (by simp) hp.mem hq (by omega) (by simp) (by omega)) fun v3 V3 hV3 h3 => ?_
  simp only [XA, XB, gateX, Nat.reduceAdd, Nat.reduceLeDiff, Nat.reduceSub, Nat.reduceMul, ↓reduceIte, Int.reduceToNat, Int.reduceLE, beq_self_eq_true]
  refine hK _ (XWP.ret ?_)
  try simp only [thenX_ret, inBlockX_ret]
  refine ret_go _ rfl ?_
  exact h3
end Go.Proofs.Ythoboehbadmlmaa
end
section
namespace Go.Proofs.Ythoboehbadmlmaa
open Go Go.RowKit
set_option linter.unusedSimpArgs false
set_option linter.unusedVariables false
attribute [local irreducible] XWP Spec SpecO XPub XCall seqX clX apX stX ldX iaX slX
/-- a private slice of fractions of full length, or nil -/
def OutIs (H : Heap) (V : View) (w : Value) (out : List Rat) : Prop := (w = .slice none 0 0 ∧ out = []) ∨ ∃ g cells, w = .slice (some ⟨g, 0, none⟩) out.length out.length ∧ H g = some ⟨34, cells, out.length * 3⟩ ∧ RowAt ratE V cells out
theorem OutIs.up {H : Heap} {V V' : View} {w : Value} {out : List Rat} (h : OutIs H V w out) (hV : V.le V') : OutIs H V' w out := by
  rcases h with h | ⟨g, cells, e, h1, h2⟩
  · exact .inl h
  · exact .inr ⟨g, cells, e, h1, h2.mono ratE_ok hV⟩
theorem pAdd_nil_len (p : List Rat) : (pAdd p [] 1 0).length ≤ p.length := by
  have := pAdd_len p [] 1 0
  simpa using this
theorem len_geq (a b : Nat) : decide ((b : Int) ≤ (a : Int)) = decide (b ≤ a) := by rw [decide_eq_decide]; omega
theorem cdiv_c (V : View) (v u : Value) (p q : List Rat) (A B : Nat) (hv : Rats V v p) (hu : Rats V u q) (hp : CB A p) (hq : CB B q) (h0 : 0 < q.length) (hl : cf q (q.length - 1) ≠ 0) (hfit : 2 ^ (p.length - q.length + 1) * (A + 2 * B + 2) ≤ 17592186044416) (lp : p.length ≤ 100000) (lq : q.length ≤ 100000) :
    Spec Try.prog 72 [v, u] V fun v' V' => ∃ wq wr, v' = .tuple #[wq, wr] ∧ Rats V' wq (divP p q).1 ∧ Rats V' wr (divP p q).2 ∧ CB (2 ^ (p.length - q.length + 1) * (A + 2 * B + 2)) (divP p q).2 := by
  obtain ⟨A1, c1, rfl, hc1, hm1⟩ := hv.form
  obtain ⟨A2, c2, rfl, hc2, hm2⟩ := hu.form
  have hC0 : A + 2 * B + 2 ≤ 2 ^ (p.length - q.length + 1) * (A + 2 * B + 2) := Nat.le_mul_of_pos_left _ (two_pos _)
  refine (Spec.enter Try.func72 rfl fun Γ => ?_)
  simp only [Try.ntmps72, List.map_cons, List.map_nil, List.length_cons, List.length_nil, Nat.reduceAdd, Nat.reduceSub, List.replicate_succ, List.replicate_zero, List.cons_append, List.nil_append]
  first | refine Gx.a (by kernel_rfl) fun K hK => ?_ | refine Gx.b (by kernel_rfl) fun K hK => ?_ | refine Gx.c (by kernel_rfl) fun K hK => ?_
  simp only [XA, XB, gateX, Nat.reduceAdd, Nat.reduceLeDiff, Nat.reduceSub, Nat.reduceMul, ↓reduceIte, Int.reduceToNat, Int.reduceLE, beq_self_eq_true]
  refine hK _ ?_
  first | refine Gx.a (by kernel_rfl) fun K hK => ?_ | refine Gx.b (by kernel_rfl) fun K hK => ?_ | refine Gx.c (by kernel_rfl) fun K hK => ?_
  simp only [XA, XB, gateX, Nat.reduceAdd, Nat.reduceLeDiff, Nat.reduceSub, Nat.reduceMul, ↓reduceIte, Int.reduceToNat, Int.reduceLE, beq_self_eq_true]
  refine call_go (by kernel_rfl) rfl (qone_c _) fun v1 V1 hV1 h1 => ?_
  simp only [XA, XB, gateX, Nat.reduceAdd, Nat.reduceLeDiff, Nat.reduceSub, Nat.reduceMul, ↓reduceIte, Int.reduceToNat, Int.reduceLE, beq_self_eq_true]
  refine call_go (by kernel_rfl) rfl (cadd_c _ _ _ _ p [] 1 0 A 0 0 (Rats.up hv hV1) (SlAt.nil _) h1 hp.mem (by simp) (QB_one 0) (by omega) (by omega) (by simp)) fun v2 V2 hV2 h2 => ?_
  have hV2 := View.le_trans hV1 hV2
  have hr0 : CB (A + 1) (pAdd p [] 1 0) := (CB.padd hp (CB_nil 0) (QB_one 0) 0).mono (by omega)
  have hrl := pAdd_nil_len p
  simp only [XA, XB, gateX, Nat.reduceAdd, Nat.reduceLeDiff, Nat.reduceSub, Nat.reduceMul, ↓reduceIte, Int.reduceToNat, Int.reduceLE, beq_self_eq_true]
  refine hK _ ?_
  clear hK h1
  obtain ⟨r, hr⟩ : ∃ r, r = pAdd p [] 1 0 := ⟨_, rfl⟩
  obtain ⟨out0, ho0⟩ : ∃ out0, out0 = if q.length ≤ r.length then List.replicate (r.length - q.length + 1) (0 : Rat) else [] := ⟨_, rfl⟩
  have hdiv : divP p q = (trimQ (divF q (r.length + 1) r out0).1, (divF q (r.length + 1) r out0).2) := by rw [hr, ho0, hr]; rfl
  rw [hdiv]
  rw [← hr] at h2 hr0 hrl
  obtain ⟨A3, c3, rfl, hc3, hm3⟩ := h2.form
  first | refine Gx.a (by kernel_rfl) fun K hK => ?_ | refine Gx.b (by kernel_rfl) fun K hK => ?_ | refine Gx.c (by kernel_rfl) fun K hK => ?_
  simp only [XA, XB, gateX, Nat.reduceAdd, Nat.reduceLeDiff, Nat.reduceSub, Nat.reduceMul, ↓reduceIte, Int.reduceToNat, Int.reduceLE, beq_self_eq_true]
  refine hK _ ?_
  refine XWP.cutD 0 (fun s => ∃ (V3 : View) (H5 : Heap) (w : Value), StIs (fun Z => [Z 0, .v (.slice A2 q.length c2), Z 2,Z 3,Z 4,Z 5, .v (.slice A3 r.length c3), .v w, Z 8,Z 9,Z 10,Z 11,Z 12,Z 13,Z 14,Z 15,Z 16,Z 17,Z 18,Z 19,Z 20,Z 21,Z 22,Z 23,Z 24,Z 25,Z 26,Z 27,Z 28,Z 29,Z 30,Z 31,Z 32,Z 33,Z 34,Z 35,Z 36,Z 37,Z 38,Z 39,Z 40,Z 41,Z 42,Z 43,Z 44,Z 45,Z 46,Z 47,Z 48,Z 49,Z 50,Z 51,Z 52,Z 53,Z 54,Z 55,Z 56,Z 57,Z 58,Z 59,Z 60,Z 61,Z 62,Z 63,Z 64,Z 65,Z 66,Z 67,Z 68,Z 69,Z 70,Z 71,Z 72,Z 73,Z 74,Z 75,Z 76,Z 77]) [] H5 V3 s ∧ V2.le V3 ∧ OutIs H5 V3 w out0) ?_ ?_
  · first | refine Gx.a (by kernel_rfl) fun K hK => ?_ | refine Gx.b (by kernel_rfl) fun K hK => ?_ | refine Gx.c (by kernel_rfl) fun K hK => ?_
    by_cases hle : q.length ≤ r.length
    · have b1 : decide (q.length ≤ r.length) = true := decide_eq_true hle
      simp only [XA, XB, gateX, Nat.reduceAdd, Nat.reduceLeDiff, Nat.reduceSub, Nat.reduceMul, ↓reduceIte, Int.reduceToNat, Int.reduceLE, beq_self_eq_true, len_geq, b1]
      refine hK _ ?_
      first | refine Gx.t rfl ?_ | refine XWP.seq (Gx.t rfl ?_)
      obtain ⟨N, hN⟩ : ∃ N, N = r.length - q.length + 1 := ⟨_, rfl⟩
      have w1 := i64_sub r.length q.length (by omega) (by omega)
      have w2 : IntKind.i64.wrap (((r.length - q.length : Nat) : Int) + 1) = (N : Int) := by rw [i64_succ _ (by omega), hN]
      first | refine Gx.a (by kernel_rfl) fun K hK => ?_ | refine Gx.b (by kernel_rfl) fun K hK => ?_ | refine Gx.c (by kernel_rfl) fun K hK => ?_
      simp only [XA, XB, gateX, Nat.reduceAdd, Nat.reduceLeDiff, Nat.reduceSub, Nat.reduceMul, ↓reduceIte, Int.reduceToNat, Int.reduceLE, beq_self_eq_true, w1, w2]
      refine mk_go rfl rfl elemT_22 zeroT_34 (by omega) (by omega) (by omega) (by omega) rfl (by omega) fun g hg1 hg2 => ?_
      simp only [XA, XB, gateX, Nat.reduceAdd, Nat.reduceLeDiff, Nat.reduceSub, Nat.reduceMul, ↓reduceIte, Int.reduceToNat, Int.reduceLE, beq_self_eq_true]
      refine hK _ ?_
      first | refine Gx.a (by kernel_rfl) fun K hK => ?_ | refine Gx.b (by kernel_rfl) fun K hK => ?_ | refine Gx.c (by kernel_rfl) fun K hK => ?_
      simp only [XA, XB, gateX, Nat.reduceAdd, Nat.reduceLeDiff, Nat.reduceSub, Nat.reduceMul, ↓reduceIte, Int.reduceToNat, Int.reduceLE, beq_self_eq_true]
      refine hK _ ?_
      clear hK
      first | refine XWP.block ?_ | refine XWP.seq (XWP.block ?_)
      refine XWP.loop (fun n s => ∃ (k : Nat) (V3 : View) (H5 : Heap) (cells : List Value), StIs (fun Z => [Z 0, .v (.slice A2 q.length c2), Z 2,Z 3,Z 4,Z 5, .v (.slice A3 r.length c3), .v (.slice (some ⟨g, 0, none⟩) N N), Z 8,Z 9,Z 10,Z 11,Z 12,Z 13,Z 14,Z 15,Z 16,Z 17,Z 18,Z 19,Z 20,Z 21,Z 22,Z 23,Z 24,Z 25,Z 26, .v (.int .i64 (N : Int)), .v (.int .i64 (k : Int)), Z 29,Z 30,Z 31,Z 32,Z 33,Z 34,Z 35,Z 36,Z 37,Z 38,Z 39,Z 40,Z 41,Z 42,Z 43,Z 44,Z 45,Z 46,Z 47,Z 48,Z 49,Z 50,Z 51,Z 52,Z 53,Z 54,Z 55,Z 56,Z 57,Z 58,Z 59,Z 60,Z 61,Z 62,Z 63,Z 64,Z 65,Z 66,Z 67,Z 68,Z 69,Z 70,Z 71,Z 72,Z 73,Z 74,Z 75,Z 76,Z 77]) [] H5 V3 s ∧ V2.le V3 ∧ n + k = N ∧ H5 g = some ⟨34, cells, N * 3⟩ ∧ RowAt (optE ratE) V3 cells (part N (fun _ => 0) k)) N ⟨0, V2, _, _, StIs.of (by exact rfl), View.le_refl _, rfl, by rw [upd_at], by rw [part_zero]; exact RowAt.new _ N⟩ ?_
      rintro n s ⟨k, V3, H5, cells, hs, hV3, hn, hH, hrow⟩
      obtain ⟨z, rfl⟩ := hs.out
      try dsimp only
      by_cases hk : k < N
      · have b2 : decide ((k : Int) < (N : Int)) = true := decide_eq_true (by omega)
        first | refine Gx.a (by kernel_rfl) fun K hK => ?_ | refine Gx.b (by kernel_rfl) fun K hK => ?_ | refine Gx.c (by kernel_rfl) fun K hK => ?_
        simp only [XA, XB, gateX, Nat.reduceAdd, Nat.reduceLeDiff, Nat.reduceSub, Nat.reduceMul, ↓reduceIte, Int.reduceToNat, Int.reduceLE, beq_self_eq_true, b2]
        refine hK _ ?_
        first | refine Gx.t rfl ?_ | refine XWP.seq (Gx.t rfl ?_)
        refine XWP.skip ?_
        refine XWP.seq ?_
        first | refine XWP.block ?_ | refine XWP.seq (XWP.block ?_)
        first | refine Gx.a (by kernel_rfl) fun K hK => ?_ | refine Gx.b (by kernel_rfl) fun K hK => ?_ | refine Gx.c (by kernel_rfl) fun K hK => ?_
        simp only [XA, XB, gateX, Nat.reduceAdd, Nat.reduceLeDiff, Nat.reduceSub, Nat.reduceMul, ↓reduceIte, Int.reduceToNat, Int.reduceLE, beq_self_eq_true]
        refine hK _ ?_
        first | refine Gx.a (by kernel_rfl) fun K hK => ?_ | refine Gx.b (by kernel_rfl) fun K hK => ?_ | refine Gx.c (by kernel_rfl) fun K hK => ?_
        simp only [XA, XB, gateX, Nat.reduceAdd, Nat.reduceLeDiff, Nat.reduceSub, Nat.reduceMul, ↓reduceIte, Int.reduceToNat, Int.reduceLE, beq_self_eq_true]
        refine call_go (by kernel_rfl) rfl (qzero_c _) fun v4 V4 hV4 h4 => ?_
        obtain ⟨x5, y5, rfl, o5, o6⟩ := h4.form
        have hrow := hrow.mono (optE_ok ratE_ok) hV4
        have hl4 := hrow.1
        rw [part_len] at hl4
        simp only [XA, XB, gateX, Nat.reduceAdd, Nat.reduceLeDiff, Nat.reduceSub, Nat.reduceMul, ↓reduceIte, Int.reduceToNat, Int.reduceLE, beq_self_eq_true]
        refine ⟨by omega, by omega, ?_⟩
        refine st_rowA shapeT_34 (all3 rfl o5 o6) rfl hH (by dsimp only; omega) ?_
        simp only [XA, XB, gateX, Nat.reduceAdd, Nat.reduceLeDiff, Nat.reduceSub, Nat.reduceMul, ↓reduceIte, Int.reduceToNat, Int.reduceLE, beq_self_eq_true]
        refine hK _ ?_
        have hrow2 := hrow.set k (by rw [part_len]; omega) (x := some 0) (show isOne (.bool (ng 0)) = true from rfl) o5 o6 h4
        have e := part_step N (fun _ => 0) k
        rw [e] at hrow2
        first | refine Gx.a (by kernel_rfl) fun K hK => ?_ | refine Gx.b (by kernel_rfl) fun K hK => ?_ | refine Gx.c (by kernel_rfl) fun K hK => ?_
        simp only [XA, XB, gateX, Nat.reduceAdd, Nat.reduceLeDiff, Nat.reduceSub, Nat.reduceMul, ↓reduceIte, Int.reduceToNat, Int.reduceLE, beq_self_eq_true, i64_succ k (by omega)]
        exact hK _ ⟨n - 1, by omega, k + 1, V4, _, _, StIs.of (by exact rfl), View.le_trans hV3 hV4, by omega, upd_at _ _ _, hrow2⟩
      · have b2 : decide ((k : Int) < (N : Int)) = false := decide_eq_false (by omega)
        obtain rfl : k = N := by omega
        first | refine Gx.a (by kernel_rfl) fun K hK => ?_ | refine Gx.b (by kernel_rfl) fun K hK => ?_ | refine Gx.c (by kernel_rfl) fun K hK => ?_
        simp only [XA, XB, gateX, Nat.reduceAdd, Nat.reduceLeDiff, Nat.reduceSub, Nat.reduceMul, ↓reduceIte, Int.reduceToNat, Int.reduceLE, beq_self_eq_true, b2]
        refine hK _ ?_
        first | refine Gx.f rfl ?_ | refine XWP.seq (Gx.f rfl ?_)
        refine XWP.exit ?_
        have eo : mk k (fun _ => 0) = out0 := by
          rw [ho0, if_pos hle, ← hN]
          unfold mk
          exact List.ext_getElem (by simp) fun i h1 h2 => by simp
        rw [part_all, eo] at hrow
        have el : out0.length = k := by rw [← eo, mk_len]
        refine fun f => ⟨V3, H5, _, StIs.of (by exact rfl), hV3, .inr ⟨g, cells, by rw [el], by rw [el]; exact hH, hrow.all⟩⟩
    · have b1 : decide (q.length ≤ r.length) = false := decide_eq_false hle
      simp only [XA, XB, gateX, Nat.reduceAdd, Nat.reduceLeDiff, Nat.reduceSub, Nat.reduceMul, ↓reduceIte, Int.reduceToNat, Int.reduceLE, beq_self_eq_true, len_geq, b1]
      refine hK _ ?_
      first | refine Gx.f rfl ?_ | refine XWP.seq (Gx.f rfl ?_)
      refine XWP.skip ?_
      exact fun f => ⟨V2, _, _, StIs.of (by exact rfl), View.le_refl _, .inl ⟨rfl, by rw [ho0, if_neg hle]⟩⟩
  rintro s ⟨V3, H3, w0, hs, hV3, hout⟩
  obtain ⟨z, rfl⟩ := hs.out
  try dsimp only
  have h2 := h2.up hV3
  have hu2 := hu.up (View.le_trans hV2 hV3)
  have hol : out0.length = if q.length ≤ r.length then r.length - q.length + 1 else 0 := by rw [ho0]; split <;> simp
  obtain ⟨fin, hfin⟩ : ∃ fin, fin = divF q (r.length + 1) r out0 := ⟨_, rfl⟩
  rw [← hfin]
  have hpow : 2 ^ (r.length - q.length + 1) * (A + 2 * B + 2) ≤ 2 ^ (p.length - q.length + 1) * (A + 2 * B + 2) := Nat.mul_le_mul_right _ (two_mono (by omega))
  refine XWP.cutD 0 (fun s => ∃ (V4 : View) (H5 : Heap) (wr wo : Value), StIs (fun Z => [Z 0,Z 1,Z 2,Z 3,Z 4,Z 5, .v wr, .v wo, Z 8,Z 9,Z 10,Z 11,Z 12,Z 13,Z 14,Z 15,Z 16,Z 17,Z 18,Z 19,Z 20,Z 21,Z 22,Z 23,Z 24,Z 25,Z 26,Z 27,Z 28,Z 29,Z 30,Z 31,Z 32,Z 33,Z 34,Z 35,Z 36,Z 37,Z 38,Z 39,Z 40,Z 41,Z 42,Z 43,Z 44,Z 45,Z 46,Z 47,Z 48,Z 49,Z 50,Z 51,Z 52,Z 53,Z 54,Z 55,Z 56,Z 57,Z 58,Z 59,Z 60,Z 61,Z 62,Z 63,Z 64,Z 65,Z 66,Z 67,Z 68,Z 69,Z 70,Z 71,Z 72,Z 73,Z 74,Z 75,Z 76,Z 77]) [] H5 V4 s ∧ Rats V4 wr fin.2 ∧ OutIs H5 V4 wo fin.1 ∧ CB (2 ^ (p.length - q.length + 1) * (A + 2 * B + 2)) fin.2 ∧ fin.1.length ≤ 100001) ?_ ?_
  · first | refine XWP.block ?_ | refine XWP.seq (XWP.block ?_)
    refine XWP.loopD 0 (fun n s => ∃ (V4 : View) (H5 : Heap) (wr wo : Value) (rest out : List Rat) (b : Nat), StIs (fun Z => [Z 0, .v (.slice A2 q.length c2), Z 2,Z 3,Z 4,Z 5, .v wr, .v wo, Z 8,Z 9,Z 10,Z 11,Z 12,Z 13,Z 14,Z 15,Z 16,Z 17,Z 18,Z 19,Z 20,Z 21,Z 22,Z 23,Z 24,Z 25,Z 26,Z 27,Z 28,Z 29,Z 30,Z 31,Z 32,Z 33,Z 34,Z 35,Z 36,Z 37,Z 38,Z 39,Z 40,Z 41,Z 42,Z 43,Z 44,Z 45,Z 46,Z 47,Z 48,Z 49,Z 50,Z 51,Z 52,Z 53,Z 54,Z 55,Z 56,Z 57,Z 58,Z 59,Z 60,Z 61,Z 62,Z 63,Z 64,Z 65,Z 66,Z 67,Z 68,Z 69,Z 70,Z 71,Z 72,Z 73,Z 74,Z 75,Z 76,Z 77]) [] H5 V4 s ∧ V3.le V4 ∧ n = rest.length ∧ Rats V4 wr rest ∧ OutIs H5 V4 wo out ∧ out.length = out0.length ∧ rest.length ≤ r.length ∧ CB b rest ∧ b + 2 * B + 1 ≤ 2 ^ (r.length - rest.length) * (A + 2 * B + 2) ∧ b + 2 * B + 1 ≤ 2 ^ (r.length - q.length + 1) * (A + 2 * B + 2) ∧ divF q (rest.length + 1) rest out = fin) r.length ⟨V3, H3, _, w0, r, out0, A + 1, StIs.of (by exact rfl), View.le_refl _, rfl, h2, hout, rfl, Nat.le_refl _, hr0, by rw [Nat.sub_self]; omega, by have := Nat.le_mul_of_pos_left (A + 2 * B + 2) (two_pos (r.length - q.length + 1)); omega, hfin.symm⟩ ?_
    rintro n s ⟨V4, H5, wr, wo, rest, out, b, hs, hV4, hn, hwr, hwo, hlo, hlr, hb, hb1, hb2, hd⟩
    obtain ⟨z, rfl⟩ := hs.out
    try dsimp only
    obtain ⟨A5, c5, rfl, hc5, hm5⟩ := hwr.form
    refine XWP.seq ?_
    by_cases hle : q.length ≤ rest.length
    · have b1 : decide (q.length ≤ rest.length) = true := decide_eq_true hle
      first | refine Gx.a (by kernel_rfl) fun K hK => ?_ | refine Gx.b (by kernel_rfl) fun K hK => ?_ | refine Gx.c (by kernel_rfl) fun K hK => ?_
      simp only [XA, XB, gateX, Nat.reduceAdd, Nat.reduceLeDiff, Nat.reduceSub, Nat.reduceMul, ↓reduceIte, Int.reduceToNat, Int.reduceLE, beq_self_eq_true, len_geq, b1]
      refine hK _ ?_
      first | refine Gx.t rfl ?_ | refine XWP.seq (Gx.t rfl ?_)
      refine XWP.skip ?_
      first | refine XWP.block ?_ | refine XWP.seq (XWP.block ?_)
      have hu4 := hu2.up hV4
      have hlr0 : q.length ≤ r.length := by omega
      rw [if_pos hlr0] at hol
      have hfb : 2 * (b + 2 * B + 1) ≤ 2 ^ (r.length - rest.length + 1) * (A + 2 * B + 2) := by rw [Nat.pow_succ, Nat.mul_comm (2 ^ (r.length - rest.length)), Nat.mul_assoc]; omega
      have hfc : 2 ^ (r.length - rest.length + 1) * (A + 2 * B + 2) ≤ 2 ^ (r.length - q.length + 1) * (A + 2 * B + 2) := Nat.mul_le_mul_right _ (two_mono (by omega))
      have hQx : QB (b + B) (topQ rest q) := (hb.at _).div (hq.at _)
      refine XWP.cut (fun s => ∃ (V5 : View) (x y : Value), StIs (fun Z => [Z 0, .v (.slice A2 q.length c2), Z 2,Z 3,Z 4,Z 5, .v (.slice A5 rest.length c5), .v wo, Z 8, .p 0 0, Z 10,Z 11,Z 12,Z 13,Z 14,Z 15,Z 16,Z 17,Z 18,Z 19,Z 20,Z 21,Z 22,Z 23,Z 24,Z 25,Z 26,Z 27,Z 28,Z 29,Z 30,Z 31,Z 32,Z 33,Z 34,Z 35,Z 36,Z 37,Z 38,Z 39,Z 40,Z 41,Z 42,Z 43,Z 44,Z 45,Z 46,Z 47,Z 48,Z 49,Z 50,Z 51,Z 52,Z 53,Z 54,Z 55,Z 56,Z 57,Z 58,Z 59,Z 60,Z 61,Z 62,Z 63,Z 64,Z 65,Z 66,Z 67,Z 68,Z 69,Z 70,Z 71,Z 72,Z 73,Z 74,Z 75,Z 76,Z 77]) [[.bool (ng (topQ rest q)), x, y]] H5 V5 s ∧ V4.le V5 ∧ RatC V5 (.agg #[.bool (ng (topQ rest q)), x, y]) (topQ rest q) ∧ isOne x = true ∧ isOne y = true) ?_ ?_
      · (first | refine XWP.drwT (.lin [0, 1, 2, 3, 4, 5, 6, 7, 8, 9, 10, 11] (.two (.lin [12, 13, 14, 15, 16, 17, 18] .nil) (.lin [16, 12, 13, 14, 15, 17, 18] .nil))) (by kernel_rfl) (by kernel_rfl) (by kernel_rfl) fun K hK => ?_ | refine XWP.seq (XWP.drwT (.lin [0, 1, 2, 3, 4, 5, 6, 7, 8, 9, 10, 11] (.two (.lin [12, 13, 14, 15, 16, 17, 18] .nil) (.lin [16, 12, 13, 14, 15, 17, 18] .nil))) (by kernel_rfl) (by kernel_rfl) (by kernel_rfl) fun K hK => ?_) | refine XWP.drwT1 (.lin [0, 1, 2, 3, 4, 5, 6, 7, 8, 9, 10, 11] (.two (.lin [12, 13, 14, 15, 16, 17, 18] .nil) (.lin [16, 12, 13, 14, 15, 17, 18] .nil))) (by kernel_rfl) (by kernel_rfl) (by kernel_rfl) fun K hK => ?_)
        obtain ⟨b5, o5, rfl⟩ := SlAt.addr hwr (by omega)
        obtain ⟨b6, o6, rfl⟩ := SlAt.addr hu4 (by omega)
        obtain ⟨m3, n3, d3, hx3, ⟨p1, p2, p3⟩, hld3⟩ := Rats.get hwr (rest.length - 1) (by omega)
        obtain ⟨m4, n4, d4, hx4, ⟨r1, r2, r3⟩, hld4⟩ := Rats.get hu4 (q.length - 1) (by omega)
        have w1 := i64_pred rest.length (by omega) (by omega)
        have w2 := i64_pred q.length (by omega) (by omega)
        simp only [XA, XB, gateX, Nat.reduceAdd, Nat.reduceLeDiff, Nat.reduceSub, Nat.reduceMul, ↓reduceIte, Int.reduceToNat, Int.reduceLE, beq_self_eq_true, w1]
        refine ⟨by omega, by omega, ld_mem (hld3 _) ?_⟩
        simp only [XA, XB, gateX, Nat.reduceAdd, Nat.reduceLeDiff, Nat.reduceSub, Nat.reduceMul, ↓reduceIte, Int.reduceToNat, Int.reduceLE, beq_self_eq_true, w2]
        refine ⟨by omega, by omega, ld_mem (hld4 _) ?_⟩
        simp only [XA, XB, gateX, Nat.reduceAdd, Nat.reduceLeDiff, Nat.reduceSub, Nat.reduceMul, ↓reduceIte, Int.reduceToNat, Int.reduceLE, beq_self_eq_true]
        refine And.intro ?_ ?_
        all_goals refine call_go (by kernel_rfl) rfl (qdiv_c _ _ _ _ _ hx3 hx4 (QF.of (hb.at _) (by omega)) (QF.of (hq.at _) (by omega))) fun v6 V6 hV6 h6 => ?_
        all_goals obtain ⟨x7, rfl, hx7⟩ := h6.2 hl
        all_goals obtain ⟨x, y, rfl, ox, oy⟩ := hx7.form
        all_goals simp only [XA, XB, gateX, Nat.reduceAdd, Nat.reduceLeDiff, Nat.reduceSub, Nat.reduceMul, ↓reduceIte, Int.reduceToNat, Int.reduceLE, beq_self_eq_true]
        all_goals refine st_rat rfl rfl rfl ox oy ?_
        all_goals simp only [XA, XB, gateX, Nat.reduceAdd, Nat.reduceLeDiff, Nat.reduceSub, Nat.reduceMul, ↓reduceIte, Int.reduceToNat, Int.reduceLE, beq_self_eq_true]
        all_goals exact hK _ ⟨V6, x, y, StIs.of (by exact rfl), hV6, hx7, ox, oy⟩
      rintro s ⟨V5, x, y, hs, hV5, hx, ox, oy⟩
      obtain ⟨z, rfl⟩ := hs.out
      try dsimp only
      have hwo := hwo.up hV5
      have hwr := hwr.up hV5
      have hu5 := hu4.up hV5
      have w3 := i64_sub rest.length q.length (by omega) (by omega)
      rcases hwo with ⟨_, e⟩ | ⟨g, cells, rfl, hH, hrow⟩
      · rw [e] at hlo; simp at hlo; omega
      have hcl := hrow.1
      first | refine Gx.a (by kernel_rfl) fun K hK => ?_ | refine Gx.b (by kernel_rfl) fun K hK => ?_ | refine Gx.c (by kernel_rfl) fun K hK => ?_
      simp only [XA, XB, gateX, Nat.reduceAdd, Nat.reduceLeDiff, Nat.reduceSub, Nat.reduceMul, ↓reduceIte, Int.reduceToNat, Int.reduceLE, beq_self_eq_true, w3]
      refine ⟨by omega, by omega, ?_⟩
      refine st_rowA shapeT_34 (all3 rfl ox oy) rfl hH (by dsimp only; omega) ?_
      simp only [XA, XB, gateX, Nat.reduceAdd, Nat.reduceLeDiff, Nat.reduceSub, Nat.reduceMul, ↓reduceIte, Int.reduceToNat, Int.reduceLE, beq_self_eq_true]
      refine hK _ ?_
      have hrow2 := hrow.set (rest.length - q.length) (by omega) (x := topQ rest q) (show isOne (.bool (ng (topQ rest q))) = true from rfl) ox oy hx
      first | refine Gx.a (by kernel_rfl) fun K hK => ?_ | refine Gx.b (by kernel_rfl) fun K hK => ?_ | refine Gx.c (by kernel_rfl) fun K hK => ?_
      simp only [XA, XB, gateX, Nat.reduceAdd, Nat.reduceLeDiff, Nat.reduceSub, Nat.reduceMul, ↓reduceIte, Int.reduceToNat, Int.reduceLE, beq_self_eq_true, w3]
      refine call_go (by kernel_rfl) rfl (qneg_c _ _ _ hx (QF.of hQx (by omega))) fun v6 V6 hV6 h6 => ?_
      simp only [XA, XB, gateX, Nat.reduceAdd, Nat.reduceLeDiff, Nat.reduceSub, Nat.reduceMul, ↓reduceIte, Int.reduceToNat, Int.reduceLE, beq_self_eq_true, w3]
      refine call_go (by kernel_rfl) rfl (cadd_c _ _ _ _ _ _ _ (rest.length - q.length) _ _ _ (hwr.up hV6) (hu5.up hV6) h6 hb.mem hq.mem hQx.neg (by omega) (by omega) (by omega)) fun v7 V7 hV7 h7 => ?_
      simp only [XA, XB, gateX, Nat.reduceAdd, Nat.reduceLeDiff, Nat.reduceSub, Nat.reduceMul, ↓reduceIte, Int.reduceToNat, Int.reduceLE, beq_self_eq_true]
      have hlt := div_less h0 hl hle
      have hCB := CB.padd hb hq hQx.neg (rest.length - q.length)
      refine hK _ ⟨_, by rw [hn]; exact hlt, fun f => ⟨V7, _, v7, _, _, out.set (rest.length - q.length) (topQ rest q), _, StIs.of (by exact rfl), View.le_trans hV4 (View.le_trans hV5 (View.le_trans hV6 hV7)), rfl, h7, .inr ⟨g, _, by rw [List.length_set], by rw [List.length_set]; exact upd_at _ _ _, (hrow2.mono ratE_ok hV6).mono ratE_ok hV7⟩, by rw [List.length_set]; exact hlo, by omega, hCB, ?_, ?_, by rw [← divF_step h0 hl hle]; exact hd⟩⟩
      · have : 2 ^ (r.length - rest.length + 1) * (A + 2 * B + 2) ≤ 2 ^ (r.length - (pAdd rest q (-topQ rest q) (rest.length - q.length)).length) * (A + 2 * B + 2) := Nat.mul_le_mul_right _ (two_mono (by omega))
        omega
      · omega
    · have b1 : decide (q.length ≤ rest.length) = false := decide_eq_false hle
      first | refine Gx.a (by kernel_rfl) fun K hK => ?_ | refine Gx.b (by kernel_rfl) fun K hK => ?_ | refine Gx.c (by kernel_rfl) fun K hK => ?_
      simp only [XA, XB, gateX, Nat.reduceAdd, Nat.reduceLeDiff, Nat.reduceSub, Nat.reduceMul, ↓reduceIte, Int.reduceToNat, Int.reduceLE, beq_self_eq_true, len_geq, b1]
      refine hK _ ?_
      first | refine Gx.f rfl ?_ | refine XWP.seq (Gx.f rfl ?_)
      refine XWP.exit ?_
      rw [divF_end hle] at hd
      subst hd
      refine fun f => ⟨V4, H5, _, _, StIs.of (by exact rfl), hwr, hwo, hb.mono (by omega), ?_⟩
      show out.length ≤ _
      rw [hlo, hol]; split <;> omega
  rintro s ⟨V4, H5, wr, wo, hs, hwr, hwo, hCB, hfl⟩
  obtain ⟨z, rfl⟩ := hs.out
  try dsimp only
  first | refine Gx.a (by kernel_rfl) fun K hK => ?_ | refine Gx.b (by kernel_rfl) fun K hK => ?_ | refine Gx.c (by kernel_rfl) fun K hK => ?_
  simp only [XA, XB, gateX, Nat.reduceAdd, Nat.reduceLeDiff, Nat.reduceSub, Nat.reduceMul, ↓reduceIte, Int.reduceToNat, Int.reduceLE, beq_self_eq_true]
  rcases hwo with ⟨rfl, e⟩ | ⟨g, cells, rfl, hH, hrow⟩
  · refine call_go (by kernel_rfl) rfl (ctrim_c _ _ [] (SlAt.nil _)) fun v6 V6 hV6 h6 => ?_
    simp only [XA, XB, gateX, Nat.reduceAdd, Nat.reduceLeDiff, Nat.reduceSub, Nat.reduceMul, ↓reduceIte, Int.reduceToNat, Int.reduceLE, beq_self_eq_true]
    refine hK _ (XWP.ret ?_)
    try simp only [thenX_ret, inBlockX_ret]
    refine ret_go _ rfl ?_
    rw [e]
    exact ⟨_, _, rfl, h6, hwr.up hV6, hCB⟩
  · refine call_pub g _ hH (fun o ho hle' => ?_) (by kernel_rfl) rfl
    refine call_go (by kernel_rfl) rfl (ctrim_c _ _ _ (hrow.pub ratE_ok ho hle' rfl (Nat.le_refl _) (by omega))) fun v6 V6 hV6 h6 => ?_
    have hwr := (hwr.up hle').up hV6
    simp only [XA, XB, gateX, Nat.reduceAdd, Nat.reduceLeDiff, Nat.reduceSub, Nat.reduceMul, ↓reduceIte, Int.reduceToNat, Int.reduceLE, beq_self_eq_true]
    refine hK _ (XWP.ret ?_)
    try simp only [thenX_ret, inBlockX_ret]
    refine ret_go _ rfl ?_
    exact ⟨_, _, rfl, h6, hwr, hCB⟩
end Go.Proofs.Ythoboehbadmlmaa
end
section
namespace Go.Proofs.Ythoboehbadmlmaa
open Go Go.RowKit
set_option linter.unusedSimpArgs false
set_option linter.unusedVariables false
attribute [local irreducible] XWP Spec SpecO XPub XCall seqX clX apX stX ldX iaX slX
theorem rightP_parts {P : List Raw} (h : rightP P = true) : okR P = true ∧ PolQ (qs P) ∧ P.length ≤ 1000 := by
  unfold rightP at h
  rw [Bool.and_eq_true, Bool.and_eq_true, decide_eq_true_eq] at h
  exact ⟨h.1.2, (polB_iff _).1 h.2, h.1.1⟩
def bad2 (P Q : List Raw) : Bool := !(rightP P) || !(rightP Q)
/-- enough for Common -/
def comFit (a b M : Nat) : Prop := gb M b (max a b + b) ≤ 17592186044416
theorem cCommon_c (V : View) (v u : Value) (P Q : List Raw) (hv : Raws V v P) (hu : Raws V u Q) (fP : fitR P) (fQ : fitR Q) (lP : P.length ≤ 500) (lQ : Q.length ≤ 500) (M : Nat) (hAB : bad2 P Q = false → CB M (qs P) ∧ CB M (qs Q)) (hfit : comFit P.length Q.length M) (hM : 2 * (M + 1) ≤ 17592186044416) :
    Spec Try.prog 23 [v, u] V fun v' V' => (bad2 P Q = true → v' = .tuple #[.slice none 0 0, .int .i64 1]) ∧ (bad2 P Q = false → P.length = 0 ∧ Q.length = 0 → v' = .tuple #[.slice none 0 0, .int .i64 31]) ∧ (bad2 P Q = false → ¬ (P.length = 0 ∧ Q.length = 0) → ∃ w, v' = .tuple #[w, .int .i64 0] ∧ Rats V' w (comP (qs P) (qs Q)) ∧ CB (gb M Q.length (max P.length Q.length + Q.length)) (comP (qs P) (qs Q))) := by
  obtain ⟨A1, c1, rfl, hc1, hm1⟩ := hv.form
  obtain ⟨A2, c2, rfl, hc2, hm2⟩ := hu.form
  refine (Spec.enter Try.func23 rfl fun Γ => ?_)
  simp only [Try.ntmps23, List.map_cons, List.map_nil, List.length_cons, List.length_nil, Nat.reduceAdd, Nat.reduceSub, List.replicate_succ, List.replicate_zero, List.cons_append, List.nil_append]
  first | refine Gx.a (by kernel_rfl) fun K hK => ?_ | refine Gx.b (by kernel_rfl) fun K hK => ?_ | refine Gx.c (by kernel_rfl) fun K hK => ?_
  simp only [XA, XB, gateX, Nat.reduceAdd, Nat.reduceLeDiff, Nat.reduceSub, Nat.reduceMul, ↓reduceIte, Int.reduceToNat, Int.reduceLE, beq_self_eq_true]
  refine hK _ ?_
  refine XWP.seq ?_
  first | refine Gx.a (by kernel_rfl) fun K hK => ?_ | refine Gx.b (by kernel_rfl) fun K hK => ?_ | refine Gx.c (by kernel_rfl) fun K hK => ?_
  simp only [XA, XB, gateX, Nat.reduceAdd, Nat.reduceLeDiff, Nat.reduceSub, Nat.reduceMul, ↓reduceIte, Int.reduceToNat, Int.reduceLE, beq_self_eq_true]
  refine call_go (by kernel_rfl) rfl (cright_c _ _ _ hv fP (by omega)) fun v1 V1 hV1 h1 => ?_
  subst h1
  cases e1 : rightP P
  · simp only [XA, XB, gateX, Nat.reduceAdd, Nat.reduceLeDiff, Nat.reduceSub, Nat.reduceMul, ↓reduceIte, Int.reduceToNat, Int.reduceLE, beq_self_eq_true]
    refine hK _ ?_
    first | refine Gx.t rfl ?_ | refine XWP.seq (Gx.t rfl ?_)
    first | refine Gx.a (by kernel_rfl) fun K hK => ?_ | refine Gx.b (by kernel_rfl) fun K hK => ?_ | refine Gx.c (by kernel_rfl) fun K hK => ?_
    simp only [XA, XB, gateX, Nat.reduceAdd, Nat.reduceLeDiff, Nat.reduceSub, Nat.reduceMul, ↓reduceIte, Int.reduceToNat, Int.reduceLE, beq_self_eq_true]
    refine hK _ (XWP.ret ?_)
    try simp only [thenX_ret, inBlockX_ret]
    refine ret_go _ rfl ?_
    have : bad2 P Q = true := by unfold bad2; rw [e1]; rfl
    exact ⟨fun _ => rfl, fun h => (by rw [this] at h; cases h), fun h => by rw [this] at h; cases h⟩
  simp only [XA, XB, gateX, Nat.reduceAdd, Nat.reduceLeDiff, Nat.reduceSub, Nat.reduceMul, ↓reduceIte, Int.reduceToNat, Int.reduceLE, beq_self_eq_true]
  refine call_go (by kernel_rfl) rfl (cright_c _ _ _ (hu.up hV1) fQ (by omega)) fun v2 V2 hV2 h2 => ?_
  subst h2
  cases e2 : rightP Q
  · simp only [XA, XB, gateX, Nat.reduceAdd, Nat.reduceLeDiff, Nat.reduceSub, Nat.reduceMul, ↓reduceIte, Int.reduceToNat, Int.reduceLE, beq_self_eq_true]
    refine hK _ ?_
    first | refine Gx.t rfl ?_ | refine XWP.seq (Gx.t rfl ?_)
    first | refine Gx.a (by kernel_rfl) fun K hK => ?_ | refine Gx.b (by kernel_rfl) fun K hK => ?_ | refine Gx.c (by kernel_rfl) fun K hK => ?_
    simp only [XA, XB, gateX, Nat.reduceAdd, Nat.reduceLeDiff, Nat.reduceSub, Nat.reduceMul, ↓reduceIte, Int.reduceToNat, Int.reduceLE, beq_self_eq_true]
    refine hK _ (XWP.ret ?_)
    try simp only [thenX_ret, inBlockX_ret]
    refine ret_go _ rfl ?_
    have : bad2 P Q = true := by unfold bad2; rw [e1, e2]; rfl
    exact ⟨fun _ => rfl, fun h => (by rw [this] at h; cases h), fun h => by rw [this] at h; cases h⟩
  have hb : bad2 P Q = false := by unfold bad2; rw [e1, e2]; rfl
  simp only [XA, XB, gateX, Nat.reduceAdd, Nat.reduceLeDiff, Nat.reduceSub, Nat.reduceMul, ↓reduceIte, Int.reduceToNat, Int.reduceLE, beq_self_eq_true]
  refine hK _ ?_
  first | refine Gx.f rfl ?_ | refine XWP.seq (Gx.f rfl ?_)
  refine XWP.skip ?_
  obtain ⟨k1, k2, k3⟩ := rightP_parts e1
  obtain ⟨k4, k5, k6⟩ := rightP_parts e2
  have hp := (Raws.rats hv k1).up (View.le_trans hV1 hV2)
  have hq := (Raws.rats hu k4).up (View.le_trans hV1 hV2)
  obtain ⟨f1, f2⟩ := hAB hb
  refine XWP.cut (fun s => StIs (fun Z => [.v (.slice A1 P.length c1), .v (.slice A2 Q.length c2), Z 2,Z 3,Z 4,Z 5,Z 6,Z 7,Z 8,Z 9,Z 10,Z 11,Z 12,Z 13,Z 14,Z 15,Z 16,Z 17,Z 18,Z 19,Z 20,Z 21,Z 22,Z 23,Z 24,Z 25,Z 26,Z 27,Z 28,Z 29,Z 30,Z 31,Z 32,Z 33,Z 34,Z 35,Z 36,Z 37]) [] (fun _ => none) V2 s ∧ ¬ (P.length = 0 ∧ Q.length = 0)) ?_ ?_
  · first | refine Gx.a (by kernel_rfl) fun K hK => ?_ | refine Gx.b (by kernel_rfl) fun K hK => ?_ | refine Gx.c (by kernel_rfl) fun K hK => ?_
    by_cases n1 : P.length = 0
    · have b1 : decide ((P.length : Int) = 0) = true := decide_eq_true (by omega)
      by_cases n2 : Q.length = 0
      · have b2 : decide ((Q.length : Int) = 0) = true := decide_eq_true (by omega)
        simp only [XA, XB, gateX, Nat.reduceAdd, Nat.reduceLeDiff, Nat.reduceSub, Nat.reduceMul, ↓reduceIte, Int.reduceToNat, Int.reduceLE, beq_self_eq_true, b1, b2]
        refine hK _ ?_
        first | refine Gx.t rfl ?_ | refine XWP.seq (Gx.t rfl ?_)
        first | refine Gx.a (by kernel_rfl) fun K hK => ?_ | refine Gx.b (by kernel_rfl) fun K hK => ?_ | refine Gx.c (by kernel_rfl) fun K hK => ?_
        simp only [XA, XB, gateX, Nat.reduceAdd, Nat.reduceLeDiff, Nat.reduceSub, Nat.reduceMul, ↓reduceIte, Int.reduceToNat, Int.reduceLE, beq_self_eq_true]
        refine hK _ (XWP.ret ?_)
        try simp only [thenX_ret, inBlockX_ret]
        refine ret_go _ rfl ?_
        exact ⟨fun h => (by rw [hb] at h; cases h), fun _ _ => rfl, fun _ h => absurd ⟨n1, n2⟩ h⟩
      · have b2 : decide ((Q.length : Int) = 0) = false := decide_eq_false (by omega)
        simp only [XA, XB, gateX, Nat.reduceAdd, Nat.reduceLeDiff, Nat.reduceSub, Nat.reduceMul, ↓reduceIte, Int.reduceToNat, Int.reduceLE, beq_self_eq_true, b1, b2]
        refine hK _ ?_
        first | refine Gx.f rfl ?_ | refine XWP.seq (Gx.f rfl ?_)
        refine XWP.skip ?_
        exact ⟨StIs.of (by exact rfl), fun h => n2 h.2⟩
    · have b1 : decide ((P.length : Int) = 0) = false := decide_eq_false (by omega)
      simp only [XA, XB, gateX, Nat.reduceAdd, Nat.reduceLeDiff, Nat.reduceSub, Nat.reduceMul, ↓reduceIte, Int.reduceToNat, Int.reduceLE, beq_self_eq_true, b1]
      refine hK _ ?_
      first | refine Gx.f rfl ?_ | refine XWP.seq (Gx.f rfl ?_)
      refine XWP.skip ?_
      exact ⟨StIs.of (by exact rfl), fun h => n1 h.1⟩
  rintro s ⟨hs, hne⟩
  obtain ⟨z, rfl⟩ := hs.out
  try dsimp only
  have hlP : (qs P).length = P.length := qs_len P
  have hlQ : (qs Q).length = Q.length := qs_len Q
  generalize qs P = p0 at *
  generalize qs Q = q0 at *
  generalize hmx : max P.length Q.length = mx at *
  refine XWP.cut (fun s => ∃ (V4 : View) (w : Value) (N r s' : Nat), StIs (fun Z => [.v w, Z 1,Z 2,Z 3,Z 4,Z 5,Z 6,Z 7,Z 8,Z 9,Z 10,Z 11,Z 12,Z 13,Z 14,Z 15,Z 16,Z 17,Z 18,Z 19,Z 20,Z 21,Z 22,Z 23,Z 24,Z 25,Z 26,Z 27,Z 28,Z 29,Z 30,Z 31,Z 32,Z 33,Z 34,Z 35,Z 36,Z 37]) [] (fun _ => none) V4 s ∧ Rats V4 w (comF (q0.length + 1) p0 q0) ∧ CB N (comF (q0.length + 1) p0 q0) ∧ PolQ (comF (q0.length + 1) p0 q0) ∧ 0 < (comF (q0.length + 1) p0 q0).length ∧ (comF (q0.length + 1) p0 q0).length ≤ 1000 ∧ 2 * N + 2 ≤ gb M Q.length (mx + Q.length)) ?_ ?_
  · first | refine XWP.block ?_ | refine XWP.seq (XWP.block ?_)
    refine XWP.loop (fun n s => ∃ (V4 : View) (wp wq : Value) (p q : List Rat) (N r s' : Nat), StIs (fun Z => [.v wp, .v wq, Z 2,Z 3,Z 4,Z 5,Z 6,Z 7,Z 8,Z 9,Z 10,Z 11,Z 12,Z 13,Z 14,Z 15,Z 16,Z 17,Z 18,Z 19,Z 20,Z 21,Z 22,Z 23,Z 24,Z 25,Z 26,Z 27,Z 28,Z 29,Z 30,Z 31,Z 32,Z 33,Z 34,Z 35,Z 36,Z 37]) [] (fun _ => none) V4 s ∧ n = q.length ∧ Rats V4 wp p ∧ Rats V4 wq q ∧ PolQ p ∧ PolQ q ∧ ¬ (p.length = 0 ∧ q.length = 0) ∧ CB N p ∧ CB N q ∧ N + 1 ≤ gb M r s' ∧ r + q.length ≤ Q.length ∧ s' + p.length ≤ mx + r ∧ (r = 0 ∧ s' = 0 ∧ p.length = P.length ∧ q.length = Q.length ∨ q.length < p.length) ∧ p.length ≤ 1000 ∧ comF (q.length + 1) p q = comF (q0.length + 1) p0 q0) q0.length ⟨V2, _, _, p0, q0, M, 0, 0, StIs.of (by exact rfl), rfl, hp, hq, k2, k5, by rw [hlP, hlQ]; exact hne, f1, f2, by rw [gb_zero]; omega, by omega, by omega, .inl ⟨rfl, rfl, hlP, hlQ⟩, by omega, rfl⟩ ?_
    clear hs z
    rintro n s ⟨V4, wp, wq, p, q, N, r, s', hs, hn, hwp, hwq, hpp, hqq, hne', hNp, hNq, hgb, hr, hs', hor, hpl, hcom⟩
    obtain ⟨z, rfl⟩ := hs.out
    try dsimp only
    obtain ⟨A5, c5, rfl, _, _⟩ := hwq.form
    refine XWP.seq ?_
    by_cases n2 : q.length = 0
    · have b2 : decide ((0 : Int) < (q.length : Int)) = false := decide_eq_false (by omega)
      first | refine Gx.a (by kernel_rfl) fun K hK => ?_ | refine Gx.b (by kernel_rfl) fun K hK => ?_ | refine Gx.c (by kernel_rfl) fun K hK => ?_
      simp only [XA, XB, gateX, Nat.reduceAdd, Nat.reduceLeDiff, Nat.reduceSub, Nat.reduceMul, ↓reduceIte, Int.reduceToNat, Int.reduceLE, beq_self_eq_true, b2]
      refine hK _ ?_
      first | refine Gx.f rfl ?_ | refine XWP.seq (Gx.f rfl ?_)
      refine XWP.exit ?_
      rw [comF_end (by omega)] at hcom
      subst hcom
      refine ⟨V4, wp, N, r, s', StIs.of (by exact rfl), hwp, hNp, hpp, by omega, hpl, ?_⟩
      rcases hor with ⟨h1, h2, h3, h4⟩ | h
      · subst h1; subst h2
        have h5 : gb M 0 (0 + 1) ≤ gb M Q.length (mx + Q.length) := gb_mono (by omega) (by omega)
        have h6 : gb M 0 (0 + 1) = 2 * (M + 1) := by simp [gb]
        rw [gb_zero] at hgb; omega
      · have h1 : gb M r (s' + 1) ≤ gb M Q.length (mx + Q.length) := gb_mono (by omega) (by omega)
        have h2 : gb M r (s' + 1) = 2 * gb M r s' := by
          unfold gb
          rw [Nat.pow_succ, Nat.mul_comm (2 ^ s') 2, Nat.mul_assoc 2, Nat.mul_left_comm]
        unfold comFit at hfit
        rw [hmx] at hfit
        omega
    · have b2 : decide ((0 : Int) < (q.length : Int)) = true := decide_eq_true (by omega)
      first | refine Gx.a (by kernel_rfl) fun K hK => ?_ | refine Gx.b (by kernel_rfl) fun K hK => ?_ | refine Gx.c (by kernel_rfl) fun K hK => ?_
      simp only [XA, XB, gateX, Nat.reduceAdd, Nat.reduceLeDiff, Nat.reduceSub, Nat.reduceMul, ↓reduceIte, Int.reduceToNat, Int.reduceLE, beq_self_eq_true, b2]
      refine hK _ ?_
      first | refine Gx.t rfl ?_ | refine XWP.seq (Gx.t rfl ?_)
      refine XWP.skip ?_
      first | refine XWP.block ?_ | refine XWP.seq (XWP.block ?_)
      have hk := gb_step (k := p.length - q.length + 1) hgb
      have hgm : gb M (r + 1) (s' + (p.length - q.length + 1)) ≤ gb M Q.length (mx + Q.length) := gb_mono (by omega) (by
        rcases hor with ⟨h1, h2, h3, h4⟩ | h <;> omega)
      unfold comFit at hfit
      rw [hmx] at hfit
      have hA : 5 * N + 4 ≤ 2 ^ (p.length - q.length + 1) * (5 * N + 4) := Nat.le_mul_of_pos_left _ (two_pos _)
      have hsl := scaledP_len hqq
      have hsc := scaledP_CB hNq
      have e5 : N + 2 * (2 * N + 1) + 2 = 5 * N + 4 := by omega
      first | refine Gx.a (by kernel_rfl) fun K hK => ?_ | refine Gx.b (by kernel_rfl) fun K hK => ?_ | refine Gx.c (by kernel_rfl) fun K hK => ?_
      simp only [XA, XB, gateX, Nat.reduceAdd, Nat.reduceLeDiff, Nat.reduceSub, Nat.reduceMul, ↓reduceIte, Int.reduceToNat, Int.reduceLE, beq_self_eq_true]
      refine call_go (by kernel_rfl) rfl (cscaled_c _ _ q N hwq hNq (by omega) (hqq (by omega)) (by omega) (by omega)) fun v5 V5 hV5 h5 => ?_
      simp only [XA, XB, gateX, Nat.reduceAdd, Nat.reduceLeDiff, Nat.reduceSub, Nat.reduceMul, ↓reduceIte, Int.reduceToNat, Int.reduceLE, beq_self_eq_true]
      refine call_go (by kernel_rfl) rfl (cdiv_c _ _ _ p (scaledP q) N (2 * N + 1) (hwp.up hV5) h5 hNp hsc (by omega) (by rw [scaledP_last hqq (by omega)]; exact one_ne) (by rw [hsl, e5]; omega) (by omega) (by omega)) fun v6 V6 hV6 h6 => ?_
      obtain ⟨wd, wr, rfl, h7, h8, h9⟩ := h6
      rw [hsl, e5] at h9
      simp only [XA, XB, gateX, Nat.reduceAdd, Nat.reduceLeDiff, Nat.reduceSub, Nat.reduceMul, ↓reduceIte, Int.reduceToNat, Int.reduceLE, beq_self_eq_true]
      refine hK _ ?_
      obtain ⟨hl1, hl2⟩ := com_less (p := p) hqq (by omega)
      first | refine Gx.a (by kernel_rfl) fun K hK => ?_ | refine Gx.b (by kernel_rfl) fun K hK => ?_ | refine Gx.c (by kernel_rfl) fun K hK => ?_
      simp only [XA, XB, gateX, Nat.reduceAdd, Nat.reduceLeDiff, Nat.reduceSub, Nat.reduceMul, ↓reduceIte, Int.reduceToNat, Int.reduceLE, beq_self_eq_true]
      refine hK _ ⟨_, by rw [hn]; exact hl1, V6, _, _, q, _, 2 ^ (p.length - q.length + 1) * (5 * N + 4), r + 1, s' + (p.length - q.length + 1), StIs.of (by exact rfl), rfl, (hwq.up hV5).up hV6, h8, hqq, hl2, fun h => by omega, hNq.mono (by omega), h9, hk, by omega, ?_, .inr hl1, by omega, ?_⟩
      · rcases hor with ⟨h1, h2, h3, h4⟩ | h <;> omega
      · rw [← comF_step hqq (by omega)]; exact hcom
  rintro s ⟨V4, w, N, r, s', hs, hw, hN, hpol, hpos, hl1000, hN2⟩
  obtain ⟨z, rfl⟩ := hs.out
  try dsimp only
  have hN3 : 2 * N + 2 ≤ 17592186044416 := by unfold comFit at hfit; rw [hmx] at hfit; omega
  first | refine Gx.a (by kernel_rfl) fun K hK => ?_ | refine Gx.b (by kernel_rfl) fun K hK => ?_ | refine Gx.c (by kernel_rfl) fun K hK => ?_
  simp only [XA, XB, gateX, Nat.reduceAdd, Nat.reduceLeDiff, Nat.reduceSub, Nat.reduceMul, ↓reduceIte, Int.reduceToNat, Int.reduceLE, beq_self_eq_true]
  refine call_go (by kernel_rfl) rfl (cscaled_c _ _ _ N hw hN hpos (hpol hpos) hN3 (by omega)) fun v5 V5 hV5 h5 => ?_
  simp only [XA, XB, gateX, Nat.reduceAdd, Nat.reduceLeDiff, Nat.reduceSub, Nat.reduceMul, ↓reduceIte, Int.reduceToNat, Int.reduceLE, beq_self_eq_true]
  refine hK _ (XWP.ret ?_)
  try simp only [thenX_ret, inBlockX_ret]
  refine ret_go _ rfl ?_
  exact ⟨fun h => (by rw [hb] at h; cases h), fun _ h => absurd h hne, fun _ _ => ⟨_, rfl, h5, (scaledP_CB hN).mono (by omega)⟩⟩
end Go.Proofs.Ythoboehbadmlmaa
end
