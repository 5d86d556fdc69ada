/- the total variation distance of two distributions (part 5 of 12) -/
import Derived.OrdersHeld
import Derived.Below
import Derived.Tactics
import Derived.KernelRfl
import Derived.RangeFuncCalls
import Derived.RangeFuncFrom
import Derived.RangeFuncLeaves
import Derived.OrdersIn
import Derived.Laws.AppendOwn
import Derived.Laws.MakeOwn
import Derived.Laws.CopyRow
import Derived.Laws.Cells
import Derived.Laws.World
import Derived.Laws.Alloc2
import Derived.Laws.NewBlocks
import Derived.Maps.AppendAt
import Derived.Test.YtkgmicakfmllmaaProg
import Init.Data.List.Lemmas
import Init.Omega
import Derived.Test.YtkgmicakfmllmaaAP4
section
namespace Go.Proofs.Ytkgmicakfmllmaa
open Go Go.RowKit
set_option linter.unusedSimpArgs false
set_option linter.unusedVariables false
attribute [local irreducible] XWP Spec SpecO XPub XCall seqX clX apX stX ldX iaX slX
theorem rtrim_at (V : View) (v : Value) (ds : List Nat) (h : NatAt V v ds) (hl : ds.length ≤ 8796093022208) : Spec Try.prog 103 [v] V fun v' V' => NatAt V' v' (trimL ds) := by
  obtain ⟨A, c, rfl, hc, hm⟩ := h.form
  refine (Spec.enter Try.func103 rfl fun Γ => ?_)
  simp only [Try.ntmps103, List.map_cons, List.map_nil, List.length_cons, List.length_nil, Nat.reduceAdd, Nat.reduceSub, List.replicate_succ, List.replicate_zero, List.cons_append, List.nil_append]
  first | refine Gx.a (by kernel_rfl) fun K hK => ?_ | refine Gx.b (by kernel_rfl) fun K hK => ?_ | refine Gx.c (by kernel_rfl) fun K hK => ?_
  simp only [XA, XB, gateX, Nat.reduceAdd, Nat.reduceLeDiff, Nat.reduceSub, Nat.reduceMul, ↓reduceIte, Int.reduceToNat, Int.reduceLE, beq_self_eq_true]
  refine hK _ ?_
  first | refine Gx.a (by kernel_rfl) fun K hK => ?_ | refine Gx.b (by kernel_rfl) fun K hK => ?_ | refine Gx.c (by kernel_rfl) fun K hK => ?_
  simp only [XA, XB, gateX, Nat.reduceAdd, Nat.reduceLeDiff, Nat.reduceSub, Nat.reduceMul, ↓reduceIte, Int.reduceToNat, Int.reduceLE, beq_self_eq_true]
  refine hK _ ?_
  clear hK
  refine XWP.cut (fun s => ∃ k : Nat, StIs (fun Z => [.v (.slice A ds.length c), Z 1, .v (.slice none 0 0), .v (.int .i64 (k : Int)), Z 4,Z 5,Z 6,Z 7,Z 8,Z 9,Z 10,Z 11,Z 12,Z 13,Z 14,Z 15,Z 16,Z 17,Z 18,Z 19,Z 20,Z 21]) [] (fun _ => none) V s ∧ k ≤ ds.length ∧ ds.take k = trimL ds) ?_ ?_
  · first | refine XWP.block ?_ | refine XWP.seq (XWP.block ?_)
    refine XWP.loop (fun k s => StIs (fun Z => [.v (.slice A ds.length c), Z 1, .v (.slice none 0 0), .v (.int .i64 (k : Int)), Z 4,Z 5,Z 6,Z 7,Z 8,Z 9,Z 10,Z 11,Z 12,Z 13,Z 14,Z 15,Z 16,Z 17,Z 18,Z 19,Z 20,Z 21]) [] (fun _ => none) V s ∧ k ≤ ds.length ∧ trimL (ds.take k) = trimL ds) ds.length ⟨StIs.of (by exact rfl), Nat.le_refl _, by simp⟩ ?_
    rintro k s ⟨hs, hk, ht⟩
    obtain ⟨u, rfl⟩ := hs.out
    try dsimp only
    first | refine Gx.a (by kernel_rfl) fun K hK => ?_ | refine Gx.b (by kernel_rfl) fun K hK => ?_ | refine Gx.c (by kernel_rfl) fun K hK => ?_
    by_cases h0 : 0 < k
    · have e1 : decide ((0 : Int) < (k : Int)) = true := decide_eq_true (by omega)
      obtain ⟨b, o, rfl, hcell⟩ := h.cell (k := k - 1) (by omega)
      simp only [XA, XB, gateX, Nat.reduceAdd, Nat.reduceLeDiff, Nat.reduceSub, Nat.reduceMul, ↓reduceIte, Int.reduceToNat, Int.reduceLE, beq_self_eq_true, e1, i64_pred k h0 (by omega)]
      refine ⟨by omega, by omega, ld_mem (loads_cell shapeT_116 (hcell _)) ?_⟩
      simp only [XA, XB, gateX, Nat.reduceAdd, Nat.reduceLeDiff, Nat.reduceSub, Nat.reduceMul, ↓reduceIte, Int.reduceToNat, Int.reduceLE, beq_self_eq_true]
      have ek : ds.take k = ds.take (k - 1) ++ [ds[k - 1]] := by rw [← take_snoc _ _ (by omega)]; congr 1; omega
      by_cases hz : ds[k - 1] = 0
      · have e3 : decide ((ds[k - 1] : Int) = 0) = true := decide_eq_true (by omega)
        simp only [e3]
        refine hK _ ?_
        first | refine Gx.t rfl ?_ | refine XWP.seq (Gx.t rfl ?_)
        refine XWP.skip ?_
        first | refine XWP.block ?_ | refine XWP.seq (XWP.block ?_)
        first | refine Gx.a (by kernel_rfl) fun K hK => ?_ | refine Gx.b (by kernel_rfl) fun K hK => ?_ | refine Gx.c (by kernel_rfl) fun K hK => ?_
        simp only [XA, XB, gateX, Nat.reduceAdd, Nat.reduceLeDiff, Nat.reduceSub, Nat.reduceMul, ↓reduceIte, Int.reduceToNat, Int.reduceLE, beq_self_eq_true, i64_pred k h0 (by omega)]
        exact hK _ ⟨k - 1, by omega, StIs.of (by exact rfl), by omega, by rw [← ht, ek, hz, trimL_snoc_zero]⟩
      · have e3 : decide ((ds[k - 1] : Int) = 0) = false := decide_eq_false (by omega)
        simp only [e3]
        refine hK _ ?_
        first | refine Gx.f rfl ?_ | refine XWP.seq (Gx.f rfl ?_)
        refine XWP.exit ?_
        exact ⟨k, StIs.of (by exact rfl), hk, by rw [← ht, ek, trimL_snoc _ _ hz]⟩
    · have e1 : decide ((0 : Int) < (k : Int)) = false := decide_eq_false (by omega)
      obtain rfl : k = 0 := by omega
      simp only [XA, XB, gateX, Nat.reduceAdd, Nat.reduceLeDiff, Nat.reduceSub, Nat.reduceMul, ↓reduceIte, Int.reduceToNat, Int.reduceLE, beq_self_eq_true, e1]
      refine hK _ ?_
      first | refine Gx.f rfl ?_ | refine XWP.seq (Gx.f rfl ?_)
      refine XWP.exit ?_
      exact ⟨0, StIs.of (by exact rfl), hk, by rw [← ht]; rfl⟩
  · rintro s ⟨k, hs, hk, ht⟩
    obtain ⟨u, rfl⟩ := hs.out
    try dsimp only
    have h' := h.take hk
    have hlen : (ds.take k).length = k := by simp [Nat.min_eq_left hk]
    first | refine Gx.a (by kernel_rfl) fun K hK => ?_ | refine Gx.b (by kernel_rfl) fun K hK => ?_ | refine Gx.c (by kernel_rfl) fun K hK => ?_
    simp only [XA, XB, gateX, Nat.reduceAdd, Nat.reduceLeDiff, Nat.reduceSub, Nat.reduceMul, ↓reduceIte, Int.reduceToNat, Int.reduceLE, beq_self_eq_true]
    refine ⟨by omega, by omega, by omega, ?_⟩
    refine ap_go elemT_25 (by kernel_rfl) zeroT_116 rfl (by omega) (n := 0) (xs := []) ⟨rfl, .inl ⟨rfl, rfl⟩⟩ (src_nat h' _) (by omega) (by omega) fun v' H' hres => ?_
    simp only [XA, XB, gateX, Nat.reduceAdd, Nat.reduceLeDiff, Nat.reduceSub, Nat.reduceMul, ↓reduceIte, Int.reduceToNat, Int.reduceLE, beq_self_eq_true]
    refine hK _ (XWP.ret ?_)
    obtain ⟨hown, _, _⟩ := hres
    simp only [List.nil_append, Nat.zero_add] at hown
    rw [← ht]
    rcases own_parts hown with ⟨rfl, hn, _⟩ | ⟨g, cap, rfl, hg, hle, hcap, _⟩
    · refine ret_go _ rfl ?_
      have hn : k = 0 := hn
      subst hn
      rw [List.take_zero]; exact NatAt.nil V
    · refine ret_pub g _ hg fun o ho hle' => ret_go _ rfl ?_
      exact NatAt.pub ho h'.dig hlen hle (by unfold maxLen at hcap; omega)
theorem rtrim_any (V : View) (v : Value) (ds : List Nat) (h : NatAt V v ds) (hl : ds.length ≤ 8796093022208) : Spec Try.prog 103 [v] V fun v' V' => NatC V' v' (nv ds) :=
  (rtrim_at V v ds h hl).mono fun v' V' _ h' => by unfold NatC; rw [← trimL_eq _ h.dig]; exact h'
theorem rtrim_c (V : View) (v : Value) (n : Nat) (h : NatC V v n) (f : Fit n) : Spec Try.prog 103 [v] V fun v' V' => NatC V' v' n :=
  (rtrim_any V v _ h (by have := f.len; omega)).mono fun v' V' _ h' => by rwa [nv_dg] at h'

theorem rright_any (V : View) (v : Value) (ds : List Nat) (h : NatAt V v ds) : Spec Try.prog 79 [v] V fun v' V' => v' = .bool (rightB ds) := by
  obtain ⟨A, c, rfl, hc, hm⟩ := h.form
  refine (Spec.enter Try.func79 rfl fun Γ => ?_)
  simp only [Try.ntmps79, List.map_cons, List.map_nil, List.length_cons, List.length_nil, Nat.reduceAdd, Nat.reduceSub, List.replicate_succ, List.replicate_zero, List.cons_append, List.nil_append]
  first | refine Gx.a (by kernel_rfl) fun K hK => ?_ | refine Gx.b (by kernel_rfl) fun K hK => ?_ | refine Gx.c (by kernel_rfl) fun K hK => ?_
  simp only [XA, XB, gateX, Nat.reduceAdd, Nat.reduceLeDiff, Nat.reduceSub, Nat.reduceMul, ↓reduceIte, Int.reduceToNat, Int.reduceLE, beq_self_eq_true]
  refine hK _ ?_
  first | refine Gx.a (by kernel_rfl) fun K hK => ?_ | refine Gx.b (by kernel_rfl) fun K hK => ?_ | refine Gx.c (by kernel_rfl) fun K hK => ?_
  by_cases h0 : ds.length = 0
  · have e1 : decide ((ds.length : Int) = 0) = true := decide_eq_true (by omega)
    simp only [XA, XB, gateX, Nat.reduceAdd, Nat.reduceLeDiff, Nat.reduceSub, Nat.reduceMul, ↓reduceIte, Int.reduceToNat, Int.reduceLE, beq_self_eq_true, e1]
    refine hK _ (XWP.ret ?_)
    try simp only [thenX_ret, inBlockX_ret]
    refine ret_go _ rfl ?_
    have : ds = [] := List.length_eq_zero_iff.1 h0
    subst this; rfl
  · have e1 : decide ((ds.length : Int) = 0) = false := decide_eq_false (by omega)
    obtain ⟨b, o, rfl, hcell⟩ := h.cell (k := ds.length - 1) (by omega)
    simp only [XA, XB, gateX, Nat.reduceAdd, Nat.reduceLeDiff, Nat.reduceSub, Nat.reduceMul, ↓reduceIte, Int.reduceToNat, Int.reduceLE, beq_self_eq_true, e1, i64_pred ds.length (by omega) (by omega)]
    refine ⟨by omega, by omega, ld_mem (loads_cell shapeT_116 (hcell _)) ?_⟩
    simp only [XA, XB, gateX, Nat.reduceAdd, Nat.reduceLeDiff, Nat.reduceSub, Nat.reduceMul, ↓reduceIte, Int.reduceToNat, Int.reduceLE, beq_self_eq_true]
    refine hK _ (XWP.ret ?_)
    try simp only [thenX_ret, inBlockX_ret]
    refine ret_go _ rfl ?_
    have e4 : ds.getLast? = some ds[ds.length - 1] := by rw [List.getLast?_eq_getElem?, List.getElem?_eq_getElem (by omega)]
    show Value.bool _ = _
    unfold rightB
    rw [e4]
    congr 1
    simp [bne]
    rw [Bool.eq_iff_iff]; simp
theorem rof_c (V : View) (n : Nat) (hn : n < 18446744073709551616) : Spec Try.prog 67 [.int .u64 (n : Int)] V fun v' V' => NatC V' v' n := by
  obtain ⟨hdig, hnv⟩ := of_digits n hn
  have hq : n / BB < BB := by unfold BB; omega
  have e2 : ((n / BB : Nat) : Int) = ((n / BB % BB : Nat) : Int) := by rw [Nat.mod_eq_of_lt hq]
  refine (Spec.enter Try.func67 rfl fun Γ => ?_)
  simp only [Try.ntmps67, List.map_cons, List.map_nil, List.length_cons, List.length_nil, Nat.reduceAdd, Nat.reduceSub, List.replicate_succ, List.replicate_zero, List.cons_append, List.nil_append]
  first | refine Gx.a (by kernel_rfl) fun K hK => ?_ | refine Gx.b (by kernel_rfl) fun K hK => ?_ | refine Gx.c (by kernel_rfl) fun K hK => ?_
  simp only [XA, XB, gateX, Nat.reduceAdd, Nat.reduceLeDiff, Nat.reduceSub, Nat.reduceMul, ↓reduceIte, Int.reduceToNat, Int.reduceLE, beq_self_eq_true]
  refine hK _ ?_
  first | refine Gx.a (by kernel_rfl) fun K hK => ?_ | refine Gx.b (by kernel_rfl) fun K hK => ?_ | refine Gx.c (by kernel_rfl) fun K hK => ?_
  simp only [XA, XB, gateX, Nat.reduceAdd, Nat.reduceLeDiff, Nat.reduceSub, Nat.reduceMul, ↓reduceIte, Int.reduceToNat, Int.reduceLE, beq_self_eq_true, w32_mod, shr32, ← e2]
  refine bs_go (by kernel_rfl) #[(0, .int .u32 ((n % BB : Nat) : Int)), (1, .int .u32 ((n / BB : Nat) : Int))] (by simp [ev_tmp, SV.val]) (bs_two elemT_25 zeroT_116 rfl rfl) fun b hb1 hb2 => ?_
  simp only [XA, XB, gateX, Nat.reduceAdd, Nat.reduceLeDiff, Nat.reduceSub, Nat.reduceMul, ↓reduceIte, Int.reduceToNat, Int.reduceLE, beq_self_eq_true]
  refine call_pub b ⟨116, u32s [n % BB, n / BB], 2⟩ (by simp [upd, u32s]) (fun o ho hle => ?_) (by kernel_rfl) rfl
  refine call_go (by kernel_rfl) rfl (rtrim_any _ _ [n % BB, n / BB] (NatAt.pub ho hdig rfl (Nat.le_refl _) (by omega)) (by simp)) fun v1 V1 hV1 h1 => ?_
  simp only [XA, XB, gateX, Nat.reduceAdd, Nat.reduceLeDiff, Nat.reduceSub, Nat.reduceMul, ↓reduceIte, Int.reduceToNat, Int.reduceLE, beq_self_eq_true]
  rw [hnv] at h1
  refine hK _ (XWP.ret ?_)
  try simp only [thenX_ret, inBlockX_ret]
  refine ret_go _ rfl ?_
  exact h1

theorem rat_c (V : View) (v : Value) (ds : List Nat) (i : Nat) (h : NatAt V v ds) (hi : i ≤ 9223372036854775807) : Spec Try.prog 104 [v, .int .i64 (i : Int)] V fun v' V' => v' = .int .u64 ((gd ds i : Nat) : Int) := by
  obtain ⟨A, c, rfl, hc, hm⟩ := h.form
  refine (Spec.enter Try.func104 rfl fun Γ => ?_)
  simp only [Try.ntmps104, List.map_cons, List.map_nil, List.length_cons, List.length_nil, Nat.reduceAdd, Nat.reduceSub, List.replicate_succ, List.replicate_zero, List.cons_append, List.nil_append]
  first | refine Gx.a (by kernel_rfl) fun K hK => ?_ | refine Gx.b (by kernel_rfl) fun K hK => ?_ | refine Gx.c (by kernel_rfl) fun K hK => ?_
  simp only [XA, XB, gateX, Nat.reduceAdd, Nat.reduceLeDiff, Nat.reduceSub, Nat.reduceMul, ↓reduceIte, Int.reduceToNat, Int.reduceLE, beq_self_eq_true]
  refine hK _ ?_
  first | refine Gx.a (by kernel_rfl) fun K hK => ?_ | refine Gx.b (by kernel_rfl) fun K hK => ?_ | refine Gx.c (by kernel_rfl) fun K hK => ?_
  by_cases hlt : i < ds.length
  · have e1 : decide ((i : Int) < (ds.length : Int)) = true := decide_eq_true (by omega)
    obtain ⟨b, o, rfl, hcell⟩ := h.cell (k := i) hlt
    have hd := Dig_get h.dig i hlt
    rw [getD_get] at hcell hd
    simp only [XA, XB, gateX, Nat.reduceAdd, Nat.reduceLeDiff, Nat.reduceSub, Nat.reduceMul, ↓reduceIte, Int.reduceToNat, Int.reduceLE, beq_self_eq_true, e1]
    refine hK _ ?_
    first | refine Gx.t rfl ?_ | refine XWP.seq (Gx.t rfl ?_)
    first | refine Gx.a (by kernel_rfl) fun K hK => ?_ | refine Gx.b (by kernel_rfl) fun K hK => ?_ | refine Gx.c (by kernel_rfl) fun K hK => ?_
    simp only [XA, XB, gateX, Nat.reduceAdd, Nat.reduceLeDiff, Nat.reduceSub, Nat.reduceMul, ↓reduceIte, Int.reduceToNat, Int.reduceLE, beq_self_eq_true]
    refine ⟨by omega, by omega, ld_mem (loads_cell shapeT_116 (hcell _)) ?_⟩
    simp only [XA, XB, gateX, Nat.reduceAdd, Nat.reduceLeDiff, Nat.reduceSub, Nat.reduceMul, ↓reduceIte, Int.reduceToNat, Int.reduceLE, beq_self_eq_true, u64_of_u32 _ hd]
    refine hK _ (XWP.ret ?_)
    try simp only [thenX_ret, inBlockX_ret]
    refine ret_go _ rfl ?_
    rfl
  · have e1 : decide ((i : Int) < (ds.length : Int)) = false := decide_eq_false (by omega)
    simp only [XA, XB, gateX, Nat.reduceAdd, Nat.reduceLeDiff, Nat.reduceSub, Nat.reduceMul, ↓reduceIte, Int.reduceToNat, Int.reduceLE, beq_self_eq_true, e1]
    refine hK _ ?_
    first | refine Gx.f rfl ?_ | refine XWP.seq (Gx.f rfl ?_)
    refine XWP.skip ?_
    first | refine Gx.a (by kernel_rfl) fun K hK => ?_ | refine Gx.b (by kernel_rfl) fun K hK => ?_ | refine Gx.c (by kernel_rfl) fun K hK => ?_
    simp only [XA, XB, gateX, Nat.reduceAdd, Nat.reduceLeDiff, Nat.reduceSub, Nat.reduceMul, ↓reduceIte, Int.reduceToNat, Int.reduceLE, beq_self_eq_true]
    refine hK _ (XWP.ret ?_)
    try simp only [thenX_ret, inBlockX_ret]
    refine ret_go _ rfl ?_
    rw [gd_none (by omega)]; rfl

theorem rsmall_c (V : View) (v : Value) (n : Nat) (h : NatC V v n) (f : Fit n) : Spec Try.prog 109 [v] V fun v' V' => v' = if n < 18446744073709551616 then .tuple #[.int .u64 (n : Int), .bool true] else .tuple #[.int .u64 0, .bool false] := by
  obtain ⟨A0, c0, rfl, hc0, hm0⟩ := NatAt.form h
  refine (Spec.enter Try.func109 rfl fun Γ => ?_)
  simp only [Try.ntmps109, List.map_cons, List.map_nil, List.length_cons, List.length_nil, Nat.reduceAdd, Nat.reduceSub, List.replicate_succ, List.replicate_zero, List.cons_append, List.nil_append]
  first | refine Gx.a (by kernel_rfl) fun K hK => ?_ | refine Gx.b (by kernel_rfl) fun K hK => ?_ | refine Gx.c (by kernel_rfl) fun K hK => ?_
  simp only [XA, XB, gateX, Nat.reduceAdd, Nat.reduceLeDiff, Nat.reduceSub, Nat.reduceMul, ↓reduceIte, Int.reduceToNat, Int.reduceLE, beq_self_eq_true]
  refine hK _ ?_
  first | refine Gx.a (by kernel_rfl) fun K hK => ?_ | refine Gx.b (by kernel_rfl) fun K hK => ?_ | refine Gx.c (by kernel_rfl) fun K hK => ?_
  simp only [XA, XB, gateX, Nat.reduceAdd, Nat.reduceLeDiff, Nat.reduceSub, Nat.reduceMul, ↓reduceIte, Int.reduceToNat, Int.reduceLE, beq_self_eq_true]
  refine call_go (by kernel_rfl) rfl (rtrim_c _ _ _ h f) fun v1 V1 hV1 h1 => ?_
  obtain ⟨A, c, rfl, hc, hm⟩ := NatAt.form h1
  simp only [XA, XB, gateX, Nat.reduceAdd, Nat.reduceLeDiff, Nat.reduceSub, Nat.reduceMul, ↓reduceIte, Int.reduceToNat, Int.reduceLE, beq_self_eq_true]
  refine hK _ ?_
  first | refine Gx.a (by kernel_rfl) fun K hK => ?_ | refine Gx.b (by kernel_rfl) fun K hK => ?_ | refine Gx.c (by kernel_rfl) fun K hK => ?_
  simp only [XA, XB, gateX, Nat.reduceAdd, Nat.reduceLeDiff, Nat.reduceSub, Nat.reduceMul, ↓reduceIte, Int.reduceToNat, Int.reduceLE, beq_self_eq_true]
  refine hK _ ?_
  first | refine XWP.block ?_ | refine XWP.seq (XWP.block ?_)
  first | refine Gx.a (by kernel_rfl) fun K hK => ?_ | refine Gx.b (by kernel_rfl) fun K hK => ?_ | refine Gx.c (by kernel_rfl) fun K hK => ?_
  by_cases e0 : (dg n).length = 0
  · have b0 : decide (((dg n).length : Int) = 0) = true := decide_eq_true (by omega)
    simp only [XA, XB, gateX, Nat.reduceAdd, Nat.reduceLeDiff, Nat.reduceSub, Nat.reduceMul, ↓reduceIte, Int.reduceToNat, Int.reduceLE, beq_self_eq_true, b0]
    refine hK _ ?_
    first | refine Gx.t rfl ?_ | refine XWP.seq (Gx.t rfl ?_)
    first | refine Gx.a (by kernel_rfl) fun K hK => ?_ | refine Gx.b (by kernel_rfl) fun K hK => ?_ | refine Gx.c (by kernel_rfl) fun K hK => ?_
    simp only [XA, XB, gateX, Nat.reduceAdd, Nat.reduceLeDiff, Nat.reduceSub, Nat.reduceMul, ↓reduceIte, Int.reduceToNat, Int.reduceLE, beq_self_eq_true]
    refine hK _ (XWP.ret ?_)
    try simp only [thenX_ret, inBlockX_ret]
    refine ret_go _ rfl ?_
    have := small_zero (n := n) e0
    subst this; rfl
  · have b0 : decide (((dg n).length : Int) = 0) = false := decide_eq_false (by omega)
    simp only [XA, XB, gateX, Nat.reduceAdd, Nat.reduceLeDiff, Nat.reduceSub, Nat.reduceMul, ↓reduceIte, Int.reduceToNat, Int.reduceLE, beq_self_eq_true, b0]
    refine hK _ ?_
    first | refine Gx.f rfl ?_ | refine XWP.seq (Gx.f rfl ?_)
    first | refine Gx.a (by kernel_rfl) fun K hK => ?_ | refine Gx.b (by kernel_rfl) fun K hK => ?_ | refine Gx.c (by kernel_rfl) fun K hK => ?_
    by_cases e1 : (dg n).length = 1
    · have b1 : decide (((dg n).length : Int) = 1) = true := decide_eq_true (by omega)
      simp only [XA, XB, gateX, Nat.reduceAdd, Nat.reduceLeDiff, Nat.reduceSub, Nat.reduceMul, ↓reduceIte, Int.reduceToNat, Int.reduceLE, beq_self_eq_true, b1]
      refine hK _ ?_
      first | refine Gx.t rfl ?_ | refine XWP.seq (Gx.t rfl ?_)
      first | refine Gx.a (by kernel_rfl) fun K hK => ?_ | refine Gx.b (by kernel_rfl) fun K hK => ?_ | refine Gx.c (by kernel_rfl) fun K hK => ?_
      obtain ⟨b, o, rfl⟩ := NatAt.addr h1 (by omega)
      have hcell := NatAt.cells h1 0 (by omega)
      have hd0 := Dig_get (Dig_dg n) 0 (by omega)
      simp only [XA, XB, gateX, Nat.reduceAdd, Nat.reduceLeDiff, Nat.reduceSub, Nat.reduceMul, ↓reduceIte, Int.reduceToNat, Int.reduceLE, beq_self_eq_true, u64_of_u32 _ hd0]
      refine ⟨by omega, ld_mem (loads_cell shapeT_116 (hcell _)) ?_⟩
      simp only [XA, XB, gateX, Nat.reduceAdd, Nat.reduceLeDiff, Nat.reduceSub, Nat.reduceMul, ↓reduceIte, Int.reduceToNat, Int.reduceLE, beq_self_eq_true, u64_of_u32 _ hd0]
      refine hK _ (XWP.ret ?_)
      try simp only [thenX_ret, inBlockX_ret]
      refine ret_go _ rfl ?_
      have hs := small_one e1
      rw [if_pos (small_lt (by omega)), getD_get (by omega), hs]; rfl
    · have b1 : decide (((dg n).length : Int) = 1) = false := decide_eq_false (by omega)
      simp only [XA, XB, gateX, Nat.reduceAdd, Nat.reduceLeDiff, Nat.reduceSub, Nat.reduceMul, ↓reduceIte, Int.reduceToNat, Int.reduceLE, beq_self_eq_true, b1]
      refine hK _ ?_
      first | refine Gx.f rfl ?_ | refine XWP.seq (Gx.f rfl ?_)
      first | refine Gx.a (by kernel_rfl) fun K hK => ?_ | refine Gx.b (by kernel_rfl) fun K hK => ?_ | refine Gx.c (by kernel_rfl) fun K hK => ?_
      by_cases e2 : (dg n).length = 2
      · have b2 : decide (((dg n).length : Int) = 2) = true := decide_eq_true (by omega)
        simp only [XA, XB, gateX, Nat.reduceAdd, Nat.reduceLeDiff, Nat.reduceSub, Nat.reduceMul, ↓reduceIte, Int.reduceToNat, Int.reduceLE, beq_self_eq_true, b2]
        refine hK _ ?_
        first | refine Gx.t rfl ?_ | refine XWP.seq (Gx.t rfl ?_)
        (first | refine XWP.drw [0, 1, 2, 3, 4, 5, 6, 7, 8, 9, 10, 11] (by kernel_rfl) (by kernel_rfl) (by kernel_rfl) fun K hK => ?_ | refine XWP.seq (XWP.drw [0, 1, 2, 3, 4, 5, 6, 7, 8, 9, 10, 11] (by kernel_rfl) (by kernel_rfl) (by kernel_rfl) fun K hK => ?_) | refine XWP.drw1 [0, 1, 2, 3, 4, 5, 6, 7, 8, 9, 10, 11] (by kernel_rfl) (by kernel_rfl) (by kernel_rfl) fun K hK => ?_) <;> dsimp only [pickOps, List.getElem?_cons_zero, List.getElem?_cons_succ]
        obtain ⟨b, o, rfl⟩ := NatAt.addr h1 (by omega)
        have hcell0 := NatAt.cells h1 0 (by omega)
        have hcell1 := NatAt.cells h1 1 (by omega)
        have hd0 := Dig_get (Dig_dg n) 0 (by omega)
        have hd1 := Dig_get (Dig_dg n) 1 (by omega)
        simp only [XA, XB, gateX, Nat.reduceAdd, Nat.reduceLeDiff, Nat.reduceSub, Nat.reduceMul, ↓reduceIte, Int.reduceToNat, Int.reduceLE, beq_self_eq_true]
        refine ⟨by omega, ld_mem (loads_cell shapeT_116 (hcell1 _)) ?_⟩
        simp only [XA, XB, gateX, Nat.reduceAdd, Nat.reduceLeDiff, Nat.reduceSub, Nat.reduceMul, ↓reduceIte, Int.reduceToNat, Int.reduceLE, beq_self_eq_true, u64_of_u32 _ hd1]
        refine ⟨by omega, ld_mem (loads_cell shapeT_116 (hcell0 _)) ?_⟩
        simp only [XA, XB, gateX, Nat.reduceAdd, Nat.reduceLeDiff, Nat.reduceSub, Nat.reduceMul, ↓reduceIte, Int.reduceToNat, Int.reduceLE, beq_self_eq_true, u64_of_u32 _ hd0, u64_of_u32 _ hd1, shl32 _ hd1, or_add _ _ hd1 hd0]
        refine hK _ (XWP.ret ?_)
        try simp only [thenX_ret, inBlockX_ret]
        refine ret_go _ rfl ?_
        have hs := small_two e2
        rw [if_pos (small_lt (by omega)), getD_get (i := 0) (by omega), getD_get (i := 1) (by omega), Nat.mul_comm, Nat.add_comm, hs]; rfl
      · have b2 : decide (((dg n).length : Int) = 2) = false := decide_eq_false (by omega)
        simp only [XA, XB, gateX, Nat.reduceAdd, Nat.reduceLeDiff, Nat.reduceSub, Nat.reduceMul, ↓reduceIte, Int.reduceToNat, Int.reduceLE, beq_self_eq_true, b2]
        refine hK _ ?_
        first | refine Gx.f rfl ?_ | refine XWP.seq (Gx.f rfl ?_)
        refine XWP.skip ?_
        first | refine Gx.a (by kernel_rfl) fun K hK => ?_ | refine Gx.b (by kernel_rfl) fun K hK => ?_ | refine Gx.c (by kernel_rfl) fun K hK => ?_
        simp only [XA, XB, gateX, Nat.reduceAdd, Nat.reduceLeDiff, Nat.reduceSub, Nat.reduceMul, ↓reduceIte, Int.reduceToNat, Int.reduceLE, beq_self_eq_true]
        refine hK _ (XWP.ret ?_)
        try simp only [thenX_ret, inBlockX_ret]
        refine ret_go _ rfl ?_
        have := small_more (n := n) (by omega)
        rw [if_neg (by omega)]; rfl
end Go.Proofs.Ytkgmicakfmllmaa
end
section
namespace Go.Proofs.Ytkgmicakfmllmaa
open Go Go.RowKit
set_option linter.unusedSimpArgs false
set_option linter.unusedVariables false
attribute [local irreducible] XWP Spec SpecO XPub XCall seqX clX apX stX ldX iaX slX
theorem rcompare_c (V : View) (v u : Value) (a b : Nat) (hv : NatC V v a) (hu : NatC V u b) (fa : Fit a) (fb : Fit b) : Spec Try.prog 71 [v, u] V fun v' V' => v' = .int .i64 (cmpI a b) := by
  obtain ⟨A0, c0, rfl, hc0, hm0⟩ := NatAt.form hv
  obtain ⟨A1, c1, rfl, hc1, hm1⟩ := NatAt.form hu
  refine (Spec.enter Try.func71 rfl fun Γ => ?_)
  simp only [Try.ntmps71, List.map_cons, List.map_nil, List.length_cons, List.length_nil, Nat.reduceAdd, Nat.reduceSub, List.replicate_succ, List.replicate_zero, List.cons_append, List.nil_append]
  first | refine Gx.a (by kernel_rfl) fun K hK => ?_ | refine Gx.b (by kernel_rfl) fun K hK => ?_ | refine Gx.c (by kernel_rfl) fun K hK => ?_
  simp only [XA, XB, gateX, Nat.reduceAdd, Nat.reduceLeDiff, Nat.reduceSub, Nat.reduceMul, ↓reduceIte, Int.reduceToNat, Int.reduceLE, beq_self_eq_true]
  refine hK _ ?_
  first | refine Gx.a (by kernel_rfl) fun K hK => ?_ | refine Gx.b (by kernel_rfl) fun K hK => ?_ | refine Gx.c (by kernel_rfl) fun K hK => ?_
  simp only [XA, XB, gateX, Nat.reduceAdd, Nat.reduceLeDiff, Nat.reduceSub, Nat.reduceMul, ↓reduceIte, Int.reduceToNat, Int.reduceLE, beq_self_eq_true]
  refine call_go (by kernel_rfl) rfl (rtrim_c _ _ _ hv fa) fun v1 V1 hV1 h1 => ?_
  obtain ⟨A, c, rfl, hc, hm⟩ := NatAt.form h1
  simp only [XA, XB, gateX, Nat.reduceAdd, Nat.reduceLeDiff, Nat.reduceSub, Nat.reduceMul, ↓reduceIte, Int.reduceToNat, Int.reduceLE, beq_self_eq_true]
  refine call_go (by kernel_rfl) rfl (rtrim_c _ _ _ (hu.mono hV1) fb) fun v2 V2 hV2 h2 => ?_
  obtain ⟨A', c', rfl, hc', hm'⟩ := NatAt.form h2
  have h1 := h1.mono hV2
  simp only [XA, XB, gateX, Nat.reduceAdd, Nat.reduceLeDiff, Nat.reduceSub, Nat.reduceMul, ↓reduceIte, Int.reduceToNat, Int.reduceLE, beq_self_eq_true]
  refine hK _ ?_
  clear hK
  refine XWP.cut (fun s => (dg a).length = (dg b).length ∧ StIs (fun Z => [.v (.slice A (dg a).length c), .v (.slice A' (dg b).length c'), Z 2,Z 3,Z 4,Z 5,Z 6,Z 7,Z 8,Z 9,Z 10,Z 11,Z 12,Z 13,Z 14,Z 15,Z 16,Z 17,Z 18,Z 19,Z 20,Z 21,Z 22,Z 23,Z 24,Z 25,Z 26,Z 27,Z 28,Z 29,Z 30,Z 31,Z 32,Z 33,Z 34,Z 35,Z 36,Z 37,Z 38,Z 39,Z 40,Z 41,Z 42,Z 43,Z 44]) [] (fun _ => none) V2 s) ?_ ?_
  · first | refine Gx.a (by kernel_rfl) fun K hK => ?_ | refine Gx.b (by kernel_rfl) fun K hK => ?_ | refine Gx.c (by kernel_rfl) fun K hK => ?_
    by_cases hl : (dg a).length = (dg b).length
    · have b0 : (!decide (((dg a).length : Int) = ((dg b).length : Int))) = false := by rw [decide_eq_true (by omega)]; rfl
      simp only [XA, XB, gateX, Nat.reduceAdd, Nat.reduceLeDiff, Nat.reduceSub, Nat.reduceMul, ↓reduceIte, Int.reduceToNat, Int.reduceLE, beq_self_eq_true, b0]
      refine hK _ ?_
      first | refine Gx.f rfl ?_ | refine XWP.seq (Gx.f rfl ?_)
      refine XWP.skip ?_
      exact ⟨hl, StIs.of (by exact rfl)⟩
    · have b0 : (!decide (((dg a).length : Int) = ((dg b).length : Int))) = true := by rw [decide_eq_false (by omega)]; rfl
      simp only [XA, XB, gateX, Nat.reduceAdd, Nat.reduceLeDiff, Nat.reduceSub, Nat.reduceMul, ↓reduceIte, Int.reduceToNat, Int.reduceLE, beq_self_eq_true, b0]
      refine hK _ ?_
      first | refine Gx.t rfl ?_ | refine XWP.seq (Gx.t rfl ?_)
      first | refine Gx.a (by kernel_rfl) fun K hK => ?_ | refine Gx.b (by kernel_rfl) fun K hK => ?_ | refine Gx.c (by kernel_rfl) fun K hK => ?_
      by_cases e0 : sz a < sz b
      · have b1 : decide (((dg a).length : Int) < (dg b).length) = true := decide_eq_true (by unfold sz at e0; omega)
        simp only [XA, XB, gateX, Nat.reduceAdd, Nat.reduceLeDiff, Nat.reduceSub, Nat.reduceMul, ↓reduceIte, Int.reduceToNat, Int.reduceLE, beq_self_eq_true, b1]
        refine hK _ ?_
        first | refine Gx.t rfl ?_ | refine XWP.seq (Gx.t rfl ?_)
        first | refine Gx.a (by kernel_rfl) fun K hK => ?_ | refine Gx.b (by kernel_rfl) fun K hK => ?_ | refine Gx.c (by kernel_rfl) fun K hK => ?_
        simp only [XA, XB, gateX, Nat.reduceAdd, Nat.reduceLeDiff, Nat.reduceSub, Nat.reduceMul, ↓reduceIte, Int.reduceToNat, Int.reduceLE, beq_self_eq_true]
        refine hK _ (XWP.ret ?_)
        try simp only [thenX_ret, inBlockX_ret]
        refine ret_go _ rfl ?_
        rw [cmpI_lt (lt_of_sz_lt e0)]; rfl
      · have b1 : decide (((dg a).length : Int) < (dg b).length) = false := decide_eq_false (by unfold sz at e0; omega)
        simp only [XA, XB, gateX, Nat.reduceAdd, Nat.reduceLeDiff, Nat.reduceSub, Nat.reduceMul, ↓reduceIte, Int.reduceToNat, Int.reduceLE, beq_self_eq_true, b1]
        refine hK _ ?_
        first | refine Gx.f rfl ?_ | refine XWP.seq (Gx.f rfl ?_)
        refine XWP.skip ?_
        first | refine Gx.a (by kernel_rfl) fun K hK => ?_ | refine Gx.b (by kernel_rfl) fun K hK => ?_ | refine Gx.c (by kernel_rfl) fun K hK => ?_
        simp only [XA, XB, gateX, Nat.reduceAdd, Nat.reduceLeDiff, Nat.reduceSub, Nat.reduceMul, ↓reduceIte, Int.reduceToNat, Int.reduceLE, beq_self_eq_true]
        refine hK _ (XWP.ret ?_)
        try simp only [thenX_ret, inBlockX_ret]
        refine ret_go _ rfl ?_
        rw [cmpI_gt (lt_of_sz_lt (by unfold sz at *; omega))]; rfl
  · rintro s ⟨hl, hs⟩
    obtain ⟨u, rfl⟩ := hs.out
    try dsimp only
    first | refine Gx.a (by kernel_rfl) fun K hK => ?_ | refine Gx.b (by kernel_rfl) fun K hK => ?_ | refine Gx.c (by kernel_rfl) fun K hK => ?_
    have w0 : IntKind.i64.wrap (((dg a).length : Int) - 1) = ((dg a).length : Int) - 1 := wrap_id (by omega) (by omega)
    simp only [XA, XB, gateX, Nat.reduceAdd, Nat.reduceLeDiff, Nat.reduceSub, Nat.reduceMul, ↓reduceIte, Int.reduceToNat, Int.reduceLE, beq_self_eq_true, w0]
    refine hK _ ?_
    clear hK
    first | refine XWP.block ?_ | refine XWP.seq (XWP.block ?_)
    refine XWP.loop (fun k s => StIs (fun Z => [.v (.slice A (dg a).length c), .v (.slice A' (dg b).length c'), Z 2,Z 3,Z 4, .v (.int .i64 ((k : Int) - 1)), Z 6,Z 7,Z 8,Z 9,Z 10,Z 11,Z 12,Z 13,Z 14,Z 15,Z 16,Z 17,Z 18,Z 19,Z 20,Z 21,Z 22,Z 23,Z 24,Z 25,Z 26,Z 27,Z 28,Z 29,Z 30,Z 31,Z 32,Z 33,Z 34,Z 35,Z 36,Z 37,Z 38,Z 39,Z 40,Z 41,Z 42,Z 43,Z 44]) [] (fun _ => none) V2 s ∧ k ≤ (dg a).length ∧ (dg a).drop k = (dg b).drop k) (dg a).length ⟨StIs.of (by exact rfl), Nat.le_refl _, by rw [List.drop_length, hl, List.drop_length]⟩ ?_
    rintro k s ⟨hs, hk, hd⟩
    obtain ⟨z, rfl⟩ := hs.out
    try dsimp only
    first | refine Gx.a (by kernel_rfl) fun K hK => ?_ | refine Gx.b (by kernel_rfl) fun K hK => ?_ | refine Gx.c (by kernel_rfl) fun K hK => ?_
    by_cases hk0 : k = 0
    · subst hk0
      have b2 : decide ((0 : Int) ≤ ((0 : Nat) : Int) - 1) = false := decide_eq_false (by omega)
      simp only [XA, XB, gateX, Nat.reduceAdd, Nat.reduceLeDiff, Nat.reduceSub, Nat.reduceMul, ↓reduceIte, Int.reduceToNat, Int.reduceLE, beq_self_eq_true, b2]
      refine hK _ ?_
      first | refine Gx.f rfl ?_ | refine XWP.seq (Gx.f rfl ?_)
      refine XWP.exit ?_
      first | refine Gx.a (by kernel_rfl) fun K hK => ?_ | refine Gx.b (by kernel_rfl) fun K hK => ?_ | refine Gx.c (by kernel_rfl) fun K hK => ?_
      simp only [XA, XB, gateX, Nat.reduceAdd, Nat.reduceLeDiff, Nat.reduceSub, Nat.reduceMul, ↓reduceIte, Int.reduceToNat, Int.reduceLE, beq_self_eq_true]
      refine hK _ (XWP.ret ?_)
      try simp only [thenX_ret, inBlockX_ret]
      refine ret_go _ rfl ?_
      have : dg a = dg b := hd
      have : a = b := by rw [← nv_dg a, this, nv_dg]
      subst this
      rw [cmpI_eq]; rfl
    · obtain ⟨j, rfl⟩ : ∃ j, k = j + 1 := ⟨k - 1, by omega⟩
      have ej : (((j + 1 : Nat) : Int) - 1) = (j : Int) := by omega
      have b2 : decide ((0 : Int) ≤ (j : Int)) = true := decide_eq_true (by omega)
      have w1 : IntKind.i64.wrap ((j : Int) - 1) = (j : Int) - 1 := wrap_id (by omega) (by omega)
      simp only [XA, XB, gateX, Nat.reduceAdd, Nat.reduceLeDiff, Nat.reduceSub, Nat.reduceMul, ↓reduceIte, Int.reduceToNat, Int.reduceLE, beq_self_eq_true, ej, b2]
      refine hK _ ?_
      first | refine Gx.t rfl ?_ | refine XWP.seq (Gx.t rfl ?_)
      refine XWP.skip ?_
      first | refine XWP.block ?_ | refine XWP.seq (XWP.block ?_)
      (first | refine XWP.drw [0, 1, 2, 3, 4, 5, 6, 7, 8] (by kernel_rfl) (by kernel_rfl) (by kernel_rfl) fun K hK => ?_ | refine XWP.seq (XWP.drw [0, 1, 2, 3, 4, 5, 6, 7, 8] (by kernel_rfl) (by kernel_rfl) (by kernel_rfl) fun K hK => ?_) | refine XWP.drw1 [0, 1, 2, 3, 4, 5, 6, 7, 8] (by kernel_rfl) (by kernel_rfl) (by kernel_rfl) fun K hK => ?_) <;> dsimp only [pickOps, List.getElem?_cons_zero, List.getElem?_cons_succ]
      obtain ⟨q1, o1, rfl⟩ := NatAt.addr h1 (by omega)
      obtain ⟨q2, o2, rfl⟩ := NatAt.addr h2 (by omega)
      have hc1 := NatAt.cells h1 j (by omega)
      have hc2 := NatAt.cells h2 j (by omega)
      rw [getD_get] at hc1 hc2
      obtain ⟨p1, p2, p3⟩ := cmp_i _ _ j (Dig_dg a) (Dig_dg b) hl (by omega) hd
      rw [nv_dg, nv_dg] at p1 p2
      simp only [XA, XB, gateX, Nat.reduceAdd, Nat.reduceLeDiff, Nat.reduceSub, Nat.reduceMul, ↓reduceIte, Int.reduceToNat, Int.reduceLE, beq_self_eq_true]
      refine ⟨by omega, by omega, ld_mem (loads_cell shapeT_116 (hc1 _)) ?_⟩
      simp only [XA, XB, gateX, Nat.reduceAdd, Nat.reduceLeDiff, Nat.reduceSub, Nat.reduceMul, ↓reduceIte, Int.reduceToNat, Int.reduceLE, beq_self_eq_true]
      refine ⟨by omega, by omega, ld_mem (loads_cell shapeT_116 (hc2 _)) ?_⟩
      simp only [XA, XB, gateX, Nat.reduceAdd, Nat.reduceLeDiff, Nat.reduceSub, Nat.reduceMul, ↓reduceIte, Int.reduceToNat, Int.reduceLE, beq_self_eq_true]
      by_cases hne : (dg a).getD j 0 = (dg b).getD j 0
      · have b3 : (!decide ((((dg a).getD j 0 : Nat) : Int) = ((dg b).getD j 0 : Nat))) = false := by rw [decide_eq_true (by omega)]; rfl
        simp only [b3]
        refine hK _ ?_
        first | refine Gx.f rfl ?_ | refine XWP.seq (Gx.f rfl ?_)
        refine XWP.skip ?_
        first | refine Gx.a (by kernel_rfl) fun K hK => ?_ | refine Gx.b (by kernel_rfl) fun K hK => ?_ | refine Gx.c (by kernel_rfl) fun K hK => ?_
        simp only [XA, XB, gateX, Nat.reduceAdd, Nat.reduceLeDiff, Nat.reduceSub, Nat.reduceMul, ↓reduceIte, Int.reduceToNat, Int.reduceLE, beq_self_eq_true, w1]
        exact hK _ ⟨j, by omega, StIs.of (by exact rfl), by omega, p3 hne⟩
      · have b3 : (!decide ((((dg a).getD j 0 : Nat) : Int) = ((dg b).getD j 0 : Nat))) = true := by rw [decide_eq_false (by omega)]; rfl
        simp only [b3]
        refine hK _ ?_
        first | refine Gx.t rfl ?_ | refine XWP.seq (Gx.t rfl ?_)
        (first | refine XWP.drw [0, 1, 2, 3, 4, 5, 6, 7, 8] (by kernel_rfl) (by kernel_rfl) (by kernel_rfl) fun K hK => ?_ | refine XWP.seq (XWP.drw [0, 1, 2, 3, 4, 5, 6, 7, 8] (by kernel_rfl) (by kernel_rfl) (by kernel_rfl) fun K hK => ?_) | refine XWP.drw1 [0, 1, 2, 3, 4, 5, 6, 7, 8] (by kernel_rfl) (by kernel_rfl) (by kernel_rfl) fun K hK => ?_) <;> dsimp only [pickOps, List.getElem?_cons_zero, List.getElem?_cons_succ]
        simp only [XA, XB, gateX, Nat.reduceAdd, Nat.reduceLeDiff, Nat.reduceSub, Nat.reduceMul, ↓reduceIte, Int.reduceToNat, Int.reduceLE, beq_self_eq_true]
        refine ⟨by omega, by omega, ld_mem (loads_cell shapeT_116 (hc1 _)) ?_⟩
        simp only [XA, XB, gateX, Nat.reduceAdd, Nat.reduceLeDiff, Nat.reduceSub, Nat.reduceMul, ↓reduceIte, Int.reduceToNat, Int.reduceLE, beq_self_eq_true]
        refine ⟨by omega, by omega, ld_mem (loads_cell shapeT_116 (hc2 _)) ?_⟩
        simp only [XA, XB, gateX, Nat.reduceAdd, Nat.reduceLeDiff, Nat.reduceSub, Nat.reduceMul, ↓reduceIte, Int.reduceToNat, Int.reduceLE, beq_self_eq_true]
        by_cases hlt : (dg a).getD j 0 < (dg b).getD j 0
        · have b4 : decide ((((dg a).getD j 0 : Nat) : Int) < ((dg b).getD j 0 : Nat)) = true := decide_eq_true (by omega)
          simp only [b4]
          refine hK _ ?_
          first | refine Gx.t rfl ?_ | refine XWP.seq (Gx.t rfl ?_)
          first | refine Gx.a (by kernel_rfl) fun K hK => ?_ | refine Gx.b (by kernel_rfl) fun K hK => ?_ | refine Gx.c (by kernel_rfl) fun K hK => ?_
          simp only [XA, XB, gateX, Nat.reduceAdd, Nat.reduceLeDiff, Nat.reduceSub, Nat.reduceMul, ↓reduceIte, Int.reduceToNat, Int.reduceLE, beq_self_eq_true]
          refine hK _ (XWP.ret ?_)
          try simp only [thenX_ret, inBlockX_ret]
          refine ret_go _ rfl ?_
          rw [cmpI_lt (p1 hlt)]; rfl
        · have b4 : decide ((((dg a).getD j 0 : Nat) : Int) < ((dg b).getD j 0 : Nat)) = false := decide_eq_false (by omega)
          simp only [b4]
          refine hK _ ?_
          first | refine Gx.f rfl ?_ | refine XWP.seq (Gx.f rfl ?_)
          refine XWP.skip ?_
          first | refine Gx.a (by kernel_rfl) fun K hK => ?_ | refine Gx.b (by kernel_rfl) fun K hK => ?_ | refine Gx.c (by kernel_rfl) fun K hK => ?_
          simp only [XA, XB, gateX, Nat.reduceAdd, Nat.reduceLeDiff, Nat.reduceSub, Nat.reduceMul, ↓reduceIte, Int.reduceToNat, Int.reduceLE, beq_self_eq_true]
          refine hK _ (XWP.ret ?_)
          try simp only [thenX_ret, inBlockX_ret]
          refine ret_go _ rfl ?_
          rw [cmpI_gt (p2 (by omega))]; rfl
end Go.Proofs.Ytkgmicakfmllmaa
end
section
namespace Go.Proofs.Ytkgmicakfmllmaa
open Go Go.RowKit
set_option linter.unusedSimpArgs false
set_option linter.unusedVariables false
attribute [local irreducible] XWP Spec SpecO XPub XCall seqX clX apX stX ldX iaX slX
theorem rem_BB (n : Nat) : Int.tmod (n : Int) 4294967296 = ((n % BB : Nat) : Int) := int_tmod n 4294967296
theorem quo_BB (n : Nat) (h : n < 18446744073709551616) : IntKind.u64.wrap (Int.tdiv (n : Int) 4294967296) = ((n / BB : Nat) : Int) := u64_div n 4294967296 h
theorem BB_ne : (4294967296 : Int) ≠ 0 := by omega
theorem radd_c (V : View) (v u : Value) (a b : Nat) (hv : NatC V v a) (hu : NatC V u b) (fa : Fit a) (fb : Fit b) : Spec Try.prog 70 [v, u] V fun v' V' => NatC V' v' (a + b) := by
  obtain ⟨A, c, rfl, hc, hm⟩ := NatAt.form hv
  obtain ⟨A', c', rfl, hc', hm'⟩ := NatAt.form hu
  have la := fa.len
  have lb := fb.len
  obtain ⟨M, hM⟩ : ∃ M, M = max (dg a).length (dg b).length + 1 := ⟨_, rfl⟩
  refine (Spec.enter Try.func70 rfl fun Γ => ?_)
  simp only [Try.ntmps70, List.map_cons, List.map_nil, List.length_cons, List.length_nil, Nat.reduceAdd, Nat.reduceSub, List.replicate_succ, List.replicate_zero, List.cons_append, List.nil_append]
  first | refine Gx.a (by kernel_rfl) fun K hK => ?_ | refine Gx.b (by kernel_rfl) fun K hK => ?_ | refine Gx.c (by kernel_rfl) fun K hK => ?_
  simp only [XA, XB, gateX, Nat.reduceAdd, Nat.reduceLeDiff, Nat.reduceSub, Nat.reduceMul, ↓reduceIte, Int.reduceToNat, Int.reduceLE, beq_self_eq_true]
  refine hK _ ?_
  first | refine Gx.a (by kernel_rfl) fun K hK => ?_ | refine Gx.b (by kernel_rfl) fun K hK => ?_ | refine Gx.c (by kernel_rfl) fun K hK => ?_
  simp only [XA, XB, gateX, Nat.reduceAdd, Nat.reduceLeDiff, Nat.reduceSub, Nat.reduceMul, ↓reduceIte, Int.reduceToNat, Int.reduceLE, beq_self_eq_true]
  refine hK _ ?_
  first | refine Gx.a (by kernel_rfl) fun K hK => ?_ | refine Gx.b (by kernel_rfl) fun K hK => ?_ | refine Gx.c (by kernel_rfl) fun K hK => ?_
  simp only [XA, XB, gateX, Nat.reduceAdd, Nat.reduceLeDiff, Nat.reduceSub, Nat.reduceMul, ↓reduceIte, Int.reduceToNat, Int.reduceLE, beq_self_eq_true]
  refine hK _ ?_
  clear hK
  refine XWP.cut (fun s => ∃ (k : Nat) (V2 : View) (w : Value) (H5 : Heap) (out : List Nat), StIs (fun Z => [.v (.slice A (dg a).length c), .v (.slice A' (dg b).length c'), Z 2,Z 3,Z 4, .v w, Z 6,Z 7,Z 8,Z 9,Z 10,Z 11,Z 12,Z 13,Z 14,Z 15,Z 16,Z 17,Z 18,Z 19,Z 20,Z 21,Z 22,Z 23,Z 24,Z 25,Z 26,Z 27,Z 28,Z 29,Z 30,Z 31,Z 32,Z 33,Z 34,Z 35,Z 36,Z 37,Z 38,Z 39,Z 40,Z 41,Z 42,Z 43]) [] H5 V2 s ∧ V.le V2 ∧ k ≤ M ∧ out.length = k ∧ Dig out ∧ Own H5 116 1 w k (u32s out) ∧ nv out = a + b) ?_ ?_
  · first | refine Gx.a (by kernel_rfl) fun K hK => ?_ | refine Gx.b (by kernel_rfl) fun K hK => ?_ | refine Gx.c (by kernel_rfl) fun K hK => ?_
    simp only [XA, XB, gateX, Nat.reduceAdd, Nat.reduceLeDiff, Nat.reduceSub, Nat.reduceMul, ↓reduceIte, Int.reduceToNat, Int.reduceLE, beq_self_eq_true]
    refine hK _ ?_
    clear hK
    first | refine XWP.block ?_ | refine XWP.seq (XWP.block ?_)
    refine XWP.loop (fun n s => ∃ (k : Nat) (V2 : View) (w : Value) (H5 : Heap) (out : List Nat) (cc : Nat), StIs (fun Z => [.v (.slice A (dg a).length c), .v (.slice A' (dg b).length c'), Z 2,Z 3,Z 4, .v w, .v (.int .u64 (cc : Int)), .v (.int .i64 (k : Int)), Z 8,Z 9,Z 10,Z 11,Z 12,Z 13,Z 14,Z 15,Z 16,Z 17,Z 18,Z 19,Z 20,Z 21,Z 22,Z 23,Z 24,Z 25,Z 26,Z 27,Z 28,Z 29,Z 30,Z 31,Z 32,Z 33,Z 34,Z 35,Z 36,Z 37,Z 38,Z 39,Z 40,Z 41,Z 42,Z 43]) [] H5 V2 s ∧ V.le V2 ∧ n + k = M ∧ out.length = k ∧ Dig out ∧ cc ≤ 1 ∧ (k = M → cc = 0) ∧ Own H5 116 1 w k (u32s out) ∧ nv out + BB ^ k * cc = nv ((dg a).take k) + nv ((dg b).take k)) M ⟨0, V, _, _, [], 0, StIs.of (by exact rfl), View.le_refl _, rfl, rfl, Dig_nil, by omega, fun _ => rfl, ⟨rfl, .inl ⟨rfl, rfl⟩⟩, by simp [nv]⟩ ?_
    rintro n s ⟨k, V2, w, H5, out, cc, hs, hV2, hn, hol, hod, hcc, hlast, hown, hnv⟩
    obtain ⟨z, rfl⟩ := hs.out
    try dsimp only
    refine XWP.cut (fun s => StIs (fun Z => [.v (.slice A (dg a).length c), .v (.slice A' (dg b).length c'), Z 2,Z 3,Z 4, .v w, .v (.int .u64 (cc : Int)), .v (.int .i64 (k : Int)), Z 8,Z 9,Z 10,Z 11,Z 12,Z 13,Z 14,Z 15,Z 16,Z 17,Z 18,Z 19,Z 20,Z 21,Z 22,Z 23,Z 24,Z 25,Z 26,Z 27,Z 28,Z 29,Z 30,Z 31,Z 32,Z 33,Z 34,Z 35,Z 36,Z 37,Z 38,Z 39,Z 40,Z 41,Z 42,Z 43]) [] H5 V2 s ∧ k < M) ?_ ?_
    · first | refine Gx.a (by kernel_rfl) fun K hK => ?_ | refine Gx.b (by kernel_rfl) fun K hK => ?_ | refine Gx.c (by kernel_rfl) fun K hK => ?_
      by_cases h1 : k < (dg a).length
      · have b1 : decide ((k : Int) < ((dg a).length : Int)) = true := decide_eq_true (by omega)
        simp only [XA, XB, gateX, Nat.reduceAdd, Nat.reduceLeDiff, Nat.reduceSub, Nat.reduceMul, ↓reduceIte, Int.reduceToNat, Int.reduceLE, beq_self_eq_true, b1]
        refine hK _ ?_
        first | refine Gx.t rfl ?_ | refine XWP.seq (Gx.t rfl ?_)
        refine XWP.skip ?_
        exact ⟨StIs.of (by exact rfl), by omega⟩
      · have b1 : decide ((k : Int) < ((dg a).length : Int)) = false := decide_eq_false (by omega)
        by_cases h2 : k < (dg b).length
        · have b2 : decide ((k : Int) < ((dg b).length : Int)) = true := decide_eq_true (by omega)
          simp only [XA, XB, gateX, Nat.reduceAdd, Nat.reduceLeDiff, Nat.reduceSub, Nat.reduceMul, ↓reduceIte, Int.reduceToNat, Int.reduceLE, beq_self_eq_true, b1, b2]
          refine hK _ ?_
          first | refine Gx.t rfl ?_ | refine XWP.seq (Gx.t rfl ?_)
          refine XWP.skip ?_
          exact ⟨StIs.of (by exact rfl), by omega⟩
        · have b2 : decide ((k : Int) < ((dg b).length : Int)) = false := decide_eq_false (by omega)
          by_cases h3 : 0 < cc
          · have b3 : decide ((0 : Int) < (cc : Int)) = true := decide_eq_true (by omega)
            simp only [XA, XB, gateX, Nat.reduceAdd, Nat.reduceLeDiff, Nat.reduceSub, Nat.reduceMul, ↓reduceIte, Int.reduceToNat, Int.reduceLE, beq_self_eq_true, b1, b2, b3]
            refine hK _ ?_
            first | refine Gx.t rfl ?_ | refine XWP.seq (Gx.t rfl ?_)
            refine XWP.skip ?_
            exact ⟨StIs.of (by exact rfl), by omega⟩
          · have b3 : decide ((0 : Int) < (cc : Int)) = false := decide_eq_false (by omega)
            simp only [XA, XB, gateX, Nat.reduceAdd, Nat.reduceLeDiff, Nat.reduceSub, Nat.reduceMul, ↓reduceIte, Int.reduceToNat, Int.reduceLE, beq_self_eq_true, b1, b2, b3]
            refine hK _ ?_
            first | refine Gx.f rfl ?_ | refine XWP.seq (Gx.f rfl ?_)
            refine XWP.exit ?_
            have : cc = 0 := by omega
            subst this
            rw [List.take_of_length_le (by omega), List.take_of_length_le (by omega), nv_dg, nv_dg] at hnv
            exact ⟨k, V2, w, H5, out, StIs.of (by exact rfl), hV2, by omega, hol, hod, hown, by omega⟩
    · rintro s ⟨hs, hk⟩
      obtain ⟨z, rfl⟩ := hs.out
      try dsimp only
      have gx := gd_lt (Dig_dg a) k
      have gy := gd_lt (Dig_dg b) k
      have w1 := u64_add (gd (dg a) k) (gd (dg b) k) (by unfold BB at gx gy; omega)
      have w2 := u64_add (gd (dg a) k + gd (dg b) k) cc (by unfold BB at gx gy; omega)
      refine XWP.seq ?_
      first | refine XWP.block ?_ | refine XWP.seq (XWP.block ?_)
      first | refine Gx.a (by kernel_rfl) fun K hK => ?_ | refine Gx.b (by kernel_rfl) fun K hK => ?_ | refine Gx.c (by kernel_rfl) fun K hK => ?_
      simp only [XA, XB, gateX, Nat.reduceAdd, Nat.reduceLeDiff, Nat.reduceSub, Nat.reduceMul, ↓reduceIte, Int.reduceToNat, Int.reduceLE, beq_self_eq_true]
      refine call_go (by kernel_rfl) rfl (rat_c _ _ _ k (NatAt.mono hv hV2) (by omega)) fun v1 V3 hV3 h1 => ?_
      subst h1
      simp only [XA, XB, gateX, Nat.reduceAdd, Nat.reduceLeDiff, Nat.reduceSub, Nat.reduceMul, ↓reduceIte, Int.reduceToNat, Int.reduceLE, beq_self_eq_true]
      refine call_go (by kernel_rfl) rfl (rat_c _ _ _ k (NatAt.mono (NatAt.mono hu hV2) hV3) (by omega)) fun v1 V4 hV4 h1 => ?_
      subst h1
      simp only [XA, XB, gateX, Nat.reduceAdd, Nat.reduceLeDiff, Nat.reduceSub, Nat.reduceMul, ↓reduceIte, Int.reduceToNat, Int.reduceLE, beq_self_eq_true, w1, w2]
      refine hK _ ?_
      have e0 : gd (dg a) k + gd (dg b) k + cc = cc + gd (dg a) k + gd (dg b) k := by omega
      rw [e0]
      have hst := add_step (a := dg a) (b := dg b) hol hnv
      have hc0 : k + 1 = M → cc + gd (dg a) k + gd (dg b) k ≤ 1 := fun e => by
        rw [gd_none (l := dg a) (by omega), gd_none (l := dg b) (by omega)]; omega
      have hcB : cc + gd (dg a) k + gd (dg b) k < 18446744073709551616 ∧ (cc + gd (dg a) k + gd (dg b) k) / BB ≤ 1 := by unfold BB at gx gy ⊢; omega
      generalize cc + gd (dg a) k + gd (dg b) k = c2 at *
      first | refine Gx.a (by kernel_rfl) fun K hK => ?_ | refine Gx.b (by kernel_rfl) fun K hK => ?_ | refine Gx.c (by kernel_rfl) fun K hK => ?_
      simp only [XA, XB, gateX, Nat.reduceAdd, Nat.reduceLeDiff, Nat.reduceSub, Nat.reduceMul, ↓reduceIte, Int.reduceToNat, Int.reduceLE, beq_self_eq_true, bin_rem _ _ _ _ BB_ne, rem_BB, w32_mod, Nat.mod_mod]
      refine bs_go (by kernel_rfl) #[(0, .int .u32 ((c2 % BB : Nat) : Int))] (by simp [ev_tmp, SV.val]) (bs_one elemT_25 zeroT_116 rfl) fun q3 hq3 hq4 => ?_
      simp only [XA, XB, gateX, Nat.reduceAdd, Nat.reduceLeDiff, Nat.reduceSub, Nat.reduceMul, ↓reduceIte, Int.reduceToNat, Int.reduceLE, beq_self_eq_true]
      refine ap_go elemT_25 (by kernel_rfl) zeroT_116 rfl (by omega) (own_upd hown hq3) (src_row (ds := [c2 % BB]) (by simp [upd, u32s]; exact ⟨rfl, rfl⟩) rfl) (by omega) (by omega) fun v' H' hres => ?_
      simp only [XA, XB, gateX, Nat.reduceAdd, Nat.reduceLeDiff, Nat.reduceSub, Nat.reduceMul, ↓reduceIte, Int.reduceToNat, Int.reduceLE, beq_self_eq_true]
      refine hK _ ?_
      first | refine Gx.a (by kernel_rfl) fun K hK => ?_ | refine Gx.b (by kernel_rfl) fun K hK => ?_ | refine Gx.c (by kernel_rfl) fun K hK => ?_
      simp only [XA, XB, gateX, Nat.reduceAdd, Nat.reduceLeDiff, Nat.reduceSub, Nat.reduceMul, ↓reduceIte, Int.reduceToNat, Int.reduceLE, beq_self_eq_true, bin_quo _ _ _ _ BB_ne, quo_BB _ hcB.1]
      refine hK _ ?_
      first | refine Gx.a (by kernel_rfl) fun K hK => ?_ | refine Gx.b (by kernel_rfl) fun K hK => ?_ | refine Gx.c (by kernel_rfl) fun K hK => ?_
      simp only [XA, XB, gateX, Nat.reduceAdd, Nat.reduceLeDiff, Nat.reduceSub, Nat.reduceMul, ↓reduceIte, Int.reduceToNat, Int.reduceLE, beq_self_eq_true, i64_succ k (by omega)]
      refine hK _ ⟨n - 1, by omega, k + 1, _, _, _, out ++ [c2 % BB], c2 / BB, StIs.of (by exact rfl), View.le_trans hV2 (View.le_trans hV3 hV4), by omega, by simp [hol], Dig_append hod (Dig_one (Nat.mod_lt _ BB_pos)), hcB.2, ?_, ?_, hst⟩
      · intro e; have := hc0 e; unfold BB; omega
      · rw [u32s_append]; exact hres.1
  · rintro s ⟨k, V2, w, H5, out, hs, hV2, hkM, hol, hod, hown, hnv⟩
    obtain ⟨z, rfl⟩ := hs.out
    try dsimp only
    first | refine Gx.a (by kernel_rfl) fun K hK => ?_ | refine Gx.b (by kernel_rfl) fun K hK => ?_ | refine Gx.c (by kernel_rfl) fun K hK => ?_
    simp only [XA, XB, gateX, Nat.reduceAdd, Nat.reduceLeDiff, Nat.reduceSub, Nat.reduceMul, ↓reduceIte, Int.reduceToNat, Int.reduceLE, beq_self_eq_true]
    rcases own_parts hown with ⟨rfl, hk0, ho0⟩ | ⟨g, cap, rfl, hg, hle, hcap, hlen⟩
    · subst hk0
      have : out = [] := List.length_eq_zero_iff.1 hol
      subst this
      refine call_go (by kernel_rfl) rfl (rtrim_any _ _ [] (NatAt.nil _) (by simp)) fun v3 V3 hV3 h3 => ?_
      simp only [XA, XB, gateX, Nat.reduceAdd, Nat.reduceLeDiff, Nat.reduceSub, Nat.reduceMul, ↓reduceIte, Int.reduceToNat, Int.reduceLE, beq_self_eq_true]
      refine hK _ (XWP.ret ?_)
      try simp only [thenX_ret, inBlockX_ret]
      refine ret_go _ rfl ?_
      rw [hnv] at h3
      exact h3
    · refine call_pub g _ hg (fun o ho hle' => ?_) (by kernel_rfl) rfl
      refine call_go (by kernel_rfl) rfl (rtrim_any _ _ out (NatAt.pub ho hod hol hle (by unfold maxLen at hcap; omega)) (by omega)) fun v3 V3 hV3 h3 => ?_
      simp only [XA, XB, gateX, Nat.reduceAdd, Nat.reduceLeDiff, Nat.reduceSub, Nat.reduceMul, ↓reduceIte, Int.reduceToNat, Int.reduceLE, beq_self_eq_true]
      refine hK _ (XWP.ret ?_)
      try simp only [thenX_ret, inBlockX_ret]
      refine ret_go _ rfl ?_
      rw [hnv] at h3
      exact h3
end Go.Proofs.Ytkgmicakfmllmaa
end
section
namespace Go.Proofs.Ytkgmicakfmllmaa
open Go Go.RowKit
set_option linter.unusedSimpArgs false
set_option linter.unusedVariables false
attribute [local irreducible] XWP Spec SpecO XPub XCall seqX clX apX stX ldX iaX slX
theorem mul_BB (n : Nat) (h : n < BB) : IntKind.u64.wrap ((n : Int) * 4294967296) = ((n * BB : Nat) : Int) := by
  unfold BB at *
  rw [w64_id (by omega) (by omega)]; omega
theorem sub_step' {a b out : List Nat} {c k : Nat} (hl : out.length = k) (hc : c ≤ 1) (h : nv out + nv (b.take k) = nv (a.take k) + BB ^ k * c) (hA : gd a k < BB) (hB : gd b k < BB) :
    nv (out ++ [subD (gd a k) (gd b k + c)]) + nv (b.take (k + 1)) = nv (a.take (k + 1)) + BB ^ (k + 1) * subB (gd a k) (gd b k + c) := by
  obtain ⟨h1, h2⟩ := sub_step hl hc h hA hB
  unfold subD subB
  by_cases e : gd a k < gd b k + c
  · rw [if_pos e, if_pos e]; exact h2 e
  · rw [if_neg e, if_neg e]; exact h1 (by omega)
theorem rsub_c (V : View) (v u : Value) (a b : Nat) (hv : NatC V v a) (hu : NatC V u b) (fa : Fit a) (fb : Fit b) : Spec Try.prog 72 [v, u] V fun v' V' => (a < b → v' = .tuple #[.slice none 0 0, .int .i64 1]) ∧ (b ≤ a → ∃ r, v' = .tuple #[r, .int .i64 0] ∧ NatC V' r (a - b)) := by
  obtain ⟨A, c, rfl, hc, hm⟩ := NatAt.form hv
  obtain ⟨A', c', rfl, hc', hm'⟩ := NatAt.form hu
  have la := fa.len
  have lb := fb.len
  refine (Spec.enter Try.func72 rfl fun Γ => ?_)
  simp only [Try.ntmps72, List.map_cons, List.map_nil, List.length_cons, List.length_nil, Nat.reduceAdd, Nat.reduceSub, List.replicate_succ, List.replicate_zero, List.cons_append, List.nil_append]
  first | refine Gx.a (by kernel_rfl) fun K hK => ?_ | refine Gx.b (by kernel_rfl) fun K hK => ?_ | refine Gx.c (by kernel_rfl) fun K hK => ?_
  simp only [XA, XB, gateX, Nat.reduceAdd, Nat.reduceLeDiff, Nat.reduceSub, Nat.reduceMul, ↓reduceIte, Int.reduceToNat, Int.reduceLE, beq_self_eq_true]
  refine hK _ ?_
  clear hK
  refine XWP.cut (fun s => ∃ (V2 : View), StIs (fun Z => [.v (.slice A (dg a).length c), .v (.slice A' (dg b).length c'), Z 2,Z 3,Z 4,Z 5,Z 6,Z 7,Z 8,Z 9,Z 10,Z 11,Z 12,Z 13,Z 14,Z 15,Z 16,Z 17,Z 18,Z 19,Z 20,Z 21,Z 22,Z 23,Z 24,Z 25,Z 26,Z 27,Z 28,Z 29,Z 30,Z 31,Z 32,Z 33,Z 34,Z 35,Z 36,Z 37,Z 38,Z 39,Z 40,Z 41,Z 42,Z 43]) [] (fun _ => none) V2 s ∧ V.le V2 ∧ b ≤ a) ?_ ?_
  · first | refine Gx.a (by kernel_rfl) fun K hK => ?_ | refine Gx.b (by kernel_rfl) fun K hK => ?_ | refine Gx.c (by kernel_rfl) fun K hK => ?_
    simp only [XA, XB, gateX, Nat.reduceAdd, Nat.reduceLeDiff, Nat.reduceSub, Nat.reduceMul, ↓reduceIte, Int.reduceToNat, Int.reduceLE, beq_self_eq_true]
    refine call_go (by kernel_rfl) rfl (rcompare_c _ _ _ _ _ hv hu fa fb) fun v1 V1 hV1 h1 => ?_
    subst h1
    simp only [XA, XB, gateX, Nat.reduceAdd, Nat.reduceLeDiff, Nat.reduceSub, Nat.reduceMul, ↓reduceIte, Int.reduceToNat, Int.reduceLE, beq_self_eq_true]
    by_cases hlt : a < b
    · have b1 : decide (cmpI a b < 0) = true := decide_eq_true (by rw [cmpI_lt hlt]; omega)
      simp only [b1]
      refine hK _ ?_
      first | refine Gx.t rfl ?_ | refine XWP.seq (Gx.t rfl ?_)
      first | refine Gx.a (by kernel_rfl) fun K hK => ?_ | refine Gx.b (by kernel_rfl) fun K hK => ?_ | refine Gx.c (by kernel_rfl) fun K hK => ?_
      simp only [XA, XB, gateX, Nat.reduceAdd, Nat.reduceLeDiff, Nat.reduceSub, Nat.reduceMul, ↓reduceIte, Int.reduceToNat, Int.reduceLE, beq_self_eq_true]
      refine hK _ (XWP.ret ?_)
      try simp only [thenX_ret, inBlockX_ret]
      refine ret_go _ rfl ?_
      exact ⟨fun _ => rfl, fun h => by omega⟩
    · have b1 : decide (cmpI a b < 0) = false := decide_eq_false (by
        rcases Nat.lt_or_ge b a with h | h
        · rw [cmpI_gt h]; omega
        · have : a = b := by omega
          rw [this, cmpI_eq]; omega)
      simp only [b1]
      refine hK _ ?_
      first | refine Gx.f rfl ?_ | refine XWP.seq (Gx.f rfl ?_)
      refine XWP.skip ?_
      exact ⟨V1, StIs.of (by exact rfl), hV1, by omega⟩
  · rintro s ⟨V2, hs, hV2, hba⟩
    obtain ⟨u, rfl⟩ := hs.out
    try dsimp only
    have hsz : (dg b).length ≤ (dg a).length := sz_mono hba
    first | refine Gx.a (by kernel_rfl) fun K hK => ?_ | refine Gx.b (by kernel_rfl) fun K hK => ?_ | refine Gx.c (by kernel_rfl) fun K hK => ?_
    simp only [XA, XB, gateX, Nat.reduceAdd, Nat.reduceLeDiff, Nat.reduceSub, Nat.reduceMul, ↓reduceIte, Int.reduceToNat, Int.reduceLE, beq_self_eq_true]
    refine hK _ ?_
    first | refine Gx.a (by kernel_rfl) fun K hK => ?_ | refine Gx.b (by kernel_rfl) fun K hK => ?_ | refine Gx.c (by kernel_rfl) fun K hK => ?_
    simp only [XA, XB, gateX, Nat.reduceAdd, Nat.reduceLeDiff, Nat.reduceSub, Nat.reduceMul, ↓reduceIte, Int.reduceToNat, Int.reduceLE, beq_self_eq_true]
    refine hK _ ?_
    clear hK
    refine XWP.cut (fun s => ∃ (V3 : View) (w : Value) (H5 : Heap) (out : List Nat), StIs (fun Z => [.v (.slice A (dg a).length c), .v (.slice A' (dg b).length c'), Z 2,Z 3,Z 4,Z 5, .v w, Z 7,Z 8,Z 9,Z 10,Z 11,Z 12,Z 13,Z 14,Z 15,Z 16,Z 17,Z 18,Z 19,Z 20,Z 21,Z 22,Z 23,Z 24,Z 25,Z 26,Z 27,Z 28,Z 29,Z 30,Z 31,Z 32,Z 33,Z 34,Z 35,Z 36,Z 37,Z 38,Z 39,Z 40,Z 41,Z 42,Z 43]) [] H5 V3 s ∧ out.length = (dg a).length ∧ Dig out ∧ Own H5 116 1 w (dg a).length (u32s out) ∧ nv out + b = a) ?_ ?_
    · first | refine Gx.a (by kernel_rfl) fun K hK => ?_ | refine Gx.b (by kernel_rfl) fun K hK => ?_ | refine Gx.c (by kernel_rfl) fun K hK => ?_
      simp only [XA, XB, gateX, Nat.reduceAdd, Nat.reduceLeDiff, Nat.reduceSub, Nat.reduceMul, ↓reduceIte, Int.reduceToNat, Int.reduceLE, beq_self_eq_true]
      refine hK _ ?_
      clear hK
      first | refine XWP.block ?_ | refine XWP.seq (XWP.block ?_)
      refine XWP.loop (fun n s => ∃ (k : Nat) (V3 : View) (w : Value) (H5 : Heap) (out : List Nat) (cc : Nat), StIs (fun Z => [.v (.slice A (dg a).length c), .v (.slice A' (dg b).length c'), Z 2,Z 3,Z 4,Z 5, .v w, .v (.int .u64 (cc : Int)), .v (.int .i64 (k : Int)), Z 9,Z 10,Z 11,Z 12,Z 13,Z 14,Z 15,Z 16,Z 17,Z 18,Z 19,Z 20,Z 21,Z 22,Z 23,Z 24,Z 25,Z 26,Z 27,Z 28,Z 29,Z 30,Z 31,Z 32,Z 33,Z 34,Z 35,Z 36,Z 37,Z 38,Z 39,Z 40,Z 41,Z 42,Z 43]) [] H5 V3 s ∧ V.le V3 ∧ n + k = (dg a).length ∧ out.length = k ∧ Dig out ∧ cc ≤ 1 ∧ Own H5 116 1 w k (u32s out) ∧ nv out + nv ((dg b).take k) = nv ((dg a).take k) + BB ^ k * cc) (dg a).length ⟨0, V2, _, _, [], 0, StIs.of (by exact rfl), hV2, rfl, rfl, Dig_nil, by omega, ⟨rfl, .inl ⟨rfl, rfl⟩⟩, by simp [nv]⟩ ?_
      rintro n s ⟨k, V3, w, H5, out, cc, hs, hV3, hn, hol, hod, hcc, hown, hnv⟩
      obtain ⟨z, rfl⟩ := hs.out
      try dsimp only
      first | refine Gx.a (by kernel_rfl) fun K hK => ?_ | refine Gx.b (by kernel_rfl) fun K hK => ?_ | refine Gx.c (by kernel_rfl) fun K hK => ?_
      by_cases hk : k < (dg a).length
      · have b1 : decide ((k : Int) < ((dg a).length : Int)) = true := decide_eq_true (by omega)
        simp only [XA, XB, gateX, Nat.reduceAdd, Nat.reduceLeDiff, Nat.reduceSub, Nat.reduceMul, ↓reduceIte, Int.reduceToNat, Int.reduceLE, beq_self_eq_true, b1]
        refine hK _ ?_
        first | refine Gx.t rfl ?_ | refine XWP.seq (Gx.t rfl ?_)
        refine XWP.skip ?_
        have gx := gd_lt (Dig_dg a) k
        have gy := gd_lt (Dig_dg b) k
        have w1 := u64_add (gd (dg b) k) cc (by unfold BB at gy; omega)
        have hst := sub_step' (a := dg a) (b := dg b) hol hcc hnv gx gy
        obtain ⟨sd1, sd2, sd3⟩ := subD_eq (y := gd (dg b) k + cc) gx (by omega)
        have hyB : gd (dg b) k + cc ≤ BB := by omega
        refine XWP.seq ?_
        first | refine XWP.block ?_ | refine XWP.seq (XWP.block ?_)
        first | refine Gx.a (by kernel_rfl) fun K hK => ?_ | refine Gx.b (by kernel_rfl) fun K hK => ?_ | refine Gx.c (by kernel_rfl) fun K hK => ?_
        simp only [XA, XB, gateX, Nat.reduceAdd, Nat.reduceLeDiff, Nat.reduceSub, Nat.reduceMul, ↓reduceIte, Int.reduceToNat, Int.reduceLE, beq_self_eq_true]
        refine call_go (by kernel_rfl) rfl (rat_c _ _ _ k (NatAt.mono hu hV3) (by omega)) fun v1 V4 hV4 h1 => ?_
        subst h1
        simp only [XA, XB, gateX, Nat.reduceAdd, Nat.reduceLeDiff, Nat.reduceSub, Nat.reduceMul, ↓reduceIte, Int.reduceToNat, Int.reduceLE, beq_self_eq_true, w1]
        refine hK _ ?_
        first | refine Gx.a (by kernel_rfl) fun K hK => ?_ | refine Gx.b (by kernel_rfl) fun K hK => ?_ | refine Gx.c (by kernel_rfl) fun K hK => ?_
        simp only [XA, XB, gateX, Nat.reduceAdd, Nat.reduceLeDiff, Nat.reduceSub, Nat.reduceMul, ↓reduceIte, Int.reduceToNat, Int.reduceLE, beq_self_eq_true]
        refine hK _ ?_
        clear hK
        generalize hx : gd (dg a) k = x at *
        generalize hy : gd (dg b) k + cc = y at *
        refine XWP.cut (fun s => ∃ V5 : View, StIs (fun Z => [.v (.slice A (dg a).length c), .v (.slice A' (dg b).length c'), Z 2,Z 3,Z 4,Z 5, .v w, .v (.int .u64 ((subB x y : Nat) : Int)), .v (.int .i64 (k : Int)), .v (.int .u64 (y : Int)), Z 10,Z 11,Z 12,Z 13,Z 14,Z 15,Z 16,Z 17,Z 18,Z 19,Z 20,Z 21,Z 22,Z 23,Z 24,Z 25,Z 26,Z 27,Z 28,Z 29,Z 30,Z 31,Z 32,Z 33,Z 34,Z 35,Z 36,Z 37,Z 38,Z 39,Z 40,Z 41,Z 42,Z 43]) [] H5 V5 s ∧ V.le V5) ?_ ?_
        · first | refine Gx.a (by kernel_rfl) fun K hK => ?_ | refine Gx.b (by kernel_rfl) fun K hK => ?_ | refine Gx.c (by kernel_rfl) fun K hK => ?_
          simp only [XA, XB, gateX, Nat.reduceAdd, Nat.reduceLeDiff, Nat.reduceSub, Nat.reduceMul, ↓reduceIte, Int.reduceToNat, Int.reduceLE, beq_self_eq_true]
          refine call_go (by kernel_rfl) rfl (rat_c _ _ _ k (NatAt.mono (NatAt.mono hv hV3) hV4) (by omega)) fun v1 V5 hV5 h1 => ?_
          subst h1
          rw [hx]
          by_cases hxy : x < y
          · have b2 : decide ((x : Int) < (y : Int)) = true := decide_eq_true (by omega)
            simp only [XA, XB, gateX, Nat.reduceAdd, Nat.reduceLeDiff, Nat.reduceSub, Nat.reduceMul, ↓reduceIte, Int.reduceToNat, Int.reduceLE, beq_self_eq_true, b2]
            refine hK _ ?_
            first | refine Gx.t rfl ?_ | refine XWP.seq (Gx.t rfl ?_)
            first | refine Gx.a (by kernel_rfl) fun K hK => ?_ | refine Gx.b (by kernel_rfl) fun K hK => ?_ | refine Gx.c (by kernel_rfl) fun K hK => ?_
            simp only [XA, XB, gateX, Nat.reduceAdd, Nat.reduceLeDiff, Nat.reduceSub, Nat.reduceMul, ↓reduceIte, Int.reduceToNat, Int.reduceLE, beq_self_eq_true]
            refine hK _ ⟨V5, StIs.of ?_, View.le_trans hV3 (View.le_trans hV4 hV5)⟩
            unfold subB
            rw [if_pos hxy]; rfl
          · have b2 : decide ((x : Int) < (y : Int)) = false := decide_eq_false (by omega)
            simp only [XA, XB, gateX, Nat.reduceAdd, Nat.reduceLeDiff, Nat.reduceSub, Nat.reduceMul, ↓reduceIte, Int.reduceToNat, Int.reduceLE, beq_self_eq_true, b2]
            refine hK _ ?_
            first | refine Gx.f rfl ?_ | refine XWP.seq (Gx.f rfl ?_)
            refine XWP.skip ?_
            refine ⟨V5, StIs.of ?_, View.le_trans hV3 (View.le_trans hV4 hV5)⟩
            unfold subB
            rw [if_neg hxy]; rfl
        · rintro s ⟨V5, hs, hV5⟩
          obtain ⟨z2, rfl⟩ := hs.out
          try dsimp only
          first | refine Gx.a (by kernel_rfl) fun K hK => ?_ | refine Gx.b (by kernel_rfl) fun K hK => ?_ | refine Gx.c (by kernel_rfl) fun K hK => ?_
          simp only [XA, XB, gateX, Nat.reduceAdd, Nat.reduceLeDiff, Nat.reduceSub, Nat.reduceMul, ↓reduceIte, Int.reduceToNat, Int.reduceLE, beq_self_eq_true]
          refine call_go (by kernel_rfl) rfl (rat_c _ _ _ k (NatAt.mono hv hV5) (by omega)) fun v1 V6 hV6 h1 => ?_
          subst h1
          rw [hx]
          simp only [XA, XB, gateX, Nat.reduceAdd, Nat.reduceLeDiff, Nat.reduceSub, Nat.reduceMul, ↓reduceIte, Int.reduceToNat, Int.reduceLE, beq_self_eq_true, mul_BB _ (show subB x y < BB by unfold BB; omega)]
          rw [sub_mid x y gx hyB]
          refine bs_go (by kernel_rfl) #[(0, .int .u32 ((subD x y : Nat) : Int))] (by simp [ev_tmp, SV.val]) (bs_one elemT_25 zeroT_116 rfl) fun q3 hq3 hq4 => ?_
          simp only [XA, XB, gateX, Nat.reduceAdd, Nat.reduceLeDiff, Nat.reduceSub, Nat.reduceMul, ↓reduceIte, Int.reduceToNat, Int.reduceLE, beq_self_eq_true]
          refine ap_go elemT_25 (by kernel_rfl) zeroT_116 rfl (by omega) (own_upd hown hq3) (src_row (ds := [subD x y]) (by simp [upd, u32s]; exact ⟨rfl, rfl⟩) rfl) (by omega) (by omega) fun v' H' hres => ?_
          simp only [XA, XB, gateX, Nat.reduceAdd, Nat.reduceLeDiff, Nat.reduceSub, Nat.reduceMul, ↓reduceIte, Int.reduceToNat, Int.reduceLE, beq_self_eq_true]
          refine hK _ ?_
          first | refine Gx.a (by kernel_rfl) fun K hK => ?_ | refine Gx.b (by kernel_rfl) fun K hK => ?_ | refine Gx.c (by kernel_rfl) fun K hK => ?_
          simp only [XA, XB, gateX, Nat.reduceAdd, Nat.reduceLeDiff, Nat.reduceSub, Nat.reduceMul, ↓reduceIte, Int.reduceToNat, Int.reduceLE, beq_self_eq_true, i64_succ k (by omega)]
          refine hK _ ⟨n - 1, by omega, k + 1, _, _, _, out ++ [subD x y], subB x y, StIs.of (by exact rfl), View.le_trans hV5 hV6, by omega, by simp [hol], Dig_append hod (Dig_one sd2), sd3, ?_, hst⟩
          rw [u32s_append]; exact hres.1
      · have b1 : decide ((k : Int) < ((dg a).length : Int)) = false := decide_eq_false (by omega)
        obtain rfl : k = (dg a).length := by omega
        simp only [XA, XB, gateX, Nat.reduceAdd, Nat.reduceLeDiff, Nat.reduceSub, Nat.reduceMul, ↓reduceIte, Int.reduceToNat, Int.reduceLE, beq_self_eq_true, b1]
        refine hK _ ?_
        first | refine Gx.f rfl ?_ | refine XWP.seq (Gx.f rfl ?_)
        refine XWP.exit ?_
        refine ⟨V3, w, H5, out, StIs.of (by exact rfl), hol, hod, hown, ?_⟩
        rw [List.take_length, List.take_of_length_le (by omega), nv_dg, nv_dg] at hnv
        have hnl := nv_lt hod
        rw [hol] at hnl
        have : cc = 0 := by
          rcases Nat.eq_zero_or_pos cc with h | h
          · exact h
          · have : cc = 1 := by omega
            subst this
            omega
        subst this
        omega
    · rintro s ⟨V3, w, H5, out, hs, hol, hod, hown, hnv⟩
      obtain ⟨z, rfl⟩ := hs.out
      try dsimp only
      first | refine Gx.a (by kernel_rfl) fun K hK => ?_ | refine Gx.b (by kernel_rfl) fun K hK => ?_ | refine Gx.c (by kernel_rfl) fun K hK => ?_
      simp only [XA, XB, gateX, Nat.reduceAdd, Nat.reduceLeDiff, Nat.reduceSub, Nat.reduceMul, ↓reduceIte, Int.reduceToNat, Int.reduceLE, beq_self_eq_true]
      rcases own_parts hown with ⟨rfl, hk0, ho0⟩ | ⟨g, cap, rfl, hg, hle, hcap, hlen⟩
      · have : out = [] := List.length_eq_zero_iff.1 (by omega)
        subst this
        refine call_go (by kernel_rfl) rfl (rtrim_any _ _ [] (NatAt.nil _) (by simp)) fun v3 V4 hV4 h3 => ?_
        simp only [XA, XB, gateX, Nat.reduceAdd, Nat.reduceLeDiff, Nat.reduceSub, Nat.reduceMul, ↓reduceIte, Int.reduceToNat, Int.reduceLE, beq_self_eq_true]
        refine hK _ (XWP.ret ?_)
        try simp only [thenX_ret, inBlockX_ret]
        refine ret_go _ rfl ?_
        refine ⟨fun h => by omega, fun _ => ⟨v3, rfl, ?_⟩⟩
        have : a - b = nv [] := by omega
        rw [this]; exact h3
      · refine call_pub g _ hg (fun o ho hle' => ?_) (by kernel_rfl) rfl
        refine call_go (by kernel_rfl) rfl (rtrim_any _ _ out (NatAt.pub ho hod hol hle (by unfold maxLen at hcap; omega)) (by omega)) fun v3 V4 hV4 h3 => ?_
        simp only [XA, XB, gateX, Nat.reduceAdd, Nat.reduceLeDiff, Nat.reduceSub, Nat.reduceMul, ↓reduceIte, Int.reduceToNat, Int.reduceLE, beq_self_eq_true]
        refine hK _ (XWP.ret ?_)
        try simp only [thenX_ret, inBlockX_ret]
        refine ret_go _ rfl ?_
        refine ⟨fun h => by omega, fun _ => ⟨v3, rfl, ?_⟩⟩
        have : a - b = nv out := by omega
        rw [this]; exact h3
end Go.Proofs.Ytkgmicakfmllmaa
end
section
namespace Go.Proofs.Ytkgmicakfmllmaa
set_option linter.unusedVariables false
theorem times_step {ds out : List Nat} {k sh m c : Nat} (hl : out.length = sh + k) (h : nv out + BB ^ (sh + k) * c = BB ^ sh * (nv (ds.take k) * m)) :
    nv (out ++ [(gd ds k * m + c) % BB]) + BB ^ (sh + (k + 1)) * ((gd ds k * m + c) / BB) = BB ^ sh * (nv (ds.take (k + 1)) * m) := by
  rw [nv_snoc, hl, nv_take_gd, ← Nat.add_assoc sh k 1, Nat.pow_succ, Nat.mul_assoc (BB ^ (sh + k))]
  have e := Nat.mod_add_div (gd ds k * m + c) BB
  have e2 : BB ^ (sh + k) * ((gd ds k * m + c) % BB) + BB ^ (sh + k) * (BB * ((gd ds k * m + c) / BB)) = BB ^ (sh + k) * (gd ds k * m) + BB ^ (sh + k) * c := by rw [← Nat.mul_add, e, Nat.mul_add]
  have e3 : BB ^ sh * ((nv (ds.take k) + BB ^ k * gd ds k) * m) = BB ^ sh * (nv (ds.take k) * m) + BB ^ (sh + k) * (gd ds k * m) := by
    rw [Nat.add_mul, Nat.mul_add, Nat.pow_add, Nat.mul_assoc (BB ^ k), Nat.mul_assoc (BB ^ sh)]
  rw [e3]; omega
theorem times_carry {x m c : Nat} (hx : x < BB) (hm : m < BB) (hc : c < BB) : x * m + c < 18446744073709551616 ∧ (x * m + c) / BB < BB ∧ x * m < 18446744073709551616 := by
  have h1 : x * m ≤ 4294967295 * 4294967295 := Nat.mul_le_mul (by unfold BB at hx; omega) (by unfold BB at hm; omega)
  unfold BB at *
  omega
theorem guess_bounds {a b n i first lead q : Nat} (hb : BB ^ n * lead ≤ b) (hb2 : b < BB ^ n * (lead + 1)) (hlead : 0 < lead) (hf1 : BB ^ (i + n) * first ≤ a) (hf2 : a < BB ^ (i + n) * (first + 1)) (hq : q = a / (b * BB ^ i)) :
    q ≤ first / lead ∧ first / (lead + 1) ≤ q := by
  have hP := pow_pos' n
  have hS := pow_pos' i
  have hb0 : 0 < b := Nat.lt_of_lt_of_le (Nat.mul_pos hP hlead) hb
  have hbS : 0 < b * BB ^ i := Nat.mul_pos hb0 hS
  have e : BB ^ (i + n) = BB ^ n * BB ^ i := by rw [Nat.pow_add, Nat.mul_comm]
  rw [e] at hf1 hf2
  constructor
  · rw [Nat.le_div_iff_mul_le hlead]
    have h1 : q * (b * BB ^ i) ≤ a := by rw [hq]; exact Nat.div_mul_le_self _ _
    have h2 : q * (BB ^ n * lead * BB ^ i) ≤ q * (b * BB ^ i) := Nat.mul_le_mul_left _ (Nat.mul_le_mul_right _ hb)
    have h3 : q * (BB ^ n * lead * BB ^ i) = BB ^ n * BB ^ i * (q * lead) := by
      rw [Nat.mul_assoc (BB ^ n), Nat.mul_comm lead, ← Nat.mul_assoc (BB ^ n), Nat.mul_left_comm q]
    have h4 : BB ^ n * BB ^ i * (q * lead) < BB ^ n * BB ^ i * (first + 1) := by omega
    have := Nat.lt_of_mul_lt_mul_left h4
    omega
  · rw [hq, Nat.le_div_iff_mul_le hbS]
    have h1 : first / (lead + 1) * (lead + 1) ≤ first := Nat.div_mul_le_self _ _
    have h2 : first / (lead + 1) * (b * BB ^ i) ≤ first / (lead + 1) * (BB ^ n * (lead + 1) * BB ^ i) := Nat.mul_le_mul_left _ (Nat.mul_le_mul_right _ (Nat.le_of_lt hb2))
    have h3 : first / (lead + 1) * (BB ^ n * (lead + 1) * BB ^ i) = BB ^ n * BB ^ i * (first / (lead + 1) * (lead + 1)) := by
      rw [Nat.mul_assoc (BB ^ n), Nat.mul_comm (lead + 1), ← Nat.mul_assoc (BB ^ n), Nat.mul_left_comm (first / (lead + 1))]
    have h4 : BB ^ n * BB ^ i * (first / (lead + 1) * (lead + 1)) ≤ BB ^ n * BB ^ i * first := Nat.mul_le_mul_left _ h1
    omega
theorem top_one {l : List Nat} {k : Nat} (h : Dig l) (hl : l.length ≤ k + 1) : BB ^ k * gd l k ≤ nv l ∧ nv l < BB ^ k * (gd l k + 1) := by
  have h1 := nv_take_gd l k
  rw [List.take_of_length_le hl] at h1
  have h2 := nv_take_lt h k
  rw [Nat.mul_add]; omega
theorem top_two {l : List Nat} {k : Nat} (h : Dig l) (hl : l.length ≤ k + 2) : BB ^ k * (gd l (k + 1) * BB + gd l k) ≤ nv l ∧ nv l < BB ^ k * (gd l (k + 1) * BB + gd l k + 1) := by
  have h1 := top2 l k
  rw [List.take_of_length_le hl, Nat.mul_comm _ (BB ^ k)] at h1
  have h2 := nv_take_lt h k
  rw [Nat.mul_add _ _ 1]; omega
theorem gd_last {n : Nat} (h : n ≠ 0) : 0 < gd (dg n) (sz n - 1) := by
  have hp := sz_pos h
  unfold sz at hp
  have h1 := dg_last n (dg n)[(dg n).length - 1] (by rw [List.getLast?_eq_getElem?, List.getElem?_eq_getElem (by omega)])
  unfold sz
  rw [gd_get (by omega)]; omega
theorem halve_mid {low high : Nat} (h : low < high) : low < low + (high - low + 1) / 2 ∧ low + (high - low + 1) / 2 ≤ high := by omega
/-- one digit of the quotient -/
theorem hdiv_step {a0 a b i q out' : Nat} {out : List Nat} (hb : 0 < b) (hq : q = a / (b * BB ^ i)) (h : a0 = a + b * nv out) (ho : out' = nv out + BB ^ i * q) : a0 = (a - b * q * BB ^ i) + b * out' ∧ a - b * q * BB ^ i < b * BB ^ i ∧ b * q * BB ^ i ≤ a := by
  have h1 := Nat.mod_add_div a (b * BB ^ i)
  have h2 := Nat.mod_lt a (Nat.mul_pos hb (pow_pos' i))
  rw [← hq] at h1
  have e : b * q * BB ^ i = b * BB ^ i * q := by rw [Nat.mul_assoc, Nat.mul_comm q, ← Nat.mul_assoc]
  have e2 : b * (BB ^ i * q) = b * BB ^ i * q := by rw [Nat.mul_assoc]
  rw [e, ho, Nat.mul_add, e2, h]
  omega
theorem hdiv_lt {a b i : Nat} (h : a < b * BB ^ (i + 1)) : a / (b * BB ^ i) < BB := by
  refine Nat.div_lt_of_lt_mul ?_
  rw [Nat.mul_assoc, ← Nat.pow_succ]; exact h
theorem hdiv_first {a b : Nat} (hb : b ≠ 0) (h : sz b ≤ sz a) : a < b * BB ^ (sz a - sz b + 1) := by
  have h1 := lt_sz a
  have h2 := le_sz hb
  have h3 := sz_pos hb
  have e : sz a = (sz b - 1) + (sz a - sz b + 1) := by omega
  rw [e, Nat.pow_add] at h1
  exact Nat.lt_of_lt_of_le h1 (Nat.mul_le_mul_right _ h2)
theorem hdiv_fits {a b i : Nat} (h : a < b * BB ^ (i + 1)) : a < BB ^ (sz b + (i + 1)) := by
  rw [Nat.pow_add]
  exact Nat.lt_of_lt_of_le h (Nat.mul_le_mul_right _ (Nat.le_of_lt (lt_sz b)))
theorem times_fits {b m i : Nat} (hm : m < BB) : b * m * BB ^ i < BB ^ (sz b + 1 + i) := by
  rw [Nat.pow_add, Nat.pow_add, Nat.pow_one]
  refine Nat.mul_lt_mul_of_pos_right ?_ (pow_pos' i)
  exact Nat.mul_lt_mul_of_lt_of_le (lt_sz b) (Nat.le_of_lt hm) BB_pos

/-! the greatest common divisor by halving -/
theorem gcd_half {a b : Nat} (h : a % 2 = 0) (ho : Nat.gcd a b % 2 = 1) : Nat.gcd (a / 2) b = Nat.gcd a b := by
  obtain ⟨c, rfl⟩ : ∃ c, a = 2 * c := ⟨a / 2, by omega⟩
  rw [Nat.mul_div_cancel_left _ (by omega)]
  have hc : Nat.Coprime (Nat.gcd (2 * c) b) 2 := by unfold Nat.Coprime; rw [Nat.gcd_comm, Nat.gcd_rec, ho, Nat.gcd_one_left]
  refine Nat.dvd_antisymm (Nat.dvd_gcd ?_ (Nat.gcd_dvd_right _ _)) (Nat.dvd_gcd (hc.dvd_of_dvd_mul_left (Nat.gcd_dvd_left _ _)) (Nat.gcd_dvd_right _ _))
  exact Nat.dvd_trans (Nat.gcd_dvd_left _ _) (Nat.dvd_mul_left _ _)
theorem gcd_half2 {a b : Nat} (h : a % 2 = 0) (k : b % 2 = 0) : Nat.gcd a b = 2 * Nat.gcd (a / 2) (b / 2) := by
  obtain ⟨c, rfl⟩ : ∃ c, a = 2 * c := ⟨a / 2, by omega⟩
  obtain ⟨d, rfl⟩ : ∃ c, b = 2 * c := ⟨b / 2, by omega⟩
  rw [Nat.mul_div_cancel_left _ (by omega), Nat.mul_div_cancel_left _ (by omega), Nat.gcd_mul_left]
theorem gcd_odd {a b : Nat} (h : a % 2 = 1 ∨ b % 2 = 1) : Nat.gcd a b % 2 = 1 := by
  rcases Nat.mod_two_eq_zero_or_one (Nat.gcd a b) with h1 | h1
  · have ha := Nat.mod_eq_zero_of_dvd (Nat.dvd_trans (Nat.dvd_of_mod_eq_zero h1) (Nat.gcd_dvd_left a b))
    have hb := Nat.mod_eq_zero_of_dvd (Nat.dvd_trans (Nat.dvd_of_mod_eq_zero h1) (Nat.gcd_dvd_right a b))
    omega
  · exact h1
theorem gcd_take {a b : Nat} (h : a ≤ b) : Nat.gcd a (b - a) = Nat.gcd a b := Nat.gcd_sub_self_right h
end Go.Proofs.Ytkgmicakfmllmaa
end
section
namespace Go.Proofs.Ytkgmicakfmllmaa
open Go Go.RowKit
set_option linter.unusedSimpArgs false
set_option linter.unusedVariables false
attribute [local irreducible] XWP Spec SpecO XPub XCall seqX clX apX stX ldX iaX slX
theorem rmul_c (V : View) (v u : Value) (a b : Nat) (hv : NatC V v a) (hu : NatC V u b) (fa : Fit a) (fb : Fit b) : Spec Try.prog 69 [v, u] V fun v' V' => NatC V' v' (a * b) := by
  obtain ⟨A0, c0, rfl, hc0, hm0⟩ := NatAt.form hv
  obtain ⟨A1, c1, rfl, hc1, hm1⟩ := NatAt.form hu
  refine (Spec.enter Try.func69 rfl fun Γ => ?_)
  simp only [Try.ntmps69, List.map_cons, List.map_nil, List.length_cons, List.length_nil, Nat.reduceAdd, Nat.reduceSub, List.replicate_succ, List.replicate_zero, List.cons_append, List.nil_append]
  first | refine Gx.a (by kernel_rfl) fun K hK => ?_ | refine Gx.b (by kernel_rfl) fun K hK => ?_ | refine Gx.c (by kernel_rfl) fun K hK => ?_
  simp only [XA, XB, gateX, Nat.reduceAdd, Nat.reduceLeDiff, Nat.reduceSub, Nat.reduceMul, ↓reduceIte, Int.reduceToNat, Int.reduceLE, beq_self_eq_true]
  refine hK _ ?_
  first | refine Gx.a (by kernel_rfl) fun K hK => ?_ | refine Gx.b (by kernel_rfl) fun K hK => ?_ | refine Gx.c (by kernel_rfl) fun K hK => ?_
  simp only [XA, XB, gateX, Nat.reduceAdd, Nat.reduceLeDiff, Nat.reduceSub, Nat.reduceMul, ↓reduceIte, Int.reduceToNat, Int.reduceLE, beq_self_eq_true]
  refine call_go (by kernel_rfl) rfl (rtrim_c _ _ _ hv fa) fun v1 V1 hV1 h1 => ?_
  obtain ⟨A, c, rfl, hc, hm⟩ := NatAt.form h1
  simp only [XA, XB, gateX, Nat.reduceAdd, Nat.reduceLeDiff, Nat.reduceSub, Nat.reduceMul, ↓reduceIte, Int.reduceToNat, Int.reduceLE, beq_self_eq_true]
  refine call_go (by kernel_rfl) rfl (rtrim_c _ _ _ (hu.mono hV1) fb) fun v2 V2 hV2 h2 => ?_
  obtain ⟨A', c', rfl, hc', hm'⟩ := NatAt.form h2
  have h1 := h1.mono hV2
  have la := fa.len
  have lb := fb.len
  clear hv hu hc0 hc1 hm0 hm1
  simp only [XA, XB, gateX, Nat.reduceAdd, Nat.reduceLeDiff, Nat.reduceSub, Nat.reduceMul, ↓reduceIte, Int.reduceToNat, Int.reduceLE, beq_self_eq_true]
  refine hK _ ?_
  first | refine Gx.a (by kernel_rfl) fun K hK => ?_ | refine Gx.b (by kernel_rfl) fun K hK => ?_ | refine Gx.c (by kernel_rfl) fun K hK => ?_
  simp only [XA, XB, gateX, Nat.reduceAdd, Nat.reduceLeDiff, Nat.reduceSub, Nat.reduceMul, ↓reduceIte, Int.reduceToNat, Int.reduceLE, beq_self_eq_true, i64_add _ _ (show (dg a).length + (dg b).length ≤ 9223372036854775807 by omega)]
  refine mk_go rfl rfl elemT_25 zeroT_116 (by omega) (by omega) (by omega) (by omega) rfl (by omega) fun q hq1 hq2 => ?_
  simp only [XA, XB, gateX, Nat.reduceAdd, Nat.reduceLeDiff, Nat.reduceSub, Nat.reduceMul, ↓reduceIte, Int.reduceToNat, Int.reduceLE, beq_self_eq_true, u32s_replicate]
  refine hK _ ?_
  clear hK
  refine XWP.cut (fun s => ∃ (H5 : Heap) (out : List Nat), StIs (fun Z => [.v (.slice A (dg a).length c), .v (.slice A' (dg b).length c'), Z 2,Z 3,Z 4, .v (.slice (some ⟨q, 0, none⟩) ((dg a).length + (dg b).length) ((dg a).length + (dg b).length)), Z 6,Z 7,Z 8,Z 9,Z 10,Z 11,Z 12,Z 13,Z 14,Z 15,Z 16,Z 17,Z 18,Z 19,Z 20,Z 21,Z 22,Z 23,Z 24,Z 25,Z 26,Z 27,Z 28,Z 29,Z 30,Z 31,Z 32,Z 33,Z 34,Z 35,Z 36,Z 37,Z 38,Z 39,Z 40,Z 41,Z 42,Z 43,Z 44,Z 45,Z 46,Z 47,Z 48,Z 49,Z 50,Z 51,Z 52,Z 53,Z 54,Z 55,Z 56,Z 57,Z 58,Z 59,Z 60,Z 61,Z 62,Z 63,Z 64,Z 65,Z 66,Z 67,Z 68,Z 69,Z 70,Z 71,Z 72]) [] H5 V2 s ∧ H5 q = some ⟨116, u32s out, ((dg a).length + (dg b).length) * 1⟩ ∧ out.length = (dg a).length + (dg b).length ∧ Dig out ∧ nv out = a * b) ?_ ?_
  · first | refine Gx.a (by kernel_rfl) fun K hK => ?_ | refine Gx.b (by kernel_rfl) fun K hK => ?_ | refine Gx.c (by kernel_rfl) fun K hK => ?_
    simp only [XA, XB, gateX, Nat.reduceAdd, Nat.reduceLeDiff, Nat.reduceSub, Nat.reduceMul, ↓reduceIte, Int.reduceToNat, Int.reduceLE, beq_self_eq_true]
    refine hK _ ?_
    clear hK
    first | refine XWP.block ?_ | refine XWP.seq (XWP.block ?_)
    refine XWP.loop (fun n s => ∃ (k : Nat) (H5 : Heap) (out : List Nat), StIs (fun Z => [.v (.slice A (dg a).length c), .v (.slice A' (dg b).length c'), Z 2,Z 3,Z 4, .v (.slice (some ⟨q, 0, none⟩) ((dg a).length + (dg b).length) ((dg a).length + (dg b).length)), .v (.int .i64 (k : Int)), Z 7,Z 8,Z 9,Z 10,Z 11,Z 12,Z 13,Z 14,Z 15,Z 16,Z 17,Z 18,Z 19,Z 20,Z 21,Z 22,Z 23,Z 24,Z 25,Z 26,Z 27,Z 28,Z 29,Z 30,Z 31,Z 32,Z 33,Z 34,Z 35,Z 36,Z 37,Z 38,Z 39,Z 40,Z 41,Z 42,Z 43,Z 44,Z 45,Z 46,Z 47,Z 48,Z 49,Z 50,Z 51,Z 52,Z 53,Z 54,Z 55,Z 56,Z 57,Z 58,Z 59,Z 60,Z 61,Z 62,Z 63,Z 64,Z 65,Z 66,Z 67,Z 68,Z 69,Z 70,Z 71,Z 72]) [] H5 V2 s ∧ n + k = (dg a).length ∧ H5 q = some ⟨116, u32s out, ((dg a).length + (dg b).length) * 1⟩ ∧ out.length = (dg a).length + (dg b).length ∧ Dig out ∧ (∀ j, k + (dg b).length ≤ j → out.getD j 0 = 0) ∧ nv out = nv ((dg a).take k) * b) (dg a).length ⟨0, _, List.replicate ((dg a).length + (dg b).length) 0, StIs.of (by exact rfl), rfl, by rw [upd_at]; simp, by simp, Dig_replicate _, fun j _ => by simp only [List.getD_eq_getElem?_getD, List.getElem?_replicate]; split <;> rfl, by simp [nv, nv_replicate]⟩ ?_
    rintro n s ⟨i, H5, out, hs, hn, hH, hol, hod, hz, hnv⟩
    obtain ⟨u, rfl⟩ := hs.out
    try dsimp only
    by_cases hi : i < (dg a).length
    · have b1 : decide ((i : Int) < ((dg a).length : Int)) = true := decide_eq_true (by omega)
      refine XWP.seq ?_
      first | refine Gx.a (by kernel_rfl) fun K hK => ?_ | refine Gx.b (by kernel_rfl) fun K hK => ?_ | refine Gx.c (by kernel_rfl) fun K hK => ?_
      simp only [XA, XB, gateX, Nat.reduceAdd, Nat.reduceLeDiff, Nat.reduceSub, Nat.reduceMul, ↓reduceIte, Int.reduceToNat, Int.reduceLE, beq_self_eq_true, b1]
      refine hK _ ?_
      first | refine Gx.t rfl ?_ | refine XWP.seq (Gx.t rfl ?_)
      refine XWP.skip ?_
      obtain ⟨q1, o1, rfl⟩ := NatAt.addr h1 (by omega)
      have hc1 := NatAt.cells h1 i hi
      have hd1 := Dig_get (Dig_dg a) i hi
      rw [getD_get] at hc1 hd1
      generalize hx : (dg a).getD i 0 = x at *
      refine XWP.seq ?_
      first | refine XWP.block ?_ | refine XWP.seq (XWP.block ?_)
      first | refine Gx.a (by kernel_rfl) fun K hK => ?_ | refine Gx.b (by kernel_rfl) fun K hK => ?_ | refine Gx.c (by kernel_rfl) fun K hK => ?_
      simp only [XA, XB, gateX, Nat.reduceAdd, Nat.reduceLeDiff, Nat.reduceSub, Nat.reduceMul, ↓reduceIte, Int.reduceToNat, Int.reduceLE, beq_self_eq_true]
      refine hK _ ?_
      clear hK
      refine XWP.cut (fun s => ∃ (H6 : Heap) (out' : List Nat) (cc : Nat), StIs (fun Z => [.v (.slice (some ⟨q1, o1, none⟩) (dg a).length c), .v (.slice A' (dg b).length c'), Z 2,Z 3,Z 4, .v (.slice (some ⟨q, 0, none⟩) ((dg a).length + (dg b).length) ((dg a).length + (dg b).length)), .v (.int .i64 (i : Int)), .v (.int .u64 ((cc : Nat) : Int)), Z 8,Z 9,Z 10,Z 11,Z 12,Z 13,Z 14,Z 15,Z 16,Z 17,Z 18,Z 19,Z 20,Z 21,Z 22,Z 23,Z 24,Z 25,Z 26,Z 27,Z 28,Z 29,Z 30,Z 31,Z 32,Z 33,Z 34,Z 35,Z 36,Z 37,Z 38,Z 39,Z 40,Z 41,Z 42,Z 43,Z 44,Z 45,Z 46,Z 47,Z 48,Z 49,Z 50,Z 51,Z 52,Z 53,Z 54,Z 55,Z 56,Z 57,Z 58,Z 59,Z 60,Z 61,Z 62,Z 63,Z 64,Z 65,Z 66,Z 67,Z 68,Z 69,Z 70,Z 71,Z 72]) [] H6 V2 s ∧ H6 q = some ⟨116, u32s out', ((dg a).length + (dg b).length) * 1⟩ ∧ out'.length = (dg a).length + (dg b).length ∧ Dig out' ∧ cc < BB ∧ (∀ j, i + (dg b).length ≤ j → out'.getD j 0 = 0) ∧ nv out' + BB ^ (i + (dg b).length) * cc = nv ((dg a).take i) * b + BB ^ i * (x * b)) ?_ ?_
      · first | refine Gx.a (by kernel_rfl) fun K hK => ?_ | refine Gx.b (by kernel_rfl) fun K hK => ?_ | refine Gx.c (by kernel_rfl) fun K hK => ?_
        simp only [XA, XB, gateX, Nat.reduceAdd, Nat.reduceLeDiff, Nat.reduceSub, Nat.reduceMul, ↓reduceIte, Int.reduceToNat, Int.reduceLE, beq_self_eq_true]
        refine hK _ ?_
        clear hK
        first | refine XWP.block ?_ | refine XWP.seq (XWP.block ?_)
        refine XWP.loop (fun n s => ∃ (k : Nat) (H6 : Heap) (out' : List Nat) (cc : Nat), StIs (fun Z => [.v (.slice (some ⟨q1, o1, none⟩) (dg a).length c), .v (.slice A' (dg b).length c'), Z 2,Z 3,Z 4, .v (.slice (some ⟨q, 0, none⟩) ((dg a).length + (dg b).length) ((dg a).length + (dg b).length)), .v (.int .i64 (i : Int)), .v (.int .u64 ((cc : Nat) : Int)), .v (.int .i64 (k : Int)), Z 9,Z 10,Z 11,Z 12,Z 13,Z 14,Z 15,Z 16,Z 17,Z 18,Z 19,Z 20,Z 21,Z 22,Z 23,Z 24,Z 25,Z 26,Z 27,Z 28,Z 29,Z 30,Z 31,Z 32,Z 33,Z 34,Z 35,Z 36,Z 37,Z 38,Z 39,Z 40,Z 41,Z 42,Z 43,Z 44,Z 45,Z 46,Z 47,Z 48,Z 49,Z 50,Z 51,Z 52,Z 53,Z 54,Z 55,Z 56,Z 57,Z 58,Z 59,Z 60,Z 61,Z 62,Z 63,Z 64,Z 65,Z 66,Z 67,Z 68,Z 69,Z 70,Z 71,Z 72]) [] H6 V2 s ∧ n + k = (dg b).length ∧ H6 q = some ⟨116, u32s out', ((dg a).length + (dg b).length) * 1⟩ ∧ out'.length = (dg a).length + (dg b).length ∧ Dig out' ∧ cc < BB ∧ (∀ j, i + (dg b).length ≤ j → out'.getD j 0 = 0) ∧ nv out' + BB ^ (i + k) * cc = nv ((dg a).take i) * b + BB ^ i * (x * nv ((dg b).take k))) (dg b).length ⟨0, H5, out, 0, StIs.of (by exact rfl), rfl, hH, hol, hod, BB_pos, hz, by simp [nv, hnv]⟩ ?_
        rintro n' s ⟨k, H6, out', cc, hs', hn', hH', hol', hod', hcc, hz', hnv'⟩
        obtain ⟨z, rfl⟩ := hs'.out
        try dsimp only
        first | refine Gx.a (by kernel_rfl) fun K hK => ?_ | refine Gx.b (by kernel_rfl) fun K hK => ?_ | refine Gx.c (by kernel_rfl) fun K hK => ?_
        by_cases hk : k < (dg b).length
        · have b2 : decide ((k : Int) < ((dg b).length : Int)) = true := decide_eq_true (by omega)
          simp only [XA, XB, gateX, Nat.reduceAdd, Nat.reduceLeDiff, Nat.reduceSub, Nat.reduceMul, ↓reduceIte, Int.reduceToNat, Int.reduceLE, beq_self_eq_true, b2]
          refine hK _ ?_
          first | refine Gx.t rfl ?_ | refine XWP.seq (Gx.t rfl ?_)
          refine XWP.skip ?_
          refine XWP.seq ?_
          first | refine XWP.block ?_ | refine XWP.seq (XWP.block ?_)
          (first | refine XWP.drw [0, 1, 2, 3, 4, 5, 6, 7, 8, 9, 10, 11, 12, 13, 14, 15, 16, 17, 18, 19, 20, 21] (by kernel_rfl) (by kernel_rfl) (by kernel_rfl) fun K hK => ?_ | refine XWP.seq (XWP.drw [0, 1, 2, 3, 4, 5, 6, 7, 8, 9, 10, 11, 12, 13, 14, 15, 16, 17, 18, 19, 20, 21] (by kernel_rfl) (by kernel_rfl) (by kernel_rfl) fun K hK => ?_) | refine XWP.drw1 [0, 1, 2, 3, 4, 5, 6, 7, 8, 9, 10, 11, 12, 13, 14, 15, 16, 17, 18, 19, 20, 21] (by kernel_rfl) (by kernel_rfl) (by kernel_rfl) fun K hK => ?_) <;> dsimp only [pickOps, List.getElem?_cons_zero, List.getElem?_cons_succ]
          obtain ⟨q2, o2, rfl⟩ := NatAt.addr h2 (by omega)
          have hc2 := NatAt.cells h2 k hk
          have hd2 := Dig_get (Dig_dg b) k hk
          rw [getD_get] at hc2 hd2
          have hd3 := Dig_get hod' (i + k) (by omega)
          rw [getD_get] at hd3
          obtain ⟨m1, m2, m3, m4⟩ := mul_carry cc (out'.getD (i + k) 0) x ((dg b).getD k 0) hcc hd3 hd1 hd2
          have w1 := i64_add i k (by omega)
          have w2 := u64_add (x * (dg b).getD k 0) (out'.getD (i + k) 0) (by omega)
          have w3 := u64_add (x * (dg b).getD k 0 + out'.getD (i + k) 0) cc (by omega)
          simp only [XA, XB, gateX, Nat.reduceAdd, Nat.reduceLeDiff, Nat.reduceSub, Nat.reduceMul, ↓reduceIte, Int.reduceToNat, Int.reduceLE, beq_self_eq_true]
          refine ⟨by omega, by omega, ld_mem (loads_cell shapeT_116 (hc1 _)) ?_⟩
          simp only [XA, XB, gateX, Nat.reduceAdd, Nat.reduceLeDiff, Nat.reduceSub, Nat.reduceMul, ↓reduceIte, Int.reduceToNat, Int.reduceLE, beq_self_eq_true]
          refine ⟨by omega, by omega, ld_mem (loads_cell shapeT_116 (hc2 _)) ?_⟩
          simp only [XA, XB, gateX, Nat.reduceAdd, Nat.reduceLeDiff, Nat.reduceSub, Nat.reduceMul, ↓reduceIte, Int.reduceToNat, Int.reduceLE, beq_self_eq_true, w1, u64_of_u32 _ hd1, u64_of_u32 _ hd2, u64_mul _ _ m4]
          refine ⟨by omega, by omega, ld_mem (loads_cell shapeT_116 (row_cell hH' (by omega))) ?_⟩
          simp only [XA, XB, gateX, Nat.reduceAdd, Nat.reduceLeDiff, Nat.reduceSub, Nat.reduceMul, ↓reduceIte, Int.reduceToNat, Int.reduceLE, beq_self_eq_true, u64_of_u32 _ hd3, w2, w3]
          refine hK _ ?_
          have e0 : x * (dg b).getD k 0 + out'.getD (i + k) 0 + cc = cc + (out'.getD (i + k) 0 + x * gd (dg b) k) := by unfold gd; omega
          rw [e0]
          have m1' : cc + (out'.getD (i + k) 0 + x * gd (dg b) k) < 18446744073709551616 := m1
          first | refine Gx.a (by kernel_rfl) fun K hK => ?_ | refine Gx.b (by kernel_rfl) fun K hK => ?_ | refine Gx.c (by kernel_rfl) fun K hK => ?_
          simp only [XA, XB, gateX, Nat.reduceAdd, Nat.reduceLeDiff, Nat.reduceSub, Nat.reduceMul, ↓reduceIte, Int.reduceToNat, Int.reduceLE, beq_self_eq_true, w1, bin_rem _ _ _ _ BB_ne, rem_BB, w32_mod, Nat.mod_mod]
          refine ⟨by omega, by omega, ?_⟩
          refine st_row shapeT_116 rfl rfl hH' (by rw [u32s_length]; omega) ?_
          simp only [XA, XB, gateX, Nat.reduceAdd, Nat.reduceLeDiff, Nat.reduceSub, Nat.reduceMul, ↓reduceIte, Int.reduceToNat, Int.reduceLE, beq_self_eq_true, u32s_set]
          refine hK _ ?_
          first | refine Gx.a (by kernel_rfl) fun K hK => ?_ | refine Gx.b (by kernel_rfl) fun K hK => ?_ | refine Gx.c (by kernel_rfl) fun K hK => ?_
          simp only [XA, XB, gateX, Nat.reduceAdd, Nat.reduceLeDiff, Nat.reduceSub, Nat.reduceMul, ↓reduceIte, Int.reduceToNat, Int.reduceLE, beq_self_eq_true, bin_quo _ _ _ _ BB_ne, quo_BB _ m1']
          refine hK _ ?_
          first | refine Gx.a (by kernel_rfl) fun K hK => ?_ | refine Gx.b (by kernel_rfl) fun K hK => ?_ | refine Gx.c (by kernel_rfl) fun K hK => ?_
          simp only [XA, XB, gateX, Nat.reduceAdd, Nat.reduceLeDiff, Nat.reduceSub, Nat.reduceMul, ↓reduceIte, Int.reduceToNat, Int.reduceLE, beq_self_eq_true, i64_succ k (by omega)]
          refine hK _ ⟨n' - 1, by omega, k + 1, _, _, _, StIs.of (by exact rfl), by omega, by (simp only [upd_at, Nat.mul_one]; first | done | exact rfl), by simp [hol'], Dig_set hod' _ (Nat.mod_lt _ BB_pos), m2, fun j hj => ?_, mul_step (db := dg b) (by omega) hnv'⟩
          rw [getD_set_ne' _ _ _ _ (by omega)]; exact hz' j hj
        · have b2 : decide ((k : Int) < ((dg b).length : Int)) = false := decide_eq_false (by omega)
          obtain rfl : k = (dg b).length := by omega
          simp only [XA, XB, gateX, Nat.reduceAdd, Nat.reduceLeDiff, Nat.reduceSub, Nat.reduceMul, ↓reduceIte, Int.reduceToNat, Int.reduceLE, beq_self_eq_true, b2]
          refine hK _ ?_
          first | refine Gx.f rfl ?_ | refine XWP.seq (Gx.f rfl ?_)
          refine XWP.exit ?_
          refine ⟨H6, out', cc, StIs.of (by exact rfl), hH', hol', hod', hcc, hz', ?_⟩
          rw [hnv', List.take_length, nv_dg]
      · rintro s ⟨H6, out', cc, hs', hH', hol', hod', hcc, hz', hnv'⟩
        obtain ⟨z, rfl⟩ := hs'.out
        try dsimp only
        first | refine Gx.a (by kernel_rfl) fun K hK => ?_ | refine Gx.b (by kernel_rfl) fun K hK => ?_ | refine Gx.c (by kernel_rfl) fun K hK => ?_
        have e1 : cc % BB = cc := Nat.mod_eq_of_lt hcc
        simp only [XA, XB, gateX, Nat.reduceAdd, Nat.reduceLeDiff, Nat.reduceSub, Nat.reduceMul, ↓reduceIte, Int.reduceToNat, Int.reduceLE, beq_self_eq_true, i64_add i (dg b).length (by omega), w32_mod, e1]
        refine ⟨by omega, by omega, ?_⟩
        refine st_row shapeT_116 rfl rfl hH' (by rw [u32s_length]; omega) ?_
        simp only [XA, XB, gateX, Nat.reduceAdd, Nat.reduceLeDiff, Nat.reduceSub, Nat.reduceMul, ↓reduceIte, Int.reduceToNat, Int.reduceLE, beq_self_eq_true, u32s_set]
        refine hK _ ?_
        first | refine Gx.a (by kernel_rfl) fun K hK => ?_ | refine Gx.b (by kernel_rfl) fun K hK => ?_ | refine Gx.c (by kernel_rfl) fun K hK => ?_
        simp only [XA, XB, gateX, Nat.reduceAdd, Nat.reduceLeDiff, Nat.reduceSub, Nat.reduceMul, ↓reduceIte, Int.reduceToNat, Int.reduceLE, beq_self_eq_true, i64_succ i (by omega)]
        refine hK _ ⟨n - 1, by omega, i + 1, _, _, StIs.of (by exact rfl), by omega, by (simp only [upd_at, Nat.mul_one]; first | done | exact rfl), by simp [hol'], Dig_set hod' _ hcc, fun j hj => ?_, mul_last (by omega) (hz' _ (Nat.le_refl _)) hi hx.symm hnv'⟩
        rw [getD_set_ne' _ _ _ _ (by omega)]; exact hz' j (by omega)
    · have b1 : decide ((i : Int) < ((dg a).length : Int)) = false := decide_eq_false (by omega)
      obtain rfl : i = (dg a).length := by omega
      refine XWP.seq ?_
      first | refine Gx.a (by kernel_rfl) fun K hK => ?_ | refine Gx.b (by kernel_rfl) fun K hK => ?_ | refine Gx.c (by kernel_rfl) fun K hK => ?_
      simp only [XA, XB, gateX, Nat.reduceAdd, Nat.reduceLeDiff, Nat.reduceSub, Nat.reduceMul, ↓reduceIte, Int.reduceToNat, Int.reduceLE, beq_self_eq_true, b1]
      refine hK _ ?_
      first | refine Gx.f rfl ?_ | refine XWP.seq (Gx.f rfl ?_)
      refine XWP.exit ?_
      refine ⟨H5, out, StIs.of (by exact rfl), hH, hol, hod, ?_⟩
      rw [hnv, List.take_length, nv_dg]
  · rintro s ⟨H5, out, hs, hH, hol, hod, hnv⟩
    obtain ⟨u, rfl⟩ := hs.out
    try dsimp only
    first | refine Gx.a (by kernel_rfl) fun K hK => ?_ | refine Gx.b (by kernel_rfl) fun K hK => ?_ | refine Gx.c (by kernel_rfl) fun K hK => ?_
    simp only [XA, XB, gateX, Nat.reduceAdd, Nat.reduceLeDiff, Nat.reduceSub, Nat.reduceMul, ↓reduceIte, Int.reduceToNat, Int.reduceLE, beq_self_eq_true]
    refine call_pub q _ hH (fun o ho hle' => ?_) (by kernel_rfl) rfl
    refine call_go (by kernel_rfl) rfl (rtrim_any _ _ out (NatAt.pub ho hod hol (Nat.le_refl _) (by omega)) (by omega)) fun v3 V3 hV3 h3 => ?_
    simp only [XA, XB, gateX, Nat.reduceAdd, Nat.reduceLeDiff, Nat.reduceSub, Nat.reduceMul, ↓reduceIte, Int.reduceToNat, Int.reduceLE, beq_self_eq_true]
    refine hK _ (XWP.ret ?_)
    try simp only [thenX_ret, inBlockX_ret]
    refine ret_go _ rfl ?_
    rw [hnv] at h3
    exact h3
theorem rshort_at (V : View) (v : Value) (ds : List Nat) (d : Nat) (h : NatAt V v ds) (hd0 : 0 < d) (hd : d < BB) (hl : ds.length ≤ 8796093022208) : Spec Try.prog 116 [v, .int .u64 (d : Int)] V fun v' V' => ∃ r, v' = .tuple #[r, .int .u64 ((nv ds % d : Nat) : Int)] ∧ NatC V' r (nv ds / d) := by
  obtain ⟨A, c, rfl, hc, hm⟩ := h.form
  have hdi : ((d : Nat) : Int) ≠ 0 := by omega
  have hdig := h.dig
  refine (Spec.enter Try.func116 rfl fun Γ => ?_)
  simp only [Try.ntmps116, List.map_cons, List.map_nil, List.length_cons, List.length_nil, Nat.reduceAdd, Nat.reduceSub, List.replicate_succ, List.replicate_zero, List.cons_append, List.nil_append]
  first | refine Gx.a (by kernel_rfl) fun K hK => ?_ | refine Gx.b (by kernel_rfl) fun K hK => ?_ | refine Gx.c (by kernel_rfl) fun K hK => ?_
  simp only [XA, XB, gateX, Nat.reduceAdd, Nat.reduceLeDiff, Nat.reduceSub, Nat.reduceMul, ↓reduceIte, Int.reduceToNat, Int.reduceLE, beq_self_eq_true]
  refine hK _ ?_
  first | refine Gx.a (by kernel_rfl) fun K hK => ?_ | refine Gx.b (by kernel_rfl) fun K hK => ?_ | refine Gx.c (by kernel_rfl) fun K hK => ?_
  simp only [XA, XB, gateX, Nat.reduceAdd, Nat.reduceLeDiff, Nat.reduceSub, Nat.reduceMul, ↓reduceIte, Int.reduceToNat, Int.reduceLE, beq_self_eq_true]
  refine mk_go rfl rfl elemT_25 zeroT_116 (by omega) (by omega) (by omega) (by omega) rfl (by omega) fun q hq1 hq2 => ?_
  simp only [XA, XB, gateX, Nat.reduceAdd, Nat.reduceLeDiff, Nat.reduceSub, Nat.reduceMul, ↓reduceIte, Int.reduceToNat, Int.reduceLE, beq_self_eq_true, u32s_replicate]
  refine hK _ ?_
  first | refine Gx.a (by kernel_rfl) fun K hK => ?_ | refine Gx.b (by kernel_rfl) fun K hK => ?_ | refine Gx.c (by kernel_rfl) fun K hK => ?_
  simp only [XA, XB, gateX, Nat.reduceAdd, Nat.reduceLeDiff, Nat.reduceSub, Nat.reduceMul, ↓reduceIte, Int.reduceToNat, Int.reduceLE, beq_self_eq_true]
  refine hK _ ?_
  clear hK
  refine XWP.cut (fun s => ∃ (H5 : Heap) (out : List Nat) (r : Nat), StIs (fun Z => [.v (.slice A ds.length c), .v (.int .u64 (d : Int)), Z 2,Z 3,Z 4,Z 5, .v (.slice (some ⟨q, 0, none⟩) ds.length ds.length), .v (.int .u64 ((r : Nat) : Int)), Z 8,Z 9,Z 10,Z 11,Z 12,Z 13,Z 14,Z 15,Z 16,Z 17,Z 18,Z 19,Z 20,Z 21,Z 22,Z 23,Z 24,Z 25,Z 26,Z 27,Z 28,Z 29,Z 30,Z 31,Z 32,Z 33,Z 34,Z 35,Z 36,Z 37,Z 38,Z 39,Z 40]) [] H5 V s ∧ H5 q = some ⟨116, u32s out, ds.length⟩ ∧ out.length = ds.length ∧ Dig out ∧ r < d ∧ nv out * d + r = nv ds) ?_ ?_
  · have w0 : IntKind.i64.wrap ((ds.length : Int) - 1) = (ds.length : Int) - 1 := wrap_id (by omega) (by omega)
    first | refine Gx.a (by kernel_rfl) fun K hK => ?_ | refine Gx.b (by kernel_rfl) fun K hK => ?_ | refine Gx.c (by kernel_rfl) fun K hK => ?_
    simp only [XA, XB, gateX, Nat.reduceAdd, Nat.reduceLeDiff, Nat.reduceSub, Nat.reduceMul, ↓reduceIte, Int.reduceToNat, Int.reduceLE, beq_self_eq_true, w0]
    refine hK _ ?_
    clear hK
    first | refine XWP.block ?_ | refine XWP.seq (XWP.block ?_)
    refine XWP.loop (fun k s => ∃ (H5 : Heap) (out : List Nat) (r : Nat), StIs (fun Z => [.v (.slice A ds.length c), .v (.int .u64 (d : Int)), Z 2,Z 3,Z 4,Z 5, .v (.slice (some ⟨q, 0, none⟩) ds.length ds.length), .v (.int .u64 ((r : Nat) : Int)), .v (.int .i64 ((k : Int) - 1)), Z 9,Z 10,Z 11,Z 12,Z 13,Z 14,Z 15,Z 16,Z 17,Z 18,Z 19,Z 20,Z 21,Z 22,Z 23,Z 24,Z 25,Z 26,Z 27,Z 28,Z 29,Z 30,Z 31,Z 32,Z 33,Z 34,Z 35,Z 36,Z 37,Z 38,Z 39,Z 40]) [] H5 V s ∧ k ≤ ds.length ∧ H5 q = some ⟨116, u32s out, ds.length⟩ ∧ out.length = ds.length ∧ Dig out ∧ r < d ∧ nv (out.drop k) * d + r = nv (ds.drop k)) ds.length ⟨_, List.replicate ds.length 0, 0, StIs.of (by exact rfl), Nat.le_refl _, by simp only [upd_at, Nat.mul_one], by simp, Dig_replicate _, hd0, by simp [nv]⟩ ?_
    rintro k s ⟨H5, out, r, hs, hk, hH, hol, hod, hr, hnv⟩
    obtain ⟨u, rfl⟩ := hs.out
    try dsimp only
    by_cases hk0 : k = 0
    · subst hk0
      have b2 : decide ((0 : Int) ≤ ((0 : Nat) : Int) - 1) = false := decide_eq_false (by omega)
      refine XWP.seq ?_
      first | refine Gx.a (by kernel_rfl) fun K hK => ?_ | refine Gx.b (by kernel_rfl) fun K hK => ?_ | refine Gx.c (by kernel_rfl) fun K hK => ?_
      simp only [XA, XB, gateX, Nat.reduceAdd, Nat.reduceLeDiff, Nat.reduceSub, Nat.reduceMul, ↓reduceIte, Int.reduceToNat, Int.reduceLE, beq_self_eq_true, b2]
      refine hK _ ?_
      first | refine Gx.f rfl ?_ | refine XWP.seq (Gx.f rfl ?_)
      refine XWP.exit ?_
      exact ⟨H5, out, r, StIs.of (by exact rfl), hH, hol, hod, hr, hnv⟩
    · obtain ⟨j, rfl⟩ : ∃ j, k = j + 1 := ⟨k - 1, by omega⟩
      have ej : (((j + 1 : Nat) : Int) - 1) = (j : Int) := by omega
      have b2 : decide ((0 : Int) ≤ (j : Int)) = true := decide_eq_true (by omega)
      refine XWP.seq ?_
      first | refine Gx.a (by kernel_rfl) fun K hK => ?_ | refine Gx.b (by kernel_rfl) fun K hK => ?_ | refine Gx.c (by kernel_rfl) fun K hK => ?_
      simp only [XA, XB, gateX, Nat.reduceAdd, Nat.reduceLeDiff, Nat.reduceSub, Nat.reduceMul, ↓reduceIte, Int.reduceToNat, Int.reduceLE, beq_self_eq_true, ej, b2]
      refine hK _ ?_
      first | refine Gx.t rfl ?_ | refine XWP.seq (Gx.t rfl ?_)
      refine XWP.skip ?_
      refine XWP.seq ?_
      first | refine XWP.block ?_ | refine XWP.seq (XWP.block ?_)
      first | refine Gx.a (by kernel_rfl) fun K hK => ?_ | refine Gx.b (by kernel_rfl) fun K hK => ?_ | refine Gx.c (by kernel_rfl) fun K hK => ?_
      obtain ⟨q1, o1, rfl⟩ := NatAt.addr h (by omega)
      have hc1 := NatAt.cells h j (by omega)
      have hd1 := Dig_get hdig j (by omega)
      rw [getD_get] at hc1 hd1
      obtain ⟨s1, s2, s3⟩ := short_lt hd hr hd1
      have w2 := u64_add (r * BB) (ds.getD j 0) s3
      simp only [XA, XB, gateX, Nat.reduceAdd, Nat.reduceLeDiff, Nat.reduceSub, Nat.reduceMul, ↓reduceIte, Int.reduceToNat, Int.reduceLE, beq_self_eq_true, mul_BB _ s2]
      refine ⟨by omega, by omega, ld_mem (loads_cell shapeT_116 (hc1 _)) ?_⟩
      simp only [XA, XB, gateX, Nat.reduceAdd, Nat.reduceLeDiff, Nat.reduceSub, Nat.reduceMul, ↓reduceIte, Int.reduceToNat, Int.reduceLE, beq_self_eq_true, u64_of_u32 _ hd1, w2]
      refine hK _ ?_
      have e1 : (r * BB + ds.getD j 0) / d % BB = (r * BB + ds.getD j 0) / d := Nat.mod_eq_of_lt s1
      first | refine Gx.a (by kernel_rfl) fun K hK => ?_ | refine Gx.b (by kernel_rfl) fun K hK => ?_ | refine Gx.c (by kernel_rfl) fun K hK => ?_
      simp only [XA, XB, gateX, Nat.reduceAdd, Nat.reduceLeDiff, Nat.reduceSub, Nat.reduceMul, ↓reduceIte, Int.reduceToNat, Int.reduceLE, beq_self_eq_true, bin_quo _ _ _ _ hdi, u64_div _ _ s3, w32_mod, e1]
      refine ⟨by omega, by omega, ?_⟩
      refine st_row shapeT_116 rfl rfl hH (by rw [u32s_length]; omega) ?_
      simp only [XA, XB, gateX, Nat.reduceAdd, Nat.reduceLeDiff, Nat.reduceSub, Nat.reduceMul, ↓reduceIte, Int.reduceToNat, Int.reduceLE, beq_self_eq_true, u32s_set]
      refine hK _ ?_
      first | refine Gx.a (by kernel_rfl) fun K hK => ?_ | refine Gx.b (by kernel_rfl) fun K hK => ?_ | refine Gx.c (by kernel_rfl) fun K hK => ?_
      simp only [XA, XB, gateX, Nat.reduceAdd, Nat.reduceLeDiff, Nat.reduceSub, Nat.reduceMul, ↓reduceIte, Int.reduceToNat, Int.reduceLE, beq_self_eq_true, bin_rem _ _ _ _ hdi, int_tmod]
      refine hK _ ?_
      first | refine Gx.a (by kernel_rfl) fun K hK => ?_ | refine Gx.b (by kernel_rfl) fun K hK => ?_ | refine Gx.c (by kernel_rfl) fun K hK => ?_
      have w1 : IntKind.i64.wrap ((j : Int) - 1) = (j : Int) - 1 := wrap_id (by omega) (by omega)
      simp only [XA, XB, gateX, Nat.reduceAdd, Nat.reduceLeDiff, Nat.reduceSub, Nat.reduceMul, ↓reduceIte, Int.reduceToNat, Int.reduceLE, beq_self_eq_true, w1]
      exact hK _ ⟨j, by omega, _, _, _, StIs.of (by exact rfl), by omega, upd_at _ _ _, by simp [hol], Dig_set hod _ s1, Nat.mod_lt _ hd0, short_step hol (by omega) hd0 hr hnv⟩
  · rintro s ⟨H5, out, r, hs, hH, hol, hod, hr, hnv⟩
    obtain ⟨u, rfl⟩ := hs.out
    try dsimp only
    first | refine Gx.a (by kernel_rfl) fun K hK => ?_ | refine Gx.b (by kernel_rfl) fun K hK => ?_ | refine Gx.c (by kernel_rfl) fun K hK => ?_
    simp only [XA, XB, gateX, Nat.reduceAdd, Nat.reduceLeDiff, Nat.reduceSub, Nat.reduceMul, ↓reduceIte, Int.reduceToNat, Int.reduceLE, beq_self_eq_true]
    refine call_pub q _ hH (fun o ho hle' => ?_) (by kernel_rfl) rfl
    refine call_go (by kernel_rfl) rfl (rtrim_any _ _ out (NatAt.pub ho hod hol (Nat.le_refl _) (by omega)) (by omega)) fun v3 V3 hV3 h3 => ?_
    simp only [XA, XB, gateX, Nat.reduceAdd, Nat.reduceLeDiff, Nat.reduceSub, Nat.reduceMul, ↓reduceIte, Int.reduceToNat, Int.reduceLE, beq_self_eq_true]
    refine hK _ (XWP.ret ?_)
    try simp only [thenX_ret, inBlockX_ret]
    refine ret_go _ rfl ?_
    have e2 : nv ds / d = nv out := by rw [← hnv, Nat.mul_comm, Nat.mul_add_div hd0, Nat.div_eq_of_lt hr, Nat.add_zero]
    have e3 : nv ds % d = r := by rw [← hnv, Nat.mul_comm, Nat.mul_add_mod, Nat.mod_eq_of_lt hr]
    rw [e2, e3]
    exact ⟨v3, rfl, h3⟩
theorem rtimes_c (V : View) (v : Value) (b m i : Nat) (hv : NatC V v b) (fb : Fit b) (hm : m < BB) (hi : i < 4398046511104) : Spec Try.prog 118 [v, .int .u64 (m : Int), .int .i64 (i : Int)] V fun v' V' => NatC V' v' (b * m * BB ^ i) := by
  obtain ⟨A, c, rfl, hc, hmx⟩ := NatAt.form hv
  have lb := fb.len
  refine (Spec.enter Try.func118 rfl fun Γ => ?_)
  simp only [Try.ntmps118, List.map_cons, List.map_nil, List.length_cons, List.length_nil, Nat.reduceAdd, Nat.reduceSub, List.replicate_succ, List.replicate_zero, List.cons_append, List.nil_append]
  first | refine Gx.a (by kernel_rfl) fun K hK => ?_ | refine Gx.b (by kernel_rfl) fun K hK => ?_ | refine Gx.c (by kernel_rfl) fun K hK => ?_
  simp only [XA, XB, gateX, Nat.reduceAdd, Nat.reduceLeDiff, Nat.reduceSub, Nat.reduceMul, ↓reduceIte, Int.reduceToNat, Int.reduceLE, beq_self_eq_true]
  refine hK _ ?_
  first | refine Gx.a (by kernel_rfl) fun K hK => ?_ | refine Gx.b (by kernel_rfl) fun K hK => ?_ | refine Gx.c (by kernel_rfl) fun K hK => ?_
  simp only [XA, XB, gateX, Nat.reduceAdd, Nat.reduceLeDiff, Nat.reduceSub, Nat.reduceMul, ↓reduceIte, Int.reduceToNat, Int.reduceLE, beq_self_eq_true]
  refine mk_go rfl rfl elemT_25 zeroT_116 (by omega) (by omega) (by omega) (by omega) rfl (by omega) fun q hq1 hq2 => ?_
  simp only [XA, XB, gateX, Nat.reduceAdd, Nat.reduceLeDiff, Nat.reduceSub, Nat.reduceMul, ↓reduceIte, Int.reduceToNat, Int.reduceLE, beq_self_eq_true, u32s_replicate]
  refine hK _ ?_
  first | refine Gx.a (by kernel_rfl) fun K hK => ?_ | refine Gx.b (by kernel_rfl) fun K hK => ?_ | refine Gx.c (by kernel_rfl) fun K hK => ?_
  simp only [XA, XB, gateX, Nat.reduceAdd, Nat.reduceLeDiff, Nat.reduceSub, Nat.reduceMul, ↓reduceIte, Int.reduceToNat, Int.reduceLE, beq_self_eq_true]
  refine hK _ ?_
  clear hK
  refine XWP.cut (fun s => ∃ (w : Value) (H5 : Heap) (out : List Nat) (cc : Nat), StIs (fun Z => [.v (.slice A (dg b).length c), .v (.int .u64 (m : Int)), Z 2,Z 3,Z 4,Z 5,Z 6, .v w, .v (.int .u64 (cc : Int)), Z 9,Z 10,Z 11,Z 12,Z 13,Z 14,Z 15,Z 16,Z 17,Z 18,Z 19,Z 20,Z 21,Z 22,Z 23,Z 24,Z 25,Z 26,Z 27,Z 28,Z 29,Z 30,Z 31,Z 32,Z 33,Z 34,Z 35,Z 36,Z 37,Z 38,Z 39,Z 40,Z 41]) [] H5 V s ∧ out.length = i + (dg b).length ∧ Dig out ∧ cc < BB ∧ Own H5 116 1 w (i + (dg b).length) (u32s out) ∧ nv out + BB ^ (i + (dg b).length) * cc = BB ^ i * (b * m)) ?_ ?_
  · first | refine Gx.a (by kernel_rfl) fun K hK => ?_ | refine Gx.b (by kernel_rfl) fun K hK => ?_ | refine Gx.c (by kernel_rfl) fun K hK => ?_
    simp only [XA, XB, gateX, Nat.reduceAdd, Nat.reduceLeDiff, Nat.reduceSub, Nat.reduceMul, ↓reduceIte, Int.reduceToNat, Int.reduceLE, beq_self_eq_true]
    refine hK _ ?_
    clear hK
    first | refine XWP.block ?_ | refine XWP.seq (XWP.block ?_)
    refine XWP.loop (fun n s => ∃ (k : Nat) (w : Value) (H5 : Heap) (out : List Nat) (cc : Nat), StIs (fun Z => [.v (.slice A (dg b).length c), .v (.int .u64 (m : Int)), Z 2,Z 3,Z 4,Z 5,Z 6, .v w, .v (.int .u64 (cc : Int)), .v (.int .i64 (k : Int)), Z 10,Z 11,Z 12,Z 13,Z 14,Z 15,Z 16,Z 17,Z 18,Z 19,Z 20,Z 21,Z 22,Z 23,Z 24,Z 25,Z 26,Z 27,Z 28,Z 29,Z 30,Z 31,Z 32,Z 33,Z 34,Z 35,Z 36,Z 37,Z 38,Z 39,Z 40,Z 41]) [] H5 V s ∧ n + k = (dg b).length ∧ out.length = i + k ∧ Dig out ∧ cc < BB ∧ Own H5 116 1 w (i + k) (u32s out) ∧ nv out + BB ^ (i + k) * cc = BB ^ i * (nv ((dg b).take k) * m)) (dg b).length ⟨0, _, _, List.replicate i 0, 0, StIs.of (by exact rfl), rfl, by simp, Dig_replicate _, BB_pos, own_u32 (by rw [upd_at]; simp) (by simp [u32s]) (by simp) (by omega), by simp [nv, nv_replicate]⟩ ?_
    rintro n s ⟨k, w, H5, out, cc, hs, hn, hol, hod, hcc, hown, hnv⟩
    obtain ⟨u, rfl⟩ := hs.out
    try dsimp only
    by_cases hk : k < (dg b).length
    · have b1 : decide ((k : Int) < ((dg b).length : Int)) = true := decide_eq_true (by omega)
      refine XWP.seq ?_
      first | refine Gx.a (by kernel_rfl) fun K hK => ?_ | refine Gx.b (by kernel_rfl) fun K hK => ?_ | refine Gx.c (by kernel_rfl) fun K hK => ?_
      simp only [XA, XB, gateX, Nat.reduceAdd, Nat.reduceLeDiff, Nat.reduceSub, Nat.reduceMul, ↓reduceIte, Int.reduceToNat, Int.reduceLE, beq_self_eq_true, b1]
      refine hK _ ?_
      first | refine Gx.t rfl ?_ | refine XWP.seq (Gx.t rfl ?_)
      refine XWP.skip ?_
      refine XWP.seq ?_
      first | refine XWP.block ?_ | refine XWP.seq (XWP.block ?_)
      first | refine Gx.a (by kernel_rfl) fun K hK => ?_ | refine Gx.b (by kernel_rfl) fun K hK => ?_ | refine Gx.c (by kernel_rfl) fun K hK => ?_
      obtain ⟨q1, o1, rfl⟩ := NatAt.addr hv (by omega)
      have hc1 := NatAt.cells hv k hk
      have hd1 := Dig_get (Dig_dg b) k hk
      rw [getD_get] at hc1 hd1
      obtain ⟨m1, m2, m3⟩ := times_carry hd1 hm hcc
      have w2 := u64_add ((dg b).getD k 0 * m) cc m1
      simp only [XA, XB, gateX, Nat.reduceAdd, Nat.reduceLeDiff, Nat.reduceSub, Nat.reduceMul, ↓reduceIte, Int.reduceToNat, Int.reduceLE, beq_self_eq_true]
      refine ⟨by omega, by omega, ld_mem (loads_cell shapeT_116 (hc1 _)) ?_⟩
      simp only [XA, XB, gateX, Nat.reduceAdd, Nat.reduceLeDiff, Nat.reduceSub, Nat.reduceMul, ↓reduceIte, Int.reduceToNat, Int.reduceLE, beq_self_eq_true, u64_of_u32 _ hd1, u64_mul _ _ m3, w2]
      refine hK _ ?_
      have hst := times_step (ds := dg b) (m := m) hol hnv
      have hgd : gd (dg b) k = (dg b).getD k 0 := rfl
      rw [hgd] at hst
      generalize (dg b).getD k 0 * m + cc = c2 at *
      first | refine Gx.a (by kernel_rfl) fun K hK => ?_ | refine Gx.b (by kernel_rfl) fun K hK => ?_ | refine Gx.c (by kernel_rfl) fun K hK => ?_
      simp only [XA, XB, gateX, Nat.reduceAdd, Nat.reduceLeDiff, Nat.reduceSub, Nat.reduceMul, ↓reduceIte, Int.reduceToNat, Int.reduceLE, beq_self_eq_true, bin_rem _ _ _ _ BB_ne, rem_BB, w32_mod, Nat.mod_mod]
      refine bs_go (by kernel_rfl) #[(0, .int .u32 ((c2 % BB : Nat) : Int))] (by simp [ev_tmp, SV.val]) (bs_one elemT_25 zeroT_116 rfl) fun q3 hq3 hq4 => ?_
      simp only [XA, XB, gateX, Nat.reduceAdd, Nat.reduceLeDiff, Nat.reduceSub, Nat.reduceMul, ↓reduceIte, Int.reduceToNat, Int.reduceLE, beq_self_eq_true]
      refine ap_go elemT_25 (by kernel_rfl) zeroT_116 rfl (by omega) (own_upd hown hq3) (src_row (ds := [c2 % BB]) (by simp [upd, u32s]; exact ⟨rfl, rfl⟩) rfl) (by omega) (by omega) fun v' H' hres => ?_
      simp only [XA, XB, gateX, Nat.reduceAdd, Nat.reduceLeDiff, Nat.reduceSub, Nat.reduceMul, ↓reduceIte, Int.reduceToNat, Int.reduceLE, beq_self_eq_true]
      refine hK _ ?_
      first | refine Gx.a (by kernel_rfl) fun K hK => ?_ | refine Gx.b (by kernel_rfl) fun K hK => ?_ | refine Gx.c (by kernel_rfl) fun K hK => ?_
      simp only [XA, XB, gateX, Nat.reduceAdd, Nat.reduceLeDiff, Nat.reduceSub, Nat.reduceMul, ↓reduceIte, Int.reduceToNat, Int.reduceLE, beq_self_eq_true, bin_quo _ _ _ _ BB_ne, quo_BB _ m1]
      refine hK _ ?_
      first | refine Gx.a (by kernel_rfl) fun K hK => ?_ | refine Gx.b (by kernel_rfl) fun K hK => ?_ | refine Gx.c (by kernel_rfl) fun K hK => ?_
      simp only [XA, XB, gateX, Nat.reduceAdd, Nat.reduceLeDiff, Nat.reduceSub, Nat.reduceMul, ↓reduceIte, Int.reduceToNat, Int.reduceLE, beq_self_eq_true, i64_succ k (by omega)]
      refine hK _ ⟨n - 1, by omega, k + 1, _, _, out ++ [c2 % BB], c2 / BB, StIs.of (by exact rfl), by omega, by simp [hol]; omega, Dig_append hod (Dig_one (Nat.mod_lt _ BB_pos)), m2, ?_, hst⟩
      rw [u32s_append]; exact hres.1
    · have b1 : decide ((k : Int) < ((dg b).length : Int)) = false := decide_eq_false (by omega)
      obtain rfl : k = (dg b).length := by omega
      refine XWP.seq ?_
      first | refine Gx.a (by kernel_rfl) fun K hK => ?_ | refine Gx.b (by kernel_rfl) fun K hK => ?_ | refine Gx.c (by kernel_rfl) fun K hK => ?_
      simp only [XA, XB, gateX, Nat.reduceAdd, Nat.reduceLeDiff, Nat.reduceSub, Nat.reduceMul, ↓reduceIte, Int.reduceToNat, Int.reduceLE, beq_self_eq_true, b1]
      refine hK _ ?_
      first | refine Gx.f rfl ?_ | refine XWP.seq (Gx.f rfl ?_)
      refine XWP.exit ?_
      refine ⟨w, H5, out, cc, StIs.of (by exact rfl), hol, hod, hcc, hown, ?_⟩
      rw [hnv, List.take_length, nv_dg]
  · rintro s ⟨w, H5, out, cc, hs, hol, hod, hcc, hown, hnv⟩
    obtain ⟨u, rfl⟩ := hs.out
    try dsimp only
    have e1 : cc % BB = cc := Nat.mod_eq_of_lt hcc
    first | refine Gx.a (by kernel_rfl) fun K hK => ?_ | refine Gx.b (by kernel_rfl) fun K hK => ?_ | refine Gx.c (by kernel_rfl) fun K hK => ?_
    simp only [XA, XB, gateX, Nat.reduceAdd, Nat.reduceLeDiff, Nat.reduceSub, Nat.reduceMul, ↓reduceIte, Int.reduceToNat, Int.reduceLE, beq_self_eq_true, w32_mod, e1]
    refine bs_go (by kernel_rfl) #[(0, .int .u32 ((cc : Nat) : Int))] (by simp [ev_tmp, SV.val]) (bs_one elemT_25 zeroT_116 rfl) fun q3 hq3 hq4 => ?_
    simp only [XA, XB, gateX, Nat.reduceAdd, Nat.reduceLeDiff, Nat.reduceSub, Nat.reduceMul, ↓reduceIte, Int.reduceToNat, Int.reduceLE, beq_self_eq_true]
    refine ap_go elemT_25 (by kernel_rfl) zeroT_116 rfl (by omega) (own_upd hown hq3) (src_row (ds := [cc]) (by simp [upd, u32s]; exact ⟨rfl, rfl⟩) rfl) (by omega) (by omega) fun v' H' hres => ?_
    simp only [XA, XB, gateX, Nat.reduceAdd, Nat.reduceLeDiff, Nat.reduceSub, Nat.reduceMul, ↓reduceIte, Int.reduceToNat, Int.reduceLE, beq_self_eq_true]
    obtain ⟨hown', _, _⟩ := hres
    rw [← u32s_append] at hown'
    obtain ⟨g, cap, rfl, hg, hle, hcap, hlen⟩ := own_row hown' (by omega)
    have hod' := Dig_append hod (Dig_one hcc)
    have hnv' : nv (out ++ [cc]) = b * m * BB ^ i := by rw [nv_snoc, hol, hnv, Nat.mul_comm]
    refine call_pub g _ hg (fun o ho hle' => ?_) (by kernel_rfl) rfl
    refine call_go (by kernel_rfl) rfl (rtrim_any _ _ (out ++ [cc]) (NatAt.pub ho hod' hlen hle (by omega)) (by rw [hlen]; omega)) fun v3 V3 hV3 h3 => ?_
    simp only [XA, XB, gateX, Nat.reduceAdd, Nat.reduceLeDiff, Nat.reduceSub, Nat.reduceMul, ↓reduceIte, Int.reduceToNat, Int.reduceLE, beq_self_eq_true]
    refine hK _ (XWP.ret ?_)
    try simp only [thenX_ret, inBlockX_ret]
    refine ret_go _ rfl ?_
    rw [hnv'] at h3
    exact h3
theorem rhalf_c (V : View) (v : Value) (a : Nat) (hv : NatC V v a) (fa : Fit a) : Spec Try.prog 111 [v] V fun v' V' => NatC V' v' (a / 2) := by
  have la := fa.len
  refine (Spec.enter Try.func111 rfl fun Γ => ?_)
  simp only [Try.ntmps111, List.map_cons, List.map_nil, List.length_cons, List.length_nil, Nat.reduceAdd, Nat.reduceSub, List.replicate_succ, List.replicate_zero, List.cons_append, List.nil_append]
  first | refine Gx.a (by kernel_rfl) fun K hK => ?_ | refine Gx.b (by kernel_rfl) fun K hK => ?_ | refine Gx.c (by kernel_rfl) fun K hK => ?_
  simp only [XA, XB, gateX, Nat.reduceAdd, Nat.reduceLeDiff, Nat.reduceSub, Nat.reduceMul, ↓reduceIte, Int.reduceToNat, Int.reduceLE, beq_self_eq_true]
  refine hK _ ?_
  first | refine Gx.a (by kernel_rfl) fun K hK => ?_ | refine Gx.b (by kernel_rfl) fun K hK => ?_ | refine Gx.c (by kernel_rfl) fun K hK => ?_
  simp only [XA, XB, gateX, Nat.reduceAdd, Nat.reduceLeDiff, Nat.reduceSub, Nat.reduceMul, ↓reduceIte, Int.reduceToNat, Int.reduceLE, beq_self_eq_true]
  refine call_go (by kernel_rfl) rfl (rtrim_c _ _ _ hv fa) fun v1 V1 hV1 h1 => ?_
  simp only [XA, XB, gateX, Nat.reduceAdd, Nat.reduceLeDiff, Nat.reduceSub, Nat.reduceMul, ↓reduceIte, Int.reduceToNat, Int.reduceLE, beq_self_eq_true]
  refine call_go (by kernel_rfl) rfl (rshort_at _ _ _ 2 h1 (by omega) (by unfold BB; omega) (by omega)) fun v2 V2 hV2 h2 => ?_
  obtain ⟨r, rfl, hr⟩ := h2
  rw [nv_dg] at hr
  simp only [XA, XB, gateX, Nat.reduceAdd, Nat.reduceLeDiff, Nat.reduceSub, Nat.reduceMul, ↓reduceIte, Int.reduceToNat, Int.reduceLE, beq_self_eq_true]
  refine hK _ ?_
  first | refine Gx.a (by kernel_rfl) fun K hK => ?_ | refine Gx.b (by kernel_rfl) fun K hK => ?_ | refine Gx.c (by kernel_rfl) fun K hK => ?_
  simp only [XA, XB, gateX, Nat.reduceAdd, Nat.reduceLeDiff, Nat.reduceSub, Nat.reduceMul, ↓reduceIte, Int.reduceToNat, Int.reduceLE, beq_self_eq_true]
  refine hK _ (XWP.ret ?_)
  try simp only [thenX_ret, inBlockX_ret]
  refine ret_go _ rfl ?_
  exact hr
theorem reven_c (V : View) (v : Value) (a : Nat) (hv : NatC V v a) : Spec Try.prog 110 [v] V fun v' V' => v' = .bool (decide (a % 2 = 0)) := by
  refine (Spec.enter Try.func110 rfl fun Γ => ?_)
  simp only [Try.ntmps110, List.map_cons, List.map_nil, List.length_cons, List.length_nil, Nat.reduceAdd, Nat.reduceSub, List.replicate_succ, List.replicate_zero, List.cons_append, List.nil_append]
  first | refine Gx.a (by kernel_rfl) fun K hK => ?_ | refine Gx.b (by kernel_rfl) fun K hK => ?_ | refine Gx.c (by kernel_rfl) fun K hK => ?_
  simp only [XA, XB, gateX, Nat.reduceAdd, Nat.reduceLeDiff, Nat.reduceSub, Nat.reduceMul, ↓reduceIte, Int.reduceToNat, Int.reduceLE, beq_self_eq_true]
  refine hK _ ?_
  first | refine Gx.a (by kernel_rfl) fun K hK => ?_ | refine Gx.b (by kernel_rfl) fun K hK => ?_ | refine Gx.c (by kernel_rfl) fun K hK => ?_
  simp only [XA, XB, gateX, Nat.reduceAdd, Nat.reduceLeDiff, Nat.reduceSub, Nat.reduceMul, ↓reduceIte, Int.reduceToNat, Int.reduceLE, beq_self_eq_true]
  refine call_go (by kernel_rfl) rfl (rat_c _ _ _ 0 hv (by omega)) fun v1 V1 hV1 h1 => ?_
  subst h1
  have e : ((2 : Nat) : Int) ≠ 0 := by omega
  have e2 : (2 : Int) = ((2 : Nat) : Int) := rfl
  rw [show Value.int IntKind.u64 2 = Value.int IntKind.u64 ((2 : Nat) : Int) from rfl]
  simp only [XA, XB, gateX, Nat.reduceAdd, Nat.reduceLeDiff, Nat.reduceSub, Nat.reduceMul, ↓reduceIte, Int.reduceToNat, Int.reduceLE, beq_self_eq_true, bin_rem _ _ _ _ e, int_tmod]
  refine hK _ (XWP.ret ?_)
  try simp only [thenX_ret, inBlockX_ret]
  refine ret_go _ rfl ?_
  have : a % 2 = gd (dg a) 0 % 2 := by
    conv => lhs; rw [← nv_dg a]
    cases dg a with
    | nil => rfl
    | cons d r => simp only [nv, gd, List.getD_cons_zero]; unfold BB; omega
  rw [this]
  show Value.bool _ = _
  congr 1
  rw [decide_eq_decide]; omega
theorem rbits_c (V : View) (v : Value) (a : Nat) (hv : NatC V v a) (fa : Fit a) : Spec Try.prog 105 [v] V fun v' V' => ∃ r : Nat, v' = .int .i64 (r : Int) ∧ (r = 0 ↔ a = 0) := by
  refine (Spec.enter Try.func105 rfl fun Γ => ?_)
  simp only [Try.ntmps105, List.map_cons, List.map_nil, List.length_cons, List.length_nil, Nat.reduceAdd, Nat.reduceSub, List.replicate_succ, List.replicate_zero, List.cons_append, List.nil_append]
  first | refine Gx.a (by kernel_rfl) fun K hK => ?_ | refine Gx.b (by kernel_rfl) fun K hK => ?_ | refine Gx.c (by kernel_rfl) fun K hK => ?_
  simp only [XA, XB, gateX, Nat.reduceAdd, Nat.reduceLeDiff, Nat.reduceSub, Nat.reduceMul, ↓reduceIte, Int.reduceToNat, Int.reduceLE, beq_self_eq_true]
  refine hK _ ?_
  first | refine Gx.a (by kernel_rfl) fun K hK => ?_ | refine Gx.b (by kernel_rfl) fun K hK => ?_ | refine Gx.c (by kernel_rfl) fun K hK => ?_
  simp only [XA, XB, gateX, Nat.reduceAdd, Nat.reduceLeDiff, Nat.reduceSub, Nat.reduceMul, ↓reduceIte, Int.reduceToNat, Int.reduceLE, beq_self_eq_true]
  refine call_go (by kernel_rfl) rfl (rtrim_c _ _ _ hv fa) fun v1 V1 hV1 h1 => ?_
  obtain ⟨A, c, rfl, hc, hm⟩ := NatAt.form h1
  have la := fa.len
  simp only [XA, XB, gateX, Nat.reduceAdd, Nat.reduceLeDiff, Nat.reduceSub, Nat.reduceMul, ↓reduceIte, Int.reduceToNat, Int.reduceLE, beq_self_eq_true]
  refine hK _ ?_
  by_cases h0 : a = 0
  · subst h0
    have b1 : decide (((dg 0).length : Int) = 0) = true := by rw [dg_zero]; rfl
    refine XWP.seq ?_
    first | refine Gx.a (by kernel_rfl) fun K hK => ?_ | refine Gx.b (by kernel_rfl) fun K hK => ?_ | refine Gx.c (by kernel_rfl) fun K hK => ?_
    simp only [XA, XB, gateX, Nat.reduceAdd, Nat.reduceLeDiff, Nat.reduceSub, Nat.reduceMul, ↓reduceIte, Int.reduceToNat, Int.reduceLE, beq_self_eq_true, b1]
    refine hK _ ?_
    first | refine Gx.t rfl ?_ | refine XWP.seq (Gx.t rfl ?_)
    first | refine Gx.a (by kernel_rfl) fun K hK => ?_ | refine Gx.b (by kernel_rfl) fun K hK => ?_ | refine Gx.c (by kernel_rfl) fun K hK => ?_
    simp only [XA, XB, gateX, Nat.reduceAdd, Nat.reduceLeDiff, Nat.reduceSub, Nat.reduceMul, ↓reduceIte, Int.reduceToNat, Int.reduceLE, beq_self_eq_true]
    refine hK _ (XWP.ret ?_)
    try simp only [thenX_ret, inBlockX_ret]
    refine ret_go _ rfl ?_
    exact ⟨0, rfl, by simp⟩
  · have hp := sz_pos h0
    unfold sz at hp
    have b1 : decide (((dg a).length : Int) = 0) = false := decide_eq_false (by omega)
    refine XWP.seq ?_
    first | refine Gx.a (by kernel_rfl) fun K hK => ?_ | refine Gx.b (by kernel_rfl) fun K hK => ?_ | refine Gx.c (by kernel_rfl) fun K hK => ?_
    simp only [XA, XB, gateX, Nat.reduceAdd, Nat.reduceLeDiff, Nat.reduceSub, Nat.reduceMul, ↓reduceIte, Int.reduceToNat, Int.reduceLE, beq_self_eq_true, b1]
    refine hK _ ?_
    first | refine Gx.f rfl ?_ | refine XWP.seq (Gx.f rfl ?_)
    refine XWP.skip ?_
    have w0 := i64_pred (dg a).length (by omega) (by omega)
    have w1 : IntKind.i64.wrap (32 * (((dg a).length - 1 : Nat) : Int)) = ((32 * ((dg a).length - 1) : Nat) : Int) := by rw [wrap_id (by omega) (by omega)]; omega
    first | refine Gx.a (by kernel_rfl) fun K hK => ?_ | refine Gx.b (by kernel_rfl) fun K hK => ?_ | refine Gx.c (by kernel_rfl) fun K hK => ?_
    simp only [XA, XB, gateX, Nat.reduceAdd, Nat.reduceLeDiff, Nat.reduceSub, Nat.reduceMul, ↓reduceIte, Int.reduceToNat, Int.reduceLE, beq_self_eq_true, w0, w1]
    refine hK _ ?_
    clear hK
    refine XWP.cut (fun s => ∃ r : Nat, StIs (fun Z => [Z 0,Z 1,Z 2, .v (.int .i64 (r : Int)), Z 4,Z 5,Z 6,Z 7,Z 8,Z 9,Z 10,Z 11,Z 12,Z 13,Z 14,Z 15,Z 16,Z 17,Z 18,Z 19,Z 20,Z 21,Z 22,Z 23,Z 24,Z 25,Z 26]) [] (fun _ => none) V1 s ∧ r ≠ 0) ?_ ?_
    · first | refine Gx.a (by kernel_rfl) fun K hK => ?_ | refine Gx.b (by kernel_rfl) fun K hK => ?_ | refine Gx.c (by kernel_rfl) fun K hK => ?_
      obtain ⟨q1, o1, rfl⟩ := NatAt.addr h1 (by omega)
      have hc1 := NatAt.cells h1 ((dg a).length - 1) (by omega)
      have hd1 := Dig_get (Dig_dg a) ((dg a).length - 1) (by omega)
      have hpos := gd_last h0
      unfold sz at hpos
      rw [getD_get] at hc1 hd1
      simp only [XA, XB, gateX, Nat.reduceAdd, Nat.reduceLeDiff, Nat.reduceSub, Nat.reduceMul, ↓reduceIte, Int.reduceToNat, Int.reduceLE, beq_self_eq_true, w0]
      refine ⟨by omega, by omega, ld_mem (loads_cell shapeT_116 (hc1 _)) ?_⟩
      simp only [XA, XB, gateX, Nat.reduceAdd, Nat.reduceLeDiff, Nat.reduceSub, Nat.reduceMul, ↓reduceIte, Int.reduceToNat, Int.reduceLE, beq_self_eq_true]
      refine hK _ ?_
      clear hK
      have hpos' : 0 < (dg a).getD ((dg a).length - 1) 0 := hpos
      generalize (dg a).getD ((dg a).length - 1) 0 = x0 at *
      generalize hN : 32 * ((dg a).length - 1) = N0 at *
      first | refine XWP.block ?_ | refine XWP.seq (XWP.block ?_)
      refine XWP.loop (fun n s => ∃ r : Nat, StIs (fun Z => [Z 0,Z 1,Z 2, .v (.int .i64 (r : Int)), .v (.int .u32 (n : Int)), Z 5,Z 6,Z 7,Z 8,Z 9,Z 10,Z 11,Z 12,Z 13,Z 14,Z 15,Z 16,Z 17,Z 18,Z 19,Z 20,Z 21,Z 22,Z 23,Z 24,Z 25,Z 26]) [] (fun _ => none) V1 s ∧ n ≤ x0 ∧ r + n ≤ N0 + x0 ∧ (n = x0 ∨ r ≠ 0)) x0 ⟨N0, StIs.of (by exact rfl), Nat.le_refl _, Nat.le_refl _, .inl rfl⟩ ?_
      rintro n s ⟨r, hs, hnx, hr, hor⟩
      obtain ⟨u, rfl⟩ := hs.out
      try dsimp only
      unfold BB at hd1
      by_cases hn : n = 0
      · subst hn
        have b2 : decide ((0 : Int) < ((0 : Nat) : Int)) = false := decide_eq_false (by omega)
        refine XWP.seq ?_
        first | refine Gx.a (by kernel_rfl) fun K hK => ?_ | refine Gx.b (by kernel_rfl) fun K hK => ?_ | refine Gx.c (by kernel_rfl) fun K hK => ?_
        simp only [XA, XB, gateX, Nat.reduceAdd, Nat.reduceLeDiff, Nat.reduceSub, Nat.reduceMul, ↓reduceIte, Int.reduceToNat, Int.reduceLE, beq_self_eq_true, b2]
        refine hK _ ?_
        first | refine Gx.f rfl ?_ | refine XWP.seq (Gx.f rfl ?_)
        refine XWP.exit ?_
        exact ⟨r, StIs.of (by exact rfl), by omega⟩
      · have b2 : decide ((0 : Int) < (n : Int)) = true := decide_eq_true (by omega)
        refine XWP.seq ?_
        first | refine Gx.a (by kernel_rfl) fun K hK => ?_ | refine Gx.b (by kernel_rfl) fun K hK => ?_ | refine Gx.c (by kernel_rfl) fun K hK => ?_
        simp only [XA, XB, gateX, Nat.reduceAdd, Nat.reduceLeDiff, Nat.reduceSub, Nat.reduceMul, ↓reduceIte, Int.reduceToNat, Int.reduceLE, beq_self_eq_true, b2]
        refine hK _ ?_
        first | refine Gx.t rfl ?_ | refine XWP.seq (Gx.t rfl ?_)
        refine XWP.skip ?_
        refine XWP.seq ?_
        first | refine XWP.block ?_ | refine XWP.seq (XWP.block ?_)
        first | refine Gx.a (by kernel_rfl) fun K hK => ?_ | refine Gx.b (by kernel_rfl) fun K hK => ?_ | refine Gx.c (by kernel_rfl) fun K hK => ?_
        simp only [XA, XB, gateX, Nat.reduceAdd, Nat.reduceLeDiff, Nat.reduceSub, Nat.reduceMul, ↓reduceIte, Int.reduceToNat, Int.reduceLE, beq_self_eq_true, i64_succ r (by omega)]
        refine hK _ ?_
        have e : ((2 : Nat) : Int) ≠ 0 := by omega
        have w3 : IntKind.u32.wrap (Int.tdiv (n : Int) 2) = ((n / 2 : Nat) : Int) := by
          have : Int.tdiv (n : Int) 2 = ((n / 2 : Nat) : Int) := (Int.ofNat_tdiv n 2).symm
          rw [this, w32_mod, Nat.mod_eq_of_lt (by unfold BB; omega)]
        have e3 : (2 : Int) ≠ 0 := by omega
        first | refine Gx.a (by kernel_rfl) fun K hK => ?_ | refine Gx.b (by kernel_rfl) fun K hK => ?_ | refine Gx.c (by kernel_rfl) fun K hK => ?_
        simp only [XA, XB, gateX, Nat.reduceAdd, Nat.reduceLeDiff, Nat.reduceSub, Nat.reduceMul, ↓reduceIte, Int.reduceToNat, Int.reduceLE, beq_self_eq_true, bin_quo _ _ _ _ e3, w3]
        exact hK _ ⟨n / 2, by omega, r + 1, StIs.of (by exact rfl), by omega, by omega, .inr (by omega)⟩
    · rintro s ⟨r, hs, hr⟩
      obtain ⟨u, rfl⟩ := hs.out
      try dsimp only
      first | refine Gx.a (by kernel_rfl) fun K hK => ?_ | refine Gx.b (by kernel_rfl) fun K hK => ?_ | refine Gx.c (by kernel_rfl) fun K hK => ?_
      simp only [XA, XB, gateX, Nat.reduceAdd, Nat.reduceLeDiff, Nat.reduceSub, Nat.reduceMul, ↓reduceIte, Int.reduceToNat, Int.reduceLE, beq_self_eq_true]
      refine hK _ (XWP.ret ?_)
      try simp only [thenX_ret, inBlockX_ret]
      refine ret_go _ rfl ?_
      exact ⟨r, rfl, by simp [hr, h0]⟩
end Go.Proofs.Ytkgmicakfmllmaa
end
