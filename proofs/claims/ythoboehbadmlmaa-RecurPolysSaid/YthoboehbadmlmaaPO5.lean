/- The recurrence package's Right, Add, Mul and Eval agree with the reference's, errors included. (part 5 of 12) -/
import Derived.OrdersHeld
import Derived.Below
import Derived.Tactics
import Derived.KernelRfl
import Derived.RangeFuncCalls
import Derived.RangeFuncFrom
import Derived.RangeFuncLeaves
import Derived.OrdersIn
import Derived.Laws.AppendOwn
import Derived.Laws.MakeOwn
import Derived.Laws.CopyRow
import Derived.Laws.Cells
import Derived.Laws.World
import Derived.Laws.Alloc2
import Derived.Laws.NewBlocks
import Derived.Maps.AppendAt
import Derived.Test.YthoboehbadmlmaaProg
import Init.Data.List.Lemmas
import Init.Omega
import Derived.Test.YthoboehbadmlmaaPO4
section
namespace Go.Proofs.Ythoboehbadmlmaa
open Go Go.RowKit
set_option linter.unusedSimpArgs false
set_option linter.unusedVariables false
attribute [local irreducible] XWP Spec SpecO XPub XCall seqX clX apX stX ldX iaX slX
theorem and_mask (t : Nat) (h : t < 18446744073709551616) : andI .u64 (t : Int) 4294967295 = ((t % BB : Nat) : Int) := by
  show IntKind.u64.wrap (((BitVec.ofInt 64 (t : Int) &&& BitVec.ofInt 64 4294967295).toNat : Nat) : Int) = _
  have e0 : (4294967295 : Int) = ((4294967295 : Nat) : Int) := rfl
  have e3 : (BitVec.ofNat 64 t &&& BitVec.ofNat 64 4294967295).toNat = t % BB := by
    rw [BitVec.toNat_and, BitVec.toNat_ofNat, BitVec.toNat_ofNat, Nat.mod_eq_of_lt (by omega), Nat.mod_eq_of_lt (by omega)]
    have : (4294967295 : Nat) = 2 ^ 32 - 1 := rfl
    rw [this, Nat.and_two_pow_sub_one_eq_mod]; rfl
  have hm := Nat.mod_lt t BB_pos
  unfold BB at *
  rw [e0, BitVec.ofInt_natCast, BitVec.ofInt_natCast, e3]
  exact w64_id (by omega) (by omega)
theorem sub_last (x y : Nat) (hx : x < BB) (hy : y ≤ BB) : IntKind.u32.wrap (IntKind.u64.wrap ((x : Int) - (y : Int))) = ((subD x y : Nat) : Int) := by
  obtain ⟨_, h2, _⟩ := subD_eq hx hy
  unfold subD at *
  by_cases h : x < y
  · rw [if_pos h] at *
    have e : IntKind.u64.wrap ((x : Int) - (y : Int)) = ((x + 18446744073709551616 - y : Nat) : Int) := by
      unfold BB at *
      simp [IntKind.wrap, IntKind.bits, IntKind.signed]; omega
    rw [e, w32_mod]
    unfold BB at *
    omega
  · rw [if_neg h] at *
    have e : IntKind.u64.wrap ((x : Int) - (y : Int)) = ((x - y : Nat) : Int) := by
      unfold BB at *
      rw [w64_id (by omega) (by omega)]; omega
    rw [e, w32_mod, Nat.mod_eq_of_lt h2]
theorem u64_sub (a b : Nat) (h : b ≤ a) (h2 : a < 18446744073709551616) : IntKind.u64.wrap ((a : Int) - (b : Int)) = ((a - b : Nat) : Int) := by
  rw [w64_id (by omega) (by omega)]; omega
theorem i64_sub (a b : Nat) (h : b ≤ a) (h2 : a ≤ 9223372036854775807) : IntKind.i64.wrap ((a : Int) - (b : Int)) = ((a - b : Nat) : Int) := by
  rw [wrap_id (by omega) (by omega)]; omega
theorem sub_mid (x y : Nat) (hx : x < BB) (hy : y ≤ BB) : IntKind.u32.wrap (IntKind.u64.wrap (IntKind.u64.wrap ((x : Int) + ((subB x y * BB : Nat) : Int)) - (y : Int))) = ((subD x y : Nat) : Int) := by
  obtain ⟨h1, h2⟩ := sub_digit x y (subB x y) hx hy rfl
  rw [h1, h2]; rfl

theorem i64_pred (n : Nat) (h : 1 ≤ n) (h2 : n ≤ 9223372036854775807) : IntKind.i64.wrap ((n : Int) - 1) = ((n - 1 : Nat) : Int) := by
  rw [wrap_id (by omega) (by omega)]; omega
theorem i64_sub2 (n : Nat) (h : 2 ≤ n) (h2 : n ≤ 9223372036854775807) : IntKind.i64.wrap ((n : Int) - 2) = ((n - 2 : Nat) : Int) := by
  rw [wrap_id (by omega) (by omega)]; omega
theorem u64_small (n : Nat) (h : n < 18446744073709551616) : IntKind.u64.wrap (n : Int) = (n : Int) := w64_id (by omega) (by omega)

set_option maxRecDepth 100000 in
set_option maxHeartbeats 0 in
/-- The divisor is 0, greater than the dividend, or has one digit; else the long way. -/
theorem div_c (V : View) (v u : Value) (a b : Nat) (hv : NatC V v a) (hu : NatC V u b) (fa : Fit a) (fb : Fit b) : Spec Try.prog 135 [v, u] V fun v' V' => (b = 0 → v' = .tuple #[.slice none 0 0, .slice none 0 0, .int .i64 31]) ∧ (b ≠ 0 → ∃ q r, v' = .tuple #[q, r, .int .i64 0] ∧ NatC V' q (a / b) ∧ NatC V' r (a % b)) := by
  obtain ⟨A0, c0, rfl, hc0, hm0⟩ := NatAt.form hv
  obtain ⟨A1, c1, rfl, hc1, hm1⟩ := NatAt.form hu
  refine (Spec.enter Try.func135 rfl fun Γ => ?_)
  simp only [Try.ntmps135, List.map_cons, List.map_nil, List.length_cons, List.length_nil, Nat.reduceAdd, Nat.reduceSub, List.replicate_succ, List.replicate_zero, List.cons_append, List.nil_append]
  first | refine XWP.reg (by kernel_rfl) fun K hK => ?_ | refine XWP.seq (XWP.reg (by kernel_rfl) fun K hK => ?_) | refine XWP.reg1 (by kernel_rfl) fun K hK => ?_
  simp only [XA, XB, gateX, Nat.reduceAdd, Nat.reduceLeDiff, Nat.reduceSub, Nat.reduceMul, ↓reduceIte, Int.reduceToNat, Int.reduceLE, beq_self_eq_true]
  refine hK _ ?_
  first | refine XWP.reg (by kernel_rfl) fun K hK => ?_ | refine XWP.seq (XWP.reg (by kernel_rfl) fun K hK => ?_) | refine XWP.reg1 (by kernel_rfl) fun K hK => ?_
  simp only [XA, XB, gateX, Nat.reduceAdd, Nat.reduceLeDiff, Nat.reduceSub, Nat.reduceMul, ↓reduceIte, Int.reduceToNat, Int.reduceLE, beq_self_eq_true]
  refine call_go (by kernel_rfl) rfl (trim_c _ _ _ hv) fun v1 V1 hV1 h1 => ?_
  obtain ⟨A, c, rfl, hc, hm⟩ := NatAt.form h1
  simp only [XA, XB, gateX, Nat.reduceAdd, Nat.reduceLeDiff, Nat.reduceSub, Nat.reduceMul, ↓reduceIte, Int.reduceToNat, Int.reduceLE, beq_self_eq_true]
  refine call_go (by kernel_rfl) rfl (trim_c _ _ _ (hu.mono hV1)) fun v2 V2 hV2 h2 => ?_
  obtain ⟨A', c', rfl, hc', hm'⟩ := NatAt.form h2
  have h1 := h1.mono hV2
  have la := fa.len
  have lb := fb.len
  clear hv hu hc0 hc1 hm0 hm1
  simp only [XA, XB, gateX, Nat.reduceAdd, Nat.reduceLeDiff, Nat.reduceSub, Nat.reduceMul, ↓reduceIte, Int.reduceToNat, Int.reduceLE, beq_self_eq_true]
  refine hK _ ?_
  clear hK
  refine XWP.cut (fun s => ∃ V3, StIs (fun τ => [.v (.slice A (dg a).length c), .v (.slice A' (dg b).length c'), τ 2, τ 3, τ 4, τ 5, τ 6, τ 7, τ 8, τ 9, τ 10, τ 11, τ 12, τ 13, τ 14, τ 15, τ 16, τ 17, τ 18, τ 19, τ 20, τ 21, τ 22, τ 23, τ 24, τ 25, τ 26, τ 27, τ 28, τ 29, τ 30, τ 31, τ 32, τ 33, τ 34, τ 35, τ 36, τ 37, τ 38, τ 39, τ 40, τ 41, τ 42, τ 43, τ 44, τ 45, τ 46, τ 47, τ 48, τ 49, τ 50, τ 51, τ 52, τ 53, τ 54, τ 55, τ 56, τ 57, τ 58, τ 59, τ 60, τ 61, τ 62, τ 63, τ 64, τ 65, τ 66, τ 67, τ 68, τ 69, τ 70, τ 71, τ 72, τ 73, τ 74, τ 75, τ 76, τ 77, τ 78, τ 79, τ 80, τ 81, τ 82, τ 83, τ 84, τ 85, τ 86, τ 87, τ 88, τ 89, τ 90, τ 91, τ 92, τ 93, τ 94, τ 95, τ 96, τ 97, τ 98, τ 99, τ 100, τ 101, τ 102, τ 103, τ 104, τ 105, τ 106, τ 107, τ 108, τ 109, τ 110, τ 111, τ 112, τ 113, τ 114, τ 115, τ 116, τ 117, τ 118, τ 119, τ 120, τ 121, τ 122, τ 123, τ 124, τ 125, τ 126, τ 127, τ 128, τ 129, τ 130, τ 131, τ 132, τ 133, τ 134, τ 135, τ 136, τ 137, τ 138, τ 139, τ 140, τ 141, τ 142, τ 143, τ 144, τ 145, τ 146, τ 147, τ 148, τ 149, τ 150, τ 151, τ 152, τ 153, τ 154, τ 155, τ 156, τ 157, τ 158, τ 159, τ 160, τ 161, τ 162, τ 163, τ 164, τ 165, τ 166, τ 167, τ 168, τ 169, τ 170, τ 171, τ 172, τ 173, τ 174, τ 175, τ 176, τ 177, τ 178, τ 179, τ 180, τ 181, τ 182, τ 183, τ 184, τ 185, τ 186, τ 187, τ 188, τ 189, τ 190, τ 191, τ 192, τ 193, τ 194, τ 195, τ 196, τ 197, τ 198, τ 199, τ 200, τ 201, τ 202, τ 203, τ 204, τ 205, τ 206, τ 207, τ 208, τ 209, τ 210, τ 211, τ 212, τ 213, τ 214, τ 215, τ 216, τ 217, τ 218, τ 219, τ 220, τ 221, τ 222, τ 223, τ 224, τ 225, τ 226, τ 227, τ 228, τ 229, τ 230, τ 231, τ 232, τ 233, τ 234, τ 235, τ 236, τ 237, τ 238, τ 239, τ 240, τ 241, τ 242, τ 243, τ 244, τ 245, τ 246, τ 247, τ 248, τ 249, τ 250, τ 251, τ 252, τ 253, τ 254, τ 255, τ 256, τ 257, τ 258, τ 259, τ 260, τ 261, τ 262, τ 263, τ 264, τ 265, τ 266, τ 267, τ 268, τ 269, τ 270, τ 271, τ 272, τ 273, τ 274, τ 275, τ 276, τ 277, τ 278, τ 279, τ 280, τ 281, τ 282, τ 283, τ 284, τ 285, τ 286, τ 287, τ 288, τ 289, τ 290, τ 291, τ 292, τ 293, τ 294, τ 295, τ 296, τ 297, τ 298, τ 299, τ 300, τ 301, τ 302, τ 303, τ 304, τ 305, τ 306, τ 307, τ 308, τ 309, τ 310, τ 311, τ 312, τ 313, τ 314]) [] (fun _ => none) V3 s ∧ NatC V3 (.slice A (dg a).length c) a ∧ NatC V3 (.slice A' (dg b).length c') b ∧ b ≠ 0 ∧ b ≤ a ∧ 2 ≤ (dg b).length) ?_ ?_
  ·
    --{
    first | refine XWP.block ?_ | refine XWP.seq (XWP.block ?_)
    first | refine XWP.reg (by kernel_rfl) fun K hK => ?_ | refine XWP.seq (XWP.reg (by kernel_rfl) fun K hK => ?_) | refine XWP.reg1 (by kernel_rfl) fun K hK => ?_
    by_cases hb0 : b = 0
    · subst hb0
      have b0 : decide (((dg 0).length : Int) = 0) = true := decide_eq_true (by rw [dg_zero]; rfl)
      simp only [XA, XB, gateX, Nat.reduceAdd, Nat.reduceLeDiff, Nat.reduceSub, Nat.reduceMul, ↓reduceIte, Int.reduceToNat, Int.reduceLE, beq_self_eq_true, b0]
      refine hK _ ?_
      first | refine XWP.cond (t := true) rfl (fun _ => ?_) (fun h => by cases h) | refine XWP.seq (XWP.cond (t := true) rfl (fun _ => ?_) (fun h => by cases h))
      first | refine XWP.reg (by kernel_rfl) fun K hK => ?_ | refine XWP.seq (XWP.reg (by kernel_rfl) fun K hK => ?_) | refine XWP.reg1 (by kernel_rfl) fun K hK => ?_
      simp only [XA, XB, gateX, Nat.reduceAdd, Nat.reduceLeDiff, Nat.reduceSub, Nat.reduceMul, ↓reduceIte, Int.reduceToNat, Int.reduceLE, beq_self_eq_true]
      refine hK _ (XWP.ret ?_)
      try simp only [thenX_ret, inBlockX_ret]
      refine ret_go _ rfl ?_
      exact ⟨fun _ => rfl, fun h => absurd rfl h⟩
    have hsb := sz_pos hb0
    unfold sz at hsb
    have b0 : decide (((dg b).length : Int) = 0) = false := decide_eq_false (by omega)
    simp only [XA, XB, gateX, Nat.reduceAdd, Nat.reduceLeDiff, Nat.reduceSub, Nat.reduceMul, ↓reduceIte, Int.reduceToNat, Int.reduceLE, beq_self_eq_true, b0]
    refine hK _ ?_
    first | refine XWP.cond (t := false) rfl (fun h => by cases h) (fun _ => ?_) | refine XWP.seq (XWP.cond (t := false) rfl (fun h => by cases h) (fun _ => ?_))
    first | refine XWP.reg (by kernel_rfl) fun K hK => ?_ | refine XWP.seq (XWP.reg (by kernel_rfl) fun K hK => ?_) | refine XWP.reg1 (by kernel_rfl) fun K hK => ?_
    simp only [XA, XB, gateX, Nat.reduceAdd, Nat.reduceLeDiff, Nat.reduceSub, Nat.reduceMul, ↓reduceIte, Int.reduceToNat, Int.reduceLE, beq_self_eq_true]
    refine call_go (by kernel_rfl) rfl (compare_c _ _ _ _ _ h1 h2) fun v3 V3 hV3 h3 => ?_
    subst h3
    simp only [XA, XB, gateX, Nat.reduceAdd, Nat.reduceLeDiff, Nat.reduceSub, Nat.reduceMul, ↓reduceIte, Int.reduceToNat, Int.reduceLE, beq_self_eq_true]
    by_cases hlt : a < b
    · have b1 : decide (cmpI a b < 0) = true := decide_eq_true (by rw [cmpI_lt hlt]; omega)
      simp only [b1]
      refine hK _ ?_
      first | refine XWP.cond (t := true) rfl (fun _ => ?_) (fun h => by cases h) | refine XWP.seq (XWP.cond (t := true) rfl (fun _ => ?_) (fun h => by cases h))
      first | refine XWP.reg (by kernel_rfl) fun K hK => ?_ | refine XWP.seq (XWP.reg (by kernel_rfl) fun K hK => ?_) | refine XWP.reg1 (by kernel_rfl) fun K hK => ?_
      simp only [XA, XB, gateX, Nat.reduceAdd, Nat.reduceLeDiff, Nat.reduceSub, Nat.reduceMul, ↓reduceIte, Int.reduceToNat, Int.reduceLE, beq_self_eq_true]
      refine call_go (by kernel_rfl) rfl (clone_at _ _ _ (h1.mono hV3) (by omega)) fun v4 V4 hV4 h4 => ?_
      simp only [XA, XB, gateX, Nat.reduceAdd, Nat.reduceLeDiff, Nat.reduceSub, Nat.reduceMul, ↓reduceIte, Int.reduceToNat, Int.reduceLE, beq_self_eq_true]
      refine hK _ (XWP.ret ?_)
      try simp only [thenX_ret, inBlockX_ret]
      refine ret_go _ rfl ?_
      refine ⟨fun h => absurd h hb0, fun _ => ⟨_, v4, rfl, ?_, ?_⟩⟩
      · rw [Nat.div_eq_of_lt hlt]; exact NatC.zero _
      · rw [Nat.mod_eq_of_lt hlt]; exact h4
    have b1 : decide (cmpI a b < 0) = false := decide_eq_false (by
      rcases Nat.lt_or_ge b a with h | h
      · rw [cmpI_gt h]; omega
      · have : a = b := by omega
        rw [this, cmpI_eq]; omega)
    simp only [b1]
    refine hK _ ?_
    first | refine XWP.cond (t := false) rfl (fun h => by cases h) (fun _ => ?_) | refine XWP.seq (XWP.cond (t := false) rfl (fun h => by cases h) (fun _ => ?_))
    first | refine XWP.reg (by kernel_rfl) fun K hK => ?_ | refine XWP.seq (XWP.reg (by kernel_rfl) fun K hK => ?_) | refine XWP.reg1 (by kernel_rfl) fun K hK => ?_
    by_cases hl1 : (dg b).length = 1
    · have b2 : decide (((dg b).length : Int) = 1) = true := decide_eq_true (by omega)
      simp only [XA, XB, gateX, Nat.reduceAdd, Nat.reduceLeDiff, Nat.reduceSub, Nat.reduceMul, ↓reduceIte, Int.reduceToNat, Int.reduceLE, beq_self_eq_true, b2]
      refine hK _ ?_
      first | refine XWP.cond (t := true) rfl (fun _ => ?_) (fun h => by cases h) | refine XWP.seq (XWP.cond (t := true) rfl (fun _ => ?_) (fun h => by cases h))
      first | refine XWP.reg (by kernel_rfl) fun K hK => ?_ | refine XWP.seq (XWP.reg (by kernel_rfl) fun K hK => ?_) | refine XWP.reg1 (by kernel_rfl) fun K hK => ?_
      have h2' := h2.mono hV3
      obtain ⟨q1, o1, rfl⟩ := NatAt.addr h2' (by omega)
      have hc1 := NatAt.cells h2' 0 (by omega)
      rw [getD_get, small_one hl1] at hc1
      have hbB : b < BB := by have := lt_sz b; unfold sz at this; rw [hl1] at this; simpa using this
      simp only [XA, XB, gateX, Nat.reduceAdd, Nat.reduceLeDiff, Nat.reduceSub, Nat.reduceMul, ↓reduceIte, Int.reduceToNat, Int.reduceLE, beq_self_eq_true]
      refine ⟨by omega, ld_mem (loads_cell shapeT_129 (hc1 _)) ?_⟩
      simp only [XA, XB, gateX, Nat.reduceAdd, Nat.reduceLeDiff, Nat.reduceSub, Nat.reduceMul, ↓reduceIte, Int.reduceToNat, Int.reduceLE, beq_self_eq_true]
      refine call_go (by kernel_rfl) rfl (short_at _ _ _ b (h1.mono hV3) (by omega) hbB (by omega)) fun v4 V4 hV4 h4 => ?_
      obtain ⟨r, rfl, h4⟩ := h4
      rw [nv_dg] at h4 ⊢
      have hmod := Nat.mod_lt a (show 0 < b by omega)
      simp only [XA, XB, gateX, Nat.reduceAdd, Nat.reduceLeDiff, Nat.reduceSub, Nat.reduceMul, ↓reduceIte, Int.reduceToNat, Int.reduceLE, beq_self_eq_true]
      refine hK _ ?_
      first | refine XWP.reg (by kernel_rfl) fun K hK => ?_ | refine XWP.seq (XWP.reg (by kernel_rfl) fun K hK => ?_) | refine XWP.reg1 (by kernel_rfl) fun K hK => ?_
      simp only [XA, XB, gateX, Nat.reduceAdd, Nat.reduceLeDiff, Nat.reduceSub, Nat.reduceMul, ↓reduceIte, Int.reduceToNat, Int.reduceLE, beq_self_eq_true, u64_of_u32 _ (show a % b < BB by omega)]
      refine call_go (by kernel_rfl) rfl (of_c _ (a % b) (by unfold BB at hbB; omega)) fun v5 V5 hV5 h5 => ?_
      simp only [XA, XB, gateX, Nat.reduceAdd, Nat.reduceLeDiff, Nat.reduceSub, Nat.reduceMul, ↓reduceIte, Int.reduceToNat, Int.reduceLE, beq_self_eq_true]
      refine hK _ (XWP.ret ?_)
      try simp only [thenX_ret, inBlockX_ret]
      refine ret_go _ rfl ?_
      exact ⟨fun h => absurd h hb0, fun _ => ⟨r, v5, rfl, h4.mono hV5, h5⟩⟩
    have b2 : decide (((dg b).length : Int) = 1) = false := decide_eq_false (by omega)
    simp only [XA, XB, gateX, Nat.reduceAdd, Nat.reduceLeDiff, Nat.reduceSub, Nat.reduceMul, ↓reduceIte, Int.reduceToNat, Int.reduceLE, beq_self_eq_true, b2]
    refine hK _ ?_
    first | refine XWP.cond (t := false) rfl (fun h => by cases h) (fun _ => ?_) | refine XWP.seq (XWP.cond (t := false) rfl (fun h => by cases h) (fun _ => ?_))
    refine XWP.skip ?_
    exact ⟨V3, StIs.of (by kernel_rfl), h1.mono hV3, h2.mono hV3, hb0, by omega, by omega⟩
    --}
  · rintro s ⟨V3, hs, h1, h2, hb0, hle, hlb⟩
    obtain ⟨u, rfl⟩ := hs.out
    dsimp only
    clear hm hm' hc hc'
    have hsle : (dg b).length ≤ (dg a).length := sz_mono hle
    first | refine XWP.reg (by kernel_rfl) fun K hK => ?_ | refine XWP.seq (XWP.reg (by kernel_rfl) fun K hK => ?_) | refine XWP.reg1 (by kernel_rfl) fun K hK => ?_
    obtain ⟨q1, o1, rfl⟩ := NatAt.addr h2 (by omega)
    have hc1 := NatAt.cells h2 ((dg b).length - 1) (by omega)
    have hd1 := Dig_get (Dig_dg b) ((dg b).length - 1) (by omega)
    rw [getD_get] at hc1 hd1
    have hx0 : (dg b).getD ((dg b).length - 1) 0 ≠ 0 := dg_last b _ (by rw [List.getLast?_eq_getElem?, ← getD_get (by omega), List.getElem?_eq_getElem])
    generalize hx : (dg b).getD ((dg b).length - 1) 0 = x at *
    simp only [XA, XB, gateX, Nat.reduceAdd, Nat.reduceLeDiff, Nat.reduceSub, Nat.reduceMul, ↓reduceIte, Int.reduceToNat, Int.reduceLE, beq_self_eq_true, i64_pred _ (show 1 ≤ (dg b).length by omega) (by omega)]
    refine ⟨by omega, by omega, ld_mem (loads_cell shapeT_129 (hc1 _)) ?_⟩
    simp only [XA, XB, gateX, Nat.reduceAdd, Nat.reduceLeDiff, Nat.reduceSub, Nat.reduceMul, ↓reduceIte, Int.reduceToNat, Int.reduceLE, beq_self_eq_true]
    refine call_go (by kernel_rfl) rfl (lz_c _ x hd1 (by omega)) fun v4 V4 hV4 h4 => ?_
    obtain ⟨l, rfl, hl31, hl1, hl2⟩ := h4
    simp only [XA, XB, gateX, Nat.reduceAdd, Nat.reduceLeDiff, Nat.reduceSub, Nat.reduceMul, ↓reduceIte, Int.reduceToNat, Int.reduceLE, beq_self_eq_true, u64_small l (by omega)]
    refine hK _ ?_
    first | refine XWP.reg (by kernel_rfl) fun K hK => ?_ | refine XWP.seq (XWP.reg (by kernel_rfl) fun K hK => ?_) | refine XWP.reg1 (by kernel_rfl) fun K hK => ?_
    simp only [XA, XB, gateX, Nat.reduceAdd, Nat.reduceLeDiff, Nat.reduceSub, Nat.reduceMul, ↓reduceIte, Int.reduceToNat, Int.reduceLE, beq_self_eq_true]
    refine call_own (by kernel_rfl) rfl (shifted_o _ _ _ l (h1.mono hV4) hl31 (by omega)) fun v5 V5 o5 hV5 hs5 h5 => ?_
    obtain ⟨gu, us, rfl, rfl, hul, hud, hun⟩ := h5
    simp only [XA, XB, gateX, Nat.reduceAdd, Nat.reduceLeDiff, Nat.reduceSub, Nat.reduceMul, ↓reduceIte, Int.reduceToNat, Int.reduceLE, beq_self_eq_true, addRow]
    refine call_own (by kernel_rfl) rfl (shifted_o _ _ _ l ((h2.mono hV4).mono hV5) hl31 (by omega)) fun v6 V6 o6 hV6 hs6 h6 => ?_
    obtain ⟨gv, vs0, rfl, rfl, hvl, hvd, hvn⟩ := h6
    have hne : gu ≠ gv := fun e => by have := (hs6 gv _ rfl).1; simp [upd, e] at this
    simp only [XA, XB, gateX, Nat.reduceAdd, Nat.reduceLeDiff, Nat.reduceSub, Nat.reduceMul, ↓reduceIte, Int.reduceToNat, Int.reduceLE, beq_self_eq_true, addRow]
    refine call_pub gv ⟨129, u32s vs0, (dg b).length + 1⟩ (upd_at _ _ _) (fun o ho hle' => ?_) (by kernel_rfl) rfl
    refine call_go (by kernel_rfl) rfl (trim_any _ _ vs0 (NatAt.pub ho hvd hvl (Nat.le_refl _) (by omega))) fun v7 V7 hV7 h7 => ?_
    rw [nv_dg] at hun hvn
    rw [hvn] at h7
    obtain ⟨A7, c7, rfl, hc7, hm7⟩ := NatAt.form h7
    obtain ⟨hsz7, hpw⟩ := shift_sz hb0 hx.symm hl2 hl31
    unfold sz at hsz7 hpw
    generalize hvs : dg (b * 2 ^ l) = vs at *
    have hvsd : Dig vs := hvs ▸ Dig_dg _
    have hvsn : nv vs = b * 2 ^ l := by rw [← hvs, nv_dg]
    have h7 : NatAt V7 (.slice A7 vs.length c7) vs := by unfold NatC at h7; rw [hvs] at h7; exact h7
    simp only [XA, XB, gateX, Nat.reduceAdd, Nat.reduceLeDiff, Nat.reduceSub, Nat.reduceMul, ↓reduceIte, Int.reduceToNat, Int.reduceLE, beq_self_eq_true]
    refine hK _ ?_
    first | refine XWP.reg (by kernel_rfl) fun K hK => ?_ | refine XWP.seq (XWP.reg (by kernel_rfl) fun K hK => ?_) | refine XWP.reg1 (by kernel_rfl) fun K hK => ?_
    simp only [XA, XB, gateX, Nat.reduceAdd, Nat.reduceLeDiff, Nat.reduceSub, Nat.reduceMul, ↓reduceIte, Int.reduceToNat, Int.reduceLE, beq_self_eq_true]
    refine hK _ ?_
    first | refine XWP.reg (by kernel_rfl) fun K hK => ?_ | refine XWP.seq (XWP.reg (by kernel_rfl) fun K hK => ?_) | refine XWP.reg1 (by kernel_rfl) fun K hK => ?_
    have hn2 : 2 ≤ vs.length := by omega
    simp only [XA, XB, gateX, Nat.reduceAdd, Nat.reduceLeDiff, Nat.reduceSub, Nat.reduceMul, ↓reduceIte, Int.reduceToNat, Int.reduceLE, beq_self_eq_true, i64_sub ((dg a).length + 1) vs.length (by omega) (by omega)]
    obtain ⟨M, hM⟩ : ∃ M, M = (dg a).length + 1 - vs.length := ⟨_, rfl⟩
    rw [← hM]
    refine mk_go rfl rfl elemT_32 zeroT_129 (by omega) (by omega) (by omega) (by omega) rfl (by omega) fun gq hq1 hq2 => ?_
    have hne2 : gq ≠ gu := fun e => by subst e; simp [upd, hne] at hq1
    have hne3 : gu ≠ gq := fun e => hne2 e.symm
    simp only [XA, XB, gateX, Nat.reduceAdd, Nat.reduceLeDiff, Nat.reduceSub, Nat.reduceMul, ↓reduceIte, Int.reduceToNat, Int.reduceLE, beq_self_eq_true, u32s_replicate]
    refine hK _ ?_
    clear hK
    have hfl := first_lt (us := us) hb0 (sz_mono hle) (by unfold sz; omega) hun
    have hvlen : vs.length = sz b := by unfold sz; omega
    have hMs : sz a + 1 - sz b = M := by unfold sz; omega
    rw [hMs, ← hvsn] at hfl
    clear hx hd1 hx0 hc1 hs5 hs6 hl1 hl2
    have hv0 : 0 < nv vs := by omega
    have hgv7 : True := trivial
    clear hV4 hV5 hV6
    obtain ⟨m, hm2⟩ : ∃ m, vs.length = m + 2 := ⟨vs.length - 2, by omega⟩
    have hl0 : (0 : Int) ≤ (l : Int) := by omega
    have hvtop : vs.getD (vs.length - 1) 0 ≠ 0 := by
      have := dg_last (b * 2 ^ l)
      rw [hvs] at this
      exact this _ (by rw [List.getLast?_eq_getElem?, ← getD_get (by omega), List.getElem?_eq_getElem])
    refine XWP.cut (fun s => ∃ (H5 : Heap) (us1 qs : List Nat), StIs (fun τ => [.v (.slice A (dg a).length c), .v (.slice (some ⟨q1, o1, none⟩) (dg b).length c'), τ 2, τ 3, τ 4, τ 5, τ 6, τ 7, τ 8, .v (.int .u64 (l : Int)), .v (.slice (some ⟨gu, 0, none⟩) ((dg a).length + 1) ((dg a).length + 1)), .v (.slice A7 vs.length c7), .v (.int .i64 (vs.length : Int)), .v (.slice (some ⟨gq, 0, none⟩) M M), τ 14, τ 15, τ 16, τ 17, τ 18, τ 19, τ 20, τ 21, τ 22, τ 23, τ 24, τ 25, τ 26, τ 27, τ 28, τ 29, τ 30, τ 31, τ 32, τ 33, τ 34, τ 35, τ 36, τ 37, τ 38, τ 39, τ 40, τ 41, τ 42, τ 43, τ 44, τ 45, τ 46, τ 47, τ 48, τ 49, τ 50, τ 51, τ 52, τ 53, τ 54, τ 55, τ 56, τ 57, τ 58, τ 59, τ 60, τ 61, τ 62, τ 63, τ 64, τ 65, τ 66, τ 67, τ 68, τ 69, τ 70, τ 71, τ 72, τ 73, τ 74, τ 75, τ 76, τ 77, τ 78, τ 79, τ 80, τ 81, τ 82, τ 83, τ 84, τ 85, τ 86, τ 87, τ 88, τ 89, τ 90, τ 91, τ 92, τ 93, τ 94, τ 95, τ 96, τ 97, τ 98, τ 99, τ 100, τ 101, τ 102, τ 103, τ 104, τ 105, τ 106, τ 107, τ 108, τ 109, τ 110, τ 111, τ 112, τ 113, τ 114, τ 115, τ 116, τ 117, τ 118, τ 119, τ 120, τ 121, τ 122, τ 123, τ 124, τ 125, τ 126, τ 127, τ 128, τ 129, τ 130, τ 131, τ 132, τ 133, τ 134, τ 135, τ 136, τ 137, τ 138, τ 139, τ 140, τ 141, τ 142, τ 143, τ 144, τ 145, τ 146, τ 147, τ 148, τ 149, τ 150, τ 151, τ 152, τ 153, τ 154, τ 155, τ 156, τ 157, τ 158, τ 159, τ 160, τ 161, τ 162, τ 163, τ 164, τ 165, τ 166, τ 167, τ 168, τ 169, τ 170, τ 171, τ 172, τ 173, τ 174, τ 175, τ 176, τ 177, τ 178, τ 179, τ 180, τ 181, τ 182, τ 183, τ 184, τ 185, τ 186, τ 187, τ 188, τ 189, τ 190, τ 191, τ 192, τ 193, τ 194, τ 195, τ 196, τ 197, τ 198, τ 199, τ 200, τ 201, τ 202, τ 203, τ 204, τ 205, τ 206, τ 207, τ 208, τ 209, τ 210, τ 211, τ 212, τ 213, τ 214, τ 215, τ 216, τ 217, τ 218, τ 219, τ 220, τ 221, τ 222, τ 223, τ 224, τ 225, τ 226, τ 227, τ 228, τ 229, τ 230, τ 231, τ 232, τ 233, τ 234, τ 235, τ 236, τ 237, τ 238, τ 239, τ 240, τ 241, τ 242, τ 243, τ 244, τ 245, τ 246, τ 247, τ 248, τ 249, τ 250, τ 251, τ 252, τ 253, τ 254, τ 255, τ 256, τ 257, τ 258, τ 259, τ 260, τ 261, τ 262, τ 263, τ 264, τ 265, τ 266, τ 267, τ 268, τ 269, τ 270, τ 271, τ 272, τ 273, τ 274, τ 275, τ 276, τ 277, τ 278, τ 279, τ 280, τ 281, τ 282, τ 283, τ 284, τ 285, τ 286, τ 287, τ 288, τ 289, τ 290, τ 291, τ 292, τ 293, τ 294, τ 295, τ 296, τ 297, τ 298, τ 299, τ 300, τ 301, τ 302, τ 303, τ 304, τ 305, τ 306, τ 307, τ 308, τ 309, τ 310, τ 311, τ 312, τ 313, τ 314]) [] H5 V7 s ∧ H5 gu = some ⟨129, u32s us1, (dg a).length + 1⟩ ∧ H5 gq = some ⟨129, u32s qs, M⟩ ∧ us1.length = (dg a).length + 1 ∧ qs.length = M ∧ Dig us1 ∧ Dig qs ∧ nv us1 < nv vs ∧ a * 2 ^ l = nv qs * nv vs + nv us1) ?_ ?_
    ·
      --{
      first | refine XWP.reg (by kernel_rfl) fun K hK => ?_ | refine XWP.seq (XWP.reg (by kernel_rfl) fun K hK => ?_) | refine XWP.reg1 (by kernel_rfl) fun K hK => ?_
      have w0 : IntKind.i64.wrap ((M : Int) - 1) = (M : Int) - 1 := wrap_id (by omega) (by omega)
      simp only [XA, XB, gateX, Nat.reduceAdd, Nat.reduceLeDiff, Nat.reduceSub, Nat.reduceMul, ↓reduceIte, Int.reduceToNat, Int.reduceLE, beq_self_eq_true, i64_sub ((dg a).length + 1) vs.length (by omega) (by omega), ← hM, w0]
      refine hK _ ?_
      clear hK
      first | refine XWP.block ?_ | refine XWP.seq (XWP.block ?_)
      refine XWP.loop (fun k s => ∃ (H5 : Heap) (us1 qs : List Nat), StIs (fun τ => [.v (.slice A (dg a).length c), .v (.slice (some ⟨q1, o1, none⟩) (dg b).length c'), τ 2, τ 3, τ 4, τ 5, τ 6, τ 7, τ 8, .v (.int .u64 (l : Int)), .v (.slice (some ⟨gu, 0, none⟩) ((dg a).length + 1) ((dg a).length + 1)), .v (.slice A7 vs.length c7), .v (.int .i64 (vs.length : Int)), .v (.slice (some ⟨gq, 0, none⟩) M M), .v (.int .i64 ((k : Int) - 1)), τ 15, τ 16, τ 17, τ 18, τ 19, τ 20, τ 21, τ 22, τ 23, τ 24, τ 25, τ 26, τ 27, τ 28, τ 29, τ 30, τ 31, τ 32, τ 33, τ 34, τ 35, τ 36, τ 37, τ 38, τ 39, τ 40, τ 41, τ 42, τ 43, τ 44, τ 45, τ 46, τ 47, τ 48, τ 49, τ 50, τ 51, τ 52, τ 53, τ 54, τ 55, τ 56, τ 57, τ 58, τ 59, τ 60, τ 61, τ 62, τ 63, τ 64, τ 65, τ 66, τ 67, τ 68, τ 69, τ 70, τ 71, τ 72, τ 73, τ 74, τ 75, τ 76, τ 77, τ 78, τ 79, τ 80, τ 81, τ 82, τ 83, τ 84, τ 85, τ 86, τ 87, τ 88, τ 89, τ 90, τ 91, τ 92, τ 93, τ 94, τ 95, τ 96, τ 97, τ 98, τ 99, τ 100, τ 101, τ 102, τ 103, τ 104, τ 105, τ 106, τ 107, τ 108, τ 109, τ 110, τ 111, τ 112, τ 113, τ 114, τ 115, τ 116, τ 117, τ 118, τ 119, τ 120, τ 121, τ 122, τ 123, τ 124, τ 125, τ 126, τ 127, τ 128, τ 129, τ 130, τ 131, τ 132, τ 133, τ 134, τ 135, τ 136, τ 137, τ 138, τ 139, τ 140, τ 141, τ 142, τ 143, τ 144, τ 145, τ 146, τ 147, τ 148, τ 149, τ 150, τ 151, τ 152, τ 153, τ 154, τ 155, τ 156, τ 157, τ 158, τ 159, τ 160, τ 161, τ 162, τ 163, τ 164, τ 165, τ 166, τ 167, τ 168, τ 169, τ 170, τ 171, τ 172, τ 173, τ 174, τ 175, τ 176, τ 177, τ 178, τ 179, τ 180, τ 181, τ 182, τ 183, τ 184, τ 185, τ 186, τ 187, τ 188, τ 189, τ 190, τ 191, τ 192, τ 193, τ 194, τ 195, τ 196, τ 197, τ 198, τ 199, τ 200, τ 201, τ 202, τ 203, τ 204, τ 205, τ 206, τ 207, τ 208, τ 209, τ 210, τ 211, τ 212, τ 213, τ 214, τ 215, τ 216, τ 217, τ 218, τ 219, τ 220, τ 221, τ 222, τ 223, τ 224, τ 225, τ 226, τ 227, τ 228, τ 229, τ 230, τ 231, τ 232, τ 233, τ 234, τ 235, τ 236, τ 237, τ 238, τ 239, τ 240, τ 241, τ 242, τ 243, τ 244, τ 245, τ 246, τ 247, τ 248, τ 249, τ 250, τ 251, τ 252, τ 253, τ 254, τ 255, τ 256, τ 257, τ 258, τ 259, τ 260, τ 261, τ 262, τ 263, τ 264, τ 265, τ 266, τ 267, τ 268, τ 269, τ 270, τ 271, τ 272, τ 273, τ 274, τ 275, τ 276, τ 277, τ 278, τ 279, τ 280, τ 281, τ 282, τ 283, τ 284, τ 285, τ 286, τ 287, τ 288, τ 289, τ 290, τ 291, τ 292, τ 293, τ 294, τ 295, τ 296, τ 297, τ 298, τ 299, τ 300, τ 301, τ 302, τ 303, τ 304, τ 305, τ 306, τ 307, τ 308, τ 309, τ 310, τ 311, τ 312, τ 313, τ 314]) [] H5 V7 s ∧ k ≤ M ∧ H5 gu = some ⟨129, u32s us1, (dg a).length + 1⟩ ∧ H5 gq = some ⟨129, u32s qs, M⟩ ∧ us1.length = (dg a).length + 1 ∧ qs.length = M ∧ Dig us1 ∧ Dig qs ∧ nv (us1.drop k) < nv vs ∧ a * 2 ^ l = BB ^ k * nv (qs.drop k) * nv vs + nv us1) M ⟨_, us, List.replicate M 0, StIs.of (by exact rfl), Nat.le_refl _, ?_, ?_, hul, by simp, hud, Dig_replicate _, hfl, ?_⟩ ?_
      · simp only [upd, hne3, hne, if_false, if_true]
      · simp only [upd, if_true, Nat.mul_one]
      · have : (List.replicate M 0).drop M = [] := by simp
        rw [this, hun]; simp [nv]
      rintro k s ⟨H5, us1, qs, hs, hk, hHu, hHq, hul1, hql, hud1, hqd, hlt, htot⟩
      obtain ⟨u, rfl⟩ := hs.out
      dsimp only
      first | refine XWP.reg (by kernel_rfl) fun K hK => ?_ | refine XWP.seq (XWP.reg (by kernel_rfl) fun K hK => ?_) | refine XWP.reg1 (by kernel_rfl) fun K hK => ?_
      by_cases hk0 : k = 0
      · subst hk0
        have b2 : decide ((0 : Int) ≤ ((0 : Nat) : Int) - 1) = false := decide_eq_false (by omega)
        simp only [XA, XB, gateX, Nat.reduceAdd, Nat.reduceLeDiff, Nat.reduceSub, Nat.reduceMul, ↓reduceIte, Int.reduceToNat, Int.reduceLE, beq_self_eq_true, b2]
        refine hK _ ?_
        first | refine XWP.cond (t := false) rfl (fun h => by cases h) (fun _ => ?_) | refine XWP.seq (XWP.cond (t := false) rfl (fun h => by cases h) (fun _ => ?_))
        refine XWP.exit ?_
        exact ⟨H5, us1, qs, StIs.of (by exact rfl), hHu, hHq, hul1, hql, hud1, hqd, by simpa using hlt, by simpa using htot⟩
      obtain ⟨j, rfl⟩ : ∃ j, k = j + 1 := ⟨k - 1, by omega⟩
      have ej : (((j + 1 : Nat) : Int) - 1) = (j : Int) := by omega
      have b2 : decide ((0 : Int) ≤ (j : Int)) = true := decide_eq_true (by omega)
      simp only [XA, XB, gateX, Nat.reduceAdd, Nat.reduceLeDiff, Nat.reduceSub, Nat.reduceMul, ↓reduceIte, Int.reduceToNat, Int.reduceLE, beq_self_eq_true, ej, b2]
      refine hK _ ?_
      first | refine XWP.cond (t := true) rfl (fun _ => ?_) (fun h => by cases h) | refine XWP.seq (XWP.cond (t := true) rfl (fun _ => ?_) (fun h => by cases h))
      refine XWP.skip ?_
      refine XWP.seq ?_
      first | refine XWP.block ?_ | refine XWP.seq (XWP.block ?_)
      have hM2 : M + vs.length = (dg a).length + 1 := by omega
      have hcu0 := row_cell (V := V7) hHu (k := j + vs.length) (by omega)
      have hcu1 := row_cell (V := V7) hHu (k := j + vs.length - 1) (by omega)
      have hcu2 := row_cell (V := V7) hHu (k := j + vs.length - 2) (by omega)
      obtain ⟨p7, o7, rfl⟩ := NatAt.addr h7 (by omega)
      have hcv1 := NatAt.cells h7 (vs.length - 1) (by omega)
      have hcv2 := NatAt.cells h7 (vs.length - 2) (by omega)
      rw [getD_get] at hcv1 hcv2
      generalize hu0 : us1.getD (j + vs.length) 0 = u0 at *
      generalize hu1 : us1.getD (j + vs.length - 1) 0 = u1 at *
      generalize hu2 : us1.getD (j + vs.length - 2) 0 = u2 at *
      generalize hv1 : vs.getD (vs.length - 1) 0 = v1 at *
      generalize hv2 : vs.getD (vs.length - 2) 0 = v2 at *
      obtain ⟨kq, kB, ku, kdec, kend, kv1, kv2, kU0, kU1, kU2⟩ := knuth (v1 := v1) (v2 := v2) (u0 := u0) (u1 := u1) (u2 := u2) (q := nv (us1.drop j) / nv vs) hm2 (by omega) hud1 hvsd (by rw [← hv1]; show _ = vs.getD (m + 1) 0; congr 1; omega) (by rw [← hv2]; show _ = vs.getD m 0; congr 1; omega) (by rw [← hu0]; show _ = us1.getD (j + (m + 2)) 0; congr 1; omega) (by rw [← hu1]; show _ = us1.getD (j + (m + 1)) 0; congr 1; omega) (by rw [← hu2]; show _ = us1.getD (j + m) 0; congr 1; omega) (by omega) hlt rfl
      generalize hq : nv (us1.drop j) / nv vs = q at *
      have hdiv : v1 ≠ 0 := hvtop
      have htop : u0 * BB + u1 < 18446744073709551616 := by unfold BB at *; omega
      (first | refine XWP.drw [0, 1, 2, 3, 4, 5, 6, 7, 8, 9, 10, 11, 12, 13, 14, 15, 16, 17] (by kernel_rfl) (by kernel_rfl) (by kernel_rfl) fun K hK => ?_ | refine XWP.seq (XWP.drw [0, 1, 2, 3, 4, 5, 6, 7, 8, 9, 10, 11, 12, 13, 14, 15, 16, 17] (by kernel_rfl) (by kernel_rfl) (by kernel_rfl) fun K hK => ?_) | refine XWP.drw1 [0, 1, 2, 3, 4, 5, 6, 7, 8, 9, 10, 11, 12, 13, 14, 15, 16, 17] (by kernel_rfl) (by kernel_rfl) (by kernel_rfl) fun K hK => ?_) <;> dsimp only [pickOps, List.getElem?_cons_zero, List.getElem?_cons_succ]
      simp only [XA, XB, gateX, Nat.reduceAdd, Nat.reduceLeDiff, Nat.reduceSub, Nat.reduceMul, ↓reduceIte, Int.reduceToNat, Int.reduceLE, beq_self_eq_true, i64_add j vs.length (by omega)]
      refine ⟨by omega, by omega, ld_mem (loads_cell shapeT_129 hcu0) ?_⟩
      simp only [XA, XB, gateX, Nat.reduceAdd, Nat.reduceLeDiff, Nat.reduceSub, Nat.reduceMul, ↓reduceIte, Int.reduceToNat, Int.reduceLE, beq_self_eq_true, i64_add j vs.length (by omega), i64_pred (j + vs.length) (by omega) (by omega)]
      refine ⟨by omega, by omega, ld_mem (loads_cell shapeT_129 hcu1) ?_⟩
      simp only [XA, XB, gateX, Nat.reduceAdd, Nat.reduceLeDiff, Nat.reduceSub, Nat.reduceMul, ↓reduceIte, Int.reduceToNat, Int.reduceLE, beq_self_eq_true, u64_of_u32 _ kU0, u64_of_u32 _ kU1, shl32 _ kU0, or_add _ _ kU0 kU1]
      refine hK _ ?_
      clear hK
      (first | refine XWP.drw [0, 1, 2, 3, 4, 5, 6, 7, 8, 9, 10, 11, 12, 13, 14, 15, 16, 17] (by kernel_rfl) (by kernel_rfl) (by kernel_rfl) fun K hK => ?_ | refine XWP.seq (XWP.drw [0, 1, 2, 3, 4, 5, 6, 7, 8, 9, 10, 11, 12, 13, 14, 15, 16, 17] (by kernel_rfl) (by kernel_rfl) (by kernel_rfl) fun K hK => ?_) | refine XWP.drw1 [0, 1, 2, 3, 4, 5, 6, 7, 8, 9, 10, 11, 12, 13, 14, 15, 16, 17] (by kernel_rfl) (by kernel_rfl) (by kernel_rfl) fun K hK => ?_) <;> dsimp only [pickOps, List.getElem?_cons_zero, List.getElem?_cons_succ]
      have hdi : ((v1 : Nat) : Int) ≠ 0 := by omega
      simp only [XA, XB, gateX, Nat.reduceAdd, Nat.reduceLeDiff, Nat.reduceSub, Nat.reduceMul, ↓reduceIte, Int.reduceToNat, Int.reduceLE, beq_self_eq_true, i64_pred vs.length (by omega) (by omega)]
      refine ⟨by omega, by omega, ld_mem (loads_cell shapeT_129 (hcv1 _)) ?_⟩
      simp only [XA, XB, gateX, Nat.reduceAdd, Nat.reduceLeDiff, Nat.reduceSub, Nat.reduceMul, ↓reduceIte, Int.reduceToNat, Int.reduceLE, beq_self_eq_true, i64_pred vs.length (by omega) (by omega), u64_of_u32 _ kv1, bin_quo _ _ _ _ hdi]
      refine ⟨by omega, by omega, ld_mem (loads_cell shapeT_129 (hcv1 _)) ?_⟩
      simp only [XA, XB, gateX, Nat.reduceAdd, Nat.reduceLeDiff, Nat.reduceSub, Nat.reduceMul, ↓reduceIte, Int.reduceToNat, Int.reduceLE, beq_self_eq_true, u64_of_u32 _ kv1, bin_rem _ _ _ _ hdi, int_tmod, u64_div _ _ htop]
      refine hK _ ?_
      clear hK
      refine XWP.cut (fun s => ∃ g : Nat, StIs (fun τ => [.v (.slice A (dg a).length c), .v (.slice (some ⟨q1, o1, none⟩) (dg b).length c'), τ 2, τ 3, τ 4, τ 5, τ 6, τ 7, τ 8, .v (.int .u64 (l : Int)), .v (.slice (some ⟨gu, 0, none⟩) ((dg a).length + 1) ((dg a).length + 1)), .v (.slice (some ⟨p7, o7, none⟩) vs.length c7), .v (.int .i64 (vs.length : Int)), .v (.slice (some ⟨gq, 0, none⟩) M M), .v (.int .i64 (j : Int)), τ 15, .v (.int .u64 (g : Int)), τ 17, τ 18, τ 19, τ 20, τ 21, τ 22, τ 23, τ 24, τ 25, τ 26, τ 27, τ 28, τ 29, τ 30, τ 31, τ 32, τ 33, τ 34, τ 35, τ 36, τ 37, τ 38, τ 39, τ 40, τ 41, τ 42, τ 43, τ 44, τ 45, τ 46, τ 47, τ 48, τ 49, τ 50, τ 51, τ 52, τ 53, τ 54, τ 55, τ 56, τ 57, τ 58, τ 59, τ 60, τ 61, τ 62, τ 63, τ 64, τ 65, τ 66, τ 67, τ 68, τ 69, τ 70, τ 71, τ 72, τ 73, τ 74, τ 75, τ 76, τ 77, τ 78, τ 79, τ 80, τ 81, τ 82, τ 83, τ 84, τ 85, τ 86, τ 87, τ 88, τ 89, τ 90, τ 91, τ 92, τ 93, τ 94, τ 95, τ 96, τ 97, τ 98, τ 99, τ 100, τ 101, τ 102, τ 103, τ 104, τ 105, τ 106, τ 107, τ 108, τ 109, τ 110, τ 111, τ 112, τ 113, τ 114, τ 115, τ 116, τ 117, τ 118, τ 119, τ 120, τ 121, τ 122, τ 123, τ 124, τ 125, τ 126, τ 127, τ 128, τ 129, τ 130, τ 131, τ 132, τ 133, τ 134, τ 135, τ 136, τ 137, τ 138, τ 139, τ 140, τ 141, τ 142, τ 143, τ 144, τ 145, τ 146, τ 147, τ 148, τ 149, τ 150, τ 151, τ 152, τ 153, τ 154, τ 155, τ 156, τ 157, τ 158, τ 159, τ 160, τ 161, τ 162, τ 163, τ 164, τ 165, τ 166, τ 167, τ 168, τ 169, τ 170, τ 171, τ 172, τ 173, τ 174, τ 175, τ 176, τ 177, τ 178, τ 179, τ 180, τ 181, τ 182, τ 183, τ 184, τ 185, τ 186, τ 187, τ 188, τ 189, τ 190, τ 191, τ 192, τ 193, τ 194, τ 195, τ 196, τ 197, τ 198, τ 199, τ 200, τ 201, τ 202, τ 203, τ 204, τ 205, τ 206, τ 207, τ 208, τ 209, τ 210, τ 211, τ 212, τ 213, τ 214, τ 215, τ 216, τ 217, τ 218, τ 219, τ 220, τ 221, τ 222, τ 223, τ 224, τ 225, τ 226, τ 227, τ 228, τ 229, τ 230, τ 231, τ 232, τ 233, τ 234, τ 235, τ 236, τ 237, τ 238, τ 239, τ 240, τ 241, τ 242, τ 243, τ 244, τ 245, τ 246, τ 247, τ 248, τ 249, τ 250, τ 251, τ 252, τ 253, τ 254, τ 255, τ 256, τ 257, τ 258, τ 259, τ 260, τ 261, τ 262, τ 263, τ 264, τ 265, τ 266, τ 267, τ 268, τ 269, τ 270, τ 271, τ 272, τ 273, τ 274, τ 275, τ 276, τ 277, τ 278, τ 279, τ 280, τ 281, τ 282, τ 283, τ 284, τ 285, τ 286, τ 287, τ 288, τ 289, τ 290, τ 291, τ 292, τ 293, τ 294, τ 295, τ 296, τ 297, τ 298, τ 299, τ 300, τ 301, τ 302, τ 303, τ 304, τ 305, τ 306, τ 307, τ 308, τ 309, τ 310, τ 311, τ 312, τ 313, τ 314]) [] H5 V7 s ∧ q ≤ g ∧ g ≤ q + 1 ∧ g < BB) ?_ ?_
      ·
        --{
        first | refine XWP.block ?_ | refine XWP.seq (XWP.block ?_)
        refine XWP.loop (fun g s => ∃ rest : Nat, StIs (fun τ => [.v (.slice A (dg a).length c), .v (.slice (some ⟨q1, o1, none⟩) (dg b).length c'), τ 2, τ 3, τ 4, τ 5, τ 6, τ 7, τ 8, .v (.int .u64 (l : Int)), .v (.slice (some ⟨gu, 0, none⟩) ((dg a).length + 1) ((dg a).length + 1)), .v (.slice (some ⟨p7, o7, none⟩) vs.length c7), .v (.int .i64 (vs.length : Int)), .v (.slice (some ⟨gq, 0, none⟩) M M), .v (.int .i64 (j : Int)), τ 15, .v (.int .u64 (g : Int)), .v (.int .u64 (rest : Int)), τ 18, τ 19, τ 20, τ 21, τ 22, τ 23, τ 24, τ 25, τ 26, τ 27, τ 28, τ 29, τ 30, τ 31, τ 32, τ 33, τ 34, τ 35, τ 36, τ 37, τ 38, τ 39, τ 40, τ 41, τ 42, τ 43, τ 44, τ 45, τ 46, τ 47, τ 48, τ 49, τ 50, τ 51, τ 52, τ 53, τ 54, τ 55, τ 56, τ 57, τ 58, τ 59, τ 60, τ 61, τ 62, τ 63, τ 64, τ 65, τ 66, τ 67, τ 68, τ 69, τ 70, τ 71, τ 72, τ 73, τ 74, τ 75, τ 76, τ 77, τ 78, τ 79, τ 80, τ 81, τ 82, τ 83, τ 84, τ 85, τ 86, τ 87, τ 88, τ 89, τ 90, τ 91, τ 92, τ 93, τ 94, τ 95, τ 96, τ 97, τ 98, τ 99, τ 100, τ 101, τ 102, τ 103, τ 104, τ 105, τ 106, τ 107, τ 108, τ 109, τ 110, τ 111, τ 112, τ 113, τ 114, τ 115, τ 116, τ 117, τ 118, τ 119, τ 120, τ 121, τ 122, τ 123, τ 124, τ 125, τ 126, τ 127, τ 128, τ 129, τ 130, τ 131, τ 132, τ 133, τ 134, τ 135, τ 136, τ 137, τ 138, τ 139, τ 140, τ 141, τ 142, τ 143, τ 144, τ 145, τ 146, τ 147, τ 148, τ 149, τ 150, τ 151, τ 152, τ 153, τ 154, τ 155, τ 156, τ 157, τ 158, τ 159, τ 160, τ 161, τ 162, τ 163, τ 164, τ 165, τ 166, τ 167, τ 168, τ 169, τ 170, τ 171, τ 172, τ 173, τ 174, τ 175, τ 176, τ 177, τ 178, τ 179, τ 180, τ 181, τ 182, τ 183, τ 184, τ 185, τ 186, τ 187, τ 188, τ 189, τ 190, τ 191, τ 192, τ 193, τ 194, τ 195, τ 196, τ 197, τ 198, τ 199, τ 200, τ 201, τ 202, τ 203, τ 204, τ 205, τ 206, τ 207, τ 208, τ 209, τ 210, τ 211, τ 212, τ 213, τ 214, τ 215, τ 216, τ 217, τ 218, τ 219, τ 220, τ 221, τ 222, τ 223, τ 224, τ 225, τ 226, τ 227, τ 228, τ 229, τ 230, τ 231, τ 232, τ 233, τ 234, τ 235, τ 236, τ 237, τ 238, τ 239, τ 240, τ 241, τ 242, τ 243, τ 244, τ 245, τ 246, τ 247, τ 248, τ 249, τ 250, τ 251, τ 252, τ 253, τ 254, τ 255, τ 256, τ 257, τ 258, τ 259, τ 260, τ 261, τ 262, τ 263, τ 264, τ 265, τ 266, τ 267, τ 268, τ 269, τ 270, τ 271, τ 272, τ 273, τ 274, τ 275, τ 276, τ 277, τ 278, τ 279, τ 280, τ 281, τ 282, τ 283, τ 284, τ 285, τ 286, τ 287, τ 288, τ 289, τ 290, τ 291, τ 292, τ 293, τ 294, τ 295, τ 296, τ 297, τ 298, τ 299, τ 300, τ 301, τ 302, τ 303, τ 304, τ 305, τ 306, τ 307, τ 308, τ 309, τ 310, τ 311, τ 312, τ 313, τ 314]) [] H5 V7 s ∧ q ≤ g ∧ g < 18446744073709551616 ∧ rest < BB ∧ g * v1 + rest = u0 * BB + u1) ((u0 * BB + u1) / v1) ⟨(u0 * BB + u1) % v1, StIs.of (by exact rfl), kq, Nat.lt_of_le_of_lt (Nat.div_le_self _ _) htop, Nat.lt_trans (Nat.mod_lt _ (by omega)) kv1, by rw [Nat.mul_comm]; exact Nat.div_add_mod _ _⟩ ?_
        rintro g s ⟨rest, hs, hg1, hg2, hrest, hgr⟩
        obtain ⟨u, rfl⟩ := hs.out
        dsimp only
        refine XWP.cut (fun s => StIs (fun τ => [.v (.slice A (dg a).length c), .v (.slice (some ⟨q1, o1, none⟩) (dg b).length c'), τ 2, τ 3, τ 4, τ 5, τ 6, τ 7, τ 8, .v (.int .u64 (l : Int)), .v (.slice (some ⟨gu, 0, none⟩) ((dg a).length + 1) ((dg a).length + 1)), .v (.slice (some ⟨p7, o7, none⟩) vs.length c7), .v (.int .i64 (vs.length : Int)), .v (.slice (some ⟨gq, 0, none⟩) M M), .v (.int .i64 (j : Int)), τ 15, .v (.int .u64 (g : Int)), .v (.int .u64 (rest : Int)), τ 18, τ 19, τ 20, τ 21, τ 22, τ 23, τ 24, τ 25, τ 26, τ 27, τ 28, τ 29, τ 30, τ 31, τ 32, τ 33, τ 34, τ 35, τ 36, τ 37, τ 38, τ 39, τ 40, τ 41, τ 42, τ 43, τ 44, τ 45, τ 46, τ 47, τ 48, τ 49, τ 50, τ 51, τ 52, τ 53, τ 54, τ 55, τ 56, τ 57, τ 58, τ 59, τ 60, τ 61, τ 62, τ 63, τ 64, τ 65, τ 66, τ 67, τ 68, τ 69, τ 70, τ 71, τ 72, τ 73, τ 74, τ 75, τ 76, τ 77, τ 78, τ 79, τ 80, τ 81, τ 82, τ 83, τ 84, τ 85, τ 86, τ 87, τ 88, τ 89, τ 90, τ 91, τ 92, τ 93, τ 94, τ 95, τ 96, τ 97, τ 98, τ 99, τ 100, τ 101, τ 102, τ 103, τ 104, τ 105, τ 106, τ 107, τ 108, τ 109, τ 110, τ 111, τ 112, τ 113, τ 114, τ 115, τ 116, τ 117, τ 118, τ 119, τ 120, τ 121, τ 122, τ 123, τ 124, τ 125, τ 126, τ 127, τ 128, τ 129, τ 130, τ 131, τ 132, τ 133, τ 134, τ 135, τ 136, τ 137, τ 138, τ 139, τ 140, τ 141, τ 142, τ 143, τ 144, τ 145, τ 146, τ 147, τ 148, τ 149, τ 150, τ 151, τ 152, τ 153, τ 154, τ 155, τ 156, τ 157, τ 158, τ 159, τ 160, τ 161, τ 162, τ 163, τ 164, τ 165, τ 166, τ 167, τ 168, τ 169, τ 170, τ 171, τ 172, τ 173, τ 174, τ 175, τ 176, τ 177, τ 178, τ 179, τ 180, τ 181, τ 182, τ 183, τ 184, τ 185, τ 186, τ 187, τ 188, τ 189, τ 190, τ 191, τ 192, τ 193, τ 194, τ 195, τ 196, τ 197, τ 198, τ 199, τ 200, τ 201, τ 202, τ 203, τ 204, τ 205, τ 206, τ 207, τ 208, τ 209, τ 210, τ 211, τ 212, τ 213, τ 214, τ 215, τ 216, τ 217, τ 218, τ 219, τ 220, τ 221, τ 222, τ 223, τ 224, τ 225, τ 226, τ 227, τ 228, τ 229, τ 230, τ 231, τ 232, τ 233, τ 234, τ 235, τ 236, τ 237, τ 238, τ 239, τ 240, τ 241, τ 242, τ 243, τ 244, τ 245, τ 246, τ 247, τ 248, τ 249, τ 250, τ 251, τ 252, τ 253, τ 254, τ 255, τ 256, τ 257, τ 258, τ 259, τ 260, τ 261, τ 262, τ 263, τ 264, τ 265, τ 266, τ 267, τ 268, τ 269, τ 270, τ 271, τ 272, τ 273, τ 274, τ 275, τ 276, τ 277, τ 278, τ 279, τ 280, τ 281, τ 282, τ 283, τ 284, τ 285, τ 286, τ 287, τ 288, τ 289, τ 290, τ 291, τ 292, τ 293, τ 294, τ 295, τ 296, τ 297, τ 298, τ 299, τ 300, τ 301, τ 302, τ 303, τ 304, τ 305, τ 306, τ 307, τ 308, τ 309, τ 310, τ 311, τ 312, τ 313, τ 314]) [] H5 V7 s ∧ q + 1 ≤ g) ?_ ?_
        · by_cases hgB : BB ≤ g
          · have b3 : decide ((4294967296 : Int) ≤ (g : Int)) = true := decide_eq_true (by unfold BB at hgB; omega)
            (first | refine XWP.drw [0, 1, 2, 3, 4, 5, 6, 7, 8, 9, 10, 11, 12, 13, 14, 15, 16, 17, 18, 19, 20, 21, 22, 23] (by kernel_rfl) (by kernel_rfl) (by kernel_rfl) fun K hK => ?_ | refine XWP.seq (XWP.drw [0, 1, 2, 3, 4, 5, 6, 7, 8, 9, 10, 11, 12, 13, 14, 15, 16, 17, 18, 19, 20, 21, 22, 23] (by kernel_rfl) (by kernel_rfl) (by kernel_rfl) fun K hK => ?_) | refine XWP.drw1 [0, 1, 2, 3, 4, 5, 6, 7, 8, 9, 10, 11, 12, 13, 14, 15, 16, 17, 18, 19, 20, 21, 22, 23] (by kernel_rfl) (by kernel_rfl) (by kernel_rfl) fun K hK => ?_) <;> dsimp only [pickOps, List.getElem?_cons_zero, List.getElem?_cons_succ]
            simp only [XA, XB, gateX, Nat.reduceAdd, Nat.reduceLeDiff, Nat.reduceSub, Nat.reduceMul, ↓reduceIte, Int.reduceToNat, Int.reduceLE, beq_self_eq_true, b3]
            refine hK _ ?_
            clear hK
            first | refine XWP.cond (t := true) rfl (fun _ => ?_) (fun h => by cases h) | refine XWP.seq (XWP.cond (t := true) rfl (fun _ => ?_) (fun h => by cases h))
            refine XWP.skip ?_
            exact ⟨StIs.of (by exact rfl), by omega⟩
          · have b3 : decide ((4294967296 : Int) ≤ (g : Int)) = false := decide_eq_false (by unfold BB at hgB; omega)
            (first | refine XWP.drw [0, 1, 2, 3, 4, 5, 6, 7, 8, 9, 10, 11, 12, 13, 14, 15, 16, 17, 18, 19, 20, 21, 22, 23] (by kernel_rfl) (by kernel_rfl) (by kernel_rfl) fun K hK => ?_ | refine XWP.seq (XWP.drw [0, 1, 2, 3, 4, 5, 6, 7, 8, 9, 10, 11, 12, 13, 14, 15, 16, 17, 18, 19, 20, 21, 22, 23] (by kernel_rfl) (by kernel_rfl) (by kernel_rfl) fun K hK => ?_) | refine XWP.drw1 [0, 1, 2, 3, 4, 5, 6, 7, 8, 9, 10, 11, 12, 13, 14, 15, 16, 17, 18, 19, 20, 21, 22, 23] (by kernel_rfl) (by kernel_rfl) (by kernel_rfl) fun K hK => ?_) <;> dsimp only [pickOps, List.getElem?_cons_zero, List.getElem?_cons_succ]
            simp only [XA, XB, gateX, Nat.reduceAdd, Nat.reduceLeDiff, Nat.reduceSub, Nat.reduceMul, ↓reduceIte, Int.reduceToNat, Int.reduceLE, beq_self_eq_true, b3, i64_sub2 vs.length (by omega) (by omega), i64_add j vs.length (by omega), i64_sub2 (j + vs.length) (by omega) (by omega)]
            refine ⟨by omega, by omega, ld_mem (loads_cell shapeT_129 (hcv2 _)) ?_⟩
            simp only [XA, XB, gateX, Nat.reduceAdd, Nat.reduceLeDiff, Nat.reduceSub, Nat.reduceMul, ↓reduceIte, Int.reduceToNat, Int.reduceLE, beq_self_eq_true, i64_sub2 vs.length (by omega) (by omega), i64_add j vs.length (by omega), i64_sub2 (j + vs.length) (by omega) (by omega)]
            refine ⟨by omega, by omega, ld_mem (loads_cell shapeT_129 hcu2) ?_⟩
            simp only [XA, XB, gateX, Nat.reduceAdd, Nat.reduceLeDiff, Nat.reduceSub, Nat.reduceMul, ↓reduceIte, Int.reduceToNat, Int.reduceLE, beq_self_eq_true, u64_of_u32 _ kv2, u64_of_u32 _ kU2, shl32 _ hrest, or_add _ _ hrest kU2, u64_mul _ _ (dig_mul (show g < BB by omega) kv2)]
            by_cases ht : rest * BB + u2 < g * v2
            · have b4 : decide (((rest * BB + u2 : Nat) : Int) < ((g * v2 : Nat) : Int)) = true := decide_eq_true (by omega)
              simp only [XA, XB, gateX, Nat.reduceAdd, Nat.reduceLeDiff, Nat.reduceSub, Nat.reduceMul, ↓reduceIte, Int.reduceToNat, Int.reduceLE, beq_self_eq_true, b4]
              refine hK _ ?_
              clear hK
              first | refine XWP.cond (t := true) rfl (fun _ => ?_) (fun h => by cases h) | refine XWP.seq (XWP.cond (t := true) rfl (fun _ => ?_) (fun h => by cases h))
              refine XWP.skip ?_
              exact ⟨StIs.of (by exact rfl), kdec g rest hg1 hgr ht⟩
            · have b4 : decide (((rest * BB + u2 : Nat) : Int) < ((g * v2 : Nat) : Int)) = false := decide_eq_false (by omega)
              simp only [XA, XB, gateX, Nat.reduceAdd, Nat.reduceLeDiff, Nat.reduceSub, Nat.reduceMul, ↓reduceIte, Int.reduceToNat, Int.reduceLE, beq_self_eq_true, b4]
              refine hK _ ?_
              clear hK
              first | refine XWP.cond (t := false) rfl (fun h => by cases h) (fun _ => ?_) | refine XWP.seq (XWP.cond (t := false) rfl (fun h => by cases h) (fun _ => ?_))
              refine XWP.exit ?_
              exact ⟨g, StIs.of (by exact rfl), hg1, kend g rest (by omega) hgr (by omega), by omega⟩
        · rintro s ⟨hs, hgq⟩
          obtain ⟨u, rfl⟩ := hs.out
          dsimp only
          first | refine XWP.block ?_ | refine XWP.seq (XWP.block ?_)
          first | refine XWP.reg (by kernel_rfl) fun K hK => ?_ | refine XWP.seq (XWP.reg (by kernel_rfl) fun K hK => ?_) | refine XWP.reg1 (by kernel_rfl) fun K hK => ?_
          have w1 : IntKind.u64.wrap ((g : Int) - 1) = ((g - 1 : Nat) : Int) := u64_sub g 1 (by omega) (by omega)
          simp only [XA, XB, gateX, Nat.reduceAdd, Nat.reduceLeDiff, Nat.reduceSub, Nat.reduceMul, ↓reduceIte, Int.reduceToNat, Int.reduceLE, beq_self_eq_true, w1]
          refine hK _ ?_
          first | refine XWP.reg (by kernel_rfl) fun K hK => ?_ | refine XWP.seq (XWP.reg (by kernel_rfl) fun K hK => ?_) | refine XWP.reg1 (by kernel_rfl) fun K hK => ?_
          simp only [XA, XB, gateX, Nat.reduceAdd, Nat.reduceLeDiff, Nat.reduceSub, Nat.reduceMul, ↓reduceIte, Int.reduceToNat, Int.reduceLE, beq_self_eq_true, i64_pred vs.length (by omega) (by omega)]
          refine ⟨by omega, by omega, ld_mem (loads_cell shapeT_129 (hcv1 _)) ?_⟩
          simp only [XA, XB, gateX, Nat.reduceAdd, Nat.reduceLeDiff, Nat.reduceSub, Nat.reduceMul, ↓reduceIte, Int.reduceToNat, Int.reduceLE, beq_self_eq_true, u64_of_u32 _ kv1, u64_add rest v1 (by unfold BB at *; omega)]
          refine hK _ ?_
          first | refine XWP.reg (by kernel_rfl) fun K hK => ?_ | refine XWP.seq (XWP.reg (by kernel_rfl) fun K hK => ?_) | refine XWP.reg1 (by kernel_rfl) fun K hK => ?_
          have e5 : (g - 1) * v1 + (rest + v1) = u0 * BB + u1 := by
            obtain ⟨g', rfl⟩ : ∃ g', g = g' + 1 := ⟨g - 1, by omega⟩
            rw [Nat.add_mul] at hgr
            rw [Nat.add_sub_cancel]; omega
          by_cases hrB : BB ≤ rest + v1
          · have b5 : decide ((4294967296 : Int) ≤ ((rest + v1 : Nat) : Int)) = true := decide_eq_true (by unfold BB at hrB; omega)
            simp only [XA, XB, gateX, Nat.reduceAdd, Nat.reduceLeDiff, Nat.reduceSub, Nat.reduceMul, ↓reduceIte, Int.reduceToNat, Int.reduceLE, beq_self_eq_true, b5]
            refine hK _ ?_
            clear hK
            first | refine XWP.cond (t := true) rfl (fun _ => ?_) (fun h => by cases h) | refine XWP.seq (XWP.cond (t := true) rfl (fun _ => ?_) (fun h => by cases h))
            refine XWP.exit ?_
            obtain ⟨g1, g2⟩ := guess_big kv1 kv2 rfl ku kU1 e5 hrB
            exact ⟨g - 1, StIs.of (by exact rfl), by omega, kend (g - 1) (rest + v1) g1 e5 (by omega), g1⟩
          · have b5 : decide ((4294967296 : Int) ≤ ((rest + v1 : Nat) : Int)) = false := decide_eq_false (by unfold BB at hrB; omega)
            simp only [XA, XB, gateX, Nat.reduceAdd, Nat.reduceLeDiff, Nat.reduceSub, Nat.reduceMul, ↓reduceIte, Int.reduceToNat, Int.reduceLE, beq_self_eq_true, b5]
            refine hK _ ?_
            clear hK
            first | refine XWP.cond (t := false) rfl (fun h => by cases h) (fun _ => ?_) | refine XWP.seq (XWP.cond (t := false) rfl (fun h => by cases h) (fun _ => ?_))
            refine XWP.skip ?_
            exact ⟨g - 1, by omega, rest + v1, StIs.of (by exact rfl), by omega, by omega, by omega, e5⟩
        --}
      · rintro s ⟨g, hs, hg1, hg2, hgB⟩
        obtain ⟨u, rfl⟩ := hs.out
        dsimp only
        clear kdec kend
        first | refine XWP.reg (by kernel_rfl) fun K hK => ?_ | refine XWP.seq (XWP.reg (by kernel_rfl) fun K hK => ?_) | refine XWP.reg1 (by kernel_rfl) fun K hK => ?_
        simp only [XA, XB, gateX, Nat.reduceAdd, Nat.reduceLeDiff, Nat.reduceSub, Nat.reduceMul, ↓reduceIte, Int.reduceToNat, Int.reduceLE, beq_self_eq_true]
        refine hK _ ?_
        clear hK
        have hz0 : nv (us1.drop (j + vs.length + 1)) = 0 := above_zero hud1 hvsd hlt
        refine XWP.cut (fun s => ∃ (H6 : Heap) (us2 : List Nat) (cc bo : Nat), StIs (fun τ => [.v (.slice A (dg a).length c), .v (.slice (some ⟨q1, o1, none⟩) (dg b).length c'), τ 2, τ 3, τ 4, τ 5, τ 6, τ 7, τ 8, .v (.int .u64 (l : Int)), .v (.slice (some ⟨gu, 0, none⟩) ((dg a).length + 1) ((dg a).length + 1)), .v (.slice (some ⟨p7, o7, none⟩) vs.length c7), .v (.int .i64 (vs.length : Int)), .v (.slice (some ⟨gq, 0, none⟩) M M), .v (.int .i64 (j : Int)), τ 15, .v (.int .u64 (g : Int)), τ 17, .v (.int .u64 (bo : Int)), .v (.int .u64 (cc : Int)), τ 20, τ 21, τ 22, τ 23, τ 24, τ 25, τ 26, τ 27, τ 28, τ 29, τ 30, τ 31, τ 32, τ 33, τ 34, τ 35, τ 36, τ 37, τ 38, τ 39, τ 40, τ 41, τ 42, τ 43, τ 44, τ 45, τ 46, τ 47, τ 48, τ 49, τ 50, τ 51, τ 52, τ 53, τ 54, τ 55, τ 56, τ 57, τ 58, τ 59, τ 60, τ 61, τ 62, τ 63, τ 64, τ 65, τ 66, τ 67, τ 68, τ 69, τ 70, τ 71, τ 72, τ 73, τ 74, τ 75, τ 76, τ 77, τ 78, τ 79, τ 80, τ 81, τ 82, τ 83, τ 84, τ 85, τ 86, τ 87, τ 88, τ 89, τ 90, τ 91, τ 92, τ 93, τ 94, τ 95, τ 96, τ 97, τ 98, τ 99, τ 100, τ 101, τ 102, τ 103, τ 104, τ 105, τ 106, τ 107, τ 108, τ 109, τ 110, τ 111, τ 112, τ 113, τ 114, τ 115, τ 116, τ 117, τ 118, τ 119, τ 120, τ 121, τ 122, τ 123, τ 124, τ 125, τ 126, τ 127, τ 128, τ 129, τ 130, τ 131, τ 132, τ 133, τ 134, τ 135, τ 136, τ 137, τ 138, τ 139, τ 140, τ 141, τ 142, τ 143, τ 144, τ 145, τ 146, τ 147, τ 148, τ 149, τ 150, τ 151, τ 152, τ 153, τ 154, τ 155, τ 156, τ 157, τ 158, τ 159, τ 160, τ 161, τ 162, τ 163, τ 164, τ 165, τ 166, τ 167, τ 168, τ 169, τ 170, τ 171, τ 172, τ 173, τ 174, τ 175, τ 176, τ 177, τ 178, τ 179, τ 180, τ 181, τ 182, τ 183, τ 184, τ 185, τ 186, τ 187, τ 188, τ 189, τ 190, τ 191, τ 192, τ 193, τ 194, τ 195, τ 196, τ 197, τ 198, τ 199, τ 200, τ 201, τ 202, τ 203, τ 204, τ 205, τ 206, τ 207, τ 208, τ 209, τ 210, τ 211, τ 212, τ 213, τ 214, τ 215, τ 216, τ 217, τ 218, τ 219, τ 220, τ 221, τ 222, τ 223, τ 224, τ 225, τ 226, τ 227, τ 228, τ 229, τ 230, τ 231, τ 232, τ 233, τ 234, τ 235, τ 236, τ 237, τ 238, τ 239, τ 240, τ 241, τ 242, τ 243, τ 244, τ 245, τ 246, τ 247, τ 248, τ 249, τ 250, τ 251, τ 252, τ 253, τ 254, τ 255, τ 256, τ 257, τ 258, τ 259, τ 260, τ 261, τ 262, τ 263, τ 264, τ 265, τ 266, τ 267, τ 268, τ 269, τ 270, τ 271, τ 272, τ 273, τ 274, τ 275, τ 276, τ 277, τ 278, τ 279, τ 280, τ 281, τ 282, τ 283, τ 284, τ 285, τ 286, τ 287, τ 288, τ 289, τ 290, τ 291, τ 292, τ 293, τ 294, τ 295, τ 296, τ 297, τ 298, τ 299, τ 300, τ 301, τ 302, τ 303, τ 304, τ 305, τ 306, τ 307, τ 308, τ 309, τ 310, τ 311, τ 312, τ 313, τ 314]) [] H6 V7 s ∧ H6 gu = some ⟨129, u32s us2, (dg a).length + 1⟩ ∧ H6 gq = some ⟨129, u32s qs, M⟩ ∧ us2.length = (dg a).length + 1 ∧ Dig us2 ∧ cc < BB ∧ bo ≤ 1 ∧ us2.take j = us1.take j ∧ us2.drop (j + vs.length) = us1.drop (j + vs.length) ∧ nv us2 + BB ^ j * (g * nv vs) = nv us1 + BB ^ (j + vs.length) * (cc + bo)) ?_ ?_
        ·
          --{
          first | refine XWP.reg (by kernel_rfl) fun K hK => ?_ | refine XWP.seq (XWP.reg (by kernel_rfl) fun K hK => ?_) | refine XWP.reg1 (by kernel_rfl) fun K hK => ?_
          simp only [XA, XB, gateX, Nat.reduceAdd, Nat.reduceLeDiff, Nat.reduceSub, Nat.reduceMul, ↓reduceIte, Int.reduceToNat, Int.reduceLE, beq_self_eq_true]
          refine hK _ ?_
          clear hK
          first | refine XWP.block ?_ | refine XWP.seq (XWP.block ?_)
          refine XWP.loop (fun n s => ∃ (k : Nat) (H6 : Heap) (us2 : List Nat) (cc bo : Nat), StIs (fun τ => [.v (.slice A (dg a).length c), .v (.slice (some ⟨q1, o1, none⟩) (dg b).length c'), τ 2, τ 3, τ 4, τ 5, τ 6, τ 7, τ 8, .v (.int .u64 (l : Int)), .v (.slice (some ⟨gu, 0, none⟩) ((dg a).length + 1) ((dg a).length + 1)), .v (.slice (some ⟨p7, o7, none⟩) vs.length c7), .v (.int .i64 (vs.length : Int)), .v (.slice (some ⟨gq, 0, none⟩) M M), .v (.int .i64 (j : Int)), τ 15, .v (.int .u64 (g : Int)), τ 17, .v (.int .u64 (bo : Int)), .v (.int .u64 (cc : Int)), τ 20, τ 21, τ 22, τ 23, τ 24, τ 25, τ 26, τ 27, τ 28, τ 29, τ 30, τ 31, τ 32, τ 33, τ 34, τ 35, τ 36, τ 37, τ 38, τ 39, τ 40, τ 41, τ 42, τ 43, τ 44, τ 45, τ 46, τ 47, τ 48, τ 49, τ 50, τ 51, τ 52, τ 53, τ 54, τ 55, τ 56, τ 57, τ 58, τ 59, τ 60, τ 61, τ 62, τ 63, τ 64, τ 65, τ 66, τ 67, τ 68, τ 69, τ 70, τ 71, τ 72, τ 73, τ 74, τ 75, τ 76, τ 77, τ 78, τ 79, τ 80, τ 81, τ 82, τ 83, τ 84, τ 85, τ 86, τ 87, τ 88, τ 89, τ 90, τ 91, τ 92, τ 93, τ 94, τ 95, τ 96, τ 97, τ 98, τ 99, τ 100, τ 101, τ 102, τ 103, τ 104, τ 105, τ 106, τ 107, τ 108, τ 109, τ 110, τ 111, τ 112, τ 113, τ 114, τ 115, τ 116, τ 117, τ 118, τ 119, τ 120, τ 121, τ 122, τ 123, τ 124, τ 125, τ 126, τ 127, τ 128, τ 129, τ 130, τ 131, τ 132, τ 133, τ 134, τ 135, τ 136, τ 137, τ 138, τ 139, τ 140, τ 141, τ 142, τ 143, τ 144, τ 145, τ 146, τ 147, τ 148, τ 149, τ 150, τ 151, τ 152, τ 153, τ 154, τ 155, τ 156, τ 157, .v (.int .i64 (vs.length : Int)), .v (.int .i64 (k : Int)), τ 160, τ 161, τ 162, τ 163, τ 164, τ 165, τ 166, τ 167, τ 168, τ 169, τ 170, τ 171, τ 172, τ 173, τ 174, τ 175, τ 176, τ 177, τ 178, τ 179, τ 180, τ 181, τ 182, τ 183, τ 184, τ 185, τ 186, τ 187, τ 188, τ 189, τ 190, τ 191, τ 192, τ 193, τ 194, τ 195, τ 196, τ 197, τ 198, τ 199, τ 200, τ 201, τ 202, τ 203, τ 204, τ 205, τ 206, τ 207, τ 208, τ 209, τ 210, τ 211, τ 212, τ 213, τ 214, τ 215, τ 216, τ 217, τ 218, τ 219, τ 220, τ 221, τ 222, τ 223, τ 224, τ 225, τ 226, τ 227, τ 228, τ 229, τ 230, τ 231, τ 232, τ 233, τ 234, τ 235, τ 236, τ 237, τ 238, τ 239, τ 240, τ 241, τ 242, τ 243, τ 244, τ 245, τ 246, τ 247, τ 248, τ 249, τ 250, τ 251, τ 252, τ 253, τ 254, τ 255, τ 256, τ 257, τ 258, τ 259, τ 260, τ 261, τ 262, τ 263, τ 264, τ 265, τ 266, τ 267, τ 268, τ 269, τ 270, τ 271, τ 272, τ 273, τ 274, τ 275, τ 276, τ 277, τ 278, τ 279, τ 280, τ 281, τ 282, τ 283, τ 284, τ 285, τ 286, τ 287, τ 288, τ 289, τ 290, τ 291, τ 292, τ 293, τ 294, τ 295, τ 296, τ 297, τ 298, τ 299, τ 300, τ 301, τ 302, τ 303, τ 304, τ 305, τ 306, τ 307, τ 308, τ 309, τ 310, τ 311, τ 312, τ 313, τ 314]) [] H6 V7 s ∧ n + k = vs.length ∧ H6 gu = some ⟨129, u32s us2, (dg a).length + 1⟩ ∧ H6 gq = some ⟨129, u32s qs, M⟩ ∧ us2.length = (dg a).length + 1 ∧ Dig us2 ∧ cc < BB ∧ bo ≤ 1 ∧ us2.take j = us1.take j ∧ us2.drop (j + vs.length) = us1.drop (j + vs.length) ∧ nv us2 + BB ^ j * (g * nv (vs.take k)) = nv us1 + BB ^ (j + k) * (cc + bo)) vs.length ⟨0, H5, us1, 0, 0, StIs.of (by exact rfl), rfl, hHu, hHq, hul1, hud1, BB_pos, Nat.zero_le _, rfl, rfl, by simp [nv]⟩ ?_
          rintro n s ⟨k, H6, us2, cc, bo, hs, hn, hHu2, hHq2, hul2, hud2, hcc, hbo, ht2, hd2, hnv2⟩
          obtain ⟨z, rfl⟩ := hs.out
          dsimp only
          first | refine XWP.reg (by kernel_rfl) fun K hK => ?_ | refine XWP.seq (XWP.reg (by kernel_rfl) fun K hK => ?_) | refine XWP.reg1 (by kernel_rfl) fun K hK => ?_
          by_cases hkn : k < vs.length
          · have b3 : decide ((k : Int) < (vs.length : Int)) = true := decide_eq_true (by omega)
            simp only [XA, XB, gateX, Nat.reduceAdd, Nat.reduceLeDiff, Nat.reduceSub, Nat.reduceMul, ↓reduceIte, Int.reduceToNat, Int.reduceLE, beq_self_eq_true, b3]
            refine hK _ ?_
            first | refine XWP.cond (t := true) rfl (fun _ => ?_) (fun h => by cases h) | refine XWP.seq (XWP.cond (t := true) rfl (fun _ => ?_) (fun h => by cases h))
            refine XWP.skip ?_
            refine XWP.seq ?_
            first | refine XWP.block ?_ | refine XWP.seq (XWP.block ?_)
            have hcv := NatAt.cells h7 k hkn
            have hdv := Dig_get hvsd k hkn
            rw [getD_get] at hcv hdv
            have hcu := row_cell (V := V7) hHu2 (k := k + j) (by omega)
            have hdu : us2.getD (k + j) 0 < BB := gd_lt hud2 _
            have hst := mulsub_step (l := us2) (vs := vs) (U0 := nv us1) (j := j) (i := k) (g := g) (c := cc) (bo := bo) (by omega) hud2 hbo hnv2
            have ev : gd vs k = vs.getD k 0 := rfl
            rw [ev] at hst
            generalize hv : vs.getD k 0 = vk at *
            generalize hx : us2.getD (k + j) 0 = x at *
            obtain ⟨mc1, mc2⟩ := dig_mulc hcc hgB hdv
            have mm := Nat.mod_lt (cc + g * vk) BB_pos
            generalize hy : (cc + g * vk) % BB + bo = y at *
            have hyB : y ≤ BB := by omega
            obtain ⟨sd1, sd2, sd3⟩ := subD_eq hdu hyB
            first | refine XWP.reg (by kernel_rfl) fun K hK => ?_ | refine XWP.seq (XWP.reg (by kernel_rfl) fun K hK => ?_) | refine XWP.reg1 (by kernel_rfl) fun K hK => ?_
            simp only [XA, XB, gateX, Nat.reduceAdd, Nat.reduceLeDiff, Nat.reduceSub, Nat.reduceMul, ↓reduceIte, Int.reduceToNat, Int.reduceLE, beq_self_eq_true]
            refine hK _ ?_
            first | refine XWP.reg (by kernel_rfl) fun K hK => ?_ | refine XWP.seq (XWP.reg (by kernel_rfl) fun K hK => ?_) | refine XWP.reg1 (by kernel_rfl) fun K hK => ?_
            simp only [XA, XB, gateX, Nat.reduceAdd, Nat.reduceLeDiff, Nat.reduceSub, Nat.reduceMul, ↓reduceIte, Int.reduceToNat, Int.reduceLE, beq_self_eq_true]
            refine ⟨by omega, by omega, ld_mem (loads_cell shapeT_129 (hcv _)) ?_⟩
            simp only [XA, XB, gateX, Nat.reduceAdd, Nat.reduceLeDiff, Nat.reduceSub, Nat.reduceMul, ↓reduceIte, Int.reduceToNat, Int.reduceLE, beq_self_eq_true, u64_of_u32 _ hdv, u64_mul _ _ (dig_mul hgB hdv), u64_add _ _ mc1]
            refine hK _ ?_
            first | refine XWP.reg (by kernel_rfl) fun K hK => ?_ | refine XWP.seq (XWP.reg (by kernel_rfl) fun K hK => ?_) | refine XWP.reg1 (by kernel_rfl) fun K hK => ?_
            simp only [XA, XB, gateX, Nat.reduceAdd, Nat.reduceLeDiff, Nat.reduceSub, Nat.reduceMul, ↓reduceIte, Int.reduceToNat, Int.reduceLE, beq_self_eq_true, and_mask _ mc1, u64_add ((cc + g * vk) % BB) bo (by unfold BB at *; omega), hy]
            refine hK _ ?_
            first | refine XWP.reg (by kernel_rfl) fun K hK => ?_ | refine XWP.seq (XWP.reg (by kernel_rfl) fun K hK => ?_) | refine XWP.reg1 (by kernel_rfl) fun K hK => ?_
            simp only [XA, XB, gateX, Nat.reduceAdd, Nat.reduceLeDiff, Nat.reduceSub, Nat.reduceMul, ↓reduceIte, Int.reduceToNat, Int.reduceLE, beq_self_eq_true]
            refine hK _ ?_
            clear hK
            refine XWP.cut (fun s => StIs (fun τ => [.v (.slice A (dg a).length c), .v (.slice (some ⟨q1, o1, none⟩) (dg b).length c'), τ 2, τ 3, τ 4, τ 5, τ 6, τ 7, τ 8, .v (.int .u64 (l : Int)), .v (.slice (some ⟨gu, 0, none⟩) ((dg a).length + 1) ((dg a).length + 1)), .v (.slice (some ⟨p7, o7, none⟩) vs.length c7), .v (.int .i64 (vs.length : Int)), .v (.slice (some ⟨gq, 0, none⟩) M M), .v (.int .i64 (j : Int)), τ 15, .v (.int .u64 (g : Int)), τ 17, .v (.int .u64 ((subB x y : Nat) : Int)), .v (.int .u64 ((cc + g * vk : Nat) : Int)), .v (.int .i64 (k : Int)), .v (.int .u64 (y : Int)), τ 22, τ 23, τ 24, τ 25, τ 26, τ 27, τ 28, τ 29, τ 30, τ 31, τ 32, τ 33, τ 34, τ 35, τ 36, τ 37, τ 38, τ 39, τ 40, τ 41, τ 42, τ 43, τ 44, τ 45, τ 46, τ 47, τ 48, τ 49, τ 50, τ 51, τ 52, τ 53, τ 54, τ 55, τ 56, τ 57, τ 58, τ 59, τ 60, τ 61, τ 62, τ 63, τ 64, τ 65, τ 66, τ 67, τ 68, τ 69, τ 70, τ 71, τ 72, τ 73, τ 74, τ 75, τ 76, τ 77, τ 78, τ 79, τ 80, τ 81, τ 82, τ 83, τ 84, τ 85, τ 86, τ 87, τ 88, τ 89, τ 90, τ 91, τ 92, τ 93, τ 94, τ 95, τ 96, τ 97, τ 98, τ 99, τ 100, τ 101, τ 102, τ 103, τ 104, τ 105, τ 106, τ 107, τ 108, τ 109, τ 110, τ 111, τ 112, τ 113, τ 114, τ 115, τ 116, τ 117, τ 118, τ 119, τ 120, τ 121, τ 122, τ 123, τ 124, τ 125, τ 126, τ 127, τ 128, τ 129, τ 130, τ 131, τ 132, τ 133, τ 134, τ 135, τ 136, τ 137, τ 138, τ 139, τ 140, τ 141, τ 142, τ 143, τ 144, τ 145, τ 146, τ 147, τ 148, τ 149, τ 150, τ 151, τ 152, τ 153, τ 154, τ 155, τ 156, τ 157, .v (.int .i64 (vs.length : Int)), .v (.int .i64 (k : Int)), τ 160, τ 161, τ 162, τ 163, τ 164, τ 165, τ 166, τ 167, τ 168, τ 169, τ 170, τ 171, τ 172, τ 173, τ 174, τ 175, τ 176, τ 177, τ 178, τ 179, τ 180, τ 181, τ 182, τ 183, τ 184, τ 185, τ 186, τ 187, τ 188, τ 189, τ 190, τ 191, τ 192, τ 193, τ 194, τ 195, τ 196, τ 197, τ 198, τ 199, τ 200, τ 201, τ 202, τ 203, τ 204, τ 205, τ 206, τ 207, τ 208, τ 209, τ 210, τ 211, τ 212, τ 213, τ 214, τ 215, τ 216, τ 217, τ 218, τ 219, τ 220, τ 221, τ 222, τ 223, τ 224, τ 225, τ 226, τ 227, τ 228, τ 229, τ 230, τ 231, τ 232, τ 233, τ 234, τ 235, τ 236, τ 237, τ 238, τ 239, τ 240, τ 241, τ 242, τ 243, τ 244, τ 245, τ 246, τ 247, τ 248, τ 249, τ 250, τ 251, τ 252, τ 253, τ 254, τ 255, τ 256, τ 257, τ 258, τ 259, τ 260, τ 261, τ 262, τ 263, τ 264, τ 265, τ 266, τ 267, τ 268, τ 269, τ 270, τ 271, τ 272, τ 273, τ 274, τ 275, τ 276, τ 277, τ 278, τ 279, τ 280, τ 281, τ 282, τ 283, τ 284, τ 285, τ 286, τ 287, τ 288, τ 289, τ 290, τ 291, τ 292, τ 293, τ 294, τ 295, τ 296, τ 297, τ 298, τ 299, τ 300, τ 301, τ 302, τ 303, τ 304, τ 305, τ 306, τ 307, τ 308, τ 309, τ 310, τ 311, τ 312, τ 313, τ 314]) [] H6 V7 s) ?_ ?_
            · first | refine XWP.reg (by kernel_rfl) fun K hK => ?_ | refine XWP.seq (XWP.reg (by kernel_rfl) fun K hK => ?_) | refine XWP.reg1 (by kernel_rfl) fun K hK => ?_
              simp only [XA, XB, gateX, Nat.reduceAdd, Nat.reduceLeDiff, Nat.reduceSub, Nat.reduceMul, ↓reduceIte, Int.reduceToNat, Int.reduceLE, beq_self_eq_true, i64_add k j (by omega)]
              refine ⟨by omega, by omega, ld_mem (loads_cell shapeT_129 hcu) ?_⟩
              by_cases hxy : x < y
              · have b4 : decide ((x : Int) < (y : Int)) = true := decide_eq_true (by omega)
                simp only [XA, XB, gateX, Nat.reduceAdd, Nat.reduceLeDiff, Nat.reduceSub, Nat.reduceMul, ↓reduceIte, Int.reduceToNat, Int.reduceLE, beq_self_eq_true, u64_of_u32 _ hdu, b4]
                refine hK _ ?_
                first | refine XWP.cond (t := true) rfl (fun _ => ?_) (fun h => by cases h) | refine XWP.seq (XWP.cond (t := true) rfl (fun _ => ?_) (fun h => by cases h))
                first | refine XWP.reg (by kernel_rfl) fun K hK => ?_ | refine XWP.seq (XWP.reg (by kernel_rfl) fun K hK => ?_) | refine XWP.reg1 (by kernel_rfl) fun K hK => ?_
                simp only [XA, XB, gateX, Nat.reduceAdd, Nat.reduceLeDiff, Nat.reduceSub, Nat.reduceMul, ↓reduceIte, Int.reduceToNat, Int.reduceLE, beq_self_eq_true]
                refine hK _ ?_
                try rw [thenX_normal]
                refine StIs.of ?_
                unfold subB
                rw [if_pos hxy]; rfl
              · have b4 : decide ((x : Int) < (y : Int)) = false := decide_eq_false (by omega)
                simp only [XA, XB, gateX, Nat.reduceAdd, Nat.reduceLeDiff, Nat.reduceSub, Nat.reduceMul, ↓reduceIte, Int.reduceToNat, Int.reduceLE, beq_self_eq_true, u64_of_u32 _ hdu, b4]
                refine hK _ ?_
                first | refine XWP.cond (t := false) rfl (fun h => by cases h) (fun _ => ?_) | refine XWP.seq (XWP.cond (t := false) rfl (fun h => by cases h) (fun _ => ?_))
                refine XWP.skip ?_
                try rw [thenX_normal]
                refine StIs.of ?_
                unfold subB
                rw [if_neg hxy]; rfl
            · rintro s hs
              obtain ⟨z2, rfl⟩ := hs.out
              dsimp only
              first | refine XWP.reg (by kernel_rfl) fun K hK => ?_ | refine XWP.seq (XWP.reg (by kernel_rfl) fun K hK => ?_) | refine XWP.reg1 (by kernel_rfl) fun K hK => ?_
              simp only [XA, XB, gateX, Nat.reduceAdd, Nat.reduceLeDiff, Nat.reduceSub, Nat.reduceMul, ↓reduceIte, Int.reduceToNat, Int.reduceLE, beq_self_eq_true, i64_add k j (by omega)]
              refine ⟨by omega, by omega, ld_mem (loads_cell shapeT_129 hcu) ?_⟩
              simp only [XA, XB, gateX, Nat.reduceAdd, Nat.reduceLeDiff, Nat.reduceSub, Nat.reduceMul, ↓reduceIte, Int.reduceToNat, Int.reduceLE, beq_self_eq_true, u64_of_u32 _ hdu, shl32_01 _ sd3]
              rw [sub_mid _ _ hdu hyB]
              refine ⟨by omega, by omega, ?_⟩
              refine st_row shapeT_129 rfl rfl hHu2 (by rw [u32s_length]; omega) ?_
              simp only [XA, XB, gateX, Nat.reduceAdd, Nat.reduceLeDiff, Nat.reduceSub, Nat.reduceMul, ↓reduceIte, Int.reduceToNat, Int.reduceLE, beq_self_eq_true, u32s_set]
              refine hK _ ?_
              first | refine XWP.reg (by kernel_rfl) fun K hK => ?_ | refine XWP.seq (XWP.reg (by kernel_rfl) fun K hK => ?_) | refine XWP.reg1 (by kernel_rfl) fun K hK => ?_
              simp only [XA, XB, gateX, Nat.reduceAdd, Nat.reduceLeDiff, Nat.reduceSub, Nat.reduceMul, ↓reduceIte, Int.reduceToNat, Int.reduceLE, beq_self_eq_true, shr32]
              refine hK _ ?_
              first | refine XWP.reg (by kernel_rfl) fun K hK => ?_ | refine XWP.seq (XWP.reg (by kernel_rfl) fun K hK => ?_) | refine XWP.reg1 (by kernel_rfl) fun K hK => ?_
              simp only [XA, XB, gateX, Nat.reduceAdd, Nat.reduceLeDiff, Nat.reduceSub, Nat.reduceMul, ↓reduceIte, Int.reduceToNat, Int.reduceLE, beq_self_eq_true, i64_succ k (by omega)]
              refine hK _ ⟨n - 1, by omega, k + 1, _, us2.set (k + j) (subD x y), (cc + g * vk) / BB, subB x y, StIs.of (by exact rfl), by omega, upd_at _ _ _, ?_, by simp [hul2], Dig_set hud2 _ sd2, mc2, sd3, ?_, ?_, hst⟩
              · simp only [upd, hne2, if_false]; exact hHq2
              · rw [set_take _ _ (by omega)]; exact ht2
              · rw [set_drop _ _ (by omega)]; exact hd2
          · have b3 : decide ((k : Int) < (vs.length : Int)) = false := decide_eq_false (by omega)
            obtain rfl : k = vs.length := by omega
            simp only [XA, XB, gateX, Nat.reduceAdd, Nat.reduceLeDiff, Nat.reduceSub, Nat.reduceMul, ↓reduceIte, Int.reduceToNat, Int.reduceLE, beq_self_eq_true, b3]
            refine hK _ ?_
            first | refine XWP.cond (t := false) rfl (fun h => by cases h) (fun _ => ?_) | refine XWP.seq (XWP.cond (t := false) rfl (fun h => by cases h) (fun _ => ?_))
            refine XWP.exit ?_
            exact ⟨H6, us2, cc, bo, StIs.of (by exact rfl), hHu2, hHq2, hul2, hud2, hcc, hbo, ht2, hd2, by rw [List.take_length] at hnv2; exact hnv2⟩
          --}
        · rintro s ⟨H6, us2, cc, bo, hs, hHu2, hHq2, hul2, hud2, hcc, hbo, ht2, hd2, hnv2⟩
          obtain ⟨z, rfl⟩ := hs.out
          dsimp only
          have hcu := row_cell (V := V7) hHu2 (k := j + vs.length) (by omega)
          have hdu : us2.getD (j + vs.length) 0 < BB := gd_lt hud2 _
          have hyB : cc + bo ≤ BB := by omega
          have hml := mulsub_last (l := us2) (j := j) (n := vs.length) (by omega) hud2 hyB hnv2
          generalize hy : cc + bo = y at *
          generalize hx : us2.getD (j + vs.length) 0 = x at *
          obtain ⟨sd1, sd2, sd3⟩ := subD_eq hdu hyB
          have hd3 : (us2.set (j + vs.length) (subD x y)).drop (j + vs.length + 1) = us1.drop (j + vs.length + 1) := by
            rw [set_drop _ _ (by omega)]; exact drop_more hd2 (by omega)
          have ht3 : (us2.set (j + vs.length) (subD x y)).take j = us1.take j := by rw [set_take _ _ (by omega)]; exact ht2
          first | refine XWP.reg (by kernel_rfl) fun K hK => ?_ | refine XWP.seq (XWP.reg (by kernel_rfl) fun K hK => ?_) | refine XWP.reg1 (by kernel_rfl) fun K hK => ?_
          simp only [XA, XB, gateX, Nat.reduceAdd, Nat.reduceLeDiff, Nat.reduceSub, Nat.reduceMul, ↓reduceIte, Int.reduceToNat, Int.reduceLE, beq_self_eq_true, u64_add cc bo (by unfold BB at *; omega), hy]
          refine hK _ ?_
          first | refine XWP.reg (by kernel_rfl) fun K hK => ?_ | refine XWP.seq (XWP.reg (by kernel_rfl) fun K hK => ?_) | refine XWP.reg1 (by kernel_rfl) fun K hK => ?_
          simp only [XA, XB, gateX, Nat.reduceAdd, Nat.reduceLeDiff, Nat.reduceSub, Nat.reduceMul, ↓reduceIte, Int.reduceToNat, Int.reduceLE, beq_self_eq_true, i64_add j vs.length (by omega)]
          refine ⟨by omega, by omega, ld_mem (loads_cell shapeT_129 hcu) ?_⟩
          simp only [XA, XB, gateX, Nat.reduceAdd, Nat.reduceLeDiff, Nat.reduceSub, Nat.reduceMul, ↓reduceIte, Int.reduceToNat, Int.reduceLE, beq_self_eq_true, u64_of_u32 _ hdu]
          refine hK _ ?_
          first | refine XWP.reg (by kernel_rfl) fun K hK => ?_ | refine XWP.seq (XWP.reg (by kernel_rfl) fun K hK => ?_) | refine XWP.reg1 (by kernel_rfl) fun K hK => ?_
          simp only [XA, XB, gateX, Nat.reduceAdd, Nat.reduceLeDiff, Nat.reduceSub, Nat.reduceMul, ↓reduceIte, Int.reduceToNat, Int.reduceLE, beq_self_eq_true, i64_add j vs.length (by omega)]
          refine ⟨by omega, by omega, ld_mem (loads_cell shapeT_129 hcu) ?_⟩
          simp only [XA, XB, gateX, Nat.reduceAdd, Nat.reduceLeDiff, Nat.reduceSub, Nat.reduceMul, ↓reduceIte, Int.reduceToNat, Int.reduceLE, beq_self_eq_true, u64_of_u32 _ hdu, sub_last _ _ hdu hyB]
          refine ⟨by omega, by omega, ?_⟩
          refine st_row shapeT_129 rfl rfl hHu2 (by rw [u32s_length]; omega) ?_
          simp only [XA, XB, gateX, Nat.reduceAdd, Nat.reduceLeDiff, Nat.reduceSub, Nat.reduceMul, ↓reduceIte, Int.reduceToNat, Int.reduceLE, beq_self_eq_true, u32s_set]
          refine hK _ ?_
          clear hK
          generalize hus3 : us2.set (j + vs.length) (subD x y) = us3 at *
          have hul3 : us3.length = (dg a).length + 1 := by rw [← hus3]; simp [hul2]
          have hud3 : Dig us3 := hus3 ▸ Dig_set hud2 _ sd2
          refine XWP.cut (fun s => ∃ (H7 : Heap) (us4 : List Nat), StIs (fun τ => [.v (.slice A (dg a).length c), .v (.slice (some ⟨q1, o1, none⟩) (dg b).length c'), τ 2, τ 3, τ 4, τ 5, τ 6, τ 7, τ 8, .v (.int .u64 (l : Int)), .v (.slice (some ⟨gu, 0, none⟩) ((dg a).length + 1) ((dg a).length + 1)), .v (.slice (some ⟨p7, o7, none⟩) vs.length c7), .v (.int .i64 (vs.length : Int)), .v (.slice (some ⟨gq, 0, none⟩) M M), .v (.int .i64 (j : Int)), τ 15, .v (.int .u64 (q : Int)), τ 17, τ 18, τ 19, τ 20, τ 21, τ 22, τ 23, τ 24, τ 25, τ 26, τ 27, τ 28, τ 29, τ 30, τ 31, τ 32, τ 33, τ 34, τ 35, τ 36, τ 37, τ 38, τ 39, τ 40, τ 41, τ 42, τ 43, τ 44, τ 45, τ 46, τ 47, τ 48, τ 49, τ 50, τ 51, τ 52, τ 53, τ 54, τ 55, τ 56, τ 57, τ 58, τ 59, τ 60, τ 61, τ 62, τ 63, τ 64, τ 65, τ 66, τ 67, τ 68, τ 69, τ 70, τ 71, τ 72, τ 73, τ 74, τ 75, τ 76, τ 77, τ 78, τ 79, τ 80, τ 81, τ 82, τ 83, τ 84, τ 85, τ 86, τ 87, τ 88, τ 89, τ 90, τ 91, τ 92, τ 93, τ 94, τ 95, τ 96, τ 97, τ 98, τ 99, τ 100, τ 101, τ 102, τ 103, τ 104, τ 105, τ 106, τ 107, τ 108, τ 109, τ 110, τ 111, τ 112, τ 113, τ 114, τ 115, τ 116, τ 117, τ 118, τ 119, τ 120, τ 121, τ 122, τ 123, τ 124, τ 125, τ 126, τ 127, τ 128, τ 129, τ 130, τ 131, τ 132, τ 133, τ 134, τ 135, τ 136, τ 137, τ 138, τ 139, τ 140, τ 141, τ 142, τ 143, τ 144, τ 145, τ 146, τ 147, τ 148, τ 149, τ 150, τ 151, τ 152, τ 153, τ 154, τ 155, τ 156, τ 157, τ 158, τ 159, τ 160, τ 161, τ 162, τ 163, τ 164, τ 165, τ 166, τ 167, τ 168, τ 169, τ 170, τ 171, τ 172, τ 173, τ 174, τ 175, τ 176, τ 177, τ 178, τ 179, τ 180, τ 181, τ 182, τ 183, τ 184, τ 185, τ 186, τ 187, τ 188, τ 189, τ 190, τ 191, τ 192, τ 193, τ 194, τ 195, τ 196, τ 197, τ 198, τ 199, τ 200, τ 201, τ 202, τ 203, τ 204, τ 205, τ 206, τ 207, τ 208, τ 209, τ 210, τ 211, τ 212, τ 213, τ 214, τ 215, τ 216, τ 217, τ 218, τ 219, τ 220, τ 221, τ 222, τ 223, τ 224, τ 225, τ 226, τ 227, τ 228, τ 229, τ 230, τ 231, τ 232, τ 233, τ 234, τ 235, τ 236, τ 237, τ 238, τ 239, τ 240, τ 241, τ 242, τ 243, τ 244, τ 245, τ 246, τ 247, τ 248, τ 249, τ 250, τ 251, τ 252, τ 253, τ 254, τ 255, τ 256, τ 257, τ 258, τ 259, τ 260, τ 261, τ 262, τ 263, τ 264, τ 265, τ 266, τ 267, τ 268, τ 269, τ 270, τ 271, τ 272, τ 273, τ 274, τ 275, τ 276, τ 277, τ 278, τ 279, τ 280, τ 281, τ 282, τ 283, τ 284, τ 285, τ 286, τ 287, τ 288, τ 289, τ 290, τ 291, τ 292, τ 293, τ 294, τ 295, τ 296, τ 297, τ 298, τ 299, τ 300, τ 301, τ 302, τ 303, τ 304, τ 305, τ 306, τ 307, τ 308, τ 309, τ 310, τ 311, τ 312, τ 313, τ 314]) [] H7 V7 s ∧ H7 gu = some ⟨129, u32s us4, (dg a).length + 1⟩ ∧ H7 gq = some ⟨129, u32s qs, M⟩ ∧ us4.length = (dg a).length + 1 ∧ Dig us4 ∧ us4.take j = us1.take j ∧ nv (us4.drop j) = nv (us1.drop j) % nv vs) ?_ ?_
          ·
            --{
            first | refine XWP.reg (by kernel_rfl) fun K hK => ?_ | refine XWP.seq (XWP.reg (by kernel_rfl) fun K hK => ?_) | refine XWP.reg1 (by kernel_rfl) fun K hK => ?_
            by_cases hxy : x < y
            · have b4 : decide ((x : Int) < (y : Int)) = true := decide_eq_true (by omega)
              have hsb1 : subB x y = 1 := if_pos hxy
              rw [hsb1, Nat.mul_one] at hml
              have hg0 : 1 ≤ g := by
                rcases Nat.eq_zero_or_pos g with h | h
                · subst h
                  have := nv_below (l := us3) (k := j + vs.length + 1) hud3 (by omega) (by rw [hd3]; exact hz0)
                  rw [Nat.zero_mul, Nat.mul_zero] at hml
                  omega
                · exact h
              simp only [XA, XB, gateX, Nat.reduceAdd, Nat.reduceLeDiff, Nat.reduceSub, Nat.reduceMul, ↓reduceIte, Int.reduceToNat, Int.reduceLE, beq_self_eq_true, b4]
              refine hK _ ?_
              first | refine XWP.cond (t := true) rfl (fun _ => ?_) (fun h => by cases h) | refine XWP.seq (XWP.cond (t := true) rfl (fun _ => ?_) (fun h => by cases h))
              first | refine XWP.reg (by kernel_rfl) fun K hK => ?_ | refine XWP.seq (XWP.reg (by kernel_rfl) fun K hK => ?_) | refine XWP.reg1 (by kernel_rfl) fun K hK => ?_
              have w1 : IntKind.u64.wrap ((g : Int) - 1) = ((g - 1 : Nat) : Int) := u64_sub g 1 (by omega) (by unfold BB at hgB; omega)
              simp only [XA, XB, gateX, Nat.reduceAdd, Nat.reduceLeDiff, Nat.reduceSub, Nat.reduceMul, ↓reduceIte, Int.reduceToNat, Int.reduceLE, beq_self_eq_true, w1]
              refine hK _ ?_
              first | refine XWP.reg (by kernel_rfl) fun K hK => ?_ | refine XWP.seq (XWP.reg (by kernel_rfl) fun K hK => ?_) | refine XWP.reg1 (by kernel_rfl) fun K hK => ?_
              simp only [XA, XB, gateX, Nat.reduceAdd, Nat.reduceLeDiff, Nat.reduceSub, Nat.reduceMul, ↓reduceIte, Int.reduceToNat, Int.reduceLE, beq_self_eq_true]
              refine hK _ ?_
              clear hK
              have hHu3 : upd H6 gu (some ⟨129, u32s us3, (dg a).length + 1⟩) gu = some ⟨129, u32s us3, (dg a).length + 1⟩ := upd_at _ _ _
              have hHq3 : upd H6 gu (some ⟨129, u32s us3, (dg a).length + 1⟩) gq = some ⟨129, u32s qs, M⟩ := by simp only [upd, hne2, if_false]; exact hHq2
              refine XWP.cut (fun s => ∃ (H8 : Heap) (us4 : List Nat) (cc : Nat), StIs (fun τ => [.v (.slice A (dg a).length c), .v (.slice (some ⟨q1, o1, none⟩) (dg b).length c'), τ 2, τ 3, τ 4, τ 5, τ 6, τ 7, τ 8, .v (.int .u64 (l : Int)), .v (.slice (some ⟨gu, 0, none⟩) ((dg a).length + 1) ((dg a).length + 1)), .v (.slice (some ⟨p7, o7, none⟩) vs.length c7), .v (.int .i64 (vs.length : Int)), .v (.slice (some ⟨gq, 0, none⟩) M M), .v (.int .i64 (j : Int)), τ 15, .v (.int .u64 ((g - 1 : Nat) : Int)), τ 17, τ 18, .v (.int .u64 (cc : Int)), τ 20, τ 21, τ 22, τ 23, τ 24, τ 25, τ 26, τ 27, τ 28, τ 29, τ 30, τ 31, τ 32, τ 33, τ 34, τ 35, τ 36, τ 37, τ 38, τ 39, τ 40, τ 41, τ 42, τ 43, τ 44, τ 45, τ 46, τ 47, τ 48, τ 49, τ 50, τ 51, τ 52, τ 53, τ 54, τ 55, τ 56, τ 57, τ 58, τ 59, τ 60, τ 61, τ 62, τ 63, τ 64, τ 65, τ 66, τ 67, τ 68, τ 69, τ 70, τ 71, τ 72, τ 73, τ 74, τ 75, τ 76, τ 77, τ 78, τ 79, τ 80, τ 81, τ 82, τ 83, τ 84, τ 85, τ 86, τ 87, τ 88, τ 89, τ 90, τ 91, τ 92, τ 93, τ 94, τ 95, τ 96, τ 97, τ 98, τ 99, τ 100, τ 101, τ 102, τ 103, τ 104, τ 105, τ 106, τ 107, τ 108, τ 109, τ 110, τ 111, τ 112, τ 113, τ 114, τ 115, τ 116, τ 117, τ 118, τ 119, τ 120, τ 121, τ 122, τ 123, τ 124, τ 125, τ 126, τ 127, τ 128, τ 129, τ 130, τ 131, τ 132, τ 133, τ 134, τ 135, τ 136, τ 137, τ 138, τ 139, τ 140, τ 141, τ 142, τ 143, τ 144, τ 145, τ 146, τ 147, τ 148, τ 149, τ 150, τ 151, τ 152, τ 153, τ 154, τ 155, τ 156, τ 157, τ 158, τ 159, τ 160, τ 161, τ 162, τ 163, τ 164, τ 165, τ 166, τ 167, τ 168, τ 169, τ 170, τ 171, τ 172, τ 173, τ 174, τ 175, τ 176, τ 177, τ 178, τ 179, τ 180, τ 181, τ 182, τ 183, τ 184, τ 185, τ 186, τ 187, τ 188, τ 189, τ 190, τ 191, τ 192, τ 193, τ 194, τ 195, τ 196, τ 197, τ 198, τ 199, τ 200, τ 201, τ 202, τ 203, τ 204, τ 205, τ 206, τ 207, τ 208, τ 209, τ 210, τ 211, τ 212, τ 213, τ 214, τ 215, τ 216, τ 217, τ 218, τ 219, τ 220, τ 221, τ 222, τ 223, τ 224, τ 225, τ 226, τ 227, τ 228, τ 229, τ 230, τ 231, τ 232, τ 233, τ 234, τ 235, τ 236, τ 237, τ 238, τ 239, τ 240, τ 241, τ 242, τ 243, τ 244, τ 245, τ 246, τ 247, τ 248, τ 249, τ 250, τ 251, τ 252, τ 253, τ 254, τ 255, τ 256, τ 257, τ 258, τ 259, τ 260, τ 261, τ 262, τ 263, τ 264, τ 265, τ 266, τ 267, τ 268, τ 269, τ 270, τ 271, τ 272, τ 273, τ 274, τ 275, τ 276, τ 277, τ 278, τ 279, τ 280, τ 281, τ 282, τ 283, τ 284, τ 285, τ 286, τ 287, τ 288, τ 289, τ 290, τ 291, τ 292, τ 293, τ 294, τ 295, τ 296, τ 297, τ 298, τ 299, τ 300, τ 301, τ 302, τ 303, τ 304, τ 305, τ 306, τ 307, τ 308, τ 309, τ 310, τ 311, τ 312, τ 313, τ 314]) [] H8 V7 s ∧ H8 gu = some ⟨129, u32s us4, (dg a).length + 1⟩ ∧ H8 gq = some ⟨129, u32s qs, M⟩ ∧ us4.length = (dg a).length + 1 ∧ Dig us4 ∧ cc < BB ∧ us4.take j = us1.take j ∧ us4.drop (j + vs.length) = us3.drop (j + vs.length) ∧ nv us4 + BB ^ (j + vs.length) * cc = nv us3 + BB ^ j * nv vs) ?_ ?_
              · first | refine XWP.reg (by kernel_rfl) fun K hK => ?_ | refine XWP.seq (XWP.reg (by kernel_rfl) fun K hK => ?_) | refine XWP.reg1 (by kernel_rfl) fun K hK => ?_
                simp only [XA, XB, gateX, Nat.reduceAdd, Nat.reduceLeDiff, Nat.reduceSub, Nat.reduceMul, ↓reduceIte, Int.reduceToNat, Int.reduceLE, beq_self_eq_true]
                refine hK _ ?_
                clear hK
                first | refine XWP.block ?_ | refine XWP.seq (XWP.block ?_)
                refine XWP.loop (fun n s => ∃ (k : Nat) (H8 : Heap) (us4 : List Nat) (cc : Nat), StIs (fun τ => [.v (.slice A (dg a).length c), .v (.slice (some ⟨q1, o1, none⟩) (dg b).length c'), τ 2, τ 3, τ 4, τ 5, τ 6, τ 7, τ 8, .v (.int .u64 (l : Int)), .v (.slice (some ⟨gu, 0, none⟩) ((dg a).length + 1) ((dg a).length + 1)), .v (.slice (some ⟨p7, o7, none⟩) vs.length c7), .v (.int .i64 (vs.length : Int)), .v (.slice (some ⟨gq, 0, none⟩) M M), .v (.int .i64 (j : Int)), τ 15, .v (.int .u64 ((g - 1 : Nat) : Int)), τ 17, τ 18, .v (.int .u64 (cc : Int)), τ 20, τ 21, τ 22, τ 23, τ 24, τ 25, τ 26, τ 27, τ 28, τ 29, τ 30, τ 31, τ 32, τ 33, τ 34, τ 35, τ 36, τ 37, τ 38, τ 39, τ 40, τ 41, τ 42, τ 43, τ 44, τ 45, τ 46, τ 47, τ 48, τ 49, τ 50, τ 51, τ 52, τ 53, τ 54, τ 55, τ 56, τ 57, τ 58, τ 59, τ 60, τ 61, τ 62, τ 63, τ 64, τ 65, τ 66, τ 67, τ 68, τ 69, τ 70, τ 71, τ 72, τ 73, τ 74, τ 75, τ 76, τ 77, τ 78, τ 79, τ 80, τ 81, τ 82, τ 83, τ 84, τ 85, τ 86, τ 87, τ 88, τ 89, τ 90, τ 91, τ 92, τ 93, τ 94, τ 95, τ 96, τ 97, τ 98, τ 99, τ 100, τ 101, τ 102, τ 103, τ 104, τ 105, τ 106, τ 107, τ 108, τ 109, τ 110, τ 111, τ 112, τ 113, τ 114, τ 115, τ 116, τ 117, τ 118, τ 119, τ 120, τ 121, τ 122, τ 123, τ 124, τ 125, τ 126, τ 127, τ 128, τ 129, τ 130, τ 131, τ 132, τ 133, τ 134, τ 135, τ 136, τ 137, τ 138, τ 139, τ 140, τ 141, τ 142, τ 143, τ 144, τ 145, τ 146, τ 147, τ 148, τ 149, τ 150, τ 151, τ 152, τ 153, τ 154, τ 155, τ 156, τ 157, τ 158, τ 159, τ 160, τ 161, τ 162, τ 163, τ 164, τ 165, τ 166, τ 167, τ 168, τ 169, τ 170, τ 171, τ 172, τ 173, τ 174, τ 175, τ 176, τ 177, τ 178, τ 179, τ 180, τ 181, τ 182, τ 183, τ 184, τ 185, τ 186, τ 187, τ 188, τ 189, τ 190, τ 191, τ 192, τ 193, τ 194, τ 195, τ 196, τ 197, τ 198, τ 199, τ 200, τ 201, τ 202, τ 203, τ 204, τ 205, τ 206, τ 207, τ 208, τ 209, τ 210, τ 211, τ 212, τ 213, τ 214, τ 215, τ 216, τ 217, τ 218, τ 219, τ 220, τ 221, τ 222, τ 223, τ 224, τ 225, τ 226, τ 227, τ 228, τ 229, τ 230, τ 231, τ 232, τ 233, τ 234, .v (.int .i64 (vs.length : Int)), .v (.int .i64 (k : Int)), τ 237, τ 238, τ 239, τ 240, τ 241, τ 242, τ 243, τ 244, τ 245, τ 246, τ 247, τ 248, τ 249, τ 250, τ 251, τ 252, τ 253, τ 254, τ 255, τ 256, τ 257, τ 258, τ 259, τ 260, τ 261, τ 262, τ 263, τ 264, τ 265, τ 266, τ 267, τ 268, τ 269, τ 270, τ 271, τ 272, τ 273, τ 274, τ 275, τ 276, τ 277, τ 278, τ 279, τ 280, τ 281, τ 282, τ 283, τ 284, τ 285, τ 286, τ 287, τ 288, τ 289, τ 290, τ 291, τ 292, τ 293, τ 294, τ 295, τ 296, τ 297, τ 298, τ 299, τ 300, τ 301, τ 302, τ 303, τ 304, τ 305, τ 306, τ 307, τ 308, τ 309, τ 310, τ 311, τ 312, τ 313, τ 314]) [] H8 V7 s ∧ n + k = vs.length ∧ H8 gu = some ⟨129, u32s us4, (dg a).length + 1⟩ ∧ H8 gq = some ⟨129, u32s qs, M⟩ ∧ us4.length = (dg a).length + 1 ∧ Dig us4 ∧ cc < BB ∧ us4.take j = us1.take j ∧ us4.drop (j + vs.length) = us3.drop (j + vs.length) ∧ nv us4 + BB ^ (j + k) * cc = nv us3 + BB ^ j * nv (vs.take k)) vs.length ⟨0, _, us3, 0, StIs.of (by exact rfl), rfl, hHu3, hHq3, hul3, hud3, BB_pos, ht3, rfl, by simp [nv]⟩ ?_
                rintro n s ⟨k, H8, us4, cc, hs, hn, hHu4, hHq4, hul4, hud4, hcc4, ht4, hd4, hnv4⟩
                obtain ⟨z, rfl⟩ := hs.out
                dsimp only
                first | refine XWP.reg (by kernel_rfl) fun K hK => ?_ | refine XWP.seq (XWP.reg (by kernel_rfl) fun K hK => ?_) | refine XWP.reg1 (by kernel_rfl) fun K hK => ?_
                by_cases hkn : k < vs.length
                · have b3 : decide ((k : Int) < (vs.length : Int)) = true := decide_eq_true (by omega)
                  simp only [XA, XB, gateX, Nat.reduceAdd, Nat.reduceLeDiff, Nat.reduceSub, Nat.reduceMul, ↓reduceIte, Int.reduceToNat, Int.reduceLE, beq_self_eq_true, b3]
                  refine hK _ ?_
                  first | refine XWP.cond (t := true) rfl (fun _ => ?_) (fun h => by cases h) | refine XWP.seq (XWP.cond (t := true) rfl (fun _ => ?_) (fun h => by cases h))
                  refine XWP.skip ?_
                  refine XWP.seq ?_
                  first | refine XWP.block ?_ | refine XWP.seq (XWP.block ?_)
                  have hcv := NatAt.cells h7 k hkn
                  have hdv := Dig_get hvsd k hkn
                  rw [getD_get] at hcv hdv
                  have hcu4 := row_cell (V := V7) hHu4 (k := k + j) (by omega)
                  have hdu4 : us4.getD (k + j) 0 < BB := gd_lt hud4 _
                  have hst := addback_step (l := us4) (vs := vs) (U0 := nv us3) (j := j) (i := k) (c := cc) (by omega) hnv4
                  have ev : gd vs k = vs.getD k 0 := rfl
                  rw [ev] at hst
                  generalize hv : vs.getD k 0 = vk at *
                  generalize hx4 : us4.getD (k + j) 0 = w at *
                  have r1 : w + vk < 18446744073709551616 := by unfold BB at *; omega
                  have r2 : cc + (w + vk) < 18446744073709551616 := by unfold BB at *; omega
                  have r3 : (cc + (w + vk)) / BB < BB := by unfold BB at *; omega
                  first | refine XWP.reg (by kernel_rfl) fun K hK => ?_ | refine XWP.seq (XWP.reg (by kernel_rfl) fun K hK => ?_) | refine XWP.reg1 (by kernel_rfl) fun K hK => ?_
                  simp only [XA, XB, gateX, Nat.reduceAdd, Nat.reduceLeDiff, Nat.reduceSub, Nat.reduceMul, ↓reduceIte, Int.reduceToNat, Int.reduceLE, beq_self_eq_true]
                  refine hK _ ?_
                  clear hK
                  (first | refine XWP.drw [0, 1, 2, 3, 4, 5, 6, 7, 8, 9, 10, 11, 12, 13, 14, 15] (by kernel_rfl) (by kernel_rfl) (by kernel_rfl) fun K hK => ?_ | refine XWP.seq (XWP.drw [0, 1, 2, 3, 4, 5, 6, 7, 8, 9, 10, 11, 12, 13, 14, 15] (by kernel_rfl) (by kernel_rfl) (by kernel_rfl) fun K hK => ?_) | refine XWP.drw1 [0, 1, 2, 3, 4, 5, 6, 7, 8, 9, 10, 11, 12, 13, 14, 15] (by kernel_rfl) (by kernel_rfl) (by kernel_rfl) fun K hK => ?_) <;> dsimp only [pickOps, List.getElem?_cons_zero, List.getElem?_cons_succ]
                  simp only [XA, XB, gateX, Nat.reduceAdd, Nat.reduceLeDiff, Nat.reduceSub, Nat.reduceMul, ↓reduceIte, Int.reduceToNat, Int.reduceLE, beq_self_eq_true, i64_add k j (by omega)]
                  refine ⟨by omega, by omega, ld_mem (loads_cell shapeT_129 hcu4) ?_⟩
                  simp only [XA, XB, gateX, Nat.reduceAdd, Nat.reduceLeDiff, Nat.reduceSub, Nat.reduceMul, ↓reduceIte, Int.reduceToNat, Int.reduceLE, beq_self_eq_true]
                  refine ⟨by omega, by omega, ld_mem (loads_cell shapeT_129 (hcv _)) ?_⟩
                  simp only [XA, XB, gateX, Nat.reduceAdd, Nat.reduceLeDiff, Nat.reduceSub, Nat.reduceMul, ↓reduceIte, Int.reduceToNat, Int.reduceLE, beq_self_eq_true, u64_of_u32 _ hdv, u64_of_u32 _ hdu4, u64_add _ _ r1, u64_add _ _ r2]
                  refine hK _ ?_
                  first | refine XWP.reg (by kernel_rfl) fun K hK => ?_ | refine XWP.seq (XWP.reg (by kernel_rfl) fun K hK => ?_) | refine XWP.reg1 (by kernel_rfl) fun K hK => ?_
                  simp only [XA, XB, gateX, Nat.reduceAdd, Nat.reduceLeDiff, Nat.reduceSub, Nat.reduceMul, ↓reduceIte, Int.reduceToNat, Int.reduceLE, beq_self_eq_true, i64_add k j (by omega), w32_mod]
                  refine ⟨by omega, by omega, ?_⟩
                  refine st_row shapeT_129 rfl rfl hHu4 (by rw [u32s_length]; omega) ?_
                  simp only [XA, XB, gateX, Nat.reduceAdd, Nat.reduceLeDiff, Nat.reduceSub, Nat.reduceMul, ↓reduceIte, Int.reduceToNat, Int.reduceLE, beq_self_eq_true, u32s_set]
                  refine hK _ ?_
                  first | refine XWP.reg (by kernel_rfl) fun K hK => ?_ | refine XWP.seq (XWP.reg (by kernel_rfl) fun K hK => ?_) | refine XWP.reg1 (by kernel_rfl) fun K hK => ?_
                  simp only [XA, XB, gateX, Nat.reduceAdd, Nat.reduceLeDiff, Nat.reduceSub, Nat.reduceMul, ↓reduceIte, Int.reduceToNat, Int.reduceLE, beq_self_eq_true, shr32]
                  refine hK _ ?_
                  first | refine XWP.reg (by kernel_rfl) fun K hK => ?_ | refine XWP.seq (XWP.reg (by kernel_rfl) fun K hK => ?_) | refine XWP.reg1 (by kernel_rfl) fun K hK => ?_
                  simp only [XA, XB, gateX, Nat.reduceAdd, Nat.reduceLeDiff, Nat.reduceSub, Nat.reduceMul, ↓reduceIte, Int.reduceToNat, Int.reduceLE, beq_self_eq_true, i64_succ k (by omega)]
                  refine hK _ ⟨n - 1, by omega, k + 1, _, us4.set (k + j) ((cc + (w + vk)) % BB), (cc + (w + vk)) / BB, StIs.of (by exact rfl), by omega, upd_at _ _ _, ?_, by simp [hul4], Dig_set hud4 _ (Nat.mod_lt _ BB_pos), r3, ?_, ?_, hst⟩
                  · simp only [upd, hne2, if_false]; exact hHq4
                  · rw [set_take _ _ (by omega)]; exact ht4
                  · rw [set_drop _ _ (by omega)]; exact hd4
                · have b3 : decide ((k : Int) < (vs.length : Int)) = false := decide_eq_false (by omega)
                  obtain rfl : k = vs.length := by omega
                  simp only [XA, XB, gateX, Nat.reduceAdd, Nat.reduceLeDiff, Nat.reduceSub, Nat.reduceMul, ↓reduceIte, Int.reduceToNat, Int.reduceLE, beq_self_eq_true, b3]
                  refine hK _ ?_
                  first | refine XWP.cond (t := false) rfl (fun h => by cases h) (fun _ => ?_) | refine XWP.seq (XWP.cond (t := false) rfl (fun h => by cases h) (fun _ => ?_))
                  refine XWP.exit ?_
                  exact ⟨H8, us4, cc, StIs.of (by exact rfl), hHu4, hHq4, hul4, hud4, hcc4, ht4, hd4, by rw [List.take_length] at hnv4; exact hnv4⟩
              · rintro s ⟨H8, us4, cc, hs, hHu4, hHq4, hul4, hud4, hcc4, ht4, hd4, hnv4⟩
                obtain ⟨z, rfl⟩ := hs.out
                dsimp only
                have hcu4 := row_cell (V := V7) hHu4 (k := j + vs.length) (by omega)
                have hdu4 : us4.getD (j + vs.length) 0 < BB := gd_lt hud4 _
                have hal := addback_last (l := us4) (j := j) (n := vs.length) (by omega) hnv4
                generalize hx4 : us4.getD (j + vs.length) 0 = w at *
                have e1 : cc % BB = cc := Nat.mod_eq_of_lt hcc4
                have w2 : IntKind.u32.wrap ((w : Int) + (cc : Int)) = (((w + cc) % BB : Nat) : Int) := by rw [← Int.natCast_add, w32_mod]
                have ho : (w + cc) / BB ≤ 1 := by unfold BB at *; omega
                have ht5 : (us4.set (j + vs.length) ((w + cc) % BB)).take j = us1.take j := by rw [set_take _ _ (by omega)]; exact ht4
                have hd5 : (us4.set (j + vs.length) ((w + cc) % BB)).drop (j + vs.length + 1) = us1.drop (j + vs.length + 1) := by
                  rw [set_drop _ _ (by omega), drop_more hd4 (by omega)]; exact hd3
                obtain ⟨e6, e7⟩ := div_under1 (l0 := us1) (l1 := us3) (l2 := us4.set (j + vs.length) ((w + cc) % BB)) (g := g) (by omega) hud3 (Dig_set hud4 _ (Nat.mod_lt _ BB_pos)) (by omega) (by rw [List.length_set]; omega) ht5 (by rw [hd3]; exact hz0) (by rw [hd5]; exact hz0) hq.symm hg2 hv0 ho hml hal
                subst e6
                first | refine XWP.reg (by kernel_rfl) fun K hK => ?_ | refine XWP.seq (XWP.reg (by kernel_rfl) fun K hK => ?_) | refine XWP.reg1 (by kernel_rfl) fun K hK => ?_
                simp only [XA, XB, gateX, Nat.reduceAdd, Nat.reduceLeDiff, Nat.reduceSub, Nat.reduceMul, ↓reduceIte, Int.reduceToNat, Int.reduceLE, beq_self_eq_true, i64_add j vs.length (by omega)]
                refine ⟨by omega, by omega, ld_mem (loads_cell shapeT_129 hcu4) ?_⟩
                simp only [XA, XB, gateX, Nat.reduceAdd, Nat.reduceLeDiff, Nat.reduceSub, Nat.reduceMul, ↓reduceIte, Int.reduceToNat, Int.reduceLE, beq_self_eq_true, w32_mod, e1, w2]
                refine ⟨by omega, by omega, ?_⟩
                refine st_row shapeT_129 rfl rfl hHu4 (by rw [u32s_length]; omega) ?_
                simp only [XA, XB, gateX, Nat.reduceAdd, Nat.reduceLeDiff, Nat.reduceSub, Nat.reduceMul, ↓reduceIte, Int.reduceToNat, Int.reduceLE, beq_self_eq_true, u32s_set]
                refine hK _ ?_
                exact ⟨_, us4.set (j + vs.length) ((w + cc) % BB), StIs.of (by exact rfl), upd_at _ _ _, (by simp only [upd, hne2, if_false]; exact hHq4), (by rw [List.length_set]; exact hul4), Dig_set hud4 _ (Nat.mod_lt _ BB_pos), ht5, e7⟩
            · have b4 : decide ((x : Int) < (y : Int)) = false := decide_eq_false (by omega)
              have hsb1 : subB x y = 0 := if_neg hxy
              rw [hsb1, Nat.mul_zero, Nat.add_zero] at hml
              obtain ⟨e6, e7⟩ := div_under0 (l0 := us1) (l1 := us3) (by omega) (by omega) ht3 hq.symm hg1 hv0 hml
              subst e6
              simp only [XA, XB, gateX, Nat.reduceAdd, Nat.reduceLeDiff, Nat.reduceSub, Nat.reduceMul, ↓reduceIte, Int.reduceToNat, Int.reduceLE, beq_self_eq_true, b4]
              refine hK _ ?_
              clear hK
              first | refine XWP.cond (t := false) rfl (fun h => by cases h) (fun _ => ?_) | refine XWP.seq (XWP.cond (t := false) rfl (fun h => by cases h) (fun _ => ?_))
              refine XWP.skip ?_
              exact ⟨_, us3, StIs.of (by exact rfl), upd_at _ _ _, by (simp only [upd, hne2, if_false]; exact hHq2), hul3, hud3, ht3, e7⟩
            --}
          · rintro s ⟨H7, us4, hs, hHu4, hHq4, hul4, hud4, ht4, hnv4⟩
            obtain ⟨z, rfl⟩ := hs.out
            dsimp only
            have e1 : q % BB = q := Nat.mod_eq_of_lt kB
            have w1 : IntKind.i64.wrap ((j : Int) - 1) = (j : Int) - 1 := wrap_id (by omega) (by omega)
            have htt := div_total (l0 := us1) (l2 := us4) (qs := qs) (vs := vs) (j := j) (N := a * 2 ^ l) (by omega) (by omega) (by omega) ht4 hnv4 htot
            rw [hq] at htt
            first | refine XWP.reg (by kernel_rfl) fun K hK => ?_ | refine XWP.seq (XWP.reg (by kernel_rfl) fun K hK => ?_) | refine XWP.reg1 (by kernel_rfl) fun K hK => ?_
            simp only [XA, XB, gateX, Nat.reduceAdd, Nat.reduceLeDiff, Nat.reduceSub, Nat.reduceMul, ↓reduceIte, Int.reduceToNat, Int.reduceLE, beq_self_eq_true, w32_mod, e1]
            refine ⟨by omega, by omega, ?_⟩
            refine st_row shapeT_129 rfl rfl hHq4 (by rw [u32s_length]; omega) ?_
            simp only [XA, XB, gateX, Nat.reduceAdd, Nat.reduceLeDiff, Nat.reduceSub, Nat.reduceMul, ↓reduceIte, Int.reduceToNat, Int.reduceLE, beq_self_eq_true, u32s_set]
            refine hK _ ?_
            first | refine XWP.reg (by kernel_rfl) fun K hK => ?_ | refine XWP.seq (XWP.reg (by kernel_rfl) fun K hK => ?_) | refine XWP.reg1 (by kernel_rfl) fun K hK => ?_
            simp only [XA, XB, gateX, Nat.reduceAdd, Nat.reduceLeDiff, Nat.reduceSub, Nat.reduceMul, ↓reduceIte, Int.reduceToNat, Int.reduceLE, beq_self_eq_true, w1]
            refine hK _ ⟨j, by omega, _, us4, qs.set j q, StIs.of (by exact rfl), by omega, ?_, upd_at _ _ _, hul4, by simp [hql], hud4, Dig_set hqd _ kB, ?_, htt⟩
            · simp only [upd, hne3, if_false]; exact hHu4
            · rw [hnv4]; exact Nat.mod_lt _ hv0
      --}
    · rintro s ⟨H5, us1, qs, hs, hHu, hHq, hul1, hql, hud1, hqd, hlt, htot⟩
      obtain ⟨u, rfl⟩ := hs.out
      dsimp only
      rw [hvsn] at hlt htot
      obtain ⟨eq1, er1⟩ := div_end (Nat.two_pow_pos l) (by omega) htot hlt
      have hzn : nv (us1.drop vs.length) = 0 := by
        have h1 := nv_split us1 vs.length (by omega)
        have h2 := nv_lt hvsd
        rcases Nat.eq_zero_or_pos (nv (us1.drop vs.length)) with h | h
        · exact h
        · have : BB ^ vs.length * 1 ≤ BB ^ vs.length * nv (us1.drop vs.length) := Nat.mul_le_mul_left _ h
          omega
      first | refine XWP.reg (by kernel_rfl) fun K hK => ?_ | refine XWP.seq (XWP.reg (by kernel_rfl) fun K hK => ?_) | refine XWP.reg1 (by kernel_rfl) fun K hK => ?_
      simp only [XA, XB, gateX, Nat.reduceAdd, Nat.reduceLeDiff, Nat.reduceSub, Nat.reduceMul, ↓reduceIte, Int.reduceToNat, Int.reduceLE, beq_self_eq_true]
      refine mk_go rfl rfl elemT_32 zeroT_129 (by omega) (by omega) (by omega) (by omega) rfl (by omega) fun gr hr1 hr2 => ?_
      have hru : gr ≠ gu := fun e => by subst e; simp [hHu] at hr1
      have hrq : gr ≠ gq := fun e => by subst e; simp [hHq] at hr1
      have hur : gu ≠ gr := fun e => hru e.symm
      have hqr : gq ≠ gr := fun e => hrq e.symm
      simp only [XA, XB, gateX, Nat.reduceAdd, Nat.reduceLeDiff, Nat.reduceSub, Nat.reduceMul, ↓reduceIte, Int.reduceToNat, Int.reduceLE, beq_self_eq_true, u32s_replicate]
      refine hK _ ?_
      clear hK
      refine XWP.cut (fun s => ∃ (H6 : Heap) (rs : List Nat), StIs (fun τ => [.v (.slice A (dg a).length c), .v (.slice (some ⟨q1, o1, none⟩) (dg b).length c'), τ 2, τ 3, τ 4, τ 5, τ 6, τ 7, τ 8, .v (.int .u64 (l : Int)), .v (.slice (some ⟨gu, 0, none⟩) ((dg a).length + 1) ((dg a).length + 1)), .v (.slice A7 vs.length c7), .v (.int .i64 (vs.length : Int)), .v (.slice (some ⟨gq, 0, none⟩) M M), τ 14, τ 15, τ 16, τ 17, τ 18, τ 19, τ 20, τ 21, τ 22, τ 23, τ 24, .v (.slice (some ⟨gr, 0, none⟩) vs.length vs.length), τ 26, τ 27, τ 28, τ 29, τ 30, τ 31, τ 32, τ 33, τ 34, τ 35, τ 36, τ 37, τ 38, τ 39, τ 40, τ 41, τ 42, τ 43, τ 44, τ 45, τ 46, τ 47, τ 48, τ 49, τ 50, τ 51, τ 52, τ 53, τ 54, τ 55, τ 56, τ 57, τ 58, τ 59, τ 60, τ 61, τ 62, τ 63, τ 64, τ 65, τ 66, τ 67, τ 68, τ 69, τ 70, τ 71, τ 72, τ 73, τ 74, τ 75, τ 76, τ 77, τ 78, τ 79, τ 80, τ 81, τ 82, τ 83, τ 84, τ 85, τ 86, τ 87, τ 88, τ 89, τ 90, τ 91, τ 92, τ 93, τ 94, τ 95, τ 96, τ 97, τ 98, τ 99, τ 100, τ 101, τ 102, τ 103, τ 104, τ 105, τ 106, τ 107, τ 108, τ 109, τ 110, τ 111, τ 112, τ 113, τ 114, τ 115, τ 116, τ 117, τ 118, τ 119, τ 120, τ 121, τ 122, τ 123, τ 124, τ 125, τ 126, τ 127, τ 128, τ 129, τ 130, τ 131, τ 132, τ 133, τ 134, τ 135, τ 136, τ 137, τ 138, τ 139, τ 140, τ 141, τ 142, τ 143, τ 144, τ 145, τ 146, τ 147, τ 148, τ 149, τ 150, τ 151, τ 152, τ 153, τ 154, τ 155, τ 156, τ 157, τ 158, τ 159, τ 160, τ 161, τ 162, τ 163, τ 164, τ 165, τ 166, τ 167, τ 168, τ 169, τ 170, τ 171, τ 172, τ 173, τ 174, τ 175, τ 176, τ 177, τ 178, τ 179, τ 180, τ 181, τ 182, τ 183, τ 184, τ 185, τ 186, τ 187, τ 188, τ 189, τ 190, τ 191, τ 192, τ 193, τ 194, τ 195, τ 196, τ 197, τ 198, τ 199, τ 200, τ 201, τ 202, τ 203, τ 204, τ 205, τ 206, τ 207, τ 208, τ 209, τ 210, τ 211, τ 212, τ 213, τ 214, τ 215, τ 216, τ 217, τ 218, τ 219, τ 220, τ 221, τ 222, τ 223, τ 224, τ 225, τ 226, τ 227, τ 228, τ 229, τ 230, τ 231, τ 232, τ 233, τ 234, τ 235, τ 236, τ 237, τ 238, τ 239, τ 240, τ 241, τ 242, τ 243, τ 244, τ 245, τ 246, τ 247, τ 248, τ 249, τ 250, τ 251, τ 252, τ 253, τ 254, τ 255, τ 256, τ 257, τ 258, τ 259, τ 260, τ 261, τ 262, τ 263, τ 264, τ 265, τ 266, τ 267, τ 268, τ 269, τ 270, τ 271, τ 272, τ 273, τ 274, τ 275, τ 276, τ 277, τ 278, τ 279, τ 280, τ 281, τ 282, τ 283, τ 284, τ 285, τ 286, τ 287, τ 288, τ 289, τ 290, τ 291, τ 292, τ 293, τ 294, τ 295, τ 296, τ 297, τ 298, τ 299, τ 300, τ 301, τ 302, τ 303, τ 304, τ 305, τ 306, τ 307, τ 308, τ 309, τ 310, τ 311, τ 312, τ 313, τ 314]) [] H6 V7 s ∧ H6 gu = some ⟨129, u32s us1, (dg a).length + 1⟩ ∧ H6 gq = some ⟨129, u32s qs, M⟩ ∧ H6 gr = some ⟨129, u32s rs, vs.length⟩ ∧ rs.length = vs.length ∧ Dig rs ∧ nv rs = a % b) ?_ ?_
      · first | refine XWP.reg (by kernel_rfl) fun K hK => ?_ | refine XWP.seq (XWP.reg (by kernel_rfl) fun K hK => ?_) | refine XWP.reg1 (by kernel_rfl) fun K hK => ?_
        simp only [XA, XB, gateX, Nat.reduceAdd, Nat.reduceLeDiff, Nat.reduceSub, Nat.reduceMul, ↓reduceIte, Int.reduceToNat, Int.reduceLE, beq_self_eq_true]
        refine hK _ ?_
        clear hK
        first | refine XWP.block ?_ | refine XWP.seq (XWP.block ?_)
        refine XWP.loop (fun n s => ∃ (k : Nat) (H6 : Heap) (rs : List Nat), StIs (fun τ => [.v (.slice A (dg a).length c), .v (.slice (some ⟨q1, o1, none⟩) (dg b).length c'), τ 2, τ 3, τ 4, τ 5, τ 6, τ 7, τ 8, .v (.int .u64 (l : Int)), .v (.slice (some ⟨gu, 0, none⟩) ((dg a).length + 1) ((dg a).length + 1)), .v (.slice A7 vs.length c7), .v (.int .i64 (vs.length : Int)), .v (.slice (some ⟨gq, 0, none⟩) M M), τ 14, τ 15, τ 16, τ 17, τ 18, τ 19, τ 20, τ 21, τ 22, τ 23, τ 24, .v (.slice (some ⟨gr, 0, none⟩) vs.length vs.length), τ 26, τ 27, τ 28, τ 29, τ 30, τ 31, τ 32, τ 33, τ 34, τ 35, τ 36, τ 37, τ 38, τ 39, τ 40, τ 41, τ 42, τ 43, τ 44, τ 45, τ 46, τ 47, τ 48, τ 49, τ 50, τ 51, τ 52, τ 53, τ 54, τ 55, τ 56, τ 57, τ 58, τ 59, τ 60, τ 61, τ 62, τ 63, τ 64, τ 65, τ 66, τ 67, τ 68, τ 69, τ 70, τ 71, τ 72, τ 73, τ 74, τ 75, τ 76, τ 77, τ 78, τ 79, τ 80, τ 81, τ 82, τ 83, τ 84, τ 85, τ 86, τ 87, τ 88, τ 89, τ 90, τ 91, τ 92, τ 93, τ 94, τ 95, τ 96, τ 97, τ 98, τ 99, τ 100, τ 101, τ 102, τ 103, τ 104, τ 105, τ 106, τ 107, τ 108, τ 109, τ 110, τ 111, τ 112, τ 113, τ 114, τ 115, τ 116, τ 117, τ 118, τ 119, τ 120, τ 121, τ 122, τ 123, τ 124, τ 125, τ 126, τ 127, τ 128, τ 129, τ 130, τ 131, τ 132, τ 133, τ 134, τ 135, τ 136, τ 137, τ 138, τ 139, τ 140, τ 141, τ 142, τ 143, τ 144, τ 145, τ 146, τ 147, τ 148, τ 149, τ 150, τ 151, τ 152, τ 153, τ 154, τ 155, τ 156, τ 157, τ 158, τ 159, τ 160, τ 161, τ 162, τ 163, τ 164, τ 165, τ 166, τ 167, τ 168, τ 169, τ 170, τ 171, τ 172, τ 173, τ 174, τ 175, τ 176, τ 177, τ 178, τ 179, τ 180, τ 181, τ 182, τ 183, τ 184, τ 185, τ 186, τ 187, τ 188, τ 189, τ 190, τ 191, τ 192, τ 193, τ 194, τ 195, τ 196, τ 197, τ 198, τ 199, τ 200, τ 201, τ 202, τ 203, τ 204, τ 205, τ 206, τ 207, τ 208, τ 209, τ 210, τ 211, τ 212, τ 213, τ 214, τ 215, τ 216, τ 217, τ 218, τ 219, τ 220, τ 221, τ 222, τ 223, τ 224, τ 225, τ 226, τ 227, τ 228, τ 229, τ 230, τ 231, τ 232, τ 233, τ 234, τ 235, τ 236, τ 237, τ 238, τ 239, τ 240, τ 241, τ 242, τ 243, τ 244, τ 245, τ 246, τ 247, τ 248, τ 249, τ 250, τ 251, τ 252, τ 253, τ 254, τ 255, τ 256, τ 257, τ 258, τ 259, τ 260, τ 261, τ 262, τ 263, τ 264, τ 265, τ 266, τ 267, τ 268, τ 269, τ 270, τ 271, τ 272, τ 273, τ 274, τ 275, τ 276, τ 277, τ 278, τ 279, τ 280, .v (.int .i64 (vs.length : Int)), .v (.int .i64 (k : Int)), τ 283, τ 284, τ 285, τ 286, τ 287, τ 288, τ 289, τ 290, τ 291, τ 292, τ 293, τ 294, τ 295, τ 296, τ 297, τ 298, τ 299, τ 300, τ 301, τ 302, τ 303, τ 304, τ 305, τ 306, τ 307, τ 308, τ 309, τ 310, τ 311, τ 312, τ 313, τ 314]) [] H6 V7 s ∧ n + k = vs.length ∧ H6 gu = some ⟨129, u32s us1, (dg a).length + 1⟩ ∧ H6 gq = some ⟨129, u32s qs, M⟩ ∧ H6 gr = some ⟨129, u32s rs, vs.length⟩ ∧ rs.length = vs.length ∧ Dig rs ∧ 2 ^ l * nv (rs.take k) + gd us1 0 % 2 ^ l = nv (us1.take k) + BB ^ k * (gd us1 k % 2 ^ l)) vs.length ⟨0, _, List.replicate vs.length 0, StIs.of (by exact rfl), rfl, by (simp only [upd, hur, if_false]; exact hHu), by (simp only [upd, hqr, if_false]; exact hHq), by simp only [upd_at, Nat.mul_one], by simp, Dig_replicate _, by simp [nv]⟩ ?_
        rintro n s ⟨k, H6, rs, hs, hn, hHu6, hHq6, hHr, hrl, hrd, hnv⟩
        obtain ⟨z, rfl⟩ := hs.out
        dsimp only
        first | refine XWP.reg (by kernel_rfl) fun K hK => ?_ | refine XWP.seq (XWP.reg (by kernel_rfl) fun K hK => ?_) | refine XWP.reg1 (by kernel_rfl) fun K hK => ?_
        by_cases hkn : k < vs.length
        · have b3 : decide ((k : Int) < (vs.length : Int)) = true := decide_eq_true (by omega)
          simp only [XA, XB, gateX, Nat.reduceAdd, Nat.reduceLeDiff, Nat.reduceSub, Nat.reduceMul, ↓reduceIte, Int.reduceToNat, Int.reduceLE, beq_self_eq_true, b3]
          refine hK _ ?_
          first | refine XWP.cond (t := true) rfl (fun _ => ?_) (fun h => by cases h) | refine XWP.seq (XWP.cond (t := true) rfl (fun _ => ?_) (fun h => by cases h))
          refine XWP.skip ?_
          refine XWP.seq ?_
          first | refine XWP.block ?_ | refine XWP.seq (XWP.block ?_)
          have hcx := row_cell (V := V7) hHu6 (k := k) (by omega)
          have hcy := row_cell (V := V7) hHu6 (k := k + 1) (by omega)
          have hdx : us1.getD k 0 < BB := gd_lt hud1 _
          have hdy : us1.getD (k + 1) 0 < BB := gd_lt hud1 _
          have hst := rs_step (us := us1) (rs := rs) (i := k) (s := l) (c := gd us1 0 % 2 ^ l) (by omega) hdx hdy hl31 hnv
          have ex : gd us1 k = us1.getD k 0 := rfl
          have ey : gd us1 (k + 1) = us1.getD (k + 1) 0 := rfl
          rw [ex, ey] at hst
          generalize hx : us1.getD k 0 = x at *
          generalize hy : us1.getD (k + 1) 0 = y at *
          obtain ⟨_, rd2⟩ := rsD_eq (y := y) hdx hdy hl31
          have hxs : x / 2 ^ l < BB := Nat.lt_of_le_of_lt (Nat.div_le_self _ _) hdx
          first | refine XWP.reg (by kernel_rfl) fun K hK => ?_ | refine XWP.seq (XWP.reg (by kernel_rfl) fun K hK => ?_) | refine XWP.reg1 (by kernel_rfl) fun K hK => ?_
          simp only [XA, XB, gateX, Nat.reduceAdd, Nat.reduceLeDiff, Nat.reduceSub, Nat.reduceMul, ↓reduceIte, Int.reduceToNat, Int.reduceLE, beq_self_eq_true]
          refine hK _ ?_
          first | refine XWP.reg (by kernel_rfl) fun K hK => ?_ | refine XWP.seq (XWP.reg (by kernel_rfl) fun K hK => ?_) | refine XWP.reg1 (by kernel_rfl) fun K hK => ?_
          simp only [XA, XB, gateX, Nat.reduceAdd, Nat.reduceLeDiff, Nat.reduceSub, Nat.reduceMul, ↓reduceIte, Int.reduceToNat, Int.reduceLE, beq_self_eq_true]
          refine ⟨by omega, by omega, ld_mem (loads_cell shapeT_129 hcx) ?_⟩
          simp only [XA, XB, gateX, Nat.reduceAdd, Nat.reduceLeDiff, Nat.reduceSub, Nat.reduceMul, ↓reduceIte, Int.reduceToNat, Int.reduceLE, beq_self_eq_true, bin_shr _ _ _ _ _ hl0, shrN _ _ (show l ≤ 32 by omega)]
          refine ⟨by omega, by omega, ?_⟩
          refine st_row shapeT_129 rfl rfl hHr (by rw [u32s_length]; omega) ?_
          simp only [XA, XB, gateX, Nat.reduceAdd, Nat.reduceLeDiff, Nat.reduceSub, Nat.reduceMul, ↓reduceIte, Int.reduceToNat, Int.reduceLE, beq_self_eq_true, u32s_set]
          refine hK _ ?_
          first | refine XWP.reg (by kernel_rfl) fun K hK => ?_ | refine XWP.seq (XWP.reg (by kernel_rfl) fun K hK => ?_) | refine XWP.reg1 (by kernel_rfl) fun K hK => ?_
          by_cases hl00 : l = 0
          · have b4 : decide ((0 : Int) < (l : Int)) = false := decide_eq_false (by omega)
            simp only [XA, XB, gateX, Nat.reduceAdd, Nat.reduceLeDiff, Nat.reduceSub, Nat.reduceMul, ↓reduceIte, Int.reduceToNat, Int.reduceLE, beq_self_eq_true, b4]
            refine hK _ ?_
            first | refine XWP.cond (t := false) rfl (fun h => by cases h) (fun _ => ?_) | refine XWP.seq (XWP.cond (t := false) rfl (fun h => by cases h) (fun _ => ?_))
            refine XWP.skip ?_
            have erd : rsD x y l = x / 2 ^ l := by unfold rsD; rw [if_pos hl00, Nat.add_zero]
            rw [erd] at hst
            first | refine XWP.reg (by kernel_rfl) fun K hK => ?_ | refine XWP.seq (XWP.reg (by kernel_rfl) fun K hK => ?_) | refine XWP.reg1 (by kernel_rfl) fun K hK => ?_
            simp only [XA, XB, gateX, Nat.reduceAdd, Nat.reduceLeDiff, Nat.reduceSub, Nat.reduceMul, ↓reduceIte, Int.reduceToNat, Int.reduceLE, beq_self_eq_true, i64_succ k (by omega)]
            refine hK _ ⟨n - 1, by omega, k + 1, _, rs.set k (x / 2 ^ l), StIs.of (by exact rfl), by omega, by (simp only [upd, hur, if_false]; exact hHu6), by (simp only [upd, hqr, if_false]; exact hHq6), upd_at _ _ _, by simp [hrl], Dig_set hrd _ hxs, by rw [show gd us1 (k + 1) = y from hy]; exact hst⟩
          · have b4 : decide ((0 : Int) < (l : Int)) = true := decide_eq_true (by omega)
            have hHr2 : upd H6 gr (some ⟨129, u32s (rs.set k (x / 2 ^ l)), vs.length⟩) gr = some ⟨129, u32s (rs.set k (x / 2 ^ l)), vs.length⟩ := upd_at _ _ _
            have hcz := row_cell (V := V7) hHr2 (k := k) (by rw [List.length_set]; omega)
            have hz1 : (rs.set k (x / 2 ^ l)).getD k 0 = x / 2 ^ l := by simp [hrl, hkn]
            rw [hz1] at hcz
            have hcy2 : CellAt (upd H6 gr (some ⟨129, u32s (rs.set k (x / 2 ^ l)), vs.length⟩)) V7 gu (k + 1) (.int .u32 ((y : Nat) : Int)) := by
              have : upd H6 gr (some ⟨129, u32s (rs.set k (x / 2 ^ l)), vs.length⟩) gu = some ⟨129, u32s us1, (dg a).length + 1⟩ := by simp only [upd, hur, if_false]; exact hHu6
              have := row_cell (V := V7) this (k := k + 1) (by omega)
              rw [hy] at this; exact this
            have h32 : IntKind.u64.wrap (32 - (l : Int)) = ((32 - l : Nat) : Int) := by
              have := u64_sub 32 l (by omega) (by omega)
              simpa using this
            have h320 : (0 : Int) ≤ ((32 - l : Nat) : Int) := by omega
            have hlow := rsD_low hdx hl31
            have hmo : (y * 2 ^ (32 - l) % BB) % 2 ^ (32 - l) = 0 := by
              rw [(two_split hl31).2, Nat.mod_mul_right_mod, Nat.mul_mod_left]
            have erd : rsD x y l = x / 2 ^ l + y * 2 ^ (32 - l) % BB := by unfold rsD; rw [if_neg hl00]
            rw [erd] at hst rd2
            simp only [XA, XB, gateX, Nat.reduceAdd, Nat.reduceLeDiff, Nat.reduceSub, Nat.reduceMul, ↓reduceIte, Int.reduceToNat, Int.reduceLE, beq_self_eq_true, b4]
            refine hK _ ?_
            first | refine XWP.cond (t := true) rfl (fun _ => ?_) (fun h => by cases h) | refine XWP.seq (XWP.cond (t := true) rfl (fun _ => ?_) (fun h => by cases h))
            clear hK
            (first | refine XWP.drw [0, 1, 2, 3, 4, 5, 6, 7, 8, 9, 10, 11, 12, 13, 14] (by kernel_rfl) (by kernel_rfl) (by kernel_rfl) fun K hK => ?_ | refine XWP.seq (XWP.drw [0, 1, 2, 3, 4, 5, 6, 7, 8, 9, 10, 11, 12, 13, 14] (by kernel_rfl) (by kernel_rfl) (by kernel_rfl) fun K hK => ?_) | refine XWP.drw1 [0, 1, 2, 3, 4, 5, 6, 7, 8, 9, 10, 11, 12, 13, 14] (by kernel_rfl) (by kernel_rfl) (by kernel_rfl) fun K hK => ?_) <;> dsimp only [pickOps, List.getElem?_cons_zero, List.getElem?_cons_succ]
            simp only [XA, XB, gateX, Nat.reduceAdd, Nat.reduceLeDiff, Nat.reduceSub, Nat.reduceMul, ↓reduceIte, Int.reduceToNat, Int.reduceLE, beq_self_eq_true]
            refine ⟨by omega, by omega, ld_mem (loads_cell shapeT_129 hcz) ?_⟩
            simp only [XA, XB, gateX, Nat.reduceAdd, Nat.reduceLeDiff, Nat.reduceSub, Nat.reduceMul, ↓reduceIte, Int.reduceToNat, Int.reduceLE, beq_self_eq_true, i64_succ k (by omega)]
            refine ⟨by omega, by omega, ld_mem (loads_cell shapeT_129 hcy2) ?_⟩
            simp only [XA, XB, gateX, Nat.reduceAdd, Nat.reduceLeDiff, Nat.reduceSub, Nat.reduceMul, ↓reduceIte, Int.reduceToNat, Int.reduceLE, beq_self_eq_true, h32, bin_shl _ _ _ _ _ h320, u32_shl _ _ (show 32 - l ≤ 31 by omega), or32 _ _ _ hlow hmo rd2]
            refine ⟨by omega, by omega, ?_⟩
            refine st_row shapeT_129 rfl rfl hHr2 (by rw [u32s_length, List.length_set]; omega) ?_
            simp only [XA, XB, gateX, Nat.reduceAdd, Nat.reduceLeDiff, Nat.reduceSub, Nat.reduceMul, ↓reduceIte, Int.reduceToNat, Int.reduceLE, beq_self_eq_true, u32s_set, List.set_set]
            refine hK _ ?_
            clear hK
            first | refine XWP.reg (by kernel_rfl) fun K hK => ?_ | refine XWP.seq (XWP.reg (by kernel_rfl) fun K hK => ?_) | refine XWP.reg1 (by kernel_rfl) fun K hK => ?_
            simp only [XA, XB, gateX, Nat.reduceAdd, Nat.reduceLeDiff, Nat.reduceSub, Nat.reduceMul, ↓reduceIte, Int.reduceToNat, Int.reduceLE, beq_self_eq_true, i64_succ k (by omega)]
            refine hK _ ⟨n - 1, by omega, k + 1, _, rs.set k (x / 2 ^ l + y * 2 ^ (32 - l) % BB), StIs.of (by exact rfl), by omega, by (simp only [upd, hur, if_false]; exact hHu6), by (simp only [upd, hqr, if_false]; exact hHq6), upd_at _ _ _, by simp [hrl], Dig_set hrd _ rd2, by rw [show gd us1 (k + 1) = y from hy]; exact hst⟩
        · have b3 : decide ((k : Int) < (vs.length : Int)) = false := decide_eq_false (by omega)
          obtain rfl : k = vs.length := by omega
          simp only [XA, XB, gateX, Nat.reduceAdd, Nat.reduceLeDiff, Nat.reduceSub, Nat.reduceMul, ↓reduceIte, Int.reduceToNat, Int.reduceLE, beq_self_eq_true, b3]
          refine hK _ ?_
          first | refine XWP.cond (t := false) rfl (fun h => by cases h) (fun _ => ?_) | refine XWP.seq (XWP.cond (t := false) rfl (fun h => by cases h) (fun _ => ?_))
          refine XWP.exit ?_
          exact ⟨H6, rs, StIs.of (by exact rfl), hHu6, hHq6, hHr, hrl, hrd, rs_end hl31 (Nat.mod_lt _ (Nat.two_pow_pos l)) hrl (by omega) hzn er1 hnv⟩
      · rintro s ⟨H6, rs, hs, hHu6, hHq6, hHr, hrl, hrd, hrn⟩
        obtain ⟨z, rfl⟩ := hs.out
        dsimp only
        first | refine XWP.reg (by kernel_rfl) fun K hK => ?_ | refine XWP.seq (XWP.reg (by kernel_rfl) fun K hK => ?_) | refine XWP.reg1 (by kernel_rfl) fun K hK => ?_
        simp only [XA, XB, gateX, Nat.reduceAdd, Nat.reduceLeDiff, Nat.reduceSub, Nat.reduceMul, ↓reduceIte, Int.reduceToNat, Int.reduceLE, beq_self_eq_true]
        refine call_pub gq _ hHq6 (fun o ho hle' => ?_) (by kernel_rfl) rfl
        refine call_go (by kernel_rfl) rfl (trim_any _ _ qs (NatAt.pub ho hqd hql (Nat.le_refl _) (by omega))) fun v8 V8 hV8 h8 => ?_
        simp only [XA, XB, gateX, Nat.reduceAdd, Nat.reduceLeDiff, Nat.reduceSub, Nat.reduceMul, ↓reduceIte, Int.reduceToNat, Int.reduceLE, beq_self_eq_true]
        refine call_pub gr _ (by simp only [upd, hrq, if_false]; exact hHr) (fun o2 ho2 hle2 => ?_) (by kernel_rfl) rfl
        refine call_go (by kernel_rfl) rfl (trim_any _ _ rs (NatAt.pub ho2 hrd hrl (Nat.le_refl _) (by omega))) fun v9 V9 hV9 h9 => ?_
        simp only [XA, XB, gateX, Nat.reduceAdd, Nat.reduceLeDiff, Nat.reduceSub, Nat.reduceMul, ↓reduceIte, Int.reduceToNat, Int.reduceLE, beq_self_eq_true]
        refine hK _ (XWP.ret ?_)
        try simp only [thenX_ret, inBlockX_ret]
        refine ret_go _ rfl ?_
        refine ⟨fun h => absurd h hb0, fun _ => ⟨v8, v9, rfl, ?_, ?_⟩⟩
        · rw [← eq1]; exact (h8.mono hle2).mono hV9
        · rw [← hrn]; exact h9
end Go.Proofs.Ythoboehbadmlmaa
end
section
namespace Go.Proofs.Ythoboehbadmlmaa
open Go Go.RowKit
set_option linter.unusedSimpArgs false
set_option linter.unusedVariables false
attribute [local irreducible] XWP Spec SpecO XPub XCall seqX clX apX stX ldX iaX slX
theorem Fit.mono {a b : Nat} (h : Fit b) (hl : a ≤ b) : Fit a := Nat.le_trans (sz_mono hl) h
theorem gcd_step (x y : Nat) : Nat.gcd y (x % y) = Nat.gcd x y := by rw [Nat.gcd_comm x y, Nat.gcd_rec y x, Nat.gcd_comm]
theorem gcd_c (V : View) (v u : Value) (a b : Nat) (hv : NatC V v a) (hu : NatC V u b) (fa : Fit a) (fb : Fit b) : Spec Try.prog 117 [v, u] V fun v' V' => NatC V' v' (Nat.gcd a b) := by
  obtain ⟨A0, c0, rfl, hc0, hm0⟩ := NatAt.form hv
  obtain ⟨A1, c1, rfl, hc1, hm1⟩ := NatAt.form hu
  refine (Spec.enter Try.func117 rfl fun Γ => ?_)
  simp only [Try.ntmps117, List.map_cons, List.map_nil, List.length_cons, List.length_nil, Nat.reduceAdd, Nat.reduceSub, List.replicate_succ, List.replicate_zero, List.cons_append, List.nil_append]
  first | refine XWP.reg (by kernel_rfl) fun K hK => ?_ | refine XWP.seq (XWP.reg (by kernel_rfl) fun K hK => ?_) | refine XWP.reg1 (by kernel_rfl) fun K hK => ?_
  simp only [XA, XB, gateX, Nat.reduceAdd, Nat.reduceLeDiff, Nat.reduceSub, Nat.reduceMul, ↓reduceIte, Int.reduceToNat, Int.reduceLE, beq_self_eq_true]
  refine hK _ ?_
  first | refine XWP.reg (by kernel_rfl) fun K hK => ?_ | refine XWP.seq (XWP.reg (by kernel_rfl) fun K hK => ?_) | refine XWP.reg1 (by kernel_rfl) fun K hK => ?_
  simp only [XA, XB, gateX, Nat.reduceAdd, Nat.reduceLeDiff, Nat.reduceSub, Nat.reduceMul, ↓reduceIte, Int.reduceToNat, Int.reduceLE, beq_self_eq_true]
  refine call_go (by kernel_rfl) rfl (trim_c _ _ _ hv) fun v1 V1 hV1 h1 => ?_
  simp only [XA, XB, gateX, Nat.reduceAdd, Nat.reduceLeDiff, Nat.reduceSub, Nat.reduceMul, ↓reduceIte, Int.reduceToNat, Int.reduceLE, beq_self_eq_true]
  refine call_go (by kernel_rfl) rfl (trim_c _ _ _ (hu.mono hV1)) fun v2 V2 hV2 h2 => ?_
  have h1 := h1.mono hV2
  simp only [XA, XB, gateX, Nat.reduceAdd, Nat.reduceLeDiff, Nat.reduceSub, Nat.reduceMul, ↓reduceIte, Int.reduceToNat, Int.reduceLE, beq_self_eq_true]
  refine hK _ ?_
  clear hK hc0 hc1 hm0 hm1
  refine XWP.cut (fun s => ∃ (V3 : View) (w : Value), StIs (fun τ => [.v w, τ 1, τ 2, τ 3, τ 4, τ 5, τ 6, τ 7, τ 8, τ 9, τ 10, τ 11, τ 12, τ 13, τ 14, τ 15, τ 16, τ 17, τ 18, τ 19, τ 20, τ 21, τ 22, τ 23, τ 24, τ 25]) [] (fun _ => none) V3 s ∧ NatC V3 w (Nat.gcd a b) ∧ Fit (Nat.gcd a b)) ?_ ?_
  · first | refine XWP.block ?_ | refine XWP.seq (XWP.block ?_)
    refine XWP.loop (fun n s => ∃ (V3 : View) (w z : Value) (x : Nat), StIs (fun τ => [.v w, .v z, τ 2, τ 3, τ 4, τ 5, τ 6, τ 7, τ 8, τ 9, τ 10, τ 11, τ 12, τ 13, τ 14, τ 15, τ 16, τ 17, τ 18, τ 19, τ 20, τ 21, τ 22, τ 23, τ 24, τ 25]) [] (fun _ => none) V3 s ∧ NatC V3 w x ∧ NatC V3 z n ∧ Fit x ∧ Fit n ∧ Nat.gcd x n = Nat.gcd a b) b ⟨_, _, _, a, StIs.of (by exact rfl), h1, h2, fa, fb, rfl⟩ ?_
    rintro n s ⟨V3, w, z, x, hs, hw, hz, fx, fn, hg⟩
    obtain ⟨u, rfl⟩ := hs.out
    try dsimp only
    obtain ⟨A, c, rfl, hc, hm⟩ := NatAt.form hz
    first | refine XWP.reg (by kernel_rfl) fun K hK => ?_ | refine XWP.seq (XWP.reg (by kernel_rfl) fun K hK => ?_) | refine XWP.reg1 (by kernel_rfl) fun K hK => ?_
    by_cases hn : n = 0
    · subst hn
      have b0 : decide ((0 : Int) < ((dg 0).length : Int)) = false := decide_eq_false (by rw [dg_zero]; simp)
      simp only [XA, XB, gateX, Nat.reduceAdd, Nat.reduceLeDiff, Nat.reduceSub, Nat.reduceMul, ↓reduceIte, Int.reduceToNat, Int.reduceLE, beq_self_eq_true, b0]
      refine hK _ ?_
      first | refine XWP.cond (t := false) rfl (fun h => by cases h) (fun _ => ?_) | refine XWP.seq (XWP.cond (t := false) rfl (fun h => by cases h) (fun _ => ?_))
      refine XWP.exit ?_
      rw [Nat.gcd_zero_right] at hg
      exact ⟨V3, _, StIs.of (by exact rfl), hg ▸ hw, hg ▸ fx⟩
    · have hsz := sz_pos hn
      unfold sz at hsz
      have b0 : decide ((0 : Int) < ((dg n).length : Int)) = true := decide_eq_true (by omega)
      simp only [XA, XB, gateX, Nat.reduceAdd, Nat.reduceLeDiff, Nat.reduceSub, Nat.reduceMul, ↓reduceIte, Int.reduceToNat, Int.reduceLE, beq_self_eq_true, b0]
      refine hK _ ?_
      first | refine XWP.cond (t := true) rfl (fun _ => ?_) (fun h => by cases h) | refine XWP.seq (XWP.cond (t := true) rfl (fun _ => ?_) (fun h => by cases h))
      refine XWP.skip ?_
      first | refine XWP.block ?_ | refine XWP.seq (XWP.block ?_)
      first | refine XWP.reg (by kernel_rfl) fun K hK => ?_ | refine XWP.seq (XWP.reg (by kernel_rfl) fun K hK => ?_) | refine XWP.reg1 (by kernel_rfl) fun K hK => ?_
      simp only [XA, XB, gateX, Nat.reduceAdd, Nat.reduceLeDiff, Nat.reduceSub, Nat.reduceMul, ↓reduceIte, Int.reduceToNat, Int.reduceLE, beq_self_eq_true]
      refine call_go (by kernel_rfl) rfl (div_c _ _ _ _ _ hw hz fx fn) fun v4 V4 hV4 h4 => ?_
      obtain ⟨q, r, rfl, hq, hr⟩ := h4.2 hn
      simp only [XA, XB, gateX, Nat.reduceAdd, Nat.reduceLeDiff, Nat.reduceSub, Nat.reduceMul, ↓reduceIte, Int.reduceToNat, Int.reduceLE, beq_self_eq_true]
      refine hK _ ?_
      first | refine XWP.reg (by kernel_rfl) fun K hK => ?_ | refine XWP.seq (XWP.reg (by kernel_rfl) fun K hK => ?_) | refine XWP.reg1 (by kernel_rfl) fun K hK => ?_
      simp only [XA, XB, gateX, Nat.reduceAdd, Nat.reduceLeDiff, Nat.reduceSub, Nat.reduceMul, ↓reduceIte, Int.reduceToNat, Int.reduceLE, beq_self_eq_true]
      have hlt := Nat.mod_lt x (Nat.pos_of_ne_zero hn)
      exact hK _ ⟨x % n, hlt, _, _, _, n, StIs.of (by exact rfl), hz.mono hV4, hr, fn, fn.mono (Nat.le_of_lt hlt), by rw [gcd_step, hg]⟩
  · rintro s ⟨V3, w, hs, hw, fg⟩
    obtain ⟨u, rfl⟩ := hs.out
    try dsimp only
    have := fg.len
    first | refine XWP.reg (by kernel_rfl) fun K hK => ?_ | refine XWP.seq (XWP.reg (by kernel_rfl) fun K hK => ?_) | refine XWP.reg1 (by kernel_rfl) fun K hK => ?_
    simp only [XA, XB, gateX, Nat.reduceAdd, Nat.reduceLeDiff, Nat.reduceSub, Nat.reduceMul, ↓reduceIte, Int.reduceToNat, Int.reduceLE, beq_self_eq_true]
    refine call_go (by kernel_rfl) rfl (clone_at _ _ _ hw (by omega)) fun v4 V4 hV4 h4 => ?_
    simp only [XA, XB, gateX, Nat.reduceAdd, Nat.reduceLeDiff, Nat.reduceSub, Nat.reduceMul, ↓reduceIte, Int.reduceToNat, Int.reduceLE, beq_self_eq_true]
    refine hK _ (XWP.ret ?_)
    try simp only [thenX_ret, inBlockX_ret]
    refine ret_go _ rfl ?_
    exact h4
end Go.Proofs.Ythoboehbadmlmaa
end
