/- the total variation distance of two distributions (part 4 of 12) -/
import Derived.OrdersHeld
import Derived.Below
import Derived.Tactics
import Derived.KernelRfl
import Derived.RangeFuncCalls
import Derived.RangeFuncFrom
import Derived.RangeFuncLeaves
import Derived.OrdersIn
import Derived.Laws.AppendOwn
import Derived.Laws.MakeOwn
import Derived.Laws.CopyRow
import Derived.Laws.Cells
import Derived.Laws.World
import Derived.Laws.Alloc2
import Derived.Laws.NewBlocks
import Derived.Maps.AppendAt
import Derived.Test.YtkgmicakfmllmaaProg
import Init.Data.List.Lemmas
import Init.Omega
import Derived.Test.YtkgmicakfmllmaaAP3
section
namespace Go.Proofs.Ytkgmicakfmllmaa
set_option linter.unusedVariables false
theorem two_split {s : Nat} (hs : s ≤ 31) : BB = 2 ^ s * 2 ^ (32 - s) ∧ BB = 2 ^ (32 - s) * 2 ^ s := by
  have h : BB = 2 ^ s * 2 ^ (32 - s) := by rw [← Nat.pow_add, show s + (32 - s) = 32 from by omega]; rfl
  exact ⟨h, by rw [Nat.mul_comm]; exact h⟩
def rsD (x y s : Nat) : Nat := x / 2 ^ s + (if s = 0 then 0 else y * 2 ^ (32 - s) % BB)
theorem rsD_low {x s : Nat} (hx : x < BB) (hs : s ≤ 31) : x / 2 ^ s < 2 ^ (32 - s) := by
  refine Nat.div_lt_of_lt_mul ?_
  rw [← (two_split hs).1]; exact hx
theorem rsD_eq {x y s : Nat} (hx : x < BB) (hy : y < BB) (hs : s ≤ 31) : 2 ^ s * rsD x y s + x % 2 ^ s = x + BB * (y % 2 ^ s) ∧ rsD x y s < BB := by
  have hm := Nat.div_add_mod x (2 ^ s)
  have hl := rsD_low hx hs
  unfold rsD
  by_cases h0 : s = 0
  · subst h0
    simp only [if_true, Nat.add_zero, Nat.pow_zero, Nat.mod_one, Nat.div_one, Nat.mul_zero]
    omega
  · rw [if_neg h0]
    have e : y * 2 ^ (32 - s) % BB = y % 2 ^ s * 2 ^ (32 - s) := by
      rw [(two_split hs).1, Nat.mul_mod_mul_right]
    rw [e]
    have hp : 0 < 2 ^ s := Nat.pow_pos (by omega)
    have hy2 : y % 2 ^ s + 1 ≤ 2 ^ s := Nat.mod_lt _ hp
    have hy3 : (y % 2 ^ s + 1) * 2 ^ (32 - s) ≤ 2 ^ s * 2 ^ (32 - s) := Nat.mul_le_mul_right _ hy2
    rw [← (two_split hs).1, Nat.add_mul, Nat.one_mul] at hy3
    refine ⟨?_, by omega⟩
    rw [Nat.mul_add, Nat.mul_comm (y % 2 ^ s), ← Nat.mul_assoc, ← (two_split hs).1]
    omega
theorem rs_step {us rs : List Nat} {i s c : Nat} (hl : i < rs.length) (hx : gd us i < BB) (hy : gd us (i + 1) < BB) (hs : s ≤ 31) (h : 2 ^ s * nv (rs.take i) + c = nv (us.take i) + BB ^ i * (gd us i % 2 ^ s)) :
    2 ^ s * nv ((rs.set i (rsD (gd us i) (gd us (i + 1)) s)).take (i + 1)) + c = nv (us.take (i + 1)) + BB ^ (i + 1) * (gd us (i + 1) % 2 ^ s) := by
  obtain ⟨e, _⟩ := rsD_eq hx hy hs
  have e2 := congrArg (fun z => BB ^ i * z) e
  simp only [Nat.mul_add] at e2
  have t1 : (rs.set i (rsD (gd us i) (gd us (i + 1)) s)).take (i + 1) = rs.take i ++ [rsD (gd us i) (gd us (i + 1)) s] := by
    rw [List.take_succ_eq_append_getElem (by simpa using hl)]
    simp [List.take_set_of_le]
  rw [t1, nv_snoc, List.length_take, Nat.min_eq_left (by omega), nv_take_gd, Nat.pow_succ, Nat.mul_add, Nat.mul_assoc (BB ^ i) BB]
  rw [Nat.mul_left_comm (2 ^ s)]
  omega
theorem div_end {a b Q R p : Nat} (hp : 0 < p) (hb : 0 < b) (h : a * p = Q * (b * p) + R) (hR : R < b * p) : Q = a / b ∧ R = a % b * p := by
  have h1 : Q * (b * p) = Q * b * p := by rw [Nat.mul_assoc]
  have hQ : Q * b ≤ a := by
    refine Nat.le_of_mul_le_mul_right (c := p) ?_ hp
    omega
  obtain ⟨r, rfl⟩ : ∃ r, a = Q * b + r := ⟨a - Q * b, by omega⟩
  rw [Nat.add_mul] at h
  have hr : r * p = R := by omega
  have hrb : r < b := by
    refine Nat.lt_of_mul_lt_mul_right (a := p) ?_
    omega
  have e1 : (Q * b + r) / b = Q := by rw [Nat.mul_comm Q, Nat.mul_add_div hb, Nat.div_eq_of_lt hrb, Nat.add_zero]
  have e2 : (Q * b + r) % b = r := by rw [Nat.mul_comm Q, Nat.mul_add_mod, Nat.mod_eq_of_lt hrb]
  rw [e1, e2, hr]; exact ⟨rfl, rfl⟩
theorem rs_end {us rs : List Nat} {n s c r : Nat} (hs : s ≤ 31) (hc : c < 2 ^ s) (hl : rs.length = n) (hn : n < us.length) (hz : nv (us.drop n) = 0) (hU : nv us = r * 2 ^ s) (h : 2 ^ s * nv (rs.take n) + c = nv (us.take n) + BB ^ n * (gd us n % 2 ^ s)) : nv rs = r := by
  have e1 : gd us n = 0 := by
    have := nv_drop us n hn
    rw [hz] at this
    rw [gd_get hn]; omega
  rw [e1, Nat.zero_mod, Nat.mul_zero, Nat.add_zero, List.take_of_length_le (by omega)] at h
  have h2 := nv_split us n (by omega)
  rw [hz, Nat.mul_zero, Nat.add_zero] at h2
  rw [← h2, hU, Nat.mul_comm r] at h
  have hp : 0 < 2 ^ s := Nat.pow_pos (by omega)
  have h3 : nv rs = (2 ^ s * nv rs + c) / 2 ^ s := by rw [Nat.mul_add_div hp, Nat.div_eq_of_lt hc, Nat.add_zero]
  rw [h3, h, Nat.mul_div_cancel_left _ hp]
/-- the divisor, shifted, has as many digits as before -/
theorem shift_sz {b s x : Nat} (hb : b ≠ 0) (hx : x = (dg b).getD (sz b - 1) 0) (h : x * 2 ^ s < BB) (hs : s ≤ 31) : sz (b * 2 ^ s) = sz b ∧ BB ^ (sz b - 1) ≤ b := by
  have h1 := le_sz hb
  have hp : 0 < 2 ^ s := Nat.pow_pos (by omega)
  have hsz := sz_pos hb
  refine ⟨?_, h1⟩
  have hle : sz b ≤ sz (b * 2 ^ s) := sz_mono (Nat.le_mul_of_pos_right _ hp)
  have hlt : b * 2 ^ s < BB ^ sz b := by
    have e := nv_take_gd (dg b) (sz b - 1)
    rw [show sz b - 1 + 1 = sz b by omega] at e
    have e2 : (dg b).take (sz b) = dg b := List.take_length
    rw [e2, nv_dg] at e
    have hg : gd (dg b) (sz b - 1) = x := hx.symm
    rw [hg] at e
    have h3 := nv_take_lt (Dig_dg b) (sz b - 1)
    have h4 : b < BB ^ (sz b - 1) * (x + 1) := by rw [Nat.mul_add]; omega
    have h5 : b * 2 ^ s < BB ^ (sz b - 1) * (x + 1) * 2 ^ s := Nat.mul_lt_mul_of_pos_right h4 hp
    have h6 : (x + 1) * 2 ^ s ≤ BB := by
      rw [(two_split hs).2]
      refine Nat.mul_le_mul_right _ ?_
      refine Nat.lt_of_mul_lt_mul_right (a := 2 ^ s) ?_
      rw [← (two_split hs).2]; exact h
    have h7 : BB ^ (sz b - 1) * ((x + 1) * 2 ^ s) ≤ BB ^ (sz b - 1) * BB := Nat.mul_le_mul_left _ h6
    rw [← Nat.mul_assoc, ← Nat.pow_succ, show (sz b - 1).succ = sz b by omega] at h7
    omega
  have := sz_le hlt
  omega
/-- the first digits of the dividend are less than the divisor -/
theorem first_lt {us : List Nat} {a b s : Nat} (hb : b ≠ 0) (hle : sz b ≤ sz a) (hl : us.length = sz a + 1) (hU : nv us = a * 2 ^ s) : nv (us.drop (sz a + 1 - sz b)) < b * 2 ^ s := by
  have hp : 0 < 2 ^ s := Nat.pow_pos (by omega)
  have h1 := le_sz hb
  have hsz := sz_pos hb
  have h2 := lt_sz a
  have h3 := nv_split us (sz a + 1 - sz b) (by omega)
  refine Nat.lt_of_mul_lt_mul_left (a := BB ^ (sz a + 1 - sz b)) ?_
  have h4 : BB ^ sz a ≤ BB ^ (sz a + 1 - sz b) * b := by
    have : BB ^ (sz a + 1 - sz b) * BB ^ (sz b - 1) ≤ BB ^ (sz a + 1 - sz b) * b := Nat.mul_le_mul_left _ h1
    rw [← Nat.pow_add, show sz a + 1 - sz b + (sz b - 1) = sz a by omega] at this
    exact this
  have h5 : a * 2 ^ s < BB ^ (sz a + 1 - sz b) * b * 2 ^ s := Nat.mul_lt_mul_of_pos_right (by omega) hp
  rw [Nat.mul_assoc] at h5
  omega
end Go.Proofs.Ytkgmicakfmllmaa
end
section
namespace Go.Proofs.Ytkgmicakfmllmaa
set_option linter.unusedVariables false
theorem knuth {l vs : List Nat} {j m q v1 v2 u0 u1 u2 : Nat} (hvl : vs.length = m + 2) (hj : j + (m + 2) < l.length) (hd : Dig l) (hv : Dig vs) (e1 : v1 = gd vs (m + 1)) (e2 : v2 = gd vs m) (e3 : u0 = gd l (j + (m + 2))) (e4 : u1 = gd l (j + (m + 1))) (e5 : u2 = gd l (j + m)) (h0 : 0 < v1)
    (hlt : nv (l.drop (j + 1)) < nv vs) (hq : q = nv (l.drop j) / nv vs) :
    q ≤ (u0 * BB + u1) / v1 ∧ q < BB ∧ u0 ≤ v1 ∧ (∀ g rest, q ≤ g → g * v1 + rest = u0 * BB + u1 → rest * BB + u2 < g * v2 → q + 1 ≤ g) ∧
      (∀ g rest, g < BB → g * v1 + rest = u0 * BB + u1 → g * v2 ≤ rest * BB + u2 → g ≤ q + 1) ∧ v1 < BB ∧ v2 < BB ∧ u0 < BB ∧ u1 < BB ∧ u2 < BB := by
  have hz := above_zero hd hv hlt
  have hw := window (l := l) (vs := vs) (j := j) (by omega) hz
  rw [hvl] at hw
  have dv : nv vs = (v1 * BB + v2) * BB ^ m + nv (vs.take m) := by
    have := top2 vs m
    rw [← hvl, List.take_length] at this
    rw [this, e1, e2]
  have dv1 : nv vs = v1 * BB ^ (m + 1) + nv (vs.take (m + 1)) := by
    have := nv_take_gd vs (m + 1)
    rw [show m + 1 + 1 = vs.length by omega, List.take_length] at this
    rw [this, e1, Nat.mul_comm (BB ^ (m + 1))]; omega
  have dU : nv (l.drop j) = ((u0 * BB + u1) * BB + u2) * BB ^ m + nv ((l.drop j).take m) := by
    rw [hw, top3, gd_drop, gd_drop, gd_drop, e3, e4, e5]
  have dU1 : nv (l.drop j) = (u0 * BB + u1) * BB ^ (m + 1) + nv ((l.drop j).take (m + 1)) := by
    rw [hw, show m + 2 + 1 = m + 1 + 2 by omega, top2, gd_drop, gd_drop, e3, e4]
  have hqB : q < BB := hq ▸ digit_lt (by omega) hd hlt
  have hqU : q * nv vs ≤ nv (l.drop j) := by
    have := Nat.div_mul_le_self (nv (l.drop j)) (nv vs)
    rw [hq]; exact this
  have hv0 : 0 < nv vs := Nat.lt_of_le_of_lt (Nat.zero_le _) hlt
  have hUq : nv (l.drop j) < (q + 1) * nv vs := by
    have := Nat.lt_mul_div_succ (nv (l.drop j)) hv0
    rw [← hq] at this
    rw [Nat.mul_comm]; exact this
  have hdd := Dig_drop hd j
  have hu0 : u0 ≤ v1 := by
    have a1 : (q + 1) * nv vs ≤ BB * nv vs := Nat.mul_le_mul_right _ hqB
    have a2 : nv vs < (v1 + 1) * BB ^ (m + 1) := by have := nv_take_lt hv (m + 1); rw [Nat.add_mul]; omega
    have a3 : BB * nv vs < BB * ((v1 + 1) * BB ^ (m + 1)) := Nat.mul_lt_mul_of_pos_left a2 BB_pos
    have a4 : u0 * BB * BB ^ (m + 1) < (v1 + 1) * BB * BB ^ (m + 1) := by
      have b1 : BB * ((v1 + 1) * BB ^ (m + 1)) = (v1 + 1) * BB * BB ^ (m + 1) := by rw [← Nat.mul_assoc, Nat.mul_comm BB]
      have b2 : u0 * BB * BB ^ (m + 1) ≤ (u0 * BB + u1) * BB ^ (m + 1) := Nat.mul_le_mul_right _ (Nat.le_add_right _ _)
      rw [← b1]
      omega
    have a5 := Nat.lt_of_mul_lt_mul_right a4
    have a6 := Nat.lt_of_mul_lt_mul_right a5
    omega
  refine ⟨guess_hi (pow_pos' (m + 1)) h0 dv1 dU1 (nv_take_lt hdd _) hqU, hqB, hu0, fun g rest hg hr ht => guess_dec (pow_pos' m) dv dU (nv_take_lt hdd _) hqU hg hr ht, fun g rest hgB hr ht => guess_end (pow_pos' m) h0 dv (nv_take_lt hv _) dU hUq hgB hr ht, e1 ▸ gd_lt hv _, e2 ▸ gd_lt hv _, e3 ▸ gd_lt hd _, e4 ▸ gd_lt hd _, e5 ▸ gd_lt hd _⟩
/-- A product of digits has room. -/
theorem dig_mul {g v : Nat} (hg : g < BB) (hv : v < BB) : g * v < 18446744073709551616 := by
  have h1 : g * v ≤ 4294967295 * 4294967295 := Nat.mul_le_mul (by unfold BB at hg; omega) (by unfold BB at hv; omega)
  omega
theorem dig_mulc {c g v : Nat} (hc : c < BB) (hg : g < BB) (hv : v < BB) : c + g * v < 18446744073709551616 ∧ (c + g * v) / BB < BB := by
  have h1 : g * v ≤ 4294967295 * 4294967295 := Nat.mul_le_mul (by unfold BB at hg; omega) (by unfold BB at hv; omega)
  unfold BB at *; omega
theorem set_drop (l : List Nat) {i m : Nat} (x : Nat) (h : i < m) : (l.set i x).drop m = l.drop m := List.drop_set_of_lt h
theorem set_take (l : List Nat) {i m : Nat} (x : Nat) (h : m ≤ i) : (l.set i x).take m = l.take m := List.take_set_of_le h
theorem drop_more {l l' : List Nat} {k m : Nat} (h : l.drop k = l'.drop k) (hm : k ≤ m) : l.drop m = l'.drop m := by
  obtain ⟨d, rfl⟩ : ∃ d, m = k + d := ⟨m - k, by omega⟩
  rw [← List.drop_drop, ← List.drop_drop, h]
theorem mulsub_last {l vs : List Nat} {U0 j n g y : Nat} (hi : j + n < l.length) (hd : Dig l) (hy : y ≤ BB) (h : nv l + BB ^ j * (g * nv vs) = U0 + BB ^ (j + n) * y) :
    nv (l.set (j + n) (subD (l.getD (j + n) 0) y)) + BB ^ j * (g * nv vs) = U0 + BB ^ (j + n + 1) * subB (l.getD (j + n) 0) y := by
  have hx : l.getD (j + n) 0 < BB := gd_lt hd (j + n)
  obtain ⟨e1, _, _⟩ := subD_eq hx hy
  have hs := nv_set l (j + n) (subD (l.getD (j + n) 0) y) hi
  rw [Nat.pow_succ, Nat.mul_assoc]
  have e2 := congrArg (fun z => BB ^ (j + n) * z) e1
  simp only [Nat.mul_add] at e2
  generalize BB ^ (j + n) = P at *
  generalize nv (l.set (j + n) (subD (l.getD (j + n) 0) y)) = A at *
  generalize subD (l.getD (j + n) 0) y = D at *
  generalize subB (l.getD (j + n) 0) y = E at *
  generalize BB ^ j * (g * nv vs) = G at *
  omega
theorem addback_last {l vs : List Nat} {U0 j n c : Nat} (hi : j + n < l.length) (h : nv l + BB ^ (j + n) * c = U0 + BB ^ j * nv vs) :
    nv (l.set (j + n) ((l.getD (j + n) 0 + c) % BB)) + BB ^ (j + n + 1) * ((l.getD (j + n) 0 + c) / BB) = U0 + BB ^ j * nv vs := by
  have hs := nv_set l (j + n) ((l.getD (j + n) 0 + c) % BB) hi
  have e1 := Nat.mod_add_div (l.getD (j + n) 0 + c) BB
  rw [Nat.pow_succ, Nat.mul_assoc]
  have e2 := congrArg (fun z => BB ^ (j + n) * z) e1
  simp only [Nat.mul_add] at e2
  generalize BB ^ (j + n) = P at *
  generalize nv (l.set (j + n) ((l.getD (j + n) 0 + c) % BB)) = A at *
  generalize BB ^ j * nv vs = G at *
  omega
end Go.Proofs.Ytkgmicakfmllmaa
end
section
namespace Go.Proofs.Ytkgmicakfmllmaa
open Go Go.RowKit
set_option linter.unusedSimpArgs false
set_option linter.unusedVariables false
attribute [local irreducible] XWP Spec SpecO XPub XCall seqX clX apX stX ldX iaX slX
theorem and_mask (t : Nat) (h : t < 18446744073709551616) : andI .u64 (t : Int) 4294967295 = ((t % BB : Nat) : Int) := by
  show IntKind.u64.wrap (((BitVec.ofInt 64 (t : Int) &&& BitVec.ofInt 64 4294967295).toNat : Nat) : Int) = _
  have e0 : (4294967295 : Int) = ((4294967295 : Nat) : Int) := rfl
  have e3 : (BitVec.ofNat 64 t &&& BitVec.ofNat 64 4294967295).toNat = t % BB := by
    rw [BitVec.toNat_and, BitVec.toNat_ofNat, BitVec.toNat_ofNat, Nat.mod_eq_of_lt (by omega), Nat.mod_eq_of_lt (by omega)]
    have : (4294967295 : Nat) = 2 ^ 32 - 1 := rfl
    rw [this, Nat.and_two_pow_sub_one_eq_mod]; rfl
  have hm := Nat.mod_lt t BB_pos
  unfold BB at *
  rw [e0, BitVec.ofInt_natCast, BitVec.ofInt_natCast, e3]
  exact w64_id (by omega) (by omega)
theorem sub_last (x y : Nat) (hx : x < BB) (hy : y ≤ BB) : IntKind.u32.wrap (IntKind.u64.wrap ((x : Int) - (y : Int))) = ((subD x y : Nat) : Int) := by
  obtain ⟨_, h2, _⟩ := subD_eq hx hy
  unfold subD at *
  by_cases h : x < y
  · rw [if_pos h] at *
    have e : IntKind.u64.wrap ((x : Int) - (y : Int)) = ((x + 18446744073709551616 - y : Nat) : Int) := by
      unfold BB at *
      simp [IntKind.wrap, IntKind.bits, IntKind.signed]; omega
    rw [e, w32_mod]
    unfold BB at *
    omega
  · rw [if_neg h] at *
    have e : IntKind.u64.wrap ((x : Int) - (y : Int)) = ((x - y : Nat) : Int) := by
      unfold BB at *
      rw [w64_id (by omega) (by omega)]; omega
    rw [e, w32_mod, Nat.mod_eq_of_lt h2]
theorem u64_sub (a b : Nat) (h : b ≤ a) (h2 : a < 18446744073709551616) : IntKind.u64.wrap ((a : Int) - (b : Int)) = ((a - b : Nat) : Int) := by
  rw [w64_id (by omega) (by omega)]; omega
theorem i64_sub (a b : Nat) (h : b ≤ a) (h2 : a ≤ 9223372036854775807) : IntKind.i64.wrap ((a : Int) - (b : Int)) = ((a - b : Nat) : Int) := by
  rw [wrap_id (by omega) (by omega)]; omega
theorem sub_mid (x y : Nat) (hx : x < BB) (hy : y ≤ BB) : IntKind.u32.wrap (IntKind.u64.wrap (IntKind.u64.wrap ((x : Int) + ((subB x y * BB : Nat) : Int)) - (y : Int))) = ((subD x y : Nat) : Int) := by
  obtain ⟨h1, h2⟩ := sub_digit x y (subB x y) hx hy rfl
  rw [h1, h2]; rfl

theorem i64_pred (n : Nat) (h : 1 ≤ n) (h2 : n ≤ 9223372036854775807) : IntKind.i64.wrap ((n : Int) - 1) = ((n - 1 : Nat) : Int) := by
  rw [wrap_id (by omega) (by omega)]; omega
theorem i64_sub2 (n : Nat) (h : 2 ≤ n) (h2 : n ≤ 9223372036854775807) : IntKind.i64.wrap ((n : Int) - 2) = ((n - 2 : Nat) : Int) := by
  rw [wrap_id (by omega) (by omega)]; omega
theorem u64_small (n : Nat) (h : n < 18446744073709551616) : IntKind.u64.wrap (n : Int) = (n : Int) := w64_id (by omega) (by omega)

set_option maxRecDepth 100000 in
set_option maxHeartbeats 0 in
/-- The divisor is 0, greater than the dividend, or has one digit; else the long way. -/
theorem div_c (V : View) (v u : Value) (a b : Nat) (hv : NatC V v a) (hu : NatC V u b) (fa : Fit a) (fb : Fit b) : Spec Try.prog 115 [v, u] V fun v' V' => (b = 0 → v' = .tuple #[.slice none 0 0, .slice none 0 0, .int .i64 31]) ∧ (b ≠ 0 → ∃ q r, v' = .tuple #[q, r, .int .i64 0] ∧ NatC V' q (a / b) ∧ NatC V' r (a % b)) := by
  obtain ⟨A0, c0, rfl, hc0, hm0⟩ := NatAt.form hv
  obtain ⟨A1, c1, rfl, hc1, hm1⟩ := NatAt.form hu
  refine (Spec.enter Try.func115 rfl fun Γ => ?_)
  simp only [Try.ntmps115, List.map_cons, List.map_nil, List.length_cons, List.length_nil, Nat.reduceAdd, Nat.reduceSub, List.replicate_succ, List.replicate_zero, List.cons_append, List.nil_append]
  first | refine Gx.a (by kernel_rfl) fun K hK => ?_ | refine Gx.b (by kernel_rfl) fun K hK => ?_ | refine Gx.c (by kernel_rfl) fun K hK => ?_
  simp only [XA, XB, gateX, Nat.reduceAdd, Nat.reduceLeDiff, Nat.reduceSub, Nat.reduceMul, ↓reduceIte, Int.reduceToNat, Int.reduceLE, beq_self_eq_true]
  refine hK _ ?_
  first | refine Gx.a (by kernel_rfl) fun K hK => ?_ | refine Gx.b (by kernel_rfl) fun K hK => ?_ | refine Gx.c (by kernel_rfl) fun K hK => ?_
  simp only [XA, XB, gateX, Nat.reduceAdd, Nat.reduceLeDiff, Nat.reduceSub, Nat.reduceMul, ↓reduceIte, Int.reduceToNat, Int.reduceLE, beq_self_eq_true]
  refine call_go (by kernel_rfl) rfl (trim_c _ _ _ hv) fun v1 V1 hV1 h1 => ?_
  obtain ⟨A, c, rfl, hc, hm⟩ := NatAt.form h1
  simp only [XA, XB, gateX, Nat.reduceAdd, Nat.reduceLeDiff, Nat.reduceSub, Nat.reduceMul, ↓reduceIte, Int.reduceToNat, Int.reduceLE, beq_self_eq_true]
  refine call_go (by kernel_rfl) rfl (trim_c _ _ _ (hu.mono hV1)) fun v2 V2 hV2 h2 => ?_
  obtain ⟨A', c', rfl, hc', hm'⟩ := NatAt.form h2
  have h1 := h1.mono hV2
  have la := fa.len
  have lb := fb.len
  clear hv hu hc0 hc1 hm0 hm1
  simp only [XA, XB, gateX, Nat.reduceAdd, Nat.reduceLeDiff, Nat.reduceSub, Nat.reduceMul, ↓reduceIte, Int.reduceToNat, Int.reduceLE, beq_self_eq_true]
  refine hK _ ?_
  clear hK
  refine XWP.cut (fun s => ∃ V3, StIs (fun Z => [.v (.slice A (dg a).length c), .v (.slice A' (dg b).length c'), Z 2,Z 3,Z 4,Z 5,Z 6,Z 7,Z 8,Z 9,Z 10,Z 11,Z 12,Z 13,Z 14,Z 15,Z 16,Z 17,Z 18,Z 19,Z 20,Z 21,Z 22,Z 23,Z 24,Z 25,Z 26,Z 27,Z 28,Z 29,Z 30,Z 31,Z 32,Z 33,Z 34,Z 35,Z 36,Z 37,Z 38,Z 39,Z 40,Z 41,Z 42,Z 43,Z 44,Z 45,Z 46,Z 47,Z 48,Z 49,Z 50,Z 51,Z 52,Z 53,Z 54,Z 55,Z 56,Z 57,Z 58,Z 59,Z 60,Z 61,Z 62,Z 63,Z 64,Z 65,Z 66,Z 67,Z 68,Z 69,Z 70,Z 71,Z 72,Z 73,Z 74,Z 75,Z 76,Z 77,Z 78,Z 79,Z 80,Z 81,Z 82,Z 83,Z 84,Z 85,Z 86,Z 87,Z 88,Z 89,Z 90,Z 91,Z 92,Z 93,Z 94,Z 95,Z 96,Z 97,Z 98,Z 99,Z 100,Z 101,Z 102,Z 103,Z 104,Z 105,Z 106,Z 107,Z 108,Z 109,Z 110,Z 111,Z 112,Z 113,Z 114,Z 115,Z 116,Z 117,Z 118,Z 119,Z 120,Z 121,Z 122,Z 123,Z 124,Z 125,Z 126,Z 127,Z 128,Z 129,Z 130,Z 131,Z 132,Z 133,Z 134,Z 135,Z 136,Z 137,Z 138,Z 139,Z 140,Z 141,Z 142,Z 143,Z 144,Z 145,Z 146,Z 147,Z 148,Z 149,Z 150,Z 151,Z 152,Z 153,Z 154,Z 155,Z 156,Z 157,Z 158,Z 159,Z 160,Z 161,Z 162,Z 163,Z 164,Z 165,Z 166,Z 167,Z 168,Z 169,Z 170,Z 171,Z 172,Z 173,Z 174,Z 175,Z 176,Z 177,Z 178,Z 179,Z 180,Z 181,Z 182,Z 183,Z 184,Z 185,Z 186,Z 187,Z 188,Z 189,Z 190,Z 191,Z 192,Z 193,Z 194,Z 195,Z 196,Z 197,Z 198,Z 199,Z 200,Z 201,Z 202,Z 203,Z 204,Z 205,Z 206,Z 207,Z 208,Z 209,Z 210,Z 211,Z 212,Z 213,Z 214,Z 215,Z 216,Z 217,Z 218,Z 219,Z 220,Z 221,Z 222,Z 223,Z 224,Z 225,Z 226,Z 227,Z 228,Z 229,Z 230,Z 231,Z 232,Z 233,Z 234,Z 235,Z 236,Z 237,Z 238,Z 239,Z 240,Z 241,Z 242,Z 243,Z 244,Z 245,Z 246,Z 247,Z 248,Z 249,Z 250,Z 251,Z 252,Z 253,Z 254,Z 255,Z 256,Z 257,Z 258,Z 259,Z 260,Z 261,Z 262,Z 263,Z 264,Z 265,Z 266,Z 267,Z 268,Z 269,Z 270,Z 271,Z 272,Z 273,Z 274,Z 275,Z 276,Z 277,Z 278,Z 279,Z 280,Z 281,Z 282,Z 283,Z 284,Z 285,Z 286,Z 287,Z 288,Z 289,Z 290,Z 291,Z 292,Z 293,Z 294,Z 295,Z 296,Z 297,Z 298,Z 299,Z 300,Z 301,Z 302,Z 303,Z 304,Z 305,Z 306,Z 307,Z 308,Z 309,Z 310,Z 311,Z 312,Z 313,Z 314]) [] (fun _ => none) V3 s ∧ NatC V3 (.slice A (dg a).length c) a ∧ NatC V3 (.slice A' (dg b).length c') b ∧ b ≠ 0 ∧ b ≤ a ∧ 2 ≤ (dg b).length) ?_ ?_
  ·
    --{
    first | refine XWP.block ?_ | refine XWP.seq (XWP.block ?_)
    first | refine Gx.a (by kernel_rfl) fun K hK => ?_ | refine Gx.b (by kernel_rfl) fun K hK => ?_ | refine Gx.c (by kernel_rfl) fun K hK => ?_
    by_cases hb0 : b = 0
    · subst hb0
      have b0 : decide (((dg 0).length : Int) = 0) = true := decide_eq_true (by rw [dg_zero]; rfl)
      simp only [XA, XB, gateX, Nat.reduceAdd, Nat.reduceLeDiff, Nat.reduceSub, Nat.reduceMul, ↓reduceIte, Int.reduceToNat, Int.reduceLE, beq_self_eq_true, b0]
      refine hK _ ?_
      first | refine Gx.t rfl ?_ | refine XWP.seq (Gx.t rfl ?_)
      first | refine Gx.a (by kernel_rfl) fun K hK => ?_ | refine Gx.b (by kernel_rfl) fun K hK => ?_ | refine Gx.c (by kernel_rfl) fun K hK => ?_
      simp only [XA, XB, gateX, Nat.reduceAdd, Nat.reduceLeDiff, Nat.reduceSub, Nat.reduceMul, ↓reduceIte, Int.reduceToNat, Int.reduceLE, beq_self_eq_true]
      refine hK _ (XWP.ret ?_)
      try simp only [thenX_ret, inBlockX_ret]
      refine ret_go _ rfl ?_
      exact ⟨fun _ => rfl, fun h => absurd rfl h⟩
    have hsb := sz_pos hb0
    unfold sz at hsb
    have b0 : decide (((dg b).length : Int) = 0) = false := decide_eq_false (by omega)
    simp only [XA, XB, gateX, Nat.reduceAdd, Nat.reduceLeDiff, Nat.reduceSub, Nat.reduceMul, ↓reduceIte, Int.reduceToNat, Int.reduceLE, beq_self_eq_true, b0]
    refine hK _ ?_
    first | refine Gx.f rfl ?_ | refine XWP.seq (Gx.f rfl ?_)
    first | refine Gx.a (by kernel_rfl) fun K hK => ?_ | refine Gx.b (by kernel_rfl) fun K hK => ?_ | refine Gx.c (by kernel_rfl) fun K hK => ?_
    simp only [XA, XB, gateX, Nat.reduceAdd, Nat.reduceLeDiff, Nat.reduceSub, Nat.reduceMul, ↓reduceIte, Int.reduceToNat, Int.reduceLE, beq_self_eq_true]
    refine call_go (by kernel_rfl) rfl (compare_c _ _ _ _ _ h1 h2) fun v3 V3 hV3 h3 => ?_
    subst h3
    simp only [XA, XB, gateX, Nat.reduceAdd, Nat.reduceLeDiff, Nat.reduceSub, Nat.reduceMul, ↓reduceIte, Int.reduceToNat, Int.reduceLE, beq_self_eq_true]
    by_cases hlt : a < b
    · have b1 : decide (cmpI a b < 0) = true := decide_eq_true (by rw [cmpI_lt hlt]; omega)
      simp only [b1]
      refine hK _ ?_
      first | refine Gx.t rfl ?_ | refine XWP.seq (Gx.t rfl ?_)
      first | refine Gx.a (by kernel_rfl) fun K hK => ?_ | refine Gx.b (by kernel_rfl) fun K hK => ?_ | refine Gx.c (by kernel_rfl) fun K hK => ?_
      simp only [XA, XB, gateX, Nat.reduceAdd, Nat.reduceLeDiff, Nat.reduceSub, Nat.reduceMul, ↓reduceIte, Int.reduceToNat, Int.reduceLE, beq_self_eq_true]
      refine call_go (by kernel_rfl) rfl (clone_at _ _ _ (h1.mono hV3) (by omega)) fun v4 V4 hV4 h4 => ?_
      simp only [XA, XB, gateX, Nat.reduceAdd, Nat.reduceLeDiff, Nat.reduceSub, Nat.reduceMul, ↓reduceIte, Int.reduceToNat, Int.reduceLE, beq_self_eq_true]
      refine hK _ (XWP.ret ?_)
      try simp only [thenX_ret, inBlockX_ret]
      refine ret_go _ rfl ?_
      refine ⟨fun h => absurd h hb0, fun _ => ⟨_, v4, rfl, ?_, ?_⟩⟩
      · rw [Nat.div_eq_of_lt hlt]; exact NatC.zero _
      · rw [Nat.mod_eq_of_lt hlt]; exact h4
    have b1 : decide (cmpI a b < 0) = false := decide_eq_false (by
      rcases Nat.lt_or_ge b a with h | h
      · rw [cmpI_gt h]; omega
      · have : a = b := by omega
        rw [this, cmpI_eq]; omega)
    simp only [b1]
    refine hK _ ?_
    first | refine Gx.f rfl ?_ | refine XWP.seq (Gx.f rfl ?_)
    first | refine Gx.a (by kernel_rfl) fun K hK => ?_ | refine Gx.b (by kernel_rfl) fun K hK => ?_ | refine Gx.c (by kernel_rfl) fun K hK => ?_
    by_cases hl1 : (dg b).length = 1
    · have b2 : decide (((dg b).length : Int) = 1) = true := decide_eq_true (by omega)
      simp only [XA, XB, gateX, Nat.reduceAdd, Nat.reduceLeDiff, Nat.reduceSub, Nat.reduceMul, ↓reduceIte, Int.reduceToNat, Int.reduceLE, beq_self_eq_true, b2]
      refine hK _ ?_
      first | refine Gx.t rfl ?_ | refine XWP.seq (Gx.t rfl ?_)
      first | refine Gx.a (by kernel_rfl) fun K hK => ?_ | refine Gx.b (by kernel_rfl) fun K hK => ?_ | refine Gx.c (by kernel_rfl) fun K hK => ?_
      have h2' := h2.mono hV3
      obtain ⟨q1, o1, rfl⟩ := NatAt.addr h2' (by omega)
      have hc1 := NatAt.cells h2' 0 (by omega)
      rw [getD_get, small_one hl1] at hc1
      have hbB : b < BB := by have := lt_sz b; unfold sz at this; rw [hl1] at this; simpa using this
      simp only [XA, XB, gateX, Nat.reduceAdd, Nat.reduceLeDiff, Nat.reduceSub, Nat.reduceMul, ↓reduceIte, Int.reduceToNat, Int.reduceLE, beq_self_eq_true]
      refine ⟨by omega, ld_mem (loads_cell shapeT_116 (hc1 _)) ?_⟩
      simp only [XA, XB, gateX, Nat.reduceAdd, Nat.reduceLeDiff, Nat.reduceSub, Nat.reduceMul, ↓reduceIte, Int.reduceToNat, Int.reduceLE, beq_self_eq_true]
      refine call_go (by kernel_rfl) rfl (short_at _ _ _ b (h1.mono hV3) (by omega) hbB (by omega)) fun v4 V4 hV4 h4 => ?_
      obtain ⟨r, rfl, h4⟩ := h4
      rw [nv_dg] at h4 ⊢
      have hmod := Nat.mod_lt a (show 0 < b by omega)
      simp only [XA, XB, gateX, Nat.reduceAdd, Nat.reduceLeDiff, Nat.reduceSub, Nat.reduceMul, ↓reduceIte, Int.reduceToNat, Int.reduceLE, beq_self_eq_true]
      refine hK _ ?_
      first | refine Gx.a (by kernel_rfl) fun K hK => ?_ | refine Gx.b (by kernel_rfl) fun K hK => ?_ | refine Gx.c (by kernel_rfl) fun K hK => ?_
      simp only [XA, XB, gateX, Nat.reduceAdd, Nat.reduceLeDiff, Nat.reduceSub, Nat.reduceMul, ↓reduceIte, Int.reduceToNat, Int.reduceLE, beq_self_eq_true, u64_of_u32 _ (show a % b < BB by omega)]
      refine call_go (by kernel_rfl) rfl (of_c _ (a % b) (by unfold BB at hbB; omega)) fun v5 V5 hV5 h5 => ?_
      simp only [XA, XB, gateX, Nat.reduceAdd, Nat.reduceLeDiff, Nat.reduceSub, Nat.reduceMul, ↓reduceIte, Int.reduceToNat, Int.reduceLE, beq_self_eq_true]
      refine hK _ (XWP.ret ?_)
      try simp only [thenX_ret, inBlockX_ret]
      refine ret_go _ rfl ?_
      exact ⟨fun h => absurd h hb0, fun _ => ⟨r, v5, rfl, h4.mono hV5, h5⟩⟩
    have b2 : decide (((dg b).length : Int) = 1) = false := decide_eq_false (by omega)
    simp only [XA, XB, gateX, Nat.reduceAdd, Nat.reduceLeDiff, Nat.reduceSub, Nat.reduceMul, ↓reduceIte, Int.reduceToNat, Int.reduceLE, beq_self_eq_true, b2]
    refine hK _ ?_
    first | refine Gx.f rfl ?_ | refine XWP.seq (Gx.f rfl ?_)
    refine XWP.skip ?_
    exact ⟨V3, StIs.of (by kernel_rfl), h1.mono hV3, h2.mono hV3, hb0, by omega, by omega⟩
    --}
  · rintro s ⟨V3, hs, h1, h2, hb0, hle, hlb⟩
    obtain ⟨u, rfl⟩ := hs.out
    dsimp only
    clear hm hm' hc hc'
    have hsle : (dg b).length ≤ (dg a).length := sz_mono hle
    first | refine Gx.a (by kernel_rfl) fun K hK => ?_ | refine Gx.b (by kernel_rfl) fun K hK => ?_ | refine Gx.c (by kernel_rfl) fun K hK => ?_
    obtain ⟨q1, o1, rfl⟩ := NatAt.addr h2 (by omega)
    have hc1 := NatAt.cells h2 ((dg b).length - 1) (by omega)
    have hd1 := Dig_get (Dig_dg b) ((dg b).length - 1) (by omega)
    rw [getD_get] at hc1 hd1
    have hx0 : (dg b).getD ((dg b).length - 1) 0 ≠ 0 := dg_last b _ (by rw [List.getLast?_eq_getElem?, ← getD_get (by omega), List.getElem?_eq_getElem])
    generalize hx : (dg b).getD ((dg b).length - 1) 0 = x at *
    simp only [XA, XB, gateX, Nat.reduceAdd, Nat.reduceLeDiff, Nat.reduceSub, Nat.reduceMul, ↓reduceIte, Int.reduceToNat, Int.reduceLE, beq_self_eq_true, i64_pred _ (show 1 ≤ (dg b).length by omega) (by omega)]
    refine ⟨by omega, by omega, ld_mem (loads_cell shapeT_116 (hc1 _)) ?_⟩
    simp only [XA, XB, gateX, Nat.reduceAdd, Nat.reduceLeDiff, Nat.reduceSub, Nat.reduceMul, ↓reduceIte, Int.reduceToNat, Int.reduceLE, beq_self_eq_true]
    refine call_go (by kernel_rfl) rfl (lz_c _ x hd1 (by omega)) fun v4 V4 hV4 h4 => ?_
    obtain ⟨l, rfl, hl31, hl1, hl2⟩ := h4
    simp only [XA, XB, gateX, Nat.reduceAdd, Nat.reduceLeDiff, Nat.reduceSub, Nat.reduceMul, ↓reduceIte, Int.reduceToNat, Int.reduceLE, beq_self_eq_true, u64_small l (by omega)]
    refine hK _ ?_
    first | refine Gx.a (by kernel_rfl) fun K hK => ?_ | refine Gx.b (by kernel_rfl) fun K hK => ?_ | refine Gx.c (by kernel_rfl) fun K hK => ?_
    simp only [XA, XB, gateX, Nat.reduceAdd, Nat.reduceLeDiff, Nat.reduceSub, Nat.reduceMul, ↓reduceIte, Int.reduceToNat, Int.reduceLE, beq_self_eq_true]
    refine call_own (by kernel_rfl) rfl (shifted_o _ _ _ l (h1.mono hV4) hl31 (by omega)) fun v5 V5 o5 hV5 hs5 h5 => ?_
    obtain ⟨gu, us, rfl, rfl, hul, hud, hun⟩ := h5
    simp only [XA, XB, gateX, Nat.reduceAdd, Nat.reduceLeDiff, Nat.reduceSub, Nat.reduceMul, ↓reduceIte, Int.reduceToNat, Int.reduceLE, beq_self_eq_true, addRow]
    refine call_own (by kernel_rfl) rfl (shifted_o _ _ _ l ((h2.mono hV4).mono hV5) hl31 (by omega)) fun v6 V6 o6 hV6 hs6 h6 => ?_
    obtain ⟨gv, vs0, rfl, rfl, hvl, hvd, hvn⟩ := h6
    have hne : gu ≠ gv := fun e => by have := (hs6 gv _ rfl).1; simp [upd, e] at this
    simp only [XA, XB, gateX, Nat.reduceAdd, Nat.reduceLeDiff, Nat.reduceSub, Nat.reduceMul, ↓reduceIte, Int.reduceToNat, Int.reduceLE, beq_self_eq_true, addRow]
    refine call_pub gv ⟨116, u32s vs0, (dg b).length + 1⟩ (upd_at _ _ _) (fun o ho hle' => ?_) (by kernel_rfl) rfl
    refine call_go (by kernel_rfl) rfl (trim_any _ _ vs0 (NatAt.pub ho hvd hvl (Nat.le_refl _) (by omega))) fun v7 V7 hV7 h7 => ?_
    rw [nv_dg] at hun hvn
    rw [hvn] at h7
    obtain ⟨A7, c7, rfl, hc7, hm7⟩ := NatAt.form h7
    obtain ⟨hsz7, hpw⟩ := shift_sz hb0 hx.symm hl2 hl31
    unfold sz at hsz7 hpw
    generalize hvs : dg (b * 2 ^ l) = vs at *
    have hvsd : Dig vs := hvs ▸ Dig_dg _
    have hvsn : nv vs = b * 2 ^ l := by rw [← hvs, nv_dg]
    have h7 : NatAt V7 (.slice A7 vs.length c7) vs := by unfold NatC at h7; rw [hvs] at h7; exact h7
    simp only [XA, XB, gateX, Nat.reduceAdd, Nat.reduceLeDiff, Nat.reduceSub, Nat.reduceMul, ↓reduceIte, Int.reduceToNat, Int.reduceLE, beq_self_eq_true]
    refine hK _ ?_
    first | refine Gx.a (by kernel_rfl) fun K hK => ?_ | refine Gx.b (by kernel_rfl) fun K hK => ?_ | refine Gx.c (by kernel_rfl) fun K hK => ?_
    simp only [XA, XB, gateX, Nat.reduceAdd, Nat.reduceLeDiff, Nat.reduceSub, Nat.reduceMul, ↓reduceIte, Int.reduceToNat, Int.reduceLE, beq_self_eq_true]
    refine hK _ ?_
    first | refine Gx.a (by kernel_rfl) fun K hK => ?_ | refine Gx.b (by kernel_rfl) fun K hK => ?_ | refine Gx.c (by kernel_rfl) fun K hK => ?_
    have hn2 : 2 ≤ vs.length := by omega
    simp only [XA, XB, gateX, Nat.reduceAdd, Nat.reduceLeDiff, Nat.reduceSub, Nat.reduceMul, ↓reduceIte, Int.reduceToNat, Int.reduceLE, beq_self_eq_true, i64_sub ((dg a).length + 1) vs.length (by omega) (by omega)]
    obtain ⟨M, hM⟩ : ∃ M, M = (dg a).length + 1 - vs.length := ⟨_, rfl⟩
    rw [← hM]
    refine mk_go rfl rfl elemT_25 zeroT_116 (by omega) (by omega) (by omega) (by omega) rfl (by omega) fun gq hq1 hq2 => ?_
    have hne2 : gq ≠ gu := fun e => by subst e; simp [upd, hne] at hq1
    have hne3 : gu ≠ gq := fun e => hne2 e.symm
    simp only [XA, XB, gateX, Nat.reduceAdd, Nat.reduceLeDiff, Nat.reduceSub, Nat.reduceMul, ↓reduceIte, Int.reduceToNat, Int.reduceLE, beq_self_eq_true, u32s_replicate]
    refine hK _ ?_
    clear hK
    have hfl := first_lt (us := us) hb0 (sz_mono hle) (by unfold sz; omega) hun
    have hvlen : vs.length = sz b := by unfold sz; omega
    have hMs : sz a + 1 - sz b = M := by unfold sz; omega
    rw [hMs, ← hvsn] at hfl
    clear hx hd1 hx0 hc1 hs5 hs6 hl1 hl2
    have hv0 : 0 < nv vs := by omega
    have hgv7 : True := trivial
    clear hV4 hV5 hV6
    obtain ⟨m, hm2⟩ : ∃ m, vs.length = m + 2 := ⟨vs.length - 2, by omega⟩
    have hl0 : (0 : Int) ≤ (l : Int) := by omega
    have hvtop : vs.getD (vs.length - 1) 0 ≠ 0 := by
      have := dg_last (b * 2 ^ l)
      rw [hvs] at this
      exact this _ (by rw [List.getLast?_eq_getElem?, ← getD_get (by omega), List.getElem?_eq_getElem])
    refine XWP.cut (fun s => ∃ (H5 : Heap) (us1 qs : List Nat), StIs (fun Z => [.v (.slice A (dg a).length c), .v (.slice (some ⟨q1, o1, none⟩) (dg b).length c'), Z 2,Z 3,Z 4,Z 5,Z 6,Z 7,Z 8, .v (.int .u64 (l : Int)), .v (.slice (some ⟨gu, 0, none⟩) ((dg a).length + 1) ((dg a).length + 1)), .v (.slice A7 vs.length c7), .v (.int .i64 (vs.length : Int)), .v (.slice (some ⟨gq, 0, none⟩) M M), Z 14,Z 15,Z 16,Z 17,Z 18,Z 19,Z 20,Z 21,Z 22,Z 23,Z 24,Z 25,Z 26,Z 27,Z 28,Z 29,Z 30,Z 31,Z 32,Z 33,Z 34,Z 35,Z 36,Z 37,Z 38,Z 39,Z 40,Z 41,Z 42,Z 43,Z 44,Z 45,Z 46,Z 47,Z 48,Z 49,Z 50,Z 51,Z 52,Z 53,Z 54,Z 55,Z 56,Z 57,Z 58,Z 59,Z 60,Z 61,Z 62,Z 63,Z 64,Z 65,Z 66,Z 67,Z 68,Z 69,Z 70,Z 71,Z 72,Z 73,Z 74,Z 75,Z 76,Z 77,Z 78,Z 79,Z 80,Z 81,Z 82,Z 83,Z 84,Z 85,Z 86,Z 87,Z 88,Z 89,Z 90,Z 91,Z 92,Z 93,Z 94,Z 95,Z 96,Z 97,Z 98,Z 99,Z 100,Z 101,Z 102,Z 103,Z 104,Z 105,Z 106,Z 107,Z 108,Z 109,Z 110,Z 111,Z 112,Z 113,Z 114,Z 115,Z 116,Z 117,Z 118,Z 119,Z 120,Z 121,Z 122,Z 123,Z 124,Z 125,Z 126,Z 127,Z 128,Z 129,Z 130,Z 131,Z 132,Z 133,Z 134,Z 135,Z 136,Z 137,Z 138,Z 139,Z 140,Z 141,Z 142,Z 143,Z 144,Z 145,Z 146,Z 147,Z 148,Z 149,Z 150,Z 151,Z 152,Z 153,Z 154,Z 155,Z 156,Z 157,Z 158,Z 159,Z 160,Z 161,Z 162,Z 163,Z 164,Z 165,Z 166,Z 167,Z 168,Z 169,Z 170,Z 171,Z 172,Z 173,Z 174,Z 175,Z 176,Z 177,Z 178,Z 179,Z 180,Z 181,Z 182,Z 183,Z 184,Z 185,Z 186,Z 187,Z 188,Z 189,Z 190,Z 191,Z 192,Z 193,Z 194,Z 195,Z 196,Z 197,Z 198,Z 199,Z 200,Z 201,Z 202,Z 203,Z 204,Z 205,Z 206,Z 207,Z 208,Z 209,Z 210,Z 211,Z 212,Z 213,Z 214,Z 215,Z 216,Z 217,Z 218,Z 219,Z 220,Z 221,Z 222,Z 223,Z 224,Z 225,Z 226,Z 227,Z 228,Z 229,Z 230,Z 231,Z 232,Z 233,Z 234,Z 235,Z 236,Z 237,Z 238,Z 239,Z 240,Z 241,Z 242,Z 243,Z 244,Z 245,Z 246,Z 247,Z 248,Z 249,Z 250,Z 251,Z 252,Z 253,Z 254,Z 255,Z 256,Z 257,Z 258,Z 259,Z 260,Z 261,Z 262,Z 263,Z 264,Z 265,Z 266,Z 267,Z 268,Z 269,Z 270,Z 271,Z 272,Z 273,Z 274,Z 275,Z 276,Z 277,Z 278,Z 279,Z 280,Z 281,Z 282,Z 283,Z 284,Z 285,Z 286,Z 287,Z 288,Z 289,Z 290,Z 291,Z 292,Z 293,Z 294,Z 295,Z 296,Z 297,Z 298,Z 299,Z 300,Z 301,Z 302,Z 303,Z 304,Z 305,Z 306,Z 307,Z 308,Z 309,Z 310,Z 311,Z 312,Z 313,Z 314]) [] H5 V7 s ∧ H5 gu = some ⟨116, u32s us1, (dg a).length + 1⟩ ∧ H5 gq = some ⟨116, u32s qs, M⟩ ∧ us1.length = (dg a).length + 1 ∧ qs.length = M ∧ Dig us1 ∧ Dig qs ∧ nv us1 < nv vs ∧ a * 2 ^ l = nv qs * nv vs + nv us1) ?_ ?_
    ·
      --{
      first | refine Gx.a (by kernel_rfl) fun K hK => ?_ | refine Gx.b (by kernel_rfl) fun K hK => ?_ | refine Gx.c (by kernel_rfl) fun K hK => ?_
      have w0 : IntKind.i64.wrap ((M : Int) - 1) = (M : Int) - 1 := wrap_id (by omega) (by omega)
      simp only [XA, XB, gateX, Nat.reduceAdd, Nat.reduceLeDiff, Nat.reduceSub, Nat.reduceMul, ↓reduceIte, Int.reduceToNat, Int.reduceLE, beq_self_eq_true, i64_sub ((dg a).length + 1) vs.length (by omega) (by omega), ← hM, w0]
      refine hK _ ?_
      clear hK
      first | refine XWP.block ?_ | refine XWP.seq (XWP.block ?_)
      refine XWP.loop (fun k s => ∃ (H5 : Heap) (us1 qs : List Nat), StIs (fun Z => [.v (.slice A (dg a).length c), .v (.slice (some ⟨q1, o1, none⟩) (dg b).length c'), Z 2,Z 3,Z 4,Z 5,Z 6,Z 7,Z 8, .v (.int .u64 (l : Int)), .v (.slice (some ⟨gu, 0, none⟩) ((dg a).length + 1) ((dg a).length + 1)), .v (.slice A7 vs.length c7), .v (.int .i64 (vs.length : Int)), .v (.slice (some ⟨gq, 0, none⟩) M M), .v (.int .i64 ((k : Int) - 1)), Z 15,Z 16,Z 17,Z 18,Z 19,Z 20,Z 21,Z 22,Z 23,Z 24,Z 25,Z 26,Z 27,Z 28,Z 29,Z 30,Z 31,Z 32,Z 33,Z 34,Z 35,Z 36,Z 37,Z 38,Z 39,Z 40,Z 41,Z 42,Z 43,Z 44,Z 45,Z 46,Z 47,Z 48,Z 49,Z 50,Z 51,Z 52,Z 53,Z 54,Z 55,Z 56,Z 57,Z 58,Z 59,Z 60,Z 61,Z 62,Z 63,Z 64,Z 65,Z 66,Z 67,Z 68,Z 69,Z 70,Z 71,Z 72,Z 73,Z 74,Z 75,Z 76,Z 77,Z 78,Z 79,Z 80,Z 81,Z 82,Z 83,Z 84,Z 85,Z 86,Z 87,Z 88,Z 89,Z 90,Z 91,Z 92,Z 93,Z 94,Z 95,Z 96,Z 97,Z 98,Z 99,Z 100,Z 101,Z 102,Z 103,Z 104,Z 105,Z 106,Z 107,Z 108,Z 109,Z 110,Z 111,Z 112,Z 113,Z 114,Z 115,Z 116,Z 117,Z 118,Z 119,Z 120,Z 121,Z 122,Z 123,Z 124,Z 125,Z 126,Z 127,Z 128,Z 129,Z 130,Z 131,Z 132,Z 133,Z 134,Z 135,Z 136,Z 137,Z 138,Z 139,Z 140,Z 141,Z 142,Z 143,Z 144,Z 145,Z 146,Z 147,Z 148,Z 149,Z 150,Z 151,Z 152,Z 153,Z 154,Z 155,Z 156,Z 157,Z 158,Z 159,Z 160,Z 161,Z 162,Z 163,Z 164,Z 165,Z 166,Z 167,Z 168,Z 169,Z 170,Z 171,Z 172,Z 173,Z 174,Z 175,Z 176,Z 177,Z 178,Z 179,Z 180,Z 181,Z 182,Z 183,Z 184,Z 185,Z 186,Z 187,Z 188,Z 189,Z 190,Z 191,Z 192,Z 193,Z 194,Z 195,Z 196,Z 197,Z 198,Z 199,Z 200,Z 201,Z 202,Z 203,Z 204,Z 205,Z 206,Z 207,Z 208,Z 209,Z 210,Z 211,Z 212,Z 213,Z 214,Z 215,Z 216,Z 217,Z 218,Z 219,Z 220,Z 221,Z 222,Z 223,Z 224,Z 225,Z 226,Z 227,Z 228,Z 229,Z 230,Z 231,Z 232,Z 233,Z 234,Z 235,Z 236,Z 237,Z 238,Z 239,Z 240,Z 241,Z 242,Z 243,Z 244,Z 245,Z 246,Z 247,Z 248,Z 249,Z 250,Z 251,Z 252,Z 253,Z 254,Z 255,Z 256,Z 257,Z 258,Z 259,Z 260,Z 261,Z 262,Z 263,Z 264,Z 265,Z 266,Z 267,Z 268,Z 269,Z 270,Z 271,Z 272,Z 273,Z 274,Z 275,Z 276,Z 277,Z 278,Z 279,Z 280,Z 281,Z 282,Z 283,Z 284,Z 285,Z 286,Z 287,Z 288,Z 289,Z 290,Z 291,Z 292,Z 293,Z 294,Z 295,Z 296,Z 297,Z 298,Z 299,Z 300,Z 301,Z 302,Z 303,Z 304,Z 305,Z 306,Z 307,Z 308,Z 309,Z 310,Z 311,Z 312,Z 313,Z 314]) [] H5 V7 s ∧ k ≤ M ∧ H5 gu = some ⟨116, u32s us1, (dg a).length + 1⟩ ∧ H5 gq = some ⟨116, u32s qs, M⟩ ∧ us1.length = (dg a).length + 1 ∧ qs.length = M ∧ Dig us1 ∧ Dig qs ∧ nv (us1.drop k) < nv vs ∧ a * 2 ^ l = BB ^ k * nv (qs.drop k) * nv vs + nv us1) M ⟨_, us, List.replicate M 0, StIs.of (by exact rfl), Nat.le_refl _, ?_, ?_, hul, by simp, hud, Dig_replicate _, hfl, ?_⟩ ?_
      · simp only [upd, hne3, hne, if_false, if_true]
      · simp only [upd, if_true, Nat.mul_one]
      · have : (List.replicate M 0).drop M = [] := by simp
        rw [this, hun]; simp [nv]
      rintro k s ⟨H5, us1, qs, hs, hk, hHu, hHq, hul1, hql, hud1, hqd, hlt, htot⟩
      obtain ⟨u, rfl⟩ := hs.out
      dsimp only
      first | refine Gx.a (by kernel_rfl) fun K hK => ?_ | refine Gx.b (by kernel_rfl) fun K hK => ?_ | refine Gx.c (by kernel_rfl) fun K hK => ?_
      by_cases hk0 : k = 0
      · subst hk0
        have b2 : decide ((0 : Int) ≤ ((0 : Nat) : Int) - 1) = false := decide_eq_false (by omega)
        simp only [XA, XB, gateX, Nat.reduceAdd, Nat.reduceLeDiff, Nat.reduceSub, Nat.reduceMul, ↓reduceIte, Int.reduceToNat, Int.reduceLE, beq_self_eq_true, b2]
        refine hK _ ?_
        first | refine Gx.f rfl ?_ | refine XWP.seq (Gx.f rfl ?_)
        refine XWP.exit ?_
        exact ⟨H5, us1, qs, StIs.of (by exact rfl), hHu, hHq, hul1, hql, hud1, hqd, by simpa using hlt, by simpa using htot⟩
      obtain ⟨j, rfl⟩ : ∃ j, k = j + 1 := ⟨k - 1, by omega⟩
      have ej : (((j + 1 : Nat) : Int) - 1) = (j : Int) := by omega
      have b2 : decide ((0 : Int) ≤ (j : Int)) = true := decide_eq_true (by omega)
      simp only [XA, XB, gateX, Nat.reduceAdd, Nat.reduceLeDiff, Nat.reduceSub, Nat.reduceMul, ↓reduceIte, Int.reduceToNat, Int.reduceLE, beq_self_eq_true, ej, b2]
      refine hK _ ?_
      first | refine Gx.t rfl ?_ | refine XWP.seq (Gx.t rfl ?_)
      refine XWP.skip ?_
      refine XWP.seq ?_
      first | refine XWP.block ?_ | refine XWP.seq (XWP.block ?_)
      have hM2 : M + vs.length = (dg a).length + 1 := by omega
      have hcu0 := row_cell (V := V7) hHu (k := j + vs.length) (by omega)
      have hcu1 := row_cell (V := V7) hHu (k := j + vs.length - 1) (by omega)
      have hcu2 := row_cell (V := V7) hHu (k := j + vs.length - 2) (by omega)
      obtain ⟨p7, o7, rfl⟩ := NatAt.addr h7 (by omega)
      have hcv1 := NatAt.cells h7 (vs.length - 1) (by omega)
      have hcv2 := NatAt.cells h7 (vs.length - 2) (by omega)
      rw [getD_get] at hcv1 hcv2
      generalize hu0 : us1.getD (j + vs.length) 0 = u0 at *
      generalize hu1 : us1.getD (j + vs.length - 1) 0 = u1 at *
      generalize hu2 : us1.getD (j + vs.length - 2) 0 = u2 at *
      generalize hv1 : vs.getD (vs.length - 1) 0 = v1 at *
      generalize hv2 : vs.getD (vs.length - 2) 0 = v2 at *
      obtain ⟨kq, kB, ku, kdec, kend, kv1, kv2, kU0, kU1, kU2⟩ := knuth (v1 := v1) (v2 := v2) (u0 := u0) (u1 := u1) (u2 := u2) (q := nv (us1.drop j) / nv vs) hm2 (by omega) hud1 hvsd (by rw [← hv1]; show _ = vs.getD (m + 1) 0; congr 1; omega) (by rw [← hv2]; show _ = vs.getD m 0; congr 1; omega) (by rw [← hu0]; show _ = us1.getD (j + (m + 2)) 0; congr 1; omega) (by rw [← hu1]; show _ = us1.getD (j + (m + 1)) 0; congr 1; omega) (by rw [← hu2]; show _ = us1.getD (j + m) 0; congr 1; omega) (by omega) hlt rfl
      generalize hq : nv (us1.drop j) / nv vs = q at *
      have hdiv : v1 ≠ 0 := hvtop
      have htop : u0 * BB + u1 < 18446744073709551616 := by unfold BB at *; omega
      (first | refine XWP.drw [0, 1, 2, 3, 4, 5, 6, 7, 8, 9, 10, 11, 12, 13, 14, 15, 16, 17] (by kernel_rfl) (by kernel_rfl) (by kernel_rfl) fun K hK => ?_ | refine XWP.seq (XWP.drw [0, 1, 2, 3, 4, 5, 6, 7, 8, 9, 10, 11, 12, 13, 14, 15, 16, 17] (by kernel_rfl) (by kernel_rfl) (by kernel_rfl) fun K hK => ?_) | refine XWP.drw1 [0, 1, 2, 3, 4, 5, 6, 7, 8, 9, 10, 11, 12, 13, 14, 15, 16, 17] (by kernel_rfl) (by kernel_rfl) (by kernel_rfl) fun K hK => ?_) <;> dsimp only [pickOps, List.getElem?_cons_zero, List.getElem?_cons_succ]
      simp only [XA, XB, gateX, Nat.reduceAdd, Nat.reduceLeDiff, Nat.reduceSub, Nat.reduceMul, ↓reduceIte, Int.reduceToNat, Int.reduceLE, beq_self_eq_true, i64_add j vs.length (by omega)]
      refine ⟨by omega, by omega, ld_mem (loads_cell shapeT_116 hcu0) ?_⟩
      simp only [XA, XB, gateX, Nat.reduceAdd, Nat.reduceLeDiff, Nat.reduceSub, Nat.reduceMul, ↓reduceIte, Int.reduceToNat, Int.reduceLE, beq_self_eq_true, i64_add j vs.length (by omega), i64_pred (j + vs.length) (by omega) (by omega)]
      refine ⟨by omega, by omega, ld_mem (loads_cell shapeT_116 hcu1) ?_⟩
      simp only [XA, XB, gateX, Nat.reduceAdd, Nat.reduceLeDiff, Nat.reduceSub, Nat.reduceMul, ↓reduceIte, Int.reduceToNat, Int.reduceLE, beq_self_eq_true, u64_of_u32 _ kU0, u64_of_u32 _ kU1, shl32 _ kU0, or_add _ _ kU0 kU1]
      refine hK _ ?_
      clear hK
      (first | refine XWP.drw [0, 1, 2, 3, 4, 5, 6, 7, 8, 9, 10, 11, 12, 13, 14, 15, 16, 17] (by kernel_rfl) (by kernel_rfl) (by kernel_rfl) fun K hK => ?_ | refine XWP.seq (XWP.drw [0, 1, 2, 3, 4, 5, 6, 7, 8, 9, 10, 11, 12, 13, 14, 15, 16, 17] (by kernel_rfl) (by kernel_rfl) (by kernel_rfl) fun K hK => ?_) | refine XWP.drw1 [0, 1, 2, 3, 4, 5, 6, 7, 8, 9, 10, 11, 12, 13, 14, 15, 16, 17] (by kernel_rfl) (by kernel_rfl) (by kernel_rfl) fun K hK => ?_) <;> dsimp only [pickOps, List.getElem?_cons_zero, List.getElem?_cons_succ]
      have hdi : ((v1 : Nat) : Int) ≠ 0 := by omega
      simp only [XA, XB, gateX, Nat.reduceAdd, Nat.reduceLeDiff, Nat.reduceSub, Nat.reduceMul, ↓reduceIte, Int.reduceToNat, Int.reduceLE, beq_self_eq_true, i64_pred vs.length (by omega) (by omega)]
      refine ⟨by omega, by omega, ld_mem (loads_cell shapeT_116 (hcv1 _)) ?_⟩
      simp only [XA, XB, gateX, Nat.reduceAdd, Nat.reduceLeDiff, Nat.reduceSub, Nat.reduceMul, ↓reduceIte, Int.reduceToNat, Int.reduceLE, beq_self_eq_true, i64_pred vs.length (by omega) (by omega), u64_of_u32 _ kv1, bin_quo _ _ _ _ hdi]
      refine ⟨by omega, by omega, ld_mem (loads_cell shapeT_116 (hcv1 _)) ?_⟩
      simp only [XA, XB, gateX, Nat.reduceAdd, Nat.reduceLeDiff, Nat.reduceSub, Nat.reduceMul, ↓reduceIte, Int.reduceToNat, Int.reduceLE, beq_self_eq_true, u64_of_u32 _ kv1, bin_rem _ _ _ _ hdi, int_tmod, u64_div _ _ htop]
      refine hK _ ?_
      clear hK
      refine XWP.cut (fun s => ∃ g : Nat, StIs (fun Z => [.v (.slice A (dg a).length c), .v (.slice (some ⟨q1, o1, none⟩) (dg b).length c'), Z 2,Z 3,Z 4,Z 5,Z 6,Z 7,Z 8, .v (.int .u64 (l : Int)), .v (.slice (some ⟨gu, 0, none⟩) ((dg a).length + 1) ((dg a).length + 1)), .v (.slice (some ⟨p7, o7, none⟩) vs.length c7), .v (.int .i64 (vs.length : Int)), .v (.slice (some ⟨gq, 0, none⟩) M M), .v (.int .i64 (j : Int)), Z 15, .v (.int .u64 (g : Int)), Z 17,Z 18,Z 19,Z 20,Z 21,Z 22,Z 23,Z 24,Z 25,Z 26,Z 27,Z 28,Z 29,Z 30,Z 31,Z 32,Z 33,Z 34,Z 35,Z 36,Z 37,Z 38,Z 39,Z 40,Z 41,Z 42,Z 43,Z 44,Z 45,Z 46,Z 47,Z 48,Z 49,Z 50,Z 51,Z 52,Z 53,Z 54,Z 55,Z 56,Z 57,Z 58,Z 59,Z 60,Z 61,Z 62,Z 63,Z 64,Z 65,Z 66,Z 67,Z 68,Z 69,Z 70,Z 71,Z 72,Z 73,Z 74,Z 75,Z 76,Z 77,Z 78,Z 79,Z 80,Z 81,Z 82,Z 83,Z 84,Z 85,Z 86,Z 87,Z 88,Z 89,Z 90,Z 91,Z 92,Z 93,Z 94,Z 95,Z 96,Z 97,Z 98,Z 99,Z 100,Z 101,Z 102,Z 103,Z 104,Z 105,Z 106,Z 107,Z 108,Z 109,Z 110,Z 111,Z 112,Z 113,Z 114,Z 115,Z 116,Z 117,Z 118,Z 119,Z 120,Z 121,Z 122,Z 123,Z 124,Z 125,Z 126,Z 127,Z 128,Z 129,Z 130,Z 131,Z 132,Z 133,Z 134,Z 135,Z 136,Z 137,Z 138,Z 139,Z 140,Z 141,Z 142,Z 143,Z 144,Z 145,Z 146,Z 147,Z 148,Z 149,Z 150,Z 151,Z 152,Z 153,Z 154,Z 155,Z 156,Z 157,Z 158,Z 159,Z 160,Z 161,Z 162,Z 163,Z 164,Z 165,Z 166,Z 167,Z 168,Z 169,Z 170,Z 171,Z 172,Z 173,Z 174,Z 175,Z 176,Z 177,Z 178,Z 179,Z 180,Z 181,Z 182,Z 183,Z 184,Z 185,Z 186,Z 187,Z 188,Z 189,Z 190,Z 191,Z 192,Z 193,Z 194,Z 195,Z 196,Z 197,Z 198,Z 199,Z 200,Z 201,Z 202,Z 203,Z 204,Z 205,Z 206,Z 207,Z 208,Z 209,Z 210,Z 211,Z 212,Z 213,Z 214,Z 215,Z 216,Z 217,Z 218,Z 219,Z 220,Z 221,Z 222,Z 223,Z 224,Z 225,Z 226,Z 227,Z 228,Z 229,Z 230,Z 231,Z 232,Z 233,Z 234,Z 235,Z 236,Z 237,Z 238,Z 239,Z 240,Z 241,Z 242,Z 243,Z 244,Z 245,Z 246,Z 247,Z 248,Z 249,Z 250,Z 251,Z 252,Z 253,Z 254,Z 255,Z 256,Z 257,Z 258,Z 259,Z 260,Z 261,Z 262,Z 263,Z 264,Z 265,Z 266,Z 267,Z 268,Z 269,Z 270,Z 271,Z 272,Z 273,Z 274,Z 275,Z 276,Z 277,Z 278,Z 279,Z 280,Z 281,Z 282,Z 283,Z 284,Z 285,Z 286,Z 287,Z 288,Z 289,Z 290,Z 291,Z 292,Z 293,Z 294,Z 295,Z 296,Z 297,Z 298,Z 299,Z 300,Z 301,Z 302,Z 303,Z 304,Z 305,Z 306,Z 307,Z 308,Z 309,Z 310,Z 311,Z 312,Z 313,Z 314]) [] H5 V7 s ∧ q ≤ g ∧ g ≤ q + 1 ∧ g < BB) ?_ ?_
      ·
        --{
        first | refine XWP.block ?_ | refine XWP.seq (XWP.block ?_)
        refine XWP.loop (fun g s => ∃ rest : Nat, StIs (fun Z => [.v (.slice A (dg a).length c), .v (.slice (some ⟨q1, o1, none⟩) (dg b).length c'), Z 2,Z 3,Z 4,Z 5,Z 6,Z 7,Z 8, .v (.int .u64 (l : Int)), .v (.slice (some ⟨gu, 0, none⟩) ((dg a).length + 1) ((dg a).length + 1)), .v (.slice (some ⟨p7, o7, none⟩) vs.length c7), .v (.int .i64 (vs.length : Int)), .v (.slice (some ⟨gq, 0, none⟩) M M), .v (.int .i64 (j : Int)), Z 15, .v (.int .u64 (g : Int)), .v (.int .u64 (rest : Int)), Z 18,Z 19,Z 20,Z 21,Z 22,Z 23,Z 24,Z 25,Z 26,Z 27,Z 28,Z 29,Z 30,Z 31,Z 32,Z 33,Z 34,Z 35,Z 36,Z 37,Z 38,Z 39,Z 40,Z 41,Z 42,Z 43,Z 44,Z 45,Z 46,Z 47,Z 48,Z 49,Z 50,Z 51,Z 52,Z 53,Z 54,Z 55,Z 56,Z 57,Z 58,Z 59,Z 60,Z 61,Z 62,Z 63,Z 64,Z 65,Z 66,Z 67,Z 68,Z 69,Z 70,Z 71,Z 72,Z 73,Z 74,Z 75,Z 76,Z 77,Z 78,Z 79,Z 80,Z 81,Z 82,Z 83,Z 84,Z 85,Z 86,Z 87,Z 88,Z 89,Z 90,Z 91,Z 92,Z 93,Z 94,Z 95,Z 96,Z 97,Z 98,Z 99,Z 100,Z 101,Z 102,Z 103,Z 104,Z 105,Z 106,Z 107,Z 108,Z 109,Z 110,Z 111,Z 112,Z 113,Z 114,Z 115,Z 116,Z 117,Z 118,Z 119,Z 120,Z 121,Z 122,Z 123,Z 124,Z 125,Z 126,Z 127,Z 128,Z 129,Z 130,Z 131,Z 132,Z 133,Z 134,Z 135,Z 136,Z 137,Z 138,Z 139,Z 140,Z 141,Z 142,Z 143,Z 144,Z 145,Z 146,Z 147,Z 148,Z 149,Z 150,Z 151,Z 152,Z 153,Z 154,Z 155,Z 156,Z 157,Z 158,Z 159,Z 160,Z 161,Z 162,Z 163,Z 164,Z 165,Z 166,Z 167,Z 168,Z 169,Z 170,Z 171,Z 172,Z 173,Z 174,Z 175,Z 176,Z 177,Z 178,Z 179,Z 180,Z 181,Z 182,Z 183,Z 184,Z 185,Z 186,Z 187,Z 188,Z 189,Z 190,Z 191,Z 192,Z 193,Z 194,Z 195,Z 196,Z 197,Z 198,Z 199,Z 200,Z 201,Z 202,Z 203,Z 204,Z 205,Z 206,Z 207,Z 208,Z 209,Z 210,Z 211,Z 212,Z 213,Z 214,Z 215,Z 216,Z 217,Z 218,Z 219,Z 220,Z 221,Z 222,Z 223,Z 224,Z 225,Z 226,Z 227,Z 228,Z 229,Z 230,Z 231,Z 232,Z 233,Z 234,Z 235,Z 236,Z 237,Z 238,Z 239,Z 240,Z 241,Z 242,Z 243,Z 244,Z 245,Z 246,Z 247,Z 248,Z 249,Z 250,Z 251,Z 252,Z 253,Z 254,Z 255,Z 256,Z 257,Z 258,Z 259,Z 260,Z 261,Z 262,Z 263,Z 264,Z 265,Z 266,Z 267,Z 268,Z 269,Z 270,Z 271,Z 272,Z 273,Z 274,Z 275,Z 276,Z 277,Z 278,Z 279,Z 280,Z 281,Z 282,Z 283,Z 284,Z 285,Z 286,Z 287,Z 288,Z 289,Z 290,Z 291,Z 292,Z 293,Z 294,Z 295,Z 296,Z 297,Z 298,Z 299,Z 300,Z 301,Z 302,Z 303,Z 304,Z 305,Z 306,Z 307,Z 308,Z 309,Z 310,Z 311,Z 312,Z 313,Z 314]) [] H5 V7 s ∧ q ≤ g ∧ g < 18446744073709551616 ∧ rest < BB ∧ g * v1 + rest = u0 * BB + u1) ((u0 * BB + u1) / v1) ⟨(u0 * BB + u1) % v1, StIs.of (by exact rfl), kq, Nat.lt_of_le_of_lt (Nat.div_le_self _ _) htop, Nat.lt_trans (Nat.mod_lt _ (by omega)) kv1, by rw [Nat.mul_comm]; exact Nat.div_add_mod _ _⟩ ?_
        rintro g s ⟨rest, hs, hg1, hg2, hrest, hgr⟩
        obtain ⟨u, rfl⟩ := hs.out
        dsimp only
        refine XWP.cut (fun s => StIs (fun Z => [.v (.slice A (dg a).length c), .v (.slice (some ⟨q1, o1, none⟩) (dg b).length c'), Z 2,Z 3,Z 4,Z 5,Z 6,Z 7,Z 8, .v (.int .u64 (l : Int)), .v (.slice (some ⟨gu, 0, none⟩) ((dg a).length + 1) ((dg a).length + 1)), .v (.slice (some ⟨p7, o7, none⟩) vs.length c7), .v (.int .i64 (vs.length : Int)), .v (.slice (some ⟨gq, 0, none⟩) M M), .v (.int .i64 (j : Int)), Z 15, .v (.int .u64 (g : Int)), .v (.int .u64 (rest : Int)), Z 18,Z 19,Z 20,Z 21,Z 22,Z 23,Z 24,Z 25,Z 26,Z 27,Z 28,Z 29,Z 30,Z 31,Z 32,Z 33,Z 34,Z 35,Z 36,Z 37,Z 38,Z 39,Z 40,Z 41,Z 42,Z 43,Z 44,Z 45,Z 46,Z 47,Z 48,Z 49,Z 50,Z 51,Z 52,Z 53,Z 54,Z 55,Z 56,Z 57,Z 58,Z 59,Z 60,Z 61,Z 62,Z 63,Z 64,Z 65,Z 66,Z 67,Z 68,Z 69,Z 70,Z 71,Z 72,Z 73,Z 74,Z 75,Z 76,Z 77,Z 78,Z 79,Z 80,Z 81,Z 82,Z 83,Z 84,Z 85,Z 86,Z 87,Z 88,Z 89,Z 90,Z 91,Z 92,Z 93,Z 94,Z 95,Z 96,Z 97,Z 98,Z 99,Z 100,Z 101,Z 102,Z 103,Z 104,Z 105,Z 106,Z 107,Z 108,Z 109,Z 110,Z 111,Z 112,Z 113,Z 114,Z 115,Z 116,Z 117,Z 118,Z 119,Z 120,Z 121,Z 122,Z 123,Z 124,Z 125,Z 126,Z 127,Z 128,Z 129,Z 130,Z 131,Z 132,Z 133,Z 134,Z 135,Z 136,Z 137,Z 138,Z 139,Z 140,Z 141,Z 142,Z 143,Z 144,Z 145,Z 146,Z 147,Z 148,Z 149,Z 150,Z 151,Z 152,Z 153,Z 154,Z 155,Z 156,Z 157,Z 158,Z 159,Z 160,Z 161,Z 162,Z 163,Z 164,Z 165,Z 166,Z 167,Z 168,Z 169,Z 170,Z 171,Z 172,Z 173,Z 174,Z 175,Z 176,Z 177,Z 178,Z 179,Z 180,Z 181,Z 182,Z 183,Z 184,Z 185,Z 186,Z 187,Z 188,Z 189,Z 190,Z 191,Z 192,Z 193,Z 194,Z 195,Z 196,Z 197,Z 198,Z 199,Z 200,Z 201,Z 202,Z 203,Z 204,Z 205,Z 206,Z 207,Z 208,Z 209,Z 210,Z 211,Z 212,Z 213,Z 214,Z 215,Z 216,Z 217,Z 218,Z 219,Z 220,Z 221,Z 222,Z 223,Z 224,Z 225,Z 226,Z 227,Z 228,Z 229,Z 230,Z 231,Z 232,Z 233,Z 234,Z 235,Z 236,Z 237,Z 238,Z 239,Z 240,Z 241,Z 242,Z 243,Z 244,Z 245,Z 246,Z 247,Z 248,Z 249,Z 250,Z 251,Z 252,Z 253,Z 254,Z 255,Z 256,Z 257,Z 258,Z 259,Z 260,Z 261,Z 262,Z 263,Z 264,Z 265,Z 266,Z 267,Z 268,Z 269,Z 270,Z 271,Z 272,Z 273,Z 274,Z 275,Z 276,Z 277,Z 278,Z 279,Z 280,Z 281,Z 282,Z 283,Z 284,Z 285,Z 286,Z 287,Z 288,Z 289,Z 290,Z 291,Z 292,Z 293,Z 294,Z 295,Z 296,Z 297,Z 298,Z 299,Z 300,Z 301,Z 302,Z 303,Z 304,Z 305,Z 306,Z 307,Z 308,Z 309,Z 310,Z 311,Z 312,Z 313,Z 314]) [] H5 V7 s ∧ q + 1 ≤ g) ?_ ?_
        · by_cases hgB : BB ≤ g
          · have b3 : decide ((4294967296 : Int) ≤ (g : Int)) = true := decide_eq_true (by unfold BB at hgB; omega)
            (first | refine XWP.drw [0, 1, 2, 3, 4, 5, 6, 7, 8, 9, 10, 11, 12, 13, 14, 15, 16, 17, 18, 19, 20, 21, 22, 23] (by kernel_rfl) (by kernel_rfl) (by kernel_rfl) fun K hK => ?_ | refine XWP.seq (XWP.drw [0, 1, 2, 3, 4, 5, 6, 7, 8, 9, 10, 11, 12, 13, 14, 15, 16, 17, 18, 19, 20, 21, 22, 23] (by kernel_rfl) (by kernel_rfl) (by kernel_rfl) fun K hK => ?_) | refine XWP.drw1 [0, 1, 2, 3, 4, 5, 6, 7, 8, 9, 10, 11, 12, 13, 14, 15, 16, 17, 18, 19, 20, 21, 22, 23] (by kernel_rfl) (by kernel_rfl) (by kernel_rfl) fun K hK => ?_) <;> dsimp only [pickOps, List.getElem?_cons_zero, List.getElem?_cons_succ]
            simp only [XA, XB, gateX, Nat.reduceAdd, Nat.reduceLeDiff, Nat.reduceSub, Nat.reduceMul, ↓reduceIte, Int.reduceToNat, Int.reduceLE, beq_self_eq_true, b3]
            refine hK _ ?_
            clear hK
            first | refine Gx.t rfl ?_ | refine XWP.seq (Gx.t rfl ?_)
            refine XWP.skip ?_
            exact ⟨StIs.of (by exact rfl), by omega⟩
          · have b3 : decide ((4294967296 : Int) ≤ (g : Int)) = false := decide_eq_false (by unfold BB at hgB; omega)
            (first | refine XWP.drw [0, 1, 2, 3, 4, 5, 6, 7, 8, 9, 10, 11, 12, 13, 14, 15, 16, 17, 18, 19, 20, 21, 22, 23] (by kernel_rfl) (by kernel_rfl) (by kernel_rfl) fun K hK => ?_ | refine XWP.seq (XWP.drw [0, 1, 2, 3, 4, 5, 6, 7, 8, 9, 10, 11, 12, 13, 14, 15, 16, 17, 18, 19, 20, 21, 22, 23] (by kernel_rfl) (by kernel_rfl) (by kernel_rfl) fun K hK => ?_) | refine XWP.drw1 [0, 1, 2, 3, 4, 5, 6, 7, 8, 9, 10, 11, 12, 13, 14, 15, 16, 17, 18, 19, 20, 21, 22, 23] (by kernel_rfl) (by kernel_rfl) (by kernel_rfl) fun K hK => ?_) <;> dsimp only [pickOps, List.getElem?_cons_zero, List.getElem?_cons_succ]
            simp only [XA, XB, gateX, Nat.reduceAdd, Nat.reduceLeDiff, Nat.reduceSub, Nat.reduceMul, ↓reduceIte, Int.reduceToNat, Int.reduceLE, beq_self_eq_true, b3, i64_sub2 vs.length (by omega) (by omega), i64_add j vs.length (by omega), i64_sub2 (j + vs.length) (by omega) (by omega)]
            refine ⟨by omega, by omega, ld_mem (loads_cell shapeT_116 (hcv2 _)) ?_⟩
            simp only [XA, XB, gateX, Nat.reduceAdd, Nat.reduceLeDiff, Nat.reduceSub, Nat.reduceMul, ↓reduceIte, Int.reduceToNat, Int.reduceLE, beq_self_eq_true, i64_sub2 vs.length (by omega) (by omega), i64_add j vs.length (by omega), i64_sub2 (j + vs.length) (by omega) (by omega)]
            refine ⟨by omega, by omega, ld_mem (loads_cell shapeT_116 hcu2) ?_⟩
            simp only [XA, XB, gateX, Nat.reduceAdd, Nat.reduceLeDiff, Nat.reduceSub, Nat.reduceMul, ↓reduceIte, Int.reduceToNat, Int.reduceLE, beq_self_eq_true, u64_of_u32 _ kv2, u64_of_u32 _ kU2, shl32 _ hrest, or_add _ _ hrest kU2, u64_mul _ _ (dig_mul (show g < BB by omega) kv2)]
            by_cases ht : rest * BB + u2 < g * v2
            · have b4 : decide (((rest * BB + u2 : Nat) : Int) < ((g * v2 : Nat) : Int)) = true := decide_eq_true (by omega)
              simp only [XA, XB, gateX, Nat.reduceAdd, Nat.reduceLeDiff, Nat.reduceSub, Nat.reduceMul, ↓reduceIte, Int.reduceToNat, Int.reduceLE, beq_self_eq_true, b4]
              refine hK _ ?_
              clear hK
              first | refine Gx.t rfl ?_ | refine XWP.seq (Gx.t rfl ?_)
              refine XWP.skip ?_
              exact ⟨StIs.of (by exact rfl), kdec g rest hg1 hgr ht⟩
            · have b4 : decide (((rest * BB + u2 : Nat) : Int) < ((g * v2 : Nat) : Int)) = false := decide_eq_false (by omega)
              simp only [XA, XB, gateX, Nat.reduceAdd, Nat.reduceLeDiff, Nat.reduceSub, Nat.reduceMul, ↓reduceIte, Int.reduceToNat, Int.reduceLE, beq_self_eq_true, b4]
              refine hK _ ?_
              clear hK
              first | refine Gx.f rfl ?_ | refine XWP.seq (Gx.f rfl ?_)
              refine XWP.exit ?_
              exact ⟨g, StIs.of (by exact rfl), hg1, kend g rest (by omega) hgr (by omega), by omega⟩
        · rintro s ⟨hs, hgq⟩
          obtain ⟨u, rfl⟩ := hs.out
          dsimp only
          first | refine XWP.block ?_ | refine XWP.seq (XWP.block ?_)
          first | refine Gx.a (by kernel_rfl) fun K hK => ?_ | refine Gx.b (by kernel_rfl) fun K hK => ?_ | refine Gx.c (by kernel_rfl) fun K hK => ?_
          have w1 : IntKind.u64.wrap ((g : Int) - 1) = ((g - 1 : Nat) : Int) := u64_sub g 1 (by omega) (by omega)
          simp only [XA, XB, gateX, Nat.reduceAdd, Nat.reduceLeDiff, Nat.reduceSub, Nat.reduceMul, ↓reduceIte, Int.reduceToNat, Int.reduceLE, beq_self_eq_true, w1]
          refine hK _ ?_
          first | refine Gx.a (by kernel_rfl) fun K hK => ?_ | refine Gx.b (by kernel_rfl) fun K hK => ?_ | refine Gx.c (by kernel_rfl) fun K hK => ?_
          simp only [XA, XB, gateX, Nat.reduceAdd, Nat.reduceLeDiff, Nat.reduceSub, Nat.reduceMul, ↓reduceIte, Int.reduceToNat, Int.reduceLE, beq_self_eq_true, i64_pred vs.length (by omega) (by omega)]
          refine ⟨by omega, by omega, ld_mem (loads_cell shapeT_116 (hcv1 _)) ?_⟩
          simp only [XA, XB, gateX, Nat.reduceAdd, Nat.reduceLeDiff, Nat.reduceSub, Nat.reduceMul, ↓reduceIte, Int.reduceToNat, Int.reduceLE, beq_self_eq_true, u64_of_u32 _ kv1, u64_add rest v1 (by unfold BB at *; omega)]
          refine hK _ ?_
          first | refine Gx.a (by kernel_rfl) fun K hK => ?_ | refine Gx.b (by kernel_rfl) fun K hK => ?_ | refine Gx.c (by kernel_rfl) fun K hK => ?_
          have e5 : (g - 1) * v1 + (rest + v1) = u0 * BB + u1 := by
            obtain ⟨g', rfl⟩ : ∃ g', g = g' + 1 := ⟨g - 1, by omega⟩
            rw [Nat.add_mul] at hgr
            rw [Nat.add_sub_cancel]; omega
          by_cases hrB : BB ≤ rest + v1
          · have b5 : decide ((4294967296 : Int) ≤ ((rest + v1 : Nat) : Int)) = true := decide_eq_true (by unfold BB at hrB; omega)
            simp only [XA, XB, gateX, Nat.reduceAdd, Nat.reduceLeDiff, Nat.reduceSub, Nat.reduceMul, ↓reduceIte, Int.reduceToNat, Int.reduceLE, beq_self_eq_true, b5]
            refine hK _ ?_
            clear hK
            first | refine Gx.t rfl ?_ | refine XWP.seq (Gx.t rfl ?_)
            refine XWP.exit ?_
            obtain ⟨g1, g2⟩ := guess_big kv1 kv2 rfl ku kU1 e5 hrB
            exact ⟨g - 1, StIs.of (by exact rfl), by omega, kend (g - 1) (rest + v1) g1 e5 (by omega), g1⟩
          · have b5 : decide ((4294967296 : Int) ≤ ((rest + v1 : Nat) : Int)) = false := decide_eq_false (by unfold BB at hrB; omega)
            simp only [XA, XB, gateX, Nat.reduceAdd, Nat.reduceLeDiff, Nat.reduceSub, Nat.reduceMul, ↓reduceIte, Int.reduceToNat, Int.reduceLE, beq_self_eq_true, b5]
            refine hK _ ?_
            clear hK
            first | refine Gx.f rfl ?_ | refine XWP.seq (Gx.f rfl ?_)
            refine XWP.skip ?_
            exact ⟨g - 1, by omega, rest + v1, StIs.of (by exact rfl), by omega, by omega, by omega, e5⟩
        --}
      · rintro s ⟨g, hs, hg1, hg2, hgB⟩
        obtain ⟨u, rfl⟩ := hs.out
        dsimp only
        clear kdec kend
        first | refine Gx.a (by kernel_rfl) fun K hK => ?_ | refine Gx.b (by kernel_rfl) fun K hK => ?_ | refine Gx.c (by kernel_rfl) fun K hK => ?_
        simp only [XA, XB, gateX, Nat.reduceAdd, Nat.reduceLeDiff, Nat.reduceSub, Nat.reduceMul, ↓reduceIte, Int.reduceToNat, Int.reduceLE, beq_self_eq_true]
        refine hK _ ?_
        clear hK
        have hz0 : nv (us1.drop (j + vs.length + 1)) = 0 := above_zero hud1 hvsd hlt
        refine XWP.cut (fun s => ∃ (H6 : Heap) (us2 : List Nat) (cc bo : Nat), StIs (fun Z => [.v (.slice A (dg a).length c), .v (.slice (some ⟨q1, o1, none⟩) (dg b).length c'), Z 2,Z 3,Z 4,Z 5,Z 6,Z 7,Z 8, .v (.int .u64 (l : Int)), .v (.slice (some ⟨gu, 0, none⟩) ((dg a).length + 1) ((dg a).length + 1)), .v (.slice (some ⟨p7, o7, none⟩) vs.length c7), .v (.int .i64 (vs.length : Int)), .v (.slice (some ⟨gq, 0, none⟩) M M), .v (.int .i64 (j : Int)), Z 15, .v (.int .u64 (g : Int)), Z 17, .v (.int .u64 (bo : Int)), .v (.int .u64 (cc : Int)), Z 20,Z 21,Z 22,Z 23,Z 24,Z 25,Z 26,Z 27,Z 28,Z 29,Z 30,Z 31,Z 32,Z 33,Z 34,Z 35,Z 36,Z 37,Z 38,Z 39,Z 40,Z 41,Z 42,Z 43,Z 44,Z 45,Z 46,Z 47,Z 48,Z 49,Z 50,Z 51,Z 52,Z 53,Z 54,Z 55,Z 56,Z 57,Z 58,Z 59,Z 60,Z 61,Z 62,Z 63,Z 64,Z 65,Z 66,Z 67,Z 68,Z 69,Z 70,Z 71,Z 72,Z 73,Z 74,Z 75,Z 76,Z 77,Z 78,Z 79,Z 80,Z 81,Z 82,Z 83,Z 84,Z 85,Z 86,Z 87,Z 88,Z 89,Z 90,Z 91,Z 92,Z 93,Z 94,Z 95,Z 96,Z 97,Z 98,Z 99,Z 100,Z 101,Z 102,Z 103,Z 104,Z 105,Z 106,Z 107,Z 108,Z 109,Z 110,Z 111,Z 112,Z 113,Z 114,Z 115,Z 116,Z 117,Z 118,Z 119,Z 120,Z 121,Z 122,Z 123,Z 124,Z 125,Z 126,Z 127,Z 128,Z 129,Z 130,Z 131,Z 132,Z 133,Z 134,Z 135,Z 136,Z 137,Z 138,Z 139,Z 140,Z 141,Z 142,Z 143,Z 144,Z 145,Z 146,Z 147,Z 148,Z 149,Z 150,Z 151,Z 152,Z 153,Z 154,Z 155,Z 156,Z 157,Z 158,Z 159,Z 160,Z 161,Z 162,Z 163,Z 164,Z 165,Z 166,Z 167,Z 168,Z 169,Z 170,Z 171,Z 172,Z 173,Z 174,Z 175,Z 176,Z 177,Z 178,Z 179,Z 180,Z 181,Z 182,Z 183,Z 184,Z 185,Z 186,Z 187,Z 188,Z 189,Z 190,Z 191,Z 192,Z 193,Z 194,Z 195,Z 196,Z 197,Z 198,Z 199,Z 200,Z 201,Z 202,Z 203,Z 204,Z 205,Z 206,Z 207,Z 208,Z 209,Z 210,Z 211,Z 212,Z 213,Z 214,Z 215,Z 216,Z 217,Z 218,Z 219,Z 220,Z 221,Z 222,Z 223,Z 224,Z 225,Z 226,Z 227,Z 228,Z 229,Z 230,Z 231,Z 232,Z 233,Z 234,Z 235,Z 236,Z 237,Z 238,Z 239,Z 240,Z 241,Z 242,Z 243,Z 244,Z 245,Z 246,Z 247,Z 248,Z 249,Z 250,Z 251,Z 252,Z 253,Z 254,Z 255,Z 256,Z 257,Z 258,Z 259,Z 260,Z 261,Z 262,Z 263,Z 264,Z 265,Z 266,Z 267,Z 268,Z 269,Z 270,Z 271,Z 272,Z 273,Z 274,Z 275,Z 276,Z 277,Z 278,Z 279,Z 280,Z 281,Z 282,Z 283,Z 284,Z 285,Z 286,Z 287,Z 288,Z 289,Z 290,Z 291,Z 292,Z 293,Z 294,Z 295,Z 296,Z 297,Z 298,Z 299,Z 300,Z 301,Z 302,Z 303,Z 304,Z 305,Z 306,Z 307,Z 308,Z 309,Z 310,Z 311,Z 312,Z 313,Z 314]) [] H6 V7 s ∧ H6 gu = some ⟨116, u32s us2, (dg a).length + 1⟩ ∧ H6 gq = some ⟨116, u32s qs, M⟩ ∧ us2.length = (dg a).length + 1 ∧ Dig us2 ∧ cc < BB ∧ bo ≤ 1 ∧ us2.take j = us1.take j ∧ us2.drop (j + vs.length) = us1.drop (j + vs.length) ∧ nv us2 + BB ^ j * (g * nv vs) = nv us1 + BB ^ (j + vs.length) * (cc + bo)) ?_ ?_
        ·
          --{
          first | refine Gx.a (by kernel_rfl) fun K hK => ?_ | refine Gx.b (by kernel_rfl) fun K hK => ?_ | refine Gx.c (by kernel_rfl) fun K hK => ?_
          simp only [XA, XB, gateX, Nat.reduceAdd, Nat.reduceLeDiff, Nat.reduceSub, Nat.reduceMul, ↓reduceIte, Int.reduceToNat, Int.reduceLE, beq_self_eq_true]
          refine hK _ ?_
          clear hK
          first | refine XWP.block ?_ | refine XWP.seq (XWP.block ?_)
          refine XWP.loop (fun n s => ∃ (k : Nat) (H6 : Heap) (us2 : List Nat) (cc bo : Nat), StIs (fun Z => [.v (.slice A (dg a).length c), .v (.slice (some ⟨q1, o1, none⟩) (dg b).length c'), Z 2,Z 3,Z 4,Z 5,Z 6,Z 7,Z 8, .v (.int .u64 (l : Int)), .v (.slice (some ⟨gu, 0, none⟩) ((dg a).length + 1) ((dg a).length + 1)), .v (.slice (some ⟨p7, o7, none⟩) vs.length c7), .v (.int .i64 (vs.length : Int)), .v (.slice (some ⟨gq, 0, none⟩) M M), .v (.int .i64 (j : Int)), Z 15, .v (.int .u64 (g : Int)), Z 17, .v (.int .u64 (bo : Int)), .v (.int .u64 (cc : Int)), Z 20,Z 21,Z 22,Z 23,Z 24,Z 25,Z 26,Z 27,Z 28,Z 29,Z 30,Z 31,Z 32,Z 33,Z 34,Z 35,Z 36,Z 37,Z 38,Z 39,Z 40,Z 41,Z 42,Z 43,Z 44,Z 45,Z 46,Z 47,Z 48,Z 49,Z 50,Z 51,Z 52,Z 53,Z 54,Z 55,Z 56,Z 57,Z 58,Z 59,Z 60,Z 61,Z 62,Z 63,Z 64,Z 65,Z 66,Z 67,Z 68,Z 69,Z 70,Z 71,Z 72,Z 73,Z 74,Z 75,Z 76,Z 77,Z 78,Z 79,Z 80,Z 81,Z 82,Z 83,Z 84,Z 85,Z 86,Z 87,Z 88,Z 89,Z 90,Z 91,Z 92,Z 93,Z 94,Z 95,Z 96,Z 97,Z 98,Z 99,Z 100,Z 101,Z 102,Z 103,Z 104,Z 105,Z 106,Z 107,Z 108,Z 109,Z 110,Z 111,Z 112,Z 113,Z 114,Z 115,Z 116,Z 117,Z 118,Z 119,Z 120,Z 121,Z 122,Z 123,Z 124,Z 125,Z 126,Z 127,Z 128,Z 129,Z 130,Z 131,Z 132,Z 133,Z 134,Z 135,Z 136,Z 137,Z 138,Z 139,Z 140,Z 141,Z 142,Z 143,Z 144,Z 145,Z 146,Z 147,Z 148,Z 149,Z 150,Z 151,Z 152,Z 153,Z 154,Z 155,Z 156,Z 157, .v (.int .i64 (vs.length : Int)), .v (.int .i64 (k : Int)), Z 160,Z 161,Z 162,Z 163,Z 164,Z 165,Z 166,Z 167,Z 168,Z 169,Z 170,Z 171,Z 172,Z 173,Z 174,Z 175,Z 176,Z 177,Z 178,Z 179,Z 180,Z 181,Z 182,Z 183,Z 184,Z 185,Z 186,Z 187,Z 188,Z 189,Z 190,Z 191,Z 192,Z 193,Z 194,Z 195,Z 196,Z 197,Z 198,Z 199,Z 200,Z 201,Z 202,Z 203,Z 204,Z 205,Z 206,Z 207,Z 208,Z 209,Z 210,Z 211,Z 212,Z 213,Z 214,Z 215,Z 216,Z 217,Z 218,Z 219,Z 220,Z 221,Z 222,Z 223,Z 224,Z 225,Z 226,Z 227,Z 228,Z 229,Z 230,Z 231,Z 232,Z 233,Z 234,Z 235,Z 236,Z 237,Z 238,Z 239,Z 240,Z 241,Z 242,Z 243,Z 244,Z 245,Z 246,Z 247,Z 248,Z 249,Z 250,Z 251,Z 252,Z 253,Z 254,Z 255,Z 256,Z 257,Z 258,Z 259,Z 260,Z 261,Z 262,Z 263,Z 264,Z 265,Z 266,Z 267,Z 268,Z 269,Z 270,Z 271,Z 272,Z 273,Z 274,Z 275,Z 276,Z 277,Z 278,Z 279,Z 280,Z 281,Z 282,Z 283,Z 284,Z 285,Z 286,Z 287,Z 288,Z 289,Z 290,Z 291,Z 292,Z 293,Z 294,Z 295,Z 296,Z 297,Z 298,Z 299,Z 300,Z 301,Z 302,Z 303,Z 304,Z 305,Z 306,Z 307,Z 308,Z 309,Z 310,Z 311,Z 312,Z 313,Z 314]) [] H6 V7 s ∧ n + k = vs.length ∧ H6 gu = some ⟨116, u32s us2, (dg a).length + 1⟩ ∧ H6 gq = some ⟨116, u32s qs, M⟩ ∧ us2.length = (dg a).length + 1 ∧ Dig us2 ∧ cc < BB ∧ bo ≤ 1 ∧ us2.take j = us1.take j ∧ us2.drop (j + vs.length) = us1.drop (j + vs.length) ∧ nv us2 + BB ^ j * (g * nv (vs.take k)) = nv us1 + BB ^ (j + k) * (cc + bo)) vs.length ⟨0, H5, us1, 0, 0, StIs.of (by exact rfl), rfl, hHu, hHq, hul1, hud1, BB_pos, Nat.zero_le _, rfl, rfl, by simp [nv]⟩ ?_
          rintro n s ⟨k, H6, us2, cc, bo, hs, hn, hHu2, hHq2, hul2, hud2, hcc, hbo, ht2, hd2, hnv2⟩
          obtain ⟨z, rfl⟩ := hs.out
          dsimp only
          first | refine Gx.a (by kernel_rfl) fun K hK => ?_ | refine Gx.b (by kernel_rfl) fun K hK => ?_ | refine Gx.c (by kernel_rfl) fun K hK => ?_
          by_cases hkn : k < vs.length
          · have b3 : decide ((k : Int) < (vs.length : Int)) = true := decide_eq_true (by omega)
            simp only [XA, XB, gateX, Nat.reduceAdd, Nat.reduceLeDiff, Nat.reduceSub, Nat.reduceMul, ↓reduceIte, Int.reduceToNat, Int.reduceLE, beq_self_eq_true, b3]
            refine hK _ ?_
            first | refine Gx.t rfl ?_ | refine XWP.seq (Gx.t rfl ?_)
            refine XWP.skip ?_
            refine XWP.seq ?_
            first | refine XWP.block ?_ | refine XWP.seq (XWP.block ?_)
            have hcv := NatAt.cells h7 k hkn
            have hdv := Dig_get hvsd k hkn
            rw [getD_get] at hcv hdv
            have hcu := row_cell (V := V7) hHu2 (k := k + j) (by omega)
            have hdu : us2.getD (k + j) 0 < BB := gd_lt hud2 _
            have hst := mulsub_step (l := us2) (vs := vs) (U0 := nv us1) (j := j) (i := k) (g := g) (c := cc) (bo := bo) (by omega) hud2 hbo hnv2
            have ev : gd vs k = vs.getD k 0 := rfl
            rw [ev] at hst
            generalize hv : vs.getD k 0 = vk at *
            generalize hx : us2.getD (k + j) 0 = x at *
            obtain ⟨mc1, mc2⟩ := dig_mulc hcc hgB hdv
            have mm := Nat.mod_lt (cc + g * vk) BB_pos
            generalize hy : (cc + g * vk) % BB + bo = y at *
            have hyB : y ≤ BB := by omega
            obtain ⟨sd1, sd2, sd3⟩ := subD_eq hdu hyB
            first | refine Gx.a (by kernel_rfl) fun K hK => ?_ | refine Gx.b (by kernel_rfl) fun K hK => ?_ | refine Gx.c (by kernel_rfl) fun K hK => ?_
            simp only [XA, XB, gateX, Nat.reduceAdd, Nat.reduceLeDiff, Nat.reduceSub, Nat.reduceMul, ↓reduceIte, Int.reduceToNat, Int.reduceLE, beq_self_eq_true]
            refine hK _ ?_
            first | refine Gx.a (by kernel_rfl) fun K hK => ?_ | refine Gx.b (by kernel_rfl) fun K hK => ?_ | refine Gx.c (by kernel_rfl) fun K hK => ?_
            simp only [XA, XB, gateX, Nat.reduceAdd, Nat.reduceLeDiff, Nat.reduceSub, Nat.reduceMul, ↓reduceIte, Int.reduceToNat, Int.reduceLE, beq_self_eq_true]
            refine ⟨by omega, by omega, ld_mem (loads_cell shapeT_116 (hcv _)) ?_⟩
            simp only [XA, XB, gateX, Nat.reduceAdd, Nat.reduceLeDiff, Nat.reduceSub, Nat.reduceMul, ↓reduceIte, Int.reduceToNat, Int.reduceLE, beq_self_eq_true, u64_of_u32 _ hdv, u64_mul _ _ (dig_mul hgB hdv), u64_add _ _ mc1]
            refine hK _ ?_
            first | refine Gx.a (by kernel_rfl) fun K hK => ?_ | refine Gx.b (by kernel_rfl) fun K hK => ?_ | refine Gx.c (by kernel_rfl) fun K hK => ?_
            simp only [XA, XB, gateX, Nat.reduceAdd, Nat.reduceLeDiff, Nat.reduceSub, Nat.reduceMul, ↓reduceIte, Int.reduceToNat, Int.reduceLE, beq_self_eq_true, and_mask _ mc1, u64_add ((cc + g * vk) % BB) bo (by unfold BB at *; omega), hy]
            refine hK _ ?_
            first | refine Gx.a (by kernel_rfl) fun K hK => ?_ | refine Gx.b (by kernel_rfl) fun K hK => ?_ | refine Gx.c (by kernel_rfl) fun K hK => ?_
            simp only [XA, XB, gateX, Nat.reduceAdd, Nat.reduceLeDiff, Nat.reduceSub, Nat.reduceMul, ↓reduceIte, Int.reduceToNat, Int.reduceLE, beq_self_eq_true]
            refine hK _ ?_
            clear hK
            refine XWP.cut (fun s => StIs (fun Z => [.v (.slice A (dg a).length c), .v (.slice (some ⟨q1, o1, none⟩) (dg b).length c'), Z 2,Z 3,Z 4,Z 5,Z 6,Z 7,Z 8, .v (.int .u64 (l : Int)), .v (.slice (some ⟨gu, 0, none⟩) ((dg a).length + 1) ((dg a).length + 1)), .v (.slice (some ⟨p7, o7, none⟩) vs.length c7), .v (.int .i64 (vs.length : Int)), .v (.slice (some ⟨gq, 0, none⟩) M M), .v (.int .i64 (j : Int)), Z 15, .v (.int .u64 (g : Int)), Z 17, .v (.int .u64 ((subB x y : Nat) : Int)), .v (.int .u64 ((cc + g * vk : Nat) : Int)), .v (.int .i64 (k : Int)), .v (.int .u64 (y : Int)), Z 22,Z 23,Z 24,Z 25,Z 26,Z 27,Z 28,Z 29,Z 30,Z 31,Z 32,Z 33,Z 34,Z 35,Z 36,Z 37,Z 38,Z 39,Z 40,Z 41,Z 42,Z 43,Z 44,Z 45,Z 46,Z 47,Z 48,Z 49,Z 50,Z 51,Z 52,Z 53,Z 54,Z 55,Z 56,Z 57,Z 58,Z 59,Z 60,Z 61,Z 62,Z 63,Z 64,Z 65,Z 66,Z 67,Z 68,Z 69,Z 70,Z 71,Z 72,Z 73,Z 74,Z 75,Z 76,Z 77,Z 78,Z 79,Z 80,Z 81,Z 82,Z 83,Z 84,Z 85,Z 86,Z 87,Z 88,Z 89,Z 90,Z 91,Z 92,Z 93,Z 94,Z 95,Z 96,Z 97,Z 98,Z 99,Z 100,Z 101,Z 102,Z 103,Z 104,Z 105,Z 106,Z 107,Z 108,Z 109,Z 110,Z 111,Z 112,Z 113,Z 114,Z 115,Z 116,Z 117,Z 118,Z 119,Z 120,Z 121,Z 122,Z 123,Z 124,Z 125,Z 126,Z 127,Z 128,Z 129,Z 130,Z 131,Z 132,Z 133,Z 134,Z 135,Z 136,Z 137,Z 138,Z 139,Z 140,Z 141,Z 142,Z 143,Z 144,Z 145,Z 146,Z 147,Z 148,Z 149,Z 150,Z 151,Z 152,Z 153,Z 154,Z 155,Z 156,Z 157, .v (.int .i64 (vs.length : Int)), .v (.int .i64 (k : Int)), Z 160,Z 161,Z 162,Z 163,Z 164,Z 165,Z 166,Z 167,Z 168,Z 169,Z 170,Z 171,Z 172,Z 173,Z 174,Z 175,Z 176,Z 177,Z 178,Z 179,Z 180,Z 181,Z 182,Z 183,Z 184,Z 185,Z 186,Z 187,Z 188,Z 189,Z 190,Z 191,Z 192,Z 193,Z 194,Z 195,Z 196,Z 197,Z 198,Z 199,Z 200,Z 201,Z 202,Z 203,Z 204,Z 205,Z 206,Z 207,Z 208,Z 209,Z 210,Z 211,Z 212,Z 213,Z 214,Z 215,Z 216,Z 217,Z 218,Z 219,Z 220,Z 221,Z 222,Z 223,Z 224,Z 225,Z 226,Z 227,Z 228,Z 229,Z 230,Z 231,Z 232,Z 233,Z 234,Z 235,Z 236,Z 237,Z 238,Z 239,Z 240,Z 241,Z 242,Z 243,Z 244,Z 245,Z 246,Z 247,Z 248,Z 249,Z 250,Z 251,Z 252,Z 253,Z 254,Z 255,Z 256,Z 257,Z 258,Z 259,Z 260,Z 261,Z 262,Z 263,Z 264,Z 265,Z 266,Z 267,Z 268,Z 269,Z 270,Z 271,Z 272,Z 273,Z 274,Z 275,Z 276,Z 277,Z 278,Z 279,Z 280,Z 281,Z 282,Z 283,Z 284,Z 285,Z 286,Z 287,Z 288,Z 289,Z 290,Z 291,Z 292,Z 293,Z 294,Z 295,Z 296,Z 297,Z 298,Z 299,Z 300,Z 301,Z 302,Z 303,Z 304,Z 305,Z 306,Z 307,Z 308,Z 309,Z 310,Z 311,Z 312,Z 313,Z 314]) [] H6 V7 s) ?_ ?_
            · first | refine Gx.a (by kernel_rfl) fun K hK => ?_ | refine Gx.b (by kernel_rfl) fun K hK => ?_ | refine Gx.c (by kernel_rfl) fun K hK => ?_
              simp only [XA, XB, gateX, Nat.reduceAdd, Nat.reduceLeDiff, Nat.reduceSub, Nat.reduceMul, ↓reduceIte, Int.reduceToNat, Int.reduceLE, beq_self_eq_true, i64_add k j (by omega)]
              refine ⟨by omega, by omega, ld_mem (loads_cell shapeT_116 hcu) ?_⟩
              by_cases hxy : x < y
              · have b4 : decide ((x : Int) < (y : Int)) = true := decide_eq_true (by omega)
                simp only [XA, XB, gateX, Nat.reduceAdd, Nat.reduceLeDiff, Nat.reduceSub, Nat.reduceMul, ↓reduceIte, Int.reduceToNat, Int.reduceLE, beq_self_eq_true, u64_of_u32 _ hdu, b4]
                refine hK _ ?_
                first | refine Gx.t rfl ?_ | refine XWP.seq (Gx.t rfl ?_)
                first | refine Gx.a (by kernel_rfl) fun K hK => ?_ | refine Gx.b (by kernel_rfl) fun K hK => ?_ | refine Gx.c (by kernel_rfl) fun K hK => ?_
                simp only [XA, XB, gateX, Nat.reduceAdd, Nat.reduceLeDiff, Nat.reduceSub, Nat.reduceMul, ↓reduceIte, Int.reduceToNat, Int.reduceLE, beq_self_eq_true]
                refine hK _ ?_
                try rw [thenX_normal]
                refine StIs.of ?_
                unfold subB
                rw [if_pos hxy]; rfl
              · have b4 : decide ((x : Int) < (y : Int)) = false := decide_eq_false (by omega)
                simp only [XA, XB, gateX, Nat.reduceAdd, Nat.reduceLeDiff, Nat.reduceSub, Nat.reduceMul, ↓reduceIte, Int.reduceToNat, Int.reduceLE, beq_self_eq_true, u64_of_u32 _ hdu, b4]
                refine hK _ ?_
                first | refine Gx.f rfl ?_ | refine XWP.seq (Gx.f rfl ?_)
                refine XWP.skip ?_
                try rw [thenX_normal]
                refine StIs.of ?_
                unfold subB
                rw [if_neg hxy]; rfl
            · rintro s hs
              obtain ⟨z2, rfl⟩ := hs.out
              dsimp only
              first | refine Gx.a (by kernel_rfl) fun K hK => ?_ | refine Gx.b (by kernel_rfl) fun K hK => ?_ | refine Gx.c (by kernel_rfl) fun K hK => ?_
              simp only [XA, XB, gateX, Nat.reduceAdd, Nat.reduceLeDiff, Nat.reduceSub, Nat.reduceMul, ↓reduceIte, Int.reduceToNat, Int.reduceLE, beq_self_eq_true, i64_add k j (by omega)]
              refine ⟨by omega, by omega, ld_mem (loads_cell shapeT_116 hcu) ?_⟩
              simp only [XA, XB, gateX, Nat.reduceAdd, Nat.reduceLeDiff, Nat.reduceSub, Nat.reduceMul, ↓reduceIte, Int.reduceToNat, Int.reduceLE, beq_self_eq_true, u64_of_u32 _ hdu, shl32_01 _ sd3]
              rw [sub_mid _ _ hdu hyB]
              refine ⟨by omega, by omega, ?_⟩
              refine st_row shapeT_116 rfl rfl hHu2 (by rw [u32s_length]; omega) ?_
              simp only [XA, XB, gateX, Nat.reduceAdd, Nat.reduceLeDiff, Nat.reduceSub, Nat.reduceMul, ↓reduceIte, Int.reduceToNat, Int.reduceLE, beq_self_eq_true, u32s_set]
              refine hK _ ?_
              first | refine Gx.a (by kernel_rfl) fun K hK => ?_ | refine Gx.b (by kernel_rfl) fun K hK => ?_ | refine Gx.c (by kernel_rfl) fun K hK => ?_
              simp only [XA, XB, gateX, Nat.reduceAdd, Nat.reduceLeDiff, Nat.reduceSub, Nat.reduceMul, ↓reduceIte, Int.reduceToNat, Int.reduceLE, beq_self_eq_true, shr32]
              refine hK _ ?_
              first | refine Gx.a (by kernel_rfl) fun K hK => ?_ | refine Gx.b (by kernel_rfl) fun K hK => ?_ | refine Gx.c (by kernel_rfl) fun K hK => ?_
              simp only [XA, XB, gateX, Nat.reduceAdd, Nat.reduceLeDiff, Nat.reduceSub, Nat.reduceMul, ↓reduceIte, Int.reduceToNat, Int.reduceLE, beq_self_eq_true, i64_succ k (by omega)]
              refine hK _ ⟨n - 1, by omega, k + 1, _, us2.set (k + j) (subD x y), (cc + g * vk) / BB, subB x y, StIs.of (by exact rfl), by omega, upd_at _ _ _, ?_, by simp [hul2], Dig_set hud2 _ sd2, mc2, sd3, ?_, ?_, hst⟩
              · simp only [upd, hne2, if_false]; exact hHq2
              · rw [set_take _ _ (by omega)]; exact ht2
              · rw [set_drop _ _ (by omega)]; exact hd2
          · have b3 : decide ((k : Int) < (vs.length : Int)) = false := decide_eq_false (by omega)
            obtain rfl : k = vs.length := by omega
            simp only [XA, XB, gateX, Nat.reduceAdd, Nat.reduceLeDiff, Nat.reduceSub, Nat.reduceMul, ↓reduceIte, Int.reduceToNat, Int.reduceLE, beq_self_eq_true, b3]
            refine hK _ ?_
            first | refine Gx.f rfl ?_ | refine XWP.seq (Gx.f rfl ?_)
            refine XWP.exit ?_
            exact ⟨H6, us2, cc, bo, StIs.of (by exact rfl), hHu2, hHq2, hul2, hud2, hcc, hbo, ht2, hd2, by rw [List.take_length] at hnv2; exact hnv2⟩
          --}
        · rintro s ⟨H6, us2, cc, bo, hs, hHu2, hHq2, hul2, hud2, hcc, hbo, ht2, hd2, hnv2⟩
          obtain ⟨z, rfl⟩ := hs.out
          dsimp only
          have hcu := row_cell (V := V7) hHu2 (k := j + vs.length) (by omega)
          have hdu : us2.getD (j + vs.length) 0 < BB := gd_lt hud2 _
          have hyB : cc + bo ≤ BB := by omega
          have hml := mulsub_last (l := us2) (j := j) (n := vs.length) (by omega) hud2 hyB hnv2
          generalize hy : cc + bo = y at *
          generalize hx : us2.getD (j + vs.length) 0 = x at *
          obtain ⟨sd1, sd2, sd3⟩ := subD_eq hdu hyB
          have hd3 : (us2.set (j + vs.length) (subD x y)).drop (j + vs.length + 1) = us1.drop (j + vs.length + 1) := by
            rw [set_drop _ _ (by omega)]; exact drop_more hd2 (by omega)
          have ht3 : (us2.set (j + vs.length) (subD x y)).take j = us1.take j := by rw [set_take _ _ (by omega)]; exact ht2
          first | refine Gx.a (by kernel_rfl) fun K hK => ?_ | refine Gx.b (by kernel_rfl) fun K hK => ?_ | refine Gx.c (by kernel_rfl) fun K hK => ?_
          simp only [XA, XB, gateX, Nat.reduceAdd, Nat.reduceLeDiff, Nat.reduceSub, Nat.reduceMul, ↓reduceIte, Int.reduceToNat, Int.reduceLE, beq_self_eq_true, u64_add cc bo (by unfold BB at *; omega), hy]
          refine hK _ ?_
          first | refine Gx.a (by kernel_rfl) fun K hK => ?_ | refine Gx.b (by kernel_rfl) fun K hK => ?_ | refine Gx.c (by kernel_rfl) fun K hK => ?_
          simp only [XA, XB, gateX, Nat.reduceAdd, Nat.reduceLeDiff, Nat.reduceSub, Nat.reduceMul, ↓reduceIte, Int.reduceToNat, Int.reduceLE, beq_self_eq_true, i64_add j vs.length (by omega)]
          refine ⟨by omega, by omega, ld_mem (loads_cell shapeT_116 hcu) ?_⟩
          simp only [XA, XB, gateX, Nat.reduceAdd, Nat.reduceLeDiff, Nat.reduceSub, Nat.reduceMul, ↓reduceIte, Int.reduceToNat, Int.reduceLE, beq_self_eq_true, u64_of_u32 _ hdu]
          refine hK _ ?_
          first | refine Gx.a (by kernel_rfl) fun K hK => ?_ | refine Gx.b (by kernel_rfl) fun K hK => ?_ | refine Gx.c (by kernel_rfl) fun K hK => ?_
          simp only [XA, XB, gateX, Nat.reduceAdd, Nat.reduceLeDiff, Nat.reduceSub, Nat.reduceMul, ↓reduceIte, Int.reduceToNat, Int.reduceLE, beq_self_eq_true, i64_add j vs.length (by omega)]
          refine ⟨by omega, by omega, ld_mem (loads_cell shapeT_116 hcu) ?_⟩
          simp only [XA, XB, gateX, Nat.reduceAdd, Nat.reduceLeDiff, Nat.reduceSub, Nat.reduceMul, ↓reduceIte, Int.reduceToNat, Int.reduceLE, beq_self_eq_true, u64_of_u32 _ hdu, sub_last _ _ hdu hyB]
          refine ⟨by omega, by omega, ?_⟩
          refine st_row shapeT_116 rfl rfl hHu2 (by rw [u32s_length]; omega) ?_
          simp only [XA, XB, gateX, Nat.reduceAdd, Nat.reduceLeDiff, Nat.reduceSub, Nat.reduceMul, ↓reduceIte, Int.reduceToNat, Int.reduceLE, beq_self_eq_true, u32s_set]
          refine hK _ ?_
          clear hK
          generalize hus3 : us2.set (j + vs.length) (subD x y) = us3 at *
          have hul3 : us3.length = (dg a).length + 1 := by rw [← hus3]; simp [hul2]
          have hud3 : Dig us3 := hus3 ▸ Dig_set hud2 _ sd2
          refine XWP.cut (fun s => ∃ (H7 : Heap) (us4 : List Nat), StIs (fun Z => [.v (.slice A (dg a).length c), .v (.slice (some ⟨q1, o1, none⟩) (dg b).length c'), Z 2,Z 3,Z 4,Z 5,Z 6,Z 7,Z 8, .v (.int .u64 (l : Int)), .v (.slice (some ⟨gu, 0, none⟩) ((dg a).length + 1) ((dg a).length + 1)), .v (.slice (some ⟨p7, o7, none⟩) vs.length c7), .v (.int .i64 (vs.length : Int)), .v (.slice (some ⟨gq, 0, none⟩) M M), .v (.int .i64 (j : Int)), Z 15, .v (.int .u64 (q : Int)), Z 17,Z 18,Z 19,Z 20,Z 21,Z 22,Z 23,Z 24,Z 25,Z 26,Z 27,Z 28,Z 29,Z 30,Z 31,Z 32,Z 33,Z 34,Z 35,Z 36,Z 37,Z 38,Z 39,Z 40,Z 41,Z 42,Z 43,Z 44,Z 45,Z 46,Z 47,Z 48,Z 49,Z 50,Z 51,Z 52,Z 53,Z 54,Z 55,Z 56,Z 57,Z 58,Z 59,Z 60,Z 61,Z 62,Z 63,Z 64,Z 65,Z 66,Z 67,Z 68,Z 69,Z 70,Z 71,Z 72,Z 73,Z 74,Z 75,Z 76,Z 77,Z 78,Z 79,Z 80,Z 81,Z 82,Z 83,Z 84,Z 85,Z 86,Z 87,Z 88,Z 89,Z 90,Z 91,Z 92,Z 93,Z 94,Z 95,Z 96,Z 97,Z 98,Z 99,Z 100,Z 101,Z 102,Z 103,Z 104,Z 105,Z 106,Z 107,Z 108,Z 109,Z 110,Z 111,Z 112,Z 113,Z 114,Z 115,Z 116,Z 117,Z 118,Z 119,Z 120,Z 121,Z 122,Z 123,Z 124,Z 125,Z 126,Z 127,Z 128,Z 129,Z 130,Z 131,Z 132,Z 133,Z 134,Z 135,Z 136,Z 137,Z 138,Z 139,Z 140,Z 141,Z 142,Z 143,Z 144,Z 145,Z 146,Z 147,Z 148,Z 149,Z 150,Z 151,Z 152,Z 153,Z 154,Z 155,Z 156,Z 157,Z 158,Z 159,Z 160,Z 161,Z 162,Z 163,Z 164,Z 165,Z 166,Z 167,Z 168,Z 169,Z 170,Z 171,Z 172,Z 173,Z 174,Z 175,Z 176,Z 177,Z 178,Z 179,Z 180,Z 181,Z 182,Z 183,Z 184,Z 185,Z 186,Z 187,Z 188,Z 189,Z 190,Z 191,Z 192,Z 193,Z 194,Z 195,Z 196,Z 197,Z 198,Z 199,Z 200,Z 201,Z 202,Z 203,Z 204,Z 205,Z 206,Z 207,Z 208,Z 209,Z 210,Z 211,Z 212,Z 213,Z 214,Z 215,Z 216,Z 217,Z 218,Z 219,Z 220,Z 221,Z 222,Z 223,Z 224,Z 225,Z 226,Z 227,Z 228,Z 229,Z 230,Z 231,Z 232,Z 233,Z 234,Z 235,Z 236,Z 237,Z 238,Z 239,Z 240,Z 241,Z 242,Z 243,Z 244,Z 245,Z 246,Z 247,Z 248,Z 249,Z 250,Z 251,Z 252,Z 253,Z 254,Z 255,Z 256,Z 257,Z 258,Z 259,Z 260,Z 261,Z 262,Z 263,Z 264,Z 265,Z 266,Z 267,Z 268,Z 269,Z 270,Z 271,Z 272,Z 273,Z 274,Z 275,Z 276,Z 277,Z 278,Z 279,Z 280,Z 281,Z 282,Z 283,Z 284,Z 285,Z 286,Z 287,Z 288,Z 289,Z 290,Z 291,Z 292,Z 293,Z 294,Z 295,Z 296,Z 297,Z 298,Z 299,Z 300,Z 301,Z 302,Z 303,Z 304,Z 305,Z 306,Z 307,Z 308,Z 309,Z 310,Z 311,Z 312,Z 313,Z 314]) [] H7 V7 s ∧ H7 gu = some ⟨116, u32s us4, (dg a).length + 1⟩ ∧ H7 gq = some ⟨116, u32s qs, M⟩ ∧ us4.length = (dg a).length + 1 ∧ Dig us4 ∧ us4.take j = us1.take j ∧ nv (us4.drop j) = nv (us1.drop j) % nv vs) ?_ ?_
          ·
            --{
            first | refine Gx.a (by kernel_rfl) fun K hK => ?_ | refine Gx.b (by kernel_rfl) fun K hK => ?_ | refine Gx.c (by kernel_rfl) fun K hK => ?_
            by_cases hxy : x < y
            · have b4 : decide ((x : Int) < (y : Int)) = true := decide_eq_true (by omega)
              have hsb1 : subB x y = 1 := if_pos hxy
              rw [hsb1, Nat.mul_one] at hml
              have hg0 : 1 ≤ g := by
                rcases Nat.eq_zero_or_pos g with h | h
                · subst h
                  have := nv_below (l := us3) (k := j + vs.length + 1) hud3 (by omega) (by rw [hd3]; exact hz0)
                  rw [Nat.zero_mul, Nat.mul_zero] at hml
                  omega
                · exact h
              simp only [XA, XB, gateX, Nat.reduceAdd, Nat.reduceLeDiff, Nat.reduceSub, Nat.reduceMul, ↓reduceIte, Int.reduceToNat, Int.reduceLE, beq_self_eq_true, b4]
              refine hK _ ?_
              first | refine Gx.t rfl ?_ | refine XWP.seq (Gx.t rfl ?_)
              first | refine Gx.a (by kernel_rfl) fun K hK => ?_ | refine Gx.b (by kernel_rfl) fun K hK => ?_ | refine Gx.c (by kernel_rfl) fun K hK => ?_
              have w1 : IntKind.u64.wrap ((g : Int) - 1) = ((g - 1 : Nat) : Int) := u64_sub g 1 (by omega) (by unfold BB at hgB; omega)
              simp only [XA, XB, gateX, Nat.reduceAdd, Nat.reduceLeDiff, Nat.reduceSub, Nat.reduceMul, ↓reduceIte, Int.reduceToNat, Int.reduceLE, beq_self_eq_true, w1]
              refine hK _ ?_
              first | refine Gx.a (by kernel_rfl) fun K hK => ?_ | refine Gx.b (by kernel_rfl) fun K hK => ?_ | refine Gx.c (by kernel_rfl) fun K hK => ?_
              simp only [XA, XB, gateX, Nat.reduceAdd, Nat.reduceLeDiff, Nat.reduceSub, Nat.reduceMul, ↓reduceIte, Int.reduceToNat, Int.reduceLE, beq_self_eq_true]
              refine hK _ ?_
              clear hK
              have hHu3 : upd H6 gu (some ⟨116, u32s us3, (dg a).length + 1⟩) gu = some ⟨116, u32s us3, (dg a).length + 1⟩ := upd_at _ _ _
              have hHq3 : upd H6 gu (some ⟨116, u32s us3, (dg a).length + 1⟩) gq = some ⟨116, u32s qs, M⟩ := by simp only [upd, hne2, if_false]; exact hHq2
              refine XWP.cut (fun s => ∃ (H8 : Heap) (us4 : List Nat) (cc : Nat), StIs (fun Z => [.v (.slice A (dg a).length c), .v (.slice (some ⟨q1, o1, none⟩) (dg b).length c'), Z 2,Z 3,Z 4,Z 5,Z 6,Z 7,Z 8, .v (.int .u64 (l : Int)), .v (.slice (some ⟨gu, 0, none⟩) ((dg a).length + 1) ((dg a).length + 1)), .v (.slice (some ⟨p7, o7, none⟩) vs.length c7), .v (.int .i64 (vs.length : Int)), .v (.slice (some ⟨gq, 0, none⟩) M M), .v (.int .i64 (j : Int)), Z 15, .v (.int .u64 ((g - 1 : Nat) : Int)), Z 17, Z 18, .v (.int .u64 (cc : Int)), Z 20,Z 21,Z 22,Z 23,Z 24,Z 25,Z 26,Z 27,Z 28,Z 29,Z 30,Z 31,Z 32,Z 33,Z 34,Z 35,Z 36,Z 37,Z 38,Z 39,Z 40,Z 41,Z 42,Z 43,Z 44,Z 45,Z 46,Z 47,Z 48,Z 49,Z 50,Z 51,Z 52,Z 53,Z 54,Z 55,Z 56,Z 57,Z 58,Z 59,Z 60,Z 61,Z 62,Z 63,Z 64,Z 65,Z 66,Z 67,Z 68,Z 69,Z 70,Z 71,Z 72,Z 73,Z 74,Z 75,Z 76,Z 77,Z 78,Z 79,Z 80,Z 81,Z 82,Z 83,Z 84,Z 85,Z 86,Z 87,Z 88,Z 89,Z 90,Z 91,Z 92,Z 93,Z 94,Z 95,Z 96,Z 97,Z 98,Z 99,Z 100,Z 101,Z 102,Z 103,Z 104,Z 105,Z 106,Z 107,Z 108,Z 109,Z 110,Z 111,Z 112,Z 113,Z 114,Z 115,Z 116,Z 117,Z 118,Z 119,Z 120,Z 121,Z 122,Z 123,Z 124,Z 125,Z 126,Z 127,Z 128,Z 129,Z 130,Z 131,Z 132,Z 133,Z 134,Z 135,Z 136,Z 137,Z 138,Z 139,Z 140,Z 141,Z 142,Z 143,Z 144,Z 145,Z 146,Z 147,Z 148,Z 149,Z 150,Z 151,Z 152,Z 153,Z 154,Z 155,Z 156,Z 157,Z 158,Z 159,Z 160,Z 161,Z 162,Z 163,Z 164,Z 165,Z 166,Z 167,Z 168,Z 169,Z 170,Z 171,Z 172,Z 173,Z 174,Z 175,Z 176,Z 177,Z 178,Z 179,Z 180,Z 181,Z 182,Z 183,Z 184,Z 185,Z 186,Z 187,Z 188,Z 189,Z 190,Z 191,Z 192,Z 193,Z 194,Z 195,Z 196,Z 197,Z 198,Z 199,Z 200,Z 201,Z 202,Z 203,Z 204,Z 205,Z 206,Z 207,Z 208,Z 209,Z 210,Z 211,Z 212,Z 213,Z 214,Z 215,Z 216,Z 217,Z 218,Z 219,Z 220,Z 221,Z 222,Z 223,Z 224,Z 225,Z 226,Z 227,Z 228,Z 229,Z 230,Z 231,Z 232,Z 233,Z 234,Z 235,Z 236,Z 237,Z 238,Z 239,Z 240,Z 241,Z 242,Z 243,Z 244,Z 245,Z 246,Z 247,Z 248,Z 249,Z 250,Z 251,Z 252,Z 253,Z 254,Z 255,Z 256,Z 257,Z 258,Z 259,Z 260,Z 261,Z 262,Z 263,Z 264,Z 265,Z 266,Z 267,Z 268,Z 269,Z 270,Z 271,Z 272,Z 273,Z 274,Z 275,Z 276,Z 277,Z 278,Z 279,Z 280,Z 281,Z 282,Z 283,Z 284,Z 285,Z 286,Z 287,Z 288,Z 289,Z 290,Z 291,Z 292,Z 293,Z 294,Z 295,Z 296,Z 297,Z 298,Z 299,Z 300,Z 301,Z 302,Z 303,Z 304,Z 305,Z 306,Z 307,Z 308,Z 309,Z 310,Z 311,Z 312,Z 313,Z 314]) [] H8 V7 s ∧ H8 gu = some ⟨116, u32s us4, (dg a).length + 1⟩ ∧ H8 gq = some ⟨116, u32s qs, M⟩ ∧ us4.length = (dg a).length + 1 ∧ Dig us4 ∧ cc < BB ∧ us4.take j = us1.take j ∧ us4.drop (j + vs.length) = us3.drop (j + vs.length) ∧ nv us4 + BB ^ (j + vs.length) * cc = nv us3 + BB ^ j * nv vs) ?_ ?_
              · first | refine Gx.a (by kernel_rfl) fun K hK => ?_ | refine Gx.b (by kernel_rfl) fun K hK => ?_ | refine Gx.c (by kernel_rfl) fun K hK => ?_
                simp only [XA, XB, gateX, Nat.reduceAdd, Nat.reduceLeDiff, Nat.reduceSub, Nat.reduceMul, ↓reduceIte, Int.reduceToNat, Int.reduceLE, beq_self_eq_true]
                refine hK _ ?_
                clear hK
                first | refine XWP.block ?_ | refine XWP.seq (XWP.block ?_)
                refine XWP.loop (fun n s => ∃ (k : Nat) (H8 : Heap) (us4 : List Nat) (cc : Nat), StIs (fun Z => [.v (.slice A (dg a).length c), .v (.slice (some ⟨q1, o1, none⟩) (dg b).length c'), Z 2,Z 3,Z 4,Z 5,Z 6,Z 7,Z 8, .v (.int .u64 (l : Int)), .v (.slice (some ⟨gu, 0, none⟩) ((dg a).length + 1) ((dg a).length + 1)), .v (.slice (some ⟨p7, o7, none⟩) vs.length c7), .v (.int .i64 (vs.length : Int)), .v (.slice (some ⟨gq, 0, none⟩) M M), .v (.int .i64 (j : Int)), Z 15, .v (.int .u64 ((g - 1 : Nat) : Int)), Z 17, Z 18, .v (.int .u64 (cc : Int)), Z 20,Z 21,Z 22,Z 23,Z 24,Z 25,Z 26,Z 27,Z 28,Z 29,Z 30,Z 31,Z 32,Z 33,Z 34,Z 35,Z 36,Z 37,Z 38,Z 39,Z 40,Z 41,Z 42,Z 43,Z 44,Z 45,Z 46,Z 47,Z 48,Z 49,Z 50,Z 51,Z 52,Z 53,Z 54,Z 55,Z 56,Z 57,Z 58,Z 59,Z 60,Z 61,Z 62,Z 63,Z 64,Z 65,Z 66,Z 67,Z 68,Z 69,Z 70,Z 71,Z 72,Z 73,Z 74,Z 75,Z 76,Z 77,Z 78,Z 79,Z 80,Z 81,Z 82,Z 83,Z 84,Z 85,Z 86,Z 87,Z 88,Z 89,Z 90,Z 91,Z 92,Z 93,Z 94,Z 95,Z 96,Z 97,Z 98,Z 99,Z 100,Z 101,Z 102,Z 103,Z 104,Z 105,Z 106,Z 107,Z 108,Z 109,Z 110,Z 111,Z 112,Z 113,Z 114,Z 115,Z 116,Z 117,Z 118,Z 119,Z 120,Z 121,Z 122,Z 123,Z 124,Z 125,Z 126,Z 127,Z 128,Z 129,Z 130,Z 131,Z 132,Z 133,Z 134,Z 135,Z 136,Z 137,Z 138,Z 139,Z 140,Z 141,Z 142,Z 143,Z 144,Z 145,Z 146,Z 147,Z 148,Z 149,Z 150,Z 151,Z 152,Z 153,Z 154,Z 155,Z 156,Z 157,Z 158,Z 159,Z 160,Z 161,Z 162,Z 163,Z 164,Z 165,Z 166,Z 167,Z 168,Z 169,Z 170,Z 171,Z 172,Z 173,Z 174,Z 175,Z 176,Z 177,Z 178,Z 179,Z 180,Z 181,Z 182,Z 183,Z 184,Z 185,Z 186,Z 187,Z 188,Z 189,Z 190,Z 191,Z 192,Z 193,Z 194,Z 195,Z 196,Z 197,Z 198,Z 199,Z 200,Z 201,Z 202,Z 203,Z 204,Z 205,Z 206,Z 207,Z 208,Z 209,Z 210,Z 211,Z 212,Z 213,Z 214,Z 215,Z 216,Z 217,Z 218,Z 219,Z 220,Z 221,Z 222,Z 223,Z 224,Z 225,Z 226,Z 227,Z 228,Z 229,Z 230,Z 231,Z 232,Z 233,Z 234, .v (.int .i64 (vs.length : Int)), .v (.int .i64 (k : Int)), Z 237,Z 238,Z 239,Z 240,Z 241,Z 242,Z 243,Z 244,Z 245,Z 246,Z 247,Z 248,Z 249,Z 250,Z 251,Z 252,Z 253,Z 254,Z 255,Z 256,Z 257,Z 258,Z 259,Z 260,Z 261,Z 262,Z 263,Z 264,Z 265,Z 266,Z 267,Z 268,Z 269,Z 270,Z 271,Z 272,Z 273,Z 274,Z 275,Z 276,Z 277,Z 278,Z 279,Z 280,Z 281,Z 282,Z 283,Z 284,Z 285,Z 286,Z 287,Z 288,Z 289,Z 290,Z 291,Z 292,Z 293,Z 294,Z 295,Z 296,Z 297,Z 298,Z 299,Z 300,Z 301,Z 302,Z 303,Z 304,Z 305,Z 306,Z 307,Z 308,Z 309,Z 310,Z 311,Z 312,Z 313,Z 314]) [] H8 V7 s ∧ n + k = vs.length ∧ H8 gu = some ⟨116, u32s us4, (dg a).length + 1⟩ ∧ H8 gq = some ⟨116, u32s qs, M⟩ ∧ us4.length = (dg a).length + 1 ∧ Dig us4 ∧ cc < BB ∧ us4.take j = us1.take j ∧ us4.drop (j + vs.length) = us3.drop (j + vs.length) ∧ nv us4 + BB ^ (j + k) * cc = nv us3 + BB ^ j * nv (vs.take k)) vs.length ⟨0, _, us3, 0, StIs.of (by exact rfl), rfl, hHu3, hHq3, hul3, hud3, BB_pos, ht3, rfl, by simp [nv]⟩ ?_
                rintro n s ⟨k, H8, us4, cc, hs, hn, hHu4, hHq4, hul4, hud4, hcc4, ht4, hd4, hnv4⟩
                obtain ⟨z, rfl⟩ := hs.out
                dsimp only
                first | refine Gx.a (by kernel_rfl) fun K hK => ?_ | refine Gx.b (by kernel_rfl) fun K hK => ?_ | refine Gx.c (by kernel_rfl) fun K hK => ?_
                by_cases hkn : k < vs.length
                · have b3 : decide ((k : Int) < (vs.length : Int)) = true := decide_eq_true (by omega)
                  simp only [XA, XB, gateX, Nat.reduceAdd, Nat.reduceLeDiff, Nat.reduceSub, Nat.reduceMul, ↓reduceIte, Int.reduceToNat, Int.reduceLE, beq_self_eq_true, b3]
                  refine hK _ ?_
                  first | refine Gx.t rfl ?_ | refine XWP.seq (Gx.t rfl ?_)
                  refine XWP.skip ?_
                  refine XWP.seq ?_
                  first | refine XWP.block ?_ | refine XWP.seq (XWP.block ?_)
                  have hcv := NatAt.cells h7 k hkn
                  have hdv := Dig_get hvsd k hkn
                  rw [getD_get] at hcv hdv
                  have hcu4 := row_cell (V := V7) hHu4 (k := k + j) (by omega)
                  have hdu4 : us4.getD (k + j) 0 < BB := gd_lt hud4 _
                  have hst := addback_step (l := us4) (vs := vs) (U0 := nv us3) (j := j) (i := k) (c := cc) (by omega) hnv4
                  have ev : gd vs k = vs.getD k 0 := rfl
                  rw [ev] at hst
                  generalize hv : vs.getD k 0 = vk at *
                  generalize hx4 : us4.getD (k + j) 0 = w at *
                  have r1 : w + vk < 18446744073709551616 := by unfold BB at *; omega
                  have r2 : cc + (w + vk) < 18446744073709551616 := by unfold BB at *; omega
                  have r3 : (cc + (w + vk)) / BB < BB := by unfold BB at *; omega
                  first | refine Gx.a (by kernel_rfl) fun K hK => ?_ | refine Gx.b (by kernel_rfl) fun K hK => ?_ | refine Gx.c (by kernel_rfl) fun K hK => ?_
                  simp only [XA, XB, gateX, Nat.reduceAdd, Nat.reduceLeDiff, Nat.reduceSub, Nat.reduceMul, ↓reduceIte, Int.reduceToNat, Int.reduceLE, beq_self_eq_true]
                  refine hK _ ?_
                  clear hK
                  (first | refine XWP.drw [0, 1, 2, 3, 4, 5, 6, 7, 8, 9, 10, 11, 12, 13, 14, 15] (by kernel_rfl) (by kernel_rfl) (by kernel_rfl) fun K hK => ?_ | refine XWP.seq (XWP.drw [0, 1, 2, 3, 4, 5, 6, 7, 8, 9, 10, 11, 12, 13, 14, 15] (by kernel_rfl) (by kernel_rfl) (by kernel_rfl) fun K hK => ?_) | refine XWP.drw1 [0, 1, 2, 3, 4, 5, 6, 7, 8, 9, 10, 11, 12, 13, 14, 15] (by kernel_rfl) (by kernel_rfl) (by kernel_rfl) fun K hK => ?_) <;> dsimp only [pickOps, List.getElem?_cons_zero, List.getElem?_cons_succ]
                  simp only [XA, XB, gateX, Nat.reduceAdd, Nat.reduceLeDiff, Nat.reduceSub, Nat.reduceMul, ↓reduceIte, Int.reduceToNat, Int.reduceLE, beq_self_eq_true, i64_add k j (by omega)]
                  refine ⟨by omega, by omega, ld_mem (loads_cell shapeT_116 hcu4) ?_⟩
                  simp only [XA, XB, gateX, Nat.reduceAdd, Nat.reduceLeDiff, Nat.reduceSub, Nat.reduceMul, ↓reduceIte, Int.reduceToNat, Int.reduceLE, beq_self_eq_true]
                  refine ⟨by omega, by omega, ld_mem (loads_cell shapeT_116 (hcv _)) ?_⟩
                  simp only [XA, XB, gateX, Nat.reduceAdd, Nat.reduceLeDiff, Nat.reduceSub, Nat.reduceMul, ↓reduceIte, Int.reduceToNat, Int.reduceLE, beq_self_eq_true, u64_of_u32 _ hdv, u64_of_u32 _ hdu4, u64_add _ _ r1, u64_add _ _ r2]
                  refine hK _ ?_
                  first | refine Gx.a (by kernel_rfl) fun K hK => ?_ | refine Gx.b (by kernel_rfl) fun K hK => ?_ | refine Gx.c (by kernel_rfl) fun K hK => ?_
                  simp only [XA, XB, gateX, Nat.reduceAdd, Nat.reduceLeDiff, Nat.reduceSub, Nat.reduceMul, ↓reduceIte, Int.reduceToNat, Int.reduceLE, beq_self_eq_true, i64_add k j (by omega), w32_mod]
                  refine ⟨by omega, by omega, ?_⟩
                  refine st_row shapeT_116 rfl rfl hHu4 (by rw [u32s_length]; omega) ?_
                  simp only [XA, XB, gateX, Nat.reduceAdd, Nat.reduceLeDiff, Nat.reduceSub, Nat.reduceMul, ↓reduceIte, Int.reduceToNat, Int.reduceLE, beq_self_eq_true, u32s_set]
                  refine hK _ ?_
                  first | refine Gx.a (by kernel_rfl) fun K hK => ?_ | refine Gx.b (by kernel_rfl) fun K hK => ?_ | refine Gx.c (by kernel_rfl) fun K hK => ?_
                  simp only [XA, XB, gateX, Nat.reduceAdd, Nat.reduceLeDiff, Nat.reduceSub, Nat.reduceMul, ↓reduceIte, Int.reduceToNat, Int.reduceLE, beq_self_eq_true, shr32]
                  refine hK _ ?_
                  first | refine Gx.a (by kernel_rfl) fun K hK => ?_ | refine Gx.b (by kernel_rfl) fun K hK => ?_ | refine Gx.c (by kernel_rfl) fun K hK => ?_
                  simp only [XA, XB, gateX, Nat.reduceAdd, Nat.reduceLeDiff, Nat.reduceSub, Nat.reduceMul, ↓reduceIte, Int.reduceToNat, Int.reduceLE, beq_self_eq_true, i64_succ k (by omega)]
                  refine hK _ ⟨n - 1, by omega, k + 1, _, us4.set (k + j) ((cc + (w + vk)) % BB), (cc + (w + vk)) / BB, StIs.of (by exact rfl), by omega, upd_at _ _ _, ?_, by simp [hul4], Dig_set hud4 _ (Nat.mod_lt _ BB_pos), r3, ?_, ?_, hst⟩
                  · simp only [upd, hne2, if_false]; exact hHq4
                  · rw [set_take _ _ (by omega)]; exact ht4
                  · rw [set_drop _ _ (by omega)]; exact hd4
                · have b3 : decide ((k : Int) < (vs.length : Int)) = false := decide_eq_false (by omega)
                  obtain rfl : k = vs.length := by omega
                  simp only [XA, XB, gateX, Nat.reduceAdd, Nat.reduceLeDiff, Nat.reduceSub, Nat.reduceMul, ↓reduceIte, Int.reduceToNat, Int.reduceLE, beq_self_eq_true, b3]
                  refine hK _ ?_
                  first | refine Gx.f rfl ?_ | refine XWP.seq (Gx.f rfl ?_)
                  refine XWP.exit ?_
                  exact ⟨H8, us4, cc, StIs.of (by exact rfl), hHu4, hHq4, hul4, hud4, hcc4, ht4, hd4, by rw [List.take_length] at hnv4; exact hnv4⟩
              · rintro s ⟨H8, us4, cc, hs, hHu4, hHq4, hul4, hud4, hcc4, ht4, hd4, hnv4⟩
                obtain ⟨z, rfl⟩ := hs.out
                dsimp only
                have hcu4 := row_cell (V := V7) hHu4 (k := j + vs.length) (by omega)
                have hdu4 : us4.getD (j + vs.length) 0 < BB := gd_lt hud4 _
                have hal := addback_last (l := us4) (j := j) (n := vs.length) (by omega) hnv4
                generalize hx4 : us4.getD (j + vs.length) 0 = w at *
                have e1 : cc % BB = cc := Nat.mod_eq_of_lt hcc4
                have w2 : IntKind.u32.wrap ((w : Int) + (cc : Int)) = (((w + cc) % BB : Nat) : Int) := by rw [← Int.natCast_add, w32_mod]
                have ho : (w + cc) / BB ≤ 1 := by unfold BB at *; omega
                have ht5 : (us4.set (j + vs.length) ((w + cc) % BB)).take j = us1.take j := by rw [set_take _ _ (by omega)]; exact ht4
                have hd5 : (us4.set (j + vs.length) ((w + cc) % BB)).drop (j + vs.length + 1) = us1.drop (j + vs.length + 1) := by
                  rw [set_drop _ _ (by omega), drop_more hd4 (by omega)]; exact hd3
                obtain ⟨e6, e7⟩ := div_under1 (l0 := us1) (l1 := us3) (l2 := us4.set (j + vs.length) ((w + cc) % BB)) (g := g) (by omega) hud3 (Dig_set hud4 _ (Nat.mod_lt _ BB_pos)) (by omega) (by rw [List.length_set]; omega) ht5 (by rw [hd3]; exact hz0) (by rw [hd5]; exact hz0) hq.symm hg2 hv0 ho hml hal
                subst e6
                first | refine Gx.a (by kernel_rfl) fun K hK => ?_ | refine Gx.b (by kernel_rfl) fun K hK => ?_ | refine Gx.c (by kernel_rfl) fun K hK => ?_
                simp only [XA, XB, gateX, Nat.reduceAdd, Nat.reduceLeDiff, Nat.reduceSub, Nat.reduceMul, ↓reduceIte, Int.reduceToNat, Int.reduceLE, beq_self_eq_true, i64_add j vs.length (by omega)]
                refine ⟨by omega, by omega, ld_mem (loads_cell shapeT_116 hcu4) ?_⟩
                simp only [XA, XB, gateX, Nat.reduceAdd, Nat.reduceLeDiff, Nat.reduceSub, Nat.reduceMul, ↓reduceIte, Int.reduceToNat, Int.reduceLE, beq_self_eq_true, w32_mod, e1, w2]
                refine ⟨by omega, by omega, ?_⟩
                refine st_row shapeT_116 rfl rfl hHu4 (by rw [u32s_length]; omega) ?_
                simp only [XA, XB, gateX, Nat.reduceAdd, Nat.reduceLeDiff, Nat.reduceSub, Nat.reduceMul, ↓reduceIte, Int.reduceToNat, Int.reduceLE, beq_self_eq_true, u32s_set]
                refine hK _ ?_
                exact ⟨_, us4.set (j + vs.length) ((w + cc) % BB), StIs.of (by exact rfl), upd_at _ _ _, (by simp only [upd, hne2, if_false]; exact hHq4), (by rw [List.length_set]; exact hul4), Dig_set hud4 _ (Nat.mod_lt _ BB_pos), ht5, e7⟩
            · have b4 : decide ((x : Int) < (y : Int)) = false := decide_eq_false (by omega)
              have hsb1 : subB x y = 0 := if_neg hxy
              rw [hsb1, Nat.mul_zero, Nat.add_zero] at hml
              obtain ⟨e6, e7⟩ := div_under0 (l0 := us1) (l1 := us3) (by omega) (by omega) ht3 hq.symm hg1 hv0 hml
              subst e6
              simp only [XA, XB, gateX, Nat.reduceAdd, Nat.reduceLeDiff, Nat.reduceSub, Nat.reduceMul, ↓reduceIte, Int.reduceToNat, Int.reduceLE, beq_self_eq_true, b4]
              refine hK _ ?_
              clear hK
              first | refine Gx.f rfl ?_ | refine XWP.seq (Gx.f rfl ?_)
              refine XWP.skip ?_
              exact ⟨_, us3, StIs.of (by exact rfl), upd_at _ _ _, by (simp only [upd, hne2, if_false]; exact hHq2), hul3, hud3, ht3, e7⟩
            --}
          · rintro s ⟨H7, us4, hs, hHu4, hHq4, hul4, hud4, ht4, hnv4⟩
            obtain ⟨z, rfl⟩ := hs.out
            dsimp only
            have e1 : q % BB = q := Nat.mod_eq_of_lt kB
            have w1 : IntKind.i64.wrap ((j : Int) - 1) = (j : Int) - 1 := wrap_id (by omega) (by omega)
            have htt := div_total (l0 := us1) (l2 := us4) (qs := qs) (vs := vs) (j := j) (N := a * 2 ^ l) (by omega) (by omega) (by omega) ht4 hnv4 htot
            rw [hq] at htt
            first | refine Gx.a (by kernel_rfl) fun K hK => ?_ | refine Gx.b (by kernel_rfl) fun K hK => ?_ | refine Gx.c (by kernel_rfl) fun K hK => ?_
            simp only [XA, XB, gateX, Nat.reduceAdd, Nat.reduceLeDiff, Nat.reduceSub, Nat.reduceMul, ↓reduceIte, Int.reduceToNat, Int.reduceLE, beq_self_eq_true, w32_mod, e1]
            refine ⟨by omega, by omega, ?_⟩
            refine st_row shapeT_116 rfl rfl hHq4 (by rw [u32s_length]; omega) ?_
            simp only [XA, XB, gateX, Nat.reduceAdd, Nat.reduceLeDiff, Nat.reduceSub, Nat.reduceMul, ↓reduceIte, Int.reduceToNat, Int.reduceLE, beq_self_eq_true, u32s_set]
            refine hK _ ?_
            first | refine Gx.a (by kernel_rfl) fun K hK => ?_ | refine Gx.b (by kernel_rfl) fun K hK => ?_ | refine Gx.c (by kernel_rfl) fun K hK => ?_
            simp only [XA, XB, gateX, Nat.reduceAdd, Nat.reduceLeDiff, Nat.reduceSub, Nat.reduceMul, ↓reduceIte, Int.reduceToNat, Int.reduceLE, beq_self_eq_true, w1]
            refine hK _ ⟨j, by omega, _, us4, qs.set j q, StIs.of (by exact rfl), by omega, ?_, upd_at _ _ _, hul4, by simp [hql], hud4, Dig_set hqd _ kB, ?_, htt⟩
            · simp only [upd, hne3, if_false]; exact hHu4
            · rw [hnv4]; exact Nat.mod_lt _ hv0
      --}
    · rintro s ⟨H5, us1, qs, hs, hHu, hHq, hul1, hql, hud1, hqd, hlt, htot⟩
      obtain ⟨u, rfl⟩ := hs.out
      dsimp only
      rw [hvsn] at hlt htot
      obtain ⟨eq1, er1⟩ := div_end (Nat.two_pow_pos l) (by omega) htot hlt
      have hzn : nv (us1.drop vs.length) = 0 := by
        have h1 := nv_split us1 vs.length (by omega)
        have h2 := nv_lt hvsd
        rcases Nat.eq_zero_or_pos (nv (us1.drop vs.length)) with h | h
        · exact h
        · have : BB ^ vs.length * 1 ≤ BB ^ vs.length * nv (us1.drop vs.length) := Nat.mul_le_mul_left _ h
          omega
      first | refine Gx.a (by kernel_rfl) fun K hK => ?_ | refine Gx.b (by kernel_rfl) fun K hK => ?_ | refine Gx.c (by kernel_rfl) fun K hK => ?_
      simp only [XA, XB, gateX, Nat.reduceAdd, Nat.reduceLeDiff, Nat.reduceSub, Nat.reduceMul, ↓reduceIte, Int.reduceToNat, Int.reduceLE, beq_self_eq_true]
      refine mk_go rfl rfl elemT_25 zeroT_116 (by omega) (by omega) (by omega) (by omega) rfl (by omega) fun gr hr1 hr2 => ?_
      have hru : gr ≠ gu := fun e => by subst e; simp [hHu] at hr1
      have hrq : gr ≠ gq := fun e => by subst e; simp [hHq] at hr1
      have hur : gu ≠ gr := fun e => hru e.symm
      have hqr : gq ≠ gr := fun e => hrq e.symm
      simp only [XA, XB, gateX, Nat.reduceAdd, Nat.reduceLeDiff, Nat.reduceSub, Nat.reduceMul, ↓reduceIte, Int.reduceToNat, Int.reduceLE, beq_self_eq_true, u32s_replicate]
      refine hK _ ?_
      clear hK
      refine XWP.cut (fun s => ∃ (H6 : Heap) (rs : List Nat), StIs (fun Z => [.v (.slice A (dg a).length c), .v (.slice (some ⟨q1, o1, none⟩) (dg b).length c'), Z 2,Z 3,Z 4,Z 5,Z 6,Z 7,Z 8, .v (.int .u64 (l : Int)), .v (.slice (some ⟨gu, 0, none⟩) ((dg a).length + 1) ((dg a).length + 1)), .v (.slice A7 vs.length c7), .v (.int .i64 (vs.length : Int)), .v (.slice (some ⟨gq, 0, none⟩) M M), Z 14,Z 15,Z 16,Z 17,Z 18,Z 19,Z 20,Z 21,Z 22,Z 23,Z 24, .v (.slice (some ⟨gr, 0, none⟩) vs.length vs.length), Z 26,Z 27,Z 28,Z 29,Z 30,Z 31,Z 32,Z 33,Z 34,Z 35,Z 36,Z 37,Z 38,Z 39,Z 40,Z 41,Z 42,Z 43,Z 44,Z 45,Z 46,Z 47,Z 48,Z 49,Z 50,Z 51,Z 52,Z 53,Z 54,Z 55,Z 56,Z 57,Z 58,Z 59,Z 60,Z 61,Z 62,Z 63,Z 64,Z 65,Z 66,Z 67,Z 68,Z 69,Z 70,Z 71,Z 72,Z 73,Z 74,Z 75,Z 76,Z 77,Z 78,Z 79,Z 80,Z 81,Z 82,Z 83,Z 84,Z 85,Z 86,Z 87,Z 88,Z 89,Z 90,Z 91,Z 92,Z 93,Z 94,Z 95,Z 96,Z 97,Z 98,Z 99,Z 100,Z 101,Z 102,Z 103,Z 104,Z 105,Z 106,Z 107,Z 108,Z 109,Z 110,Z 111,Z 112,Z 113,Z 114,Z 115,Z 116,Z 117,Z 118,Z 119,Z 120,Z 121,Z 122,Z 123,Z 124,Z 125,Z 126,Z 127,Z 128,Z 129,Z 130,Z 131,Z 132,Z 133,Z 134,Z 135,Z 136,Z 137,Z 138,Z 139,Z 140,Z 141,Z 142,Z 143,Z 144,Z 145,Z 146,Z 147,Z 148,Z 149,Z 150,Z 151,Z 152,Z 153,Z 154,Z 155,Z 156,Z 157,Z 158,Z 159,Z 160,Z 161,Z 162,Z 163,Z 164,Z 165,Z 166,Z 167,Z 168,Z 169,Z 170,Z 171,Z 172,Z 173,Z 174,Z 175,Z 176,Z 177,Z 178,Z 179,Z 180,Z 181,Z 182,Z 183,Z 184,Z 185,Z 186,Z 187,Z 188,Z 189,Z 190,Z 191,Z 192,Z 193,Z 194,Z 195,Z 196,Z 197,Z 198,Z 199,Z 200,Z 201,Z 202,Z 203,Z 204,Z 205,Z 206,Z 207,Z 208,Z 209,Z 210,Z 211,Z 212,Z 213,Z 214,Z 215,Z 216,Z 217,Z 218,Z 219,Z 220,Z 221,Z 222,Z 223,Z 224,Z 225,Z 226,Z 227,Z 228,Z 229,Z 230,Z 231,Z 232,Z 233,Z 234,Z 235,Z 236,Z 237,Z 238,Z 239,Z 240,Z 241,Z 242,Z 243,Z 244,Z 245,Z 246,Z 247,Z 248,Z 249,Z 250,Z 251,Z 252,Z 253,Z 254,Z 255,Z 256,Z 257,Z 258,Z 259,Z 260,Z 261,Z 262,Z 263,Z 264,Z 265,Z 266,Z 267,Z 268,Z 269,Z 270,Z 271,Z 272,Z 273,Z 274,Z 275,Z 276,Z 277,Z 278,Z 279,Z 280,Z 281,Z 282,Z 283,Z 284,Z 285,Z 286,Z 287,Z 288,Z 289,Z 290,Z 291,Z 292,Z 293,Z 294,Z 295,Z 296,Z 297,Z 298,Z 299,Z 300,Z 301,Z 302,Z 303,Z 304,Z 305,Z 306,Z 307,Z 308,Z 309,Z 310,Z 311,Z 312,Z 313,Z 314]) [] H6 V7 s ∧ H6 gu = some ⟨116, u32s us1, (dg a).length + 1⟩ ∧ H6 gq = some ⟨116, u32s qs, M⟩ ∧ H6 gr = some ⟨116, u32s rs, vs.length⟩ ∧ rs.length = vs.length ∧ Dig rs ∧ nv rs = a % b) ?_ ?_
      · first | refine Gx.a (by kernel_rfl) fun K hK => ?_ | refine Gx.b (by kernel_rfl) fun K hK => ?_ | refine Gx.c (by kernel_rfl) fun K hK => ?_
        simp only [XA, XB, gateX, Nat.reduceAdd, Nat.reduceLeDiff, Nat.reduceSub, Nat.reduceMul, ↓reduceIte, Int.reduceToNat, Int.reduceLE, beq_self_eq_true]
        refine hK _ ?_
        clear hK
        first | refine XWP.block ?_ | refine XWP.seq (XWP.block ?_)
        refine XWP.loop (fun n s => ∃ (k : Nat) (H6 : Heap) (rs : List Nat), StIs (fun Z => [.v (.slice A (dg a).length c), .v (.slice (some ⟨q1, o1, none⟩) (dg b).length c'), Z 2,Z 3,Z 4,Z 5,Z 6,Z 7,Z 8, .v (.int .u64 (l : Int)), .v (.slice (some ⟨gu, 0, none⟩) ((dg a).length + 1) ((dg a).length + 1)), .v (.slice A7 vs.length c7), .v (.int .i64 (vs.length : Int)), .v (.slice (some ⟨gq, 0, none⟩) M M), Z 14,Z 15,Z 16,Z 17,Z 18,Z 19,Z 20,Z 21,Z 22,Z 23,Z 24, .v (.slice (some ⟨gr, 0, none⟩) vs.length vs.length), Z 26,Z 27,Z 28,Z 29,Z 30,Z 31,Z 32,Z 33,Z 34,Z 35,Z 36,Z 37,Z 38,Z 39,Z 40,Z 41,Z 42,Z 43,Z 44,Z 45,Z 46,Z 47,Z 48,Z 49,Z 50,Z 51,Z 52,Z 53,Z 54,Z 55,Z 56,Z 57,Z 58,Z 59,Z 60,Z 61,Z 62,Z 63,Z 64,Z 65,Z 66,Z 67,Z 68,Z 69,Z 70,Z 71,Z 72,Z 73,Z 74,Z 75,Z 76,Z 77,Z 78,Z 79,Z 80,Z 81,Z 82,Z 83,Z 84,Z 85,Z 86,Z 87,Z 88,Z 89,Z 90,Z 91,Z 92,Z 93,Z 94,Z 95,Z 96,Z 97,Z 98,Z 99,Z 100,Z 101,Z 102,Z 103,Z 104,Z 105,Z 106,Z 107,Z 108,Z 109,Z 110,Z 111,Z 112,Z 113,Z 114,Z 115,Z 116,Z 117,Z 118,Z 119,Z 120,Z 121,Z 122,Z 123,Z 124,Z 125,Z 126,Z 127,Z 128,Z 129,Z 130,Z 131,Z 132,Z 133,Z 134,Z 135,Z 136,Z 137,Z 138,Z 139,Z 140,Z 141,Z 142,Z 143,Z 144,Z 145,Z 146,Z 147,Z 148,Z 149,Z 150,Z 151,Z 152,Z 153,Z 154,Z 155,Z 156,Z 157,Z 158,Z 159,Z 160,Z 161,Z 162,Z 163,Z 164,Z 165,Z 166,Z 167,Z 168,Z 169,Z 170,Z 171,Z 172,Z 173,Z 174,Z 175,Z 176,Z 177,Z 178,Z 179,Z 180,Z 181,Z 182,Z 183,Z 184,Z 185,Z 186,Z 187,Z 188,Z 189,Z 190,Z 191,Z 192,Z 193,Z 194,Z 195,Z 196,Z 197,Z 198,Z 199,Z 200,Z 201,Z 202,Z 203,Z 204,Z 205,Z 206,Z 207,Z 208,Z 209,Z 210,Z 211,Z 212,Z 213,Z 214,Z 215,Z 216,Z 217,Z 218,Z 219,Z 220,Z 221,Z 222,Z 223,Z 224,Z 225,Z 226,Z 227,Z 228,Z 229,Z 230,Z 231,Z 232,Z 233,Z 234,Z 235,Z 236,Z 237,Z 238,Z 239,Z 240,Z 241,Z 242,Z 243,Z 244,Z 245,Z 246,Z 247,Z 248,Z 249,Z 250,Z 251,Z 252,Z 253,Z 254,Z 255,Z 256,Z 257,Z 258,Z 259,Z 260,Z 261,Z 262,Z 263,Z 264,Z 265,Z 266,Z 267,Z 268,Z 269,Z 270,Z 271,Z 272,Z 273,Z 274,Z 275,Z 276,Z 277,Z 278,Z 279,Z 280, .v (.int .i64 (vs.length : Int)), .v (.int .i64 (k : Int)), Z 283,Z 284,Z 285,Z 286,Z 287,Z 288,Z 289,Z 290,Z 291,Z 292,Z 293,Z 294,Z 295,Z 296,Z 297,Z 298,Z 299,Z 300,Z 301,Z 302,Z 303,Z 304,Z 305,Z 306,Z 307,Z 308,Z 309,Z 310,Z 311,Z 312,Z 313,Z 314]) [] H6 V7 s ∧ n + k = vs.length ∧ H6 gu = some ⟨116, u32s us1, (dg a).length + 1⟩ ∧ H6 gq = some ⟨116, u32s qs, M⟩ ∧ H6 gr = some ⟨116, u32s rs, vs.length⟩ ∧ rs.length = vs.length ∧ Dig rs ∧ 2 ^ l * nv (rs.take k) + gd us1 0 % 2 ^ l = nv (us1.take k) + BB ^ k * (gd us1 k % 2 ^ l)) vs.length ⟨0, _, List.replicate vs.length 0, StIs.of (by exact rfl), rfl, by (simp only [upd, hur, if_false]; exact hHu), by (simp only [upd, hqr, if_false]; exact hHq), by simp only [upd_at, Nat.mul_one], by simp, Dig_replicate _, by simp [nv]⟩ ?_
        rintro n s ⟨k, H6, rs, hs, hn, hHu6, hHq6, hHr, hrl, hrd, hnv⟩
        obtain ⟨z, rfl⟩ := hs.out
        dsimp only
        first | refine Gx.a (by kernel_rfl) fun K hK => ?_ | refine Gx.b (by kernel_rfl) fun K hK => ?_ | refine Gx.c (by kernel_rfl) fun K hK => ?_
        by_cases hkn : k < vs.length
        · have b3 : decide ((k : Int) < (vs.length : Int)) = true := decide_eq_true (by omega)
          simp only [XA, XB, gateX, Nat.reduceAdd, Nat.reduceLeDiff, Nat.reduceSub, Nat.reduceMul, ↓reduceIte, Int.reduceToNat, Int.reduceLE, beq_self_eq_true, b3]
          refine hK _ ?_
          first | refine Gx.t rfl ?_ | refine XWP.seq (Gx.t rfl ?_)
          refine XWP.skip ?_
          refine XWP.seq ?_
          first | refine XWP.block ?_ | refine XWP.seq (XWP.block ?_)
          have hcx := row_cell (V := V7) hHu6 (k := k) (by omega)
          have hcy := row_cell (V := V7) hHu6 (k := k + 1) (by omega)
          have hdx : us1.getD k 0 < BB := gd_lt hud1 _
          have hdy : us1.getD (k + 1) 0 < BB := gd_lt hud1 _
          have hst := rs_step (us := us1) (rs := rs) (i := k) (s := l) (c := gd us1 0 % 2 ^ l) (by omega) hdx hdy hl31 hnv
          have ex : gd us1 k = us1.getD k 0 := rfl
          have ey : gd us1 (k + 1) = us1.getD (k + 1) 0 := rfl
          rw [ex, ey] at hst
          generalize hx : us1.getD k 0 = x at *
          generalize hy : us1.getD (k + 1) 0 = y at *
          obtain ⟨_, rd2⟩ := rsD_eq (y := y) hdx hdy hl31
          have hxs : x / 2 ^ l < BB := Nat.lt_of_le_of_lt (Nat.div_le_self _ _) hdx
          first | refine Gx.a (by kernel_rfl) fun K hK => ?_ | refine Gx.b (by kernel_rfl) fun K hK => ?_ | refine Gx.c (by kernel_rfl) fun K hK => ?_
          simp only [XA, XB, gateX, Nat.reduceAdd, Nat.reduceLeDiff, Nat.reduceSub, Nat.reduceMul, ↓reduceIte, Int.reduceToNat, Int.reduceLE, beq_self_eq_true]
          refine hK _ ?_
          first | refine Gx.a (by kernel_rfl) fun K hK => ?_ | refine Gx.b (by kernel_rfl) fun K hK => ?_ | refine Gx.c (by kernel_rfl) fun K hK => ?_
          simp only [XA, XB, gateX, Nat.reduceAdd, Nat.reduceLeDiff, Nat.reduceSub, Nat.reduceMul, ↓reduceIte, Int.reduceToNat, Int.reduceLE, beq_self_eq_true]
          refine ⟨by omega, by omega, ld_mem (loads_cell shapeT_116 hcx) ?_⟩
          simp only [XA, XB, gateX, Nat.reduceAdd, Nat.reduceLeDiff, Nat.reduceSub, Nat.reduceMul, ↓reduceIte, Int.reduceToNat, Int.reduceLE, beq_self_eq_true, bin_shr _ _ _ _ _ hl0, shrN _ _ (show l ≤ 32 by omega)]
          refine ⟨by omega, by omega, ?_⟩
          refine st_row shapeT_116 rfl rfl hHr (by rw [u32s_length]; omega) ?_
          simp only [XA, XB, gateX, Nat.reduceAdd, Nat.reduceLeDiff, Nat.reduceSub, Nat.reduceMul, ↓reduceIte, Int.reduceToNat, Int.reduceLE, beq_self_eq_true, u32s_set]
          refine hK _ ?_
          first | refine Gx.a (by kernel_rfl) fun K hK => ?_ | refine Gx.b (by kernel_rfl) fun K hK => ?_ | refine Gx.c (by kernel_rfl) fun K hK => ?_
          by_cases hl00 : l = 0
          · have b4 : decide ((0 : Int) < (l : Int)) = false := decide_eq_false (by omega)
            simp only [XA, XB, gateX, Nat.reduceAdd, Nat.reduceLeDiff, Nat.reduceSub, Nat.reduceMul, ↓reduceIte, Int.reduceToNat, Int.reduceLE, beq_self_eq_true, b4]
            refine hK _ ?_
            first | refine Gx.f rfl ?_ | refine XWP.seq (Gx.f rfl ?_)
            refine XWP.skip ?_
            have erd : rsD x y l = x / 2 ^ l := by unfold rsD; rw [if_pos hl00, Nat.add_zero]
            rw [erd] at hst
            first | refine Gx.a (by kernel_rfl) fun K hK => ?_ | refine Gx.b (by kernel_rfl) fun K hK => ?_ | refine Gx.c (by kernel_rfl) fun K hK => ?_
            simp only [XA, XB, gateX, Nat.reduceAdd, Nat.reduceLeDiff, Nat.reduceSub, Nat.reduceMul, ↓reduceIte, Int.reduceToNat, Int.reduceLE, beq_self_eq_true, i64_succ k (by omega)]
            refine hK _ ⟨n - 1, by omega, k + 1, _, rs.set k (x / 2 ^ l), StIs.of (by exact rfl), by omega, by (simp only [upd, hur, if_false]; exact hHu6), by (simp only [upd, hqr, if_false]; exact hHq6), upd_at _ _ _, by simp [hrl], Dig_set hrd _ hxs, by rw [show gd us1 (k + 1) = y from hy]; exact hst⟩
          · have b4 : decide ((0 : Int) < (l : Int)) = true := decide_eq_true (by omega)
            have hHr2 : upd H6 gr (some ⟨116, u32s (rs.set k (x / 2 ^ l)), vs.length⟩) gr = some ⟨116, u32s (rs.set k (x / 2 ^ l)), vs.length⟩ := upd_at _ _ _
            have hcz := row_cell (V := V7) hHr2 (k := k) (by rw [List.length_set]; omega)
            have hz1 : (rs.set k (x / 2 ^ l)).getD k 0 = x / 2 ^ l := by simp [hrl, hkn]
            rw [hz1] at hcz
            have hcy2 : CellAt (upd H6 gr (some ⟨116, u32s (rs.set k (x / 2 ^ l)), vs.length⟩)) V7 gu (k + 1) (.int .u32 ((y : Nat) : Int)) := by
              have : upd H6 gr (some ⟨116, u32s (rs.set k (x / 2 ^ l)), vs.length⟩) gu = some ⟨116, u32s us1, (dg a).length + 1⟩ := by simp only [upd, hur, if_false]; exact hHu6
              have := row_cell (V := V7) this (k := k + 1) (by omega)
              rw [hy] at this; exact this
            have h32 : IntKind.u64.wrap (32 - (l : Int)) = ((32 - l : Nat) : Int) := by
              have := u64_sub 32 l (by omega) (by omega)
              simpa using this
            have h320 : (0 : Int) ≤ ((32 - l : Nat) : Int) := by omega
            have hlow := rsD_low hdx hl31
            have hmo : (y * 2 ^ (32 - l) % BB) % 2 ^ (32 - l) = 0 := by
              rw [(two_split hl31).2, Nat.mod_mul_right_mod, Nat.mul_mod_left]
            have erd : rsD x y l = x / 2 ^ l + y * 2 ^ (32 - l) % BB := by unfold rsD; rw [if_neg hl00]
            rw [erd] at hst rd2
            simp only [XA, XB, gateX, Nat.reduceAdd, Nat.reduceLeDiff, Nat.reduceSub, Nat.reduceMul, ↓reduceIte, Int.reduceToNat, Int.reduceLE, beq_self_eq_true, b4]
            refine hK _ ?_
            first | refine Gx.t rfl ?_ | refine XWP.seq (Gx.t rfl ?_)
            clear hK
            (first | refine XWP.drw [0, 1, 2, 3, 4, 5, 6, 7, 8, 9, 10, 11, 12, 13, 14] (by kernel_rfl) (by kernel_rfl) (by kernel_rfl) fun K hK => ?_ | refine XWP.seq (XWP.drw [0, 1, 2, 3, 4, 5, 6, 7, 8, 9, 10, 11, 12, 13, 14] (by kernel_rfl) (by kernel_rfl) (by kernel_rfl) fun K hK => ?_) | refine XWP.drw1 [0, 1, 2, 3, 4, 5, 6, 7, 8, 9, 10, 11, 12, 13, 14] (by kernel_rfl) (by kernel_rfl) (by kernel_rfl) fun K hK => ?_) <;> dsimp only [pickOps, List.getElem?_cons_zero, List.getElem?_cons_succ]
            simp only [XA, XB, gateX, Nat.reduceAdd, Nat.reduceLeDiff, Nat.reduceSub, Nat.reduceMul, ↓reduceIte, Int.reduceToNat, Int.reduceLE, beq_self_eq_true]
            refine ⟨by omega, by omega, ld_mem (loads_cell shapeT_116 hcz) ?_⟩
            simp only [XA, XB, gateX, Nat.reduceAdd, Nat.reduceLeDiff, Nat.reduceSub, Nat.reduceMul, ↓reduceIte, Int.reduceToNat, Int.reduceLE, beq_self_eq_true, i64_succ k (by omega)]
            refine ⟨by omega, by omega, ld_mem (loads_cell shapeT_116 hcy2) ?_⟩
            simp only [XA, XB, gateX, Nat.reduceAdd, Nat.reduceLeDiff, Nat.reduceSub, Nat.reduceMul, ↓reduceIte, Int.reduceToNat, Int.reduceLE, beq_self_eq_true, h32, bin_shl _ _ _ _ _ h320, u32_shl _ _ (show 32 - l ≤ 31 by omega), or32 _ _ _ hlow hmo rd2]
            refine ⟨by omega, by omega, ?_⟩
            refine st_row shapeT_116 rfl rfl hHr2 (by rw [u32s_length, List.length_set]; omega) ?_
            simp only [XA, XB, gateX, Nat.reduceAdd, Nat.reduceLeDiff, Nat.reduceSub, Nat.reduceMul, ↓reduceIte, Int.reduceToNat, Int.reduceLE, beq_self_eq_true, u32s_set, List.set_set]
            refine hK _ ?_
            clear hK
            first | refine Gx.a (by kernel_rfl) fun K hK => ?_ | refine Gx.b (by kernel_rfl) fun K hK => ?_ | refine Gx.c (by kernel_rfl) fun K hK => ?_
            simp only [XA, XB, gateX, Nat.reduceAdd, Nat.reduceLeDiff, Nat.reduceSub, Nat.reduceMul, ↓reduceIte, Int.reduceToNat, Int.reduceLE, beq_self_eq_true, i64_succ k (by omega)]
            refine hK _ ⟨n - 1, by omega, k + 1, _, rs.set k (x / 2 ^ l + y * 2 ^ (32 - l) % BB), StIs.of (by exact rfl), by omega, by (simp only [upd, hur, if_false]; exact hHu6), by (simp only [upd, hqr, if_false]; exact hHq6), upd_at _ _ _, by simp [hrl], Dig_set hrd _ rd2, by rw [show gd us1 (k + 1) = y from hy]; exact hst⟩
        · have b3 : decide ((k : Int) < (vs.length : Int)) = false := decide_eq_false (by omega)
          obtain rfl : k = vs.length := by omega
          simp only [XA, XB, gateX, Nat.reduceAdd, Nat.reduceLeDiff, Nat.reduceSub, Nat.reduceMul, ↓reduceIte, Int.reduceToNat, Int.reduceLE, beq_self_eq_true, b3]
          refine hK _ ?_
          first | refine Gx.f rfl ?_ | refine XWP.seq (Gx.f rfl ?_)
          refine XWP.exit ?_
          exact ⟨H6, rs, StIs.of (by exact rfl), hHu6, hHq6, hHr, hrl, hrd, rs_end hl31 (Nat.mod_lt _ (Nat.two_pow_pos l)) hrl (by omega) hzn er1 hnv⟩
      · rintro s ⟨H6, rs, hs, hHu6, hHq6, hHr, hrl, hrd, hrn⟩
        obtain ⟨z, rfl⟩ := hs.out
        dsimp only
        first | refine Gx.a (by kernel_rfl) fun K hK => ?_ | refine Gx.b (by kernel_rfl) fun K hK => ?_ | refine Gx.c (by kernel_rfl) fun K hK => ?_
        simp only [XA, XB, gateX, Nat.reduceAdd, Nat.reduceLeDiff, Nat.reduceSub, Nat.reduceMul, ↓reduceIte, Int.reduceToNat, Int.reduceLE, beq_self_eq_true]
        refine call_pub gq _ hHq6 (fun o ho hle' => ?_) (by kernel_rfl) rfl
        refine call_go (by kernel_rfl) rfl (trim_any _ _ qs (NatAt.pub ho hqd hql (Nat.le_refl _) (by omega))) fun v8 V8 hV8 h8 => ?_
        simp only [XA, XB, gateX, Nat.reduceAdd, Nat.reduceLeDiff, Nat.reduceSub, Nat.reduceMul, ↓reduceIte, Int.reduceToNat, Int.reduceLE, beq_self_eq_true]
        refine call_pub gr _ (by simp only [upd, hrq, if_false]; exact hHr) (fun o2 ho2 hle2 => ?_) (by kernel_rfl) rfl
        refine call_go (by kernel_rfl) rfl (trim_any _ _ rs (NatAt.pub ho2 hrd hrl (Nat.le_refl _) (by omega))) fun v9 V9 hV9 h9 => ?_
        simp only [XA, XB, gateX, Nat.reduceAdd, Nat.reduceLeDiff, Nat.reduceSub, Nat.reduceMul, ↓reduceIte, Int.reduceToNat, Int.reduceLE, beq_self_eq_true]
        refine hK _ (XWP.ret ?_)
        try simp only [thenX_ret, inBlockX_ret]
        refine ret_go _ rfl ?_
        refine ⟨fun h => absurd h hb0, fun _ => ⟨v8, v9, rfl, ?_, ?_⟩⟩
        · rw [← eq1]; exact (h8.mono hle2).mono hV9
        · rw [← hrn]; exact h9
end Go.Proofs.Ytkgmicakfmllmaa
end
section
namespace Go.Proofs.Ytkgmicakfmllmaa
open Go Go.RowKit
set_option linter.unusedSimpArgs false
set_option linter.unusedVariables false
attribute [local irreducible] XWP Spec SpecO XPub XCall seqX clX apX stX ldX iaX slX
theorem Fit.mono {a b : Nat} (h : Fit b) (hl : a ≤ b) : Fit a := Nat.le_trans (sz_mono hl) h
theorem gcd_step (x y : Nat) : Nat.gcd y (x % y) = Nat.gcd x y := by rw [Nat.gcd_comm x y, Nat.gcd_rec y x, Nat.gcd_comm]
theorem gcd_c (V : View) (v u : Value) (a b : Nat) (hv : NatC V v a) (hu : NatC V u b) (fa : Fit a) (fb : Fit b) : Spec Try.prog 92 [v, u] V fun v' V' => NatC V' v' (Nat.gcd a b) := by
  obtain ⟨A0, c0, rfl, hc0, hm0⟩ := NatAt.form hv
  obtain ⟨A1, c1, rfl, hc1, hm1⟩ := NatAt.form hu
  refine (Spec.enter Try.func92 rfl fun Γ => ?_)
  simp only [Try.ntmps92, List.map_cons, List.map_nil, List.length_cons, List.length_nil, Nat.reduceAdd, Nat.reduceSub, List.replicate_succ, List.replicate_zero, List.cons_append, List.nil_append]
  first | refine Gx.a (by kernel_rfl) fun K hK => ?_ | refine Gx.b (by kernel_rfl) fun K hK => ?_ | refine Gx.c (by kernel_rfl) fun K hK => ?_
  simp only [XA, XB, gateX, Nat.reduceAdd, Nat.reduceLeDiff, Nat.reduceSub, Nat.reduceMul, ↓reduceIte, Int.reduceToNat, Int.reduceLE, beq_self_eq_true]
  refine hK _ ?_
  first | refine Gx.a (by kernel_rfl) fun K hK => ?_ | refine Gx.b (by kernel_rfl) fun K hK => ?_ | refine Gx.c (by kernel_rfl) fun K hK => ?_
  simp only [XA, XB, gateX, Nat.reduceAdd, Nat.reduceLeDiff, Nat.reduceSub, Nat.reduceMul, ↓reduceIte, Int.reduceToNat, Int.reduceLE, beq_self_eq_true]
  refine call_go (by kernel_rfl) rfl (trim_c _ _ _ hv) fun v1 V1 hV1 h1 => ?_
  simp only [XA, XB, gateX, Nat.reduceAdd, Nat.reduceLeDiff, Nat.reduceSub, Nat.reduceMul, ↓reduceIte, Int.reduceToNat, Int.reduceLE, beq_self_eq_true]
  refine call_go (by kernel_rfl) rfl (trim_c _ _ _ (hu.mono hV1)) fun v2 V2 hV2 h2 => ?_
  have h1 := h1.mono hV2
  simp only [XA, XB, gateX, Nat.reduceAdd, Nat.reduceLeDiff, Nat.reduceSub, Nat.reduceMul, ↓reduceIte, Int.reduceToNat, Int.reduceLE, beq_self_eq_true]
  refine hK _ ?_
  clear hK hc0 hc1 hm0 hm1
  refine XWP.cut (fun s => ∃ (V3 : View) (w : Value), StIs (fun Z => [.v w, Z 1,Z 2,Z 3,Z 4,Z 5,Z 6,Z 7,Z 8,Z 9,Z 10,Z 11,Z 12,Z 13,Z 14,Z 15,Z 16,Z 17,Z 18,Z 19,Z 20,Z 21,Z 22,Z 23,Z 24,Z 25]) [] (fun _ => none) V3 s ∧ NatC V3 w (Nat.gcd a b) ∧ Fit (Nat.gcd a b)) ?_ ?_
  · first | refine XWP.block ?_ | refine XWP.seq (XWP.block ?_)
    refine XWP.loop (fun n s => ∃ (V3 : View) (w z : Value) (x : Nat), StIs (fun Z => [.v w, .v z, Z 2,Z 3,Z 4,Z 5,Z 6,Z 7,Z 8,Z 9,Z 10,Z 11,Z 12,Z 13,Z 14,Z 15,Z 16,Z 17,Z 18,Z 19,Z 20,Z 21,Z 22,Z 23,Z 24,Z 25]) [] (fun _ => none) V3 s ∧ NatC V3 w x ∧ NatC V3 z n ∧ Fit x ∧ Fit n ∧ Nat.gcd x n = Nat.gcd a b) b ⟨_, _, _, a, StIs.of (by exact rfl), h1, h2, fa, fb, rfl⟩ ?_
    rintro n s ⟨V3, w, z, x, hs, hw, hz, fx, fn, hg⟩
    obtain ⟨u, rfl⟩ := hs.out
    try dsimp only
    obtain ⟨A, c, rfl, hc, hm⟩ := NatAt.form hz
    first | refine Gx.a (by kernel_rfl) fun K hK => ?_ | refine Gx.b (by kernel_rfl) fun K hK => ?_ | refine Gx.c (by kernel_rfl) fun K hK => ?_
    by_cases hn : n = 0
    · subst hn
      have b0 : decide ((0 : Int) < ((dg 0).length : Int)) = false := decide_eq_false (by rw [dg_zero]; simp)
      simp only [XA, XB, gateX, Nat.reduceAdd, Nat.reduceLeDiff, Nat.reduceSub, Nat.reduceMul, ↓reduceIte, Int.reduceToNat, Int.reduceLE, beq_self_eq_true, b0]
      refine hK _ ?_
      first | refine Gx.f rfl ?_ | refine XWP.seq (Gx.f rfl ?_)
      refine XWP.exit ?_
      rw [Nat.gcd_zero_right] at hg
      exact ⟨V3, _, StIs.of (by exact rfl), hg ▸ hw, hg ▸ fx⟩
    · have hsz := sz_pos hn
      unfold sz at hsz
      have b0 : decide ((0 : Int) < ((dg n).length : Int)) = true := decide_eq_true (by omega)
      simp only [XA, XB, gateX, Nat.reduceAdd, Nat.reduceLeDiff, Nat.reduceSub, Nat.reduceMul, ↓reduceIte, Int.reduceToNat, Int.reduceLE, beq_self_eq_true, b0]
      refine hK _ ?_
      first | refine Gx.t rfl ?_ | refine XWP.seq (Gx.t rfl ?_)
      refine XWP.skip ?_
      first | refine XWP.block ?_ | refine XWP.seq (XWP.block ?_)
      first | refine Gx.a (by kernel_rfl) fun K hK => ?_ | refine Gx.b (by kernel_rfl) fun K hK => ?_ | refine Gx.c (by kernel_rfl) fun K hK => ?_
      simp only [XA, XB, gateX, Nat.reduceAdd, Nat.reduceLeDiff, Nat.reduceSub, Nat.reduceMul, ↓reduceIte, Int.reduceToNat, Int.reduceLE, beq_self_eq_true]
      refine call_go (by kernel_rfl) rfl (div_c _ _ _ _ _ hw hz fx fn) fun v4 V4 hV4 h4 => ?_
      obtain ⟨q, r, rfl, hq, hr⟩ := h4.2 hn
      simp only [XA, XB, gateX, Nat.reduceAdd, Nat.reduceLeDiff, Nat.reduceSub, Nat.reduceMul, ↓reduceIte, Int.reduceToNat, Int.reduceLE, beq_self_eq_true]
      refine hK _ ?_
      first | refine Gx.a (by kernel_rfl) fun K hK => ?_ | refine Gx.b (by kernel_rfl) fun K hK => ?_ | refine Gx.c (by kernel_rfl) fun K hK => ?_
      simp only [XA, XB, gateX, Nat.reduceAdd, Nat.reduceLeDiff, Nat.reduceSub, Nat.reduceMul, ↓reduceIte, Int.reduceToNat, Int.reduceLE, beq_self_eq_true]
      have hlt := Nat.mod_lt x (Nat.pos_of_ne_zero hn)
      exact hK _ ⟨x % n, hlt, _, _, _, n, StIs.of (by exact rfl), hz.mono hV4, hr, fn, fn.mono (Nat.le_of_lt hlt), by rw [gcd_step, hg]⟩
  · rintro s ⟨V3, w, hs, hw, fg⟩
    obtain ⟨u, rfl⟩ := hs.out
    try dsimp only
    have := fg.len
    first | refine Gx.a (by kernel_rfl) fun K hK => ?_ | refine Gx.b (by kernel_rfl) fun K hK => ?_ | refine Gx.c (by kernel_rfl) fun K hK => ?_
    simp only [XA, XB, gateX, Nat.reduceAdd, Nat.reduceLeDiff, Nat.reduceSub, Nat.reduceMul, ↓reduceIte, Int.reduceToNat, Int.reduceLE, beq_self_eq_true]
    refine call_go (by kernel_rfl) rfl (clone_at _ _ _ hw (by omega)) fun v4 V4 hV4 h4 => ?_
    simp only [XA, XB, gateX, Nat.reduceAdd, Nat.reduceLeDiff, Nat.reduceSub, Nat.reduceMul, ↓reduceIte, Int.reduceToNat, Int.reduceLE, beq_self_eq_true]
    refine hK _ (XWP.ret ?_)
    try simp only [thenX_ret, inBlockX_ret]
    refine ret_go _ rfl ?_
    exact h4
end Go.Proofs.Ytkgmicakfmllmaa
end
