/- The recurrence package's Right, Add, Mul and Eval agree with the reference's, errors included. (part 4 of 12) -/
import Derived.OrdersHeld
import Derived.Below
import Derived.Tactics
import Derived.KernelRfl
import Derived.RangeFuncCalls
import Derived.RangeFuncFrom
import Derived.RangeFuncLeaves
import Derived.OrdersIn
import Derived.Laws.AppendOwn
import Derived.Laws.MakeOwn
import Derived.Laws.CopyRow
import Derived.Laws.Cells
import Derived.Laws.World
import Derived.Laws.Alloc2
import Derived.Laws.NewBlocks
import Derived.Maps.AppendAt
import Derived.Test.YthoboehbadmlmaaProg
import Init.Data.List.Lemmas
import Init.Omega
import Derived.Test.YthoboehbadmlmaaPO3
section
namespace Go.Proofs.Ythoboehbadmlmaa
set_option linter.unusedVariables false
theorem gd_drop (l : List Nat) (j i : Nat) : gd (l.drop j) i = gd l (j + i) := by simp [gd, List.getElem?_drop]
theorem top2 (l : List Nat) (m : Nat) : nv (l.take (m + 2)) = (gd l (m + 1) * BB + gd l m) * BB ^ m + nv (l.take m) := by
  rw [nv_take_gd, nv_take_gd, Nat.pow_succ, Nat.add_mul]
  have e1 : BB ^ m * BB * gd l (m + 1) = gd l (m + 1) * BB * BB ^ m := by rw [Nat.mul_comm (BB ^ m * BB), Nat.mul_assoc, Nat.mul_comm BB (BB ^ m)]
  have e2 : BB ^ m * gd l m = gd l m * BB ^ m := Nat.mul_comm _ _
  omega
theorem top3 (l : List Nat) (m : Nat) : nv (l.take (m + 3)) = ((gd l (m + 2) * BB + gd l (m + 1)) * BB + gd l m) * BB ^ m + nv (l.take m) := by
  rw [nv_take_gd, top2, Nat.pow_succ, Nat.pow_succ]
  simp only [Nat.add_mul]
  have e1 : BB ^ m * BB * BB * gd l (m + 2) = gd l (m + 2) * BB * BB * BB ^ m := by
    rw [Nat.mul_comm (BB ^ m * BB * BB), Nat.mul_assoc (BB ^ m), Nat.mul_comm (BB ^ m), ← Nat.mul_assoc, ← Nat.mul_assoc]
  omega
theorem nv_take_lt {l : List Nat} (h : Dig l) (k : Nat) : nv (l.take k) < BB ^ k := by
  have h1 := nv_lt (Dig_take h k)
  exact Nat.lt_of_lt_of_le h1 (Nat.pow_le_pow_right BB_pos (by rw [List.length_take]; omega))
/-- what lies above the window is nothing -/
theorem above_zero {l vs : List Nat} {j : Nat} (hd : Dig l) (hv : Dig vs) (h : nv (l.drop (j + 1)) < nv vs) : nv (l.drop (j + vs.length + 1)) = 0 := by
  have h1 := nv_lt hv
  by_cases hl : vs.length ≤ (l.drop (j + 1)).length
  · have h2 := nv_split (l.drop (j + 1)) vs.length hl
    rw [List.drop_drop] at h2
    have e : j + 1 + vs.length = j + vs.length + 1 := by omega
    rw [e] at h2
    rcases Nat.eq_zero_or_pos (nv (l.drop (j + vs.length + 1))) with h3 | h3
    · exact h3
    · have : BB ^ vs.length * 1 ≤ BB ^ vs.length * nv (l.drop (j + vs.length + 1)) := Nat.mul_le_mul_left _ h3
      omega
  · rw [List.drop_eq_nil_of_le (by simp at hl; omega)]; rfl
theorem window {l vs : List Nat} {j : Nat} (hl : j + vs.length < l.length) (hz : nv (l.drop (j + vs.length + 1)) = 0) : nv (l.drop j) = nv ((l.drop j).take (vs.length + 1)) := by
  have h2 := nv_split (l.drop j) (vs.length + 1) (by simp; omega)
  rw [List.drop_drop, show j + (vs.length + 1) = j + vs.length + 1 by omega, hz, Nat.mul_zero, Nat.add_zero] at h2
  exact h2
theorem nv_below {l : List Nat} {k : Nat} (hd : Dig l) (hk : k ≤ l.length) (hz : nv (l.drop k) = 0) : nv l < BB ^ k := by
  rw [nv_split l k hk, hz, Nat.mul_zero, Nat.add_zero]; exact nv_take_lt hd k
/-- the digit's bound: the window is less than the base times the divisor -/
theorem digit_lt {l vs : List Nat} {j : Nat} (hj : j < l.length) (hd : Dig l) (h : nv (l.drop (j + 1)) < nv vs) : nv (l.drop j) / nv vs < BB := by
  refine Nat.div_lt_of_lt_mul ?_
  rw [nv_drop l j hj]
  have h1 := Dig_get hd j hj
  have h2 : BB * (nv (l.drop (j + 1)) + 1) ≤ BB * nv vs := Nat.mul_le_mul_left _ h
  rw [Nat.mul_add] at h2
  rw [Nat.mul_comm (nv vs)]
  omega
theorem div_under0 {l0 l1 vs : List Nat} {j g q : Nat} (hj : j ≤ l0.length) (hlen : l1.length = l0.length) (ht : l1.take j = l0.take j) (hq : q = nv (l0.drop j) / nv vs) (hg : q ≤ g) (hv : 0 < nv vs)
    (h : nv l1 + BB ^ j * (g * nv vs) = nv l0) : g = q ∧ nv (l1.drop j) = nv (l0.drop j) % nv vs := by
  rw [nv_split l1 j (by omega), nv_split l0 j hj, ht, Nat.add_assoc, ← Nat.mul_add] at h
  have h1 : nv (l1.drop j) + g * nv vs = nv (l0.drop j) := Nat.eq_of_mul_eq_mul_left (pow_pos' j) (by omega)
  have h2 : g ≤ q := by rw [hq, Nat.le_div_iff_mul_le hv]; omega
  have e : g = q := by omega
  refine ⟨e, ?_⟩
  have := Nat.div_add_mod (nv (l0.drop j)) (nv vs)
  rw [← hq, ← e, Nat.mul_comm] at this
  omega
theorem div_under1 {l0 l1 l2 vs : List Nat} {j g q o : Nat} (hj : j + vs.length < l0.length) (hd1 : Dig l1) (hd2 : Dig l2) (hlen : l1.length = l0.length) (hlen2 : l2.length = l0.length) (ht : l2.take j = l0.take j)
    (hz1 : nv (l1.drop (j + vs.length + 1)) = 0) (hz2 : nv (l2.drop (j + vs.length + 1)) = 0) (hq : q = nv (l0.drop j) / nv vs) (hg : g ≤ q + 1) (hv : 0 < nv vs) (ho : o ≤ 1)
    (h : nv l1 + BB ^ j * (g * nv vs) = nv l0 + BB ^ (j + vs.length + 1)) (h2 : nv l2 + BB ^ (j + vs.length + 1) * o = nv l1 + BB ^ j * nv vs) : g = q + 1 ∧ nv (l2.drop j) = nv (l0.drop j) % nv vs := by
  have b1 := nv_below hd1 (by omega) hz1
  have b2 := nv_below hd2 (by omega) hz2
  have hs0 := nv_split l0 j (by omega)
  have hm := Nat.div_add_mod (nv (l0.drop j)) (nv vs)
  rw [← hq] at hm
  have hgt : nv (l0.drop j) < g * nv vs := by
    refine Nat.lt_of_mul_lt_mul_left (a := BB ^ j) ?_
    omega
  have e : g = q + 1 := by
    rcases Nat.lt_or_ge q g with h3 | h3
    · omega
    · exfalso
      have : g * nv vs ≤ q * nv vs := Nat.mul_le_mul_right _ h3
      rw [Nat.mul_comm q] at this
      omega
  refine ⟨e, ?_⟩
  subst e
  have e2 : BB ^ j * ((q + 1) * nv vs) = BB ^ j * (q * nv vs) + BB ^ j * nv vs := by rw [Nat.add_mul, Nat.one_mul, Nat.mul_add]
  have hle : BB ^ j * (q * nv vs) ≤ BB ^ j * nv (l0.drop j) := Nat.mul_le_mul_left _ (by rw [Nat.mul_comm]; omega)
  have ho1 : o = 1 := by
    rcases Nat.eq_zero_or_pos o with h0 | h0
    · exfalso
      subst h0
      omega
    · omega
  subst ho1
  have hs2 := nv_split l2 j (by omega)
  rw [ht] at hs2
  have h5 : BB ^ j * nv (l2.drop j) + BB ^ j * (q * nv vs) = BB ^ j * nv (l0.drop j) := by omega
  rw [← Nat.mul_add] at h5
  have h6 := Nat.eq_of_mul_eq_mul_left (pow_pos' j) h5
  rw [Nat.mul_comm q] at h6
  omega
/-- the whole sum behind one digit -/
theorem div_total {l0 l2 qs vs : List Nat} {j N : Nat} (hj : j < l0.length) (hlen : l2.length = l0.length) (hjq : j < qs.length) (ht : l2.take j = l0.take j) (hr : nv (l2.drop j) = nv (l0.drop j) % nv vs)
    (h : N = BB ^ (j + 1) * nv (qs.drop (j + 1)) * nv vs + nv l0) : N = BB ^ j * nv ((qs.set j (nv (l0.drop j) / nv vs)).drop j) * nv vs + nv l2 := by
  have e1 : (qs.set j (nv (l0.drop j) / nv vs)).drop j = (nv (l0.drop j) / nv vs) :: qs.drop (j + 1) := by
    rw [List.drop_eq_getElem_cons (by simp; omega)]
    simp [List.drop_set]
  have hm := Nat.div_add_mod (nv (l0.drop j)) (nv vs)
  rw [h, e1, nv, nv_split l2 j (by omega), ht, hr]
  rw [nv_split l0 j (by omega)]
  generalize nv (l0.drop j) / nv vs = q at *
  generalize nv (l0.drop j) % nv vs = r at *
  rw [← hm, Nat.pow_succ]
  simp only [Nat.mul_add, Nat.add_mul]
  have a1 : BB ^ j * BB * nv (qs.drop (j + 1)) * nv vs = BB ^ j * (BB * nv (qs.drop (j + 1))) * nv vs := by rw [Nat.mul_assoc (BB ^ j)]
  have a2 : BB ^ j * (nv vs * q) = BB ^ j * q * nv vs := by rw [Nat.mul_comm (nv vs), Nat.mul_assoc]
  omega
end Go.Proofs.Ythoboehbadmlmaa
end
section
namespace Go.Proofs.Ythoboehbadmlmaa
set_option linter.unusedVariables false
theorem two_split {s : Nat} (hs : s ≤ 31) : BB = 2 ^ s * 2 ^ (32 - s) ∧ BB = 2 ^ (32 - s) * 2 ^ s := by
  have h : BB = 2 ^ s * 2 ^ (32 - s) := by rw [← Nat.pow_add, show s + (32 - s) = 32 from by omega]; rfl
  exact ⟨h, by rw [Nat.mul_comm]; exact h⟩
def rsD (x y s : Nat) : Nat := x / 2 ^ s + (if s = 0 then 0 else y * 2 ^ (32 - s) % BB)
theorem rsD_low {x s : Nat} (hx : x < BB) (hs : s ≤ 31) : x / 2 ^ s < 2 ^ (32 - s) := by
  refine Nat.div_lt_of_lt_mul ?_
  rw [← (two_split hs).1]; exact hx
theorem rsD_eq {x y s : Nat} (hx : x < BB) (hy : y < BB) (hs : s ≤ 31) : 2 ^ s * rsD x y s + x % 2 ^ s = x + BB * (y % 2 ^ s) ∧ rsD x y s < BB := by
  have hm := Nat.div_add_mod x (2 ^ s)
  have hl := rsD_low hx hs
  unfold rsD
  by_cases h0 : s = 0
  · subst h0
    simp only [if_true, Nat.add_zero, Nat.pow_zero, Nat.mod_one, Nat.div_one, Nat.mul_zero]
    omega
  · rw [if_neg h0]
    have e : y * 2 ^ (32 - s) % BB = y % 2 ^ s * 2 ^ (32 - s) := by
      rw [(two_split hs).1, Nat.mul_mod_mul_right]
    rw [e]
    have hp : 0 < 2 ^ s := Nat.pow_pos (by omega)
    have hy2 : y % 2 ^ s + 1 ≤ 2 ^ s := Nat.mod_lt _ hp
    have hy3 : (y % 2 ^ s + 1) * 2 ^ (32 - s) ≤ 2 ^ s * 2 ^ (32 - s) := Nat.mul_le_mul_right _ hy2
    rw [← (two_split hs).1, Nat.add_mul, Nat.one_mul] at hy3
    refine ⟨?_, by omega⟩
    rw [Nat.mul_add, Nat.mul_comm (y % 2 ^ s), ← Nat.mul_assoc, ← (two_split hs).1]
    omega
theorem rs_step {us rs : List Nat} {i s c : Nat} (hl : i < rs.length) (hx : gd us i < BB) (hy : gd us (i + 1) < BB) (hs : s ≤ 31) (h : 2 ^ s * nv (rs.take i) + c = nv (us.take i) + BB ^ i * (gd us i % 2 ^ s)) :
    2 ^ s * nv ((rs.set i (rsD (gd us i) (gd us (i + 1)) s)).take (i + 1)) + c = nv (us.take (i + 1)) + BB ^ (i + 1) * (gd us (i + 1) % 2 ^ s) := by
  obtain ⟨e, _⟩ := rsD_eq hx hy hs
  have e2 := congrArg (fun z => BB ^ i * z) e
  simp only [Nat.mul_add] at e2
  have t1 : (rs.set i (rsD (gd us i) (gd us (i + 1)) s)).take (i + 1) = rs.take i ++ [rsD (gd us i) (gd us (i + 1)) s] := by
    rw [List.take_succ_eq_append_getElem (by simpa using hl)]
    simp [List.take_set_of_le]
  rw [t1, nv_snoc, List.length_take, Nat.min_eq_left (by omega), nv_take_gd, Nat.pow_succ, Nat.mul_add, Nat.mul_assoc (BB ^ i) BB]
  rw [Nat.mul_left_comm (2 ^ s)]
  omega
theorem div_end {a b Q R p : Nat} (hp : 0 < p) (hb : 0 < b) (h : a * p = Q * (b * p) + R) (hR : R < b * p) : Q = a / b ∧ R = a % b * p := by
  have h1 : Q * (b * p) = Q * b * p := by rw [Nat.mul_assoc]
  have hQ : Q * b ≤ a := by
    refine Nat.le_of_mul_le_mul_right (c := p) ?_ hp
    omega
  obtain ⟨r, rfl⟩ : ∃ r, a = Q * b + r := ⟨a - Q * b, by omega⟩
  rw [Nat.add_mul] at h
  have hr : r * p = R := by omega
  have hrb : r < b := by
    refine Nat.lt_of_mul_lt_mul_right (a := p) ?_
    omega
  have e1 : (Q * b + r) / b = Q := by rw [Nat.mul_comm Q, Nat.mul_add_div hb, Nat.div_eq_of_lt hrb, Nat.add_zero]
  have e2 : (Q * b + r) % b = r := by rw [Nat.mul_comm Q, Nat.mul_add_mod, Nat.mod_eq_of_lt hrb]
  rw [e1, e2, hr]; exact ⟨rfl, rfl⟩
theorem rs_end {us rs : List Nat} {n s c r : Nat} (hs : s ≤ 31) (hc : c < 2 ^ s) (hl : rs.length = n) (hn : n < us.length) (hz : nv (us.drop n) = 0) (hU : nv us = r * 2 ^ s) (h : 2 ^ s * nv (rs.take n) + c = nv (us.take n) + BB ^ n * (gd us n % 2 ^ s)) : nv rs = r := by
  have e1 : gd us n = 0 := by
    have := nv_drop us n hn
    rw [hz] at this
    rw [gd_get hn]; omega
  rw [e1, Nat.zero_mod, Nat.mul_zero, Nat.add_zero, List.take_of_length_le (by omega)] at h
  have h2 := nv_split us n (by omega)
  rw [hz, Nat.mul_zero, Nat.add_zero] at h2
  rw [← h2, hU, Nat.mul_comm r] at h
  have hp : 0 < 2 ^ s := Nat.pow_pos (by omega)
  have h3 : nv rs = (2 ^ s * nv rs + c) / 2 ^ s := by rw [Nat.mul_add_div hp, Nat.div_eq_of_lt hc, Nat.add_zero]
  rw [h3, h, Nat.mul_div_cancel_left _ hp]
/-- the divisor, shifted, has as many digits as before -/
theorem shift_sz {b s x : Nat} (hb : b ≠ 0) (hx : x = (dg b).getD (sz b - 1) 0) (h : x * 2 ^ s < BB) (hs : s ≤ 31) : sz (b * 2 ^ s) = sz b ∧ BB ^ (sz b - 1) ≤ b := by
  have h1 := le_sz hb
  have hp : 0 < 2 ^ s := Nat.pow_pos (by omega)
  have hsz := sz_pos hb
  refine ⟨?_, h1⟩
  have hle : sz b ≤ sz (b * 2 ^ s) := sz_mono (Nat.le_mul_of_pos_right _ hp)
  have hlt : b * 2 ^ s < BB ^ sz b := by
    have e := nv_take_gd (dg b) (sz b - 1)
    rw [show sz b - 1 + 1 = sz b by omega] at e
    have e2 : (dg b).take (sz b) = dg b := List.take_length
    rw [e2, nv_dg] at e
    have hg : gd (dg b) (sz b - 1) = x := hx.symm
    rw [hg] at e
    have h3 := nv_take_lt (Dig_dg b) (sz b - 1)
    have h4 : b < BB ^ (sz b - 1) * (x + 1) := by rw [Nat.mul_add]; omega
    have h5 : b * 2 ^ s < BB ^ (sz b - 1) * (x + 1) * 2 ^ s := Nat.mul_lt_mul_of_pos_right h4 hp
    have h6 : (x + 1) * 2 ^ s ≤ BB := by
      rw [(two_split hs).2]
      refine Nat.mul_le_mul_right _ ?_
      refine Nat.lt_of_mul_lt_mul_right (a := 2 ^ s) ?_
      rw [← (two_split hs).2]; exact h
    have h7 : BB ^ (sz b - 1) * ((x + 1) * 2 ^ s) ≤ BB ^ (sz b - 1) * BB := Nat.mul_le_mul_left _ h6
    rw [← Nat.mul_assoc, ← Nat.pow_succ, show (sz b - 1).succ = sz b by omega] at h7
    omega
  have := sz_le hlt
  omega
/-- the first digits of the dividend are less than the divisor -/
theorem first_lt {us : List Nat} {a b s : Nat} (hb : b ≠ 0) (hle : sz b ≤ sz a) (hl : us.length = sz a + 1) (hU : nv us = a * 2 ^ s) : nv (us.drop (sz a + 1 - sz b)) < b * 2 ^ s := by
  have hp : 0 < 2 ^ s := Nat.pow_pos (by omega)
  have h1 := le_sz hb
  have hsz := sz_pos hb
  have h2 := lt_sz a
  have h3 := nv_split us (sz a + 1 - sz b) (by omega)
  refine Nat.lt_of_mul_lt_mul_left (a := BB ^ (sz a + 1 - sz b)) ?_
  have h4 : BB ^ sz a ≤ BB ^ (sz a + 1 - sz b) * b := by
    have : BB ^ (sz a + 1 - sz b) * BB ^ (sz b - 1) ≤ BB ^ (sz a + 1 - sz b) * b := Nat.mul_le_mul_left _ h1
    rw [← Nat.pow_add, show sz a + 1 - sz b + (sz b - 1) = sz a by omega] at this
    exact this
  have h5 : a * 2 ^ s < BB ^ (sz a + 1 - sz b) * b * 2 ^ s := Nat.mul_lt_mul_of_pos_right (by omega) hp
  rw [Nat.mul_assoc] at h5
  omega
end Go.Proofs.Ythoboehbadmlmaa
end
section
namespace Go.Proofs.Ythoboehbadmlmaa
set_option linter.unusedVariables false
theorem knuth {l vs : List Nat} {j m q v1 v2 u0 u1 u2 : Nat} (hvl : vs.length = m + 2) (hj : j + (m + 2) < l.length) (hd : Dig l) (hv : Dig vs) (e1 : v1 = gd vs (m + 1)) (e2 : v2 = gd vs m) (e3 : u0 = gd l (j + (m + 2))) (e4 : u1 = gd l (j + (m + 1))) (e5 : u2 = gd l (j + m)) (h0 : 0 < v1)
    (hlt : nv (l.drop (j + 1)) < nv vs) (hq : q = nv (l.drop j) / nv vs) :
    q ≤ (u0 * BB + u1) / v1 ∧ q < BB ∧ u0 ≤ v1 ∧ (∀ g rest, q ≤ g → g * v1 + rest = u0 * BB + u1 → rest * BB + u2 < g * v2 → q + 1 ≤ g) ∧
      (∀ g rest, g < BB → g * v1 + rest = u0 * BB + u1 → g * v2 ≤ rest * BB + u2 → g ≤ q + 1) ∧ v1 < BB ∧ v2 < BB ∧ u0 < BB ∧ u1 < BB ∧ u2 < BB := by
  have hz := above_zero hd hv hlt
  have hw := window (l := l) (vs := vs) (j := j) (by omega) hz
  rw [hvl] at hw
  have dv : nv vs = (v1 * BB + v2) * BB ^ m + nv (vs.take m) := by
    have := top2 vs m
    rw [← hvl, List.take_length] at this
    rw [this, e1, e2]
  have dv1 : nv vs = v1 * BB ^ (m + 1) + nv (vs.take (m + 1)) := by
    have := nv_take_gd vs (m + 1)
    rw [show m + 1 + 1 = vs.length by omega, List.take_length] at this
    rw [this, e1, Nat.mul_comm (BB ^ (m + 1))]; omega
  have dU : nv (l.drop j) = ((u0 * BB + u1) * BB + u2) * BB ^ m + nv ((l.drop j).take m) := by
    rw [hw, top3, gd_drop, gd_drop, gd_drop, e3, e4, e5]
  have dU1 : nv (l.drop j) = (u0 * BB + u1) * BB ^ (m + 1) + nv ((l.drop j).take (m + 1)) := by
    rw [hw, show m + 2 + 1 = m + 1 + 2 by omega, top2, gd_drop, gd_drop, e3, e4]
  have hqB : q < BB := hq ▸ digit_lt (by omega) hd hlt
  have hqU : q * nv vs ≤ nv (l.drop j) := by
    have := Nat.div_mul_le_self (nv (l.drop j)) (nv vs)
    rw [hq]; exact this
  have hv0 : 0 < nv vs := Nat.lt_of_le_of_lt (Nat.zero_le _) hlt
  have hUq : nv (l.drop j) < (q + 1) * nv vs := by
    have := Nat.lt_mul_div_succ (nv (l.drop j)) hv0
    rw [← hq] at this
    rw [Nat.mul_comm]; exact this
  have hdd := Dig_drop hd j
  have hu0 : u0 ≤ v1 := by
    have a1 : (q + 1) * nv vs ≤ BB * nv vs := Nat.mul_le_mul_right _ hqB
    have a2 : nv vs < (v1 + 1) * BB ^ (m + 1) := by have := nv_take_lt hv (m + 1); rw [Nat.add_mul]; omega
    have a3 : BB * nv vs < BB * ((v1 + 1) * BB ^ (m + 1)) := Nat.mul_lt_mul_of_pos_left a2 BB_pos
    have a4 : u0 * BB * BB ^ (m + 1) < (v1 + 1) * BB * BB ^ (m + 1) := by
      have b1 : BB * ((v1 + 1) * BB ^ (m + 1)) = (v1 + 1) * BB * BB ^ (m + 1) := by rw [← Nat.mul_assoc, Nat.mul_comm BB]
      have b2 : u0 * BB * BB ^ (m + 1) ≤ (u0 * BB + u1) * BB ^ (m + 1) := Nat.mul_le_mul_right _ (Nat.le_add_right _ _)
      rw [← b1]
      omega
    have a5 := Nat.lt_of_mul_lt_mul_right a4
    have a6 := Nat.lt_of_mul_lt_mul_right a5
    omega
  refine ⟨guess_hi (pow_pos' (m + 1)) h0 dv1 dU1 (nv_take_lt hdd _) hqU, hqB, hu0, fun g rest hg hr ht => guess_dec (pow_pos' m) dv dU (nv_take_lt hdd _) hqU hg hr ht, fun g rest hgB hr ht => guess_end (pow_pos' m) h0 dv (nv_take_lt hv _) dU hUq hgB hr ht, e1 ▸ gd_lt hv _, e2 ▸ gd_lt hv _, e3 ▸ gd_lt hd _, e4 ▸ gd_lt hd _, e5 ▸ gd_lt hd _⟩
/-- A product of digits has room. -/
theorem dig_mul {g v : Nat} (hg : g < BB) (hv : v < BB) : g * v < 18446744073709551616 := by
  have h1 : g * v ≤ 4294967295 * 4294967295 := Nat.mul_le_mul (by unfold BB at hg; omega) (by unfold BB at hv; omega)
  omega
theorem dig_mulc {c g v : Nat} (hc : c < BB) (hg : g < BB) (hv : v < BB) : c + g * v < 18446744073709551616 ∧ (c + g * v) / BB < BB := by
  have h1 : g * v ≤ 4294967295 * 4294967295 := Nat.mul_le_mul (by unfold BB at hg; omega) (by unfold BB at hv; omega)
  unfold BB at *; omega
theorem set_drop (l : List Nat) {i m : Nat} (x : Nat) (h : i < m) : (l.set i x).drop m = l.drop m := List.drop_set_of_lt h
theorem set_take (l : List Nat) {i m : Nat} (x : Nat) (h : m ≤ i) : (l.set i x).take m = l.take m := List.take_set_of_le h
theorem drop_more {l l' : List Nat} {k m : Nat} (h : l.drop k = l'.drop k) (hm : k ≤ m) : l.drop m = l'.drop m := by
  obtain ⟨d, rfl⟩ : ∃ d, m = k + d := ⟨m - k, by omega⟩
  rw [← List.drop_drop, ← List.drop_drop, h]
theorem mulsub_last {l vs : List Nat} {U0 j n g y : Nat} (hi : j + n < l.length) (hd : Dig l) (hy : y ≤ BB) (h : nv l + BB ^ j * (g * nv vs) = U0 + BB ^ (j + n) * y) :
    nv (l.set (j + n) (subD (l.getD (j + n) 0) y)) + BB ^ j * (g * nv vs) = U0 + BB ^ (j + n + 1) * subB (l.getD (j + n) 0) y := by
  have hx : l.getD (j + n) 0 < BB := gd_lt hd (j + n)
  obtain ⟨e1, _, _⟩ := subD_eq hx hy
  have hs := nv_set l (j + n) (subD (l.getD (j + n) 0) y) hi
  rw [Nat.pow_succ, Nat.mul_assoc]
  have e2 := congrArg (fun z => BB ^ (j + n) * z) e1
  simp only [Nat.mul_add] at e2
  generalize BB ^ (j + n) = P at *
  generalize nv (l.set (j + n) (subD (l.getD (j + n) 0) y)) = A at *
  generalize subD (l.getD (j + n) 0) y = D at *
  generalize subB (l.getD (j + n) 0) y = E at *
  generalize BB ^ j * (g * nv vs) = G at *
  omega
theorem addback_last {l vs : List Nat} {U0 j n c : Nat} (hi : j + n < l.length) (h : nv l + BB ^ (j + n) * c = U0 + BB ^ j * nv vs) :
    nv (l.set (j + n) ((l.getD (j + n) 0 + c) % BB)) + BB ^ (j + n + 1) * ((l.getD (j + n) 0 + c) / BB) = U0 + BB ^ j * nv vs := by
  have hs := nv_set l (j + n) ((l.getD (j + n) 0 + c) % BB) hi
  have e1 := Nat.mod_add_div (l.getD (j + n) 0 + c) BB
  rw [Nat.pow_succ, Nat.mul_assoc]
  have e2 := congrArg (fun z => BB ^ (j + n) * z) e1
  simp only [Nat.mul_add] at e2
  generalize BB ^ (j + n) = P at *
  generalize nv (l.set (j + n) ((l.getD (j + n) 0 + c) % BB)) = A at *
  generalize BB ^ j * nv vs = G at *
  omega
end Go.Proofs.Ythoboehbadmlmaa
end
