/- The composition and every mixture of two kernels leave the posterior invariant, at every input. (part 5 of 13) -/
import Derived.OrdersHeld
import Derived.Below
import Derived.Tactics
import Derived.KernelRfl
import Derived.RangeFuncCalls
import Derived.RangeFuncFrom
import Derived.RangeFuncLeaves
import Derived.OrdersIn
import Derived.Laws.AppendOwn
import Derived.Laws.MakeOwn
import Derived.Laws.CopyRow
import Derived.Laws.Cells
import Derived.Laws.World
import Derived.Laws.Alloc2
import Derived.Laws.NewBlocks
import Derived.Maps.AppendAt
import Derived.Test.YtobjjdnfgamgcaaGreatProg
import Init.Data.List.Lemmas
import Init.Omega
import Derived.Test.YtobjjdnfgamgcaaGreatBO4
set_option linter.unusedVariables false
set_option linter.unusedSimpArgs false
section
namespace Go.Proofs.YtobjjdnfgamgcaaGreat
theorem times_step {ds out : List Nat} {k sh m c : Nat} (hl : out.length = sh + k) (h : nv out + BB ^ (sh + k) * c = BB ^ sh * (nv (ds.take k) * m)) :
  nv (out ++ [(gd ds k * m + c) % BB]) + BB ^ (sh + (k + 1)) * ((gd ds k * m + c) / BB) = BB ^ sh * (nv (ds.take (k + 1)) * m) := by
 rw [nv_snoc, hl, nv_take_gd, ← Nat.add_assoc sh k 1, Nat.pow_succ, Nat.mul_assoc (BB ^ (sh + k))]
 have e := Nat.mod_add_div (gd ds k * m + c) BB
 have e2 : BB ^ (sh + k) * ((gd ds k * m + c) % BB) + BB ^ (sh + k) * (BB * ((gd ds k * m + c) / BB)) = BB ^ (sh + k) * (gd ds k * m) + BB ^ (sh + k) * c := by rw [← Nat.mul_add, e, Nat.mul_add]
 have e3 : BB ^ sh * ((nv (ds.take k) + BB ^ k * gd ds k) * m) = BB ^ sh * (nv (ds.take k) * m) + BB ^ (sh + k) * (gd ds k * m) := by
  rw [Nat.add_mul, Nat.mul_add, Nat.pow_add, Nat.mul_assoc (BB ^ k), Nat.mul_assoc (BB ^ sh)]
 rw [e3]; omega
theorem times_carry {x m c : Nat} (hx : x < BB) (hm : m < BB) (hc : c < BB) : x * m + c < 18446744073709551616 ∧ (x * m + c) / BB < BB ∧ x * m < 18446744073709551616 := by
 have h1 : x * m ≤ 4294967295 * 4294967295 := Nat.mul_le_mul (by unfold BB at hx; omega) (by unfold BB at hm; omega)
 unfold BB at *
 omega
theorem guess_bounds {a b n i first lead q : Nat} (hb : BB ^ n * lead ≤ b) (hb2 : b < BB ^ n * (lead + 1)) (hlead : 0 < lead) (hf1 : BB ^ (i + n) * first ≤ a) (hf2 : a < BB ^ (i + n) * (first + 1)) (hq : q = a / (b * BB ^ i)) :
  q ≤ first / lead ∧ first / (lead + 1) ≤ q := by
 have hP := pow_pos' n
 have hS := pow_pos' i
 have hb0 : 0 < b := Nat.lt_of_lt_of_le (Nat.mul_pos hP hlead) hb
 have hbS : 0 < b * BB ^ i := Nat.mul_pos hb0 hS
 have e : BB ^ (i + n) = BB ^ n * BB ^ i := by rw [Nat.pow_add, Nat.mul_comm]
 rw [e] at hf1 hf2
 constructor
 ·rw [Nat.le_div_iff_mul_le hlead]
  have h1 : q * (b * BB ^ i) ≤ a := by rw [hq]; exact Nat.div_mul_le_self _ _
  have h2 : q * (BB ^ n * lead * BB ^ i) ≤ q * (b * BB ^ i) := Nat.mul_le_mul_left _ (Nat.mul_le_mul_right _ hb)
  have h3 : q * (BB ^ n * lead * BB ^ i) = BB ^ n * BB ^ i * (q * lead) := by
   rw [Nat.mul_assoc (BB ^ n), Nat.mul_comm lead, ← Nat.mul_assoc (BB ^ n), Nat.mul_left_comm q]
  have h4 : BB ^ n * BB ^ i * (q * lead) < BB ^ n * BB ^ i * (first + 1) := by omega
  have := Nat.lt_of_mul_lt_mul_left h4
  omega
 ·rw [hq, Nat.le_div_iff_mul_le hbS]
  have h1 : first / (lead + 1) * (lead + 1) ≤ first := Nat.div_mul_le_self _ _
  have h2 : first / (lead + 1) * (b * BB ^ i) ≤ first / (lead + 1) * (BB ^ n * (lead + 1) * BB ^ i) := Nat.mul_le_mul_left _ (Nat.mul_le_mul_right _ (Nat.le_of_lt hb2))
  have h3 : first / (lead + 1) * (BB ^ n * (lead + 1) * BB ^ i) = BB ^ n * BB ^ i * (first / (lead + 1) * (lead + 1)) := by
   rw [Nat.mul_assoc (BB ^ n), Nat.mul_comm (lead + 1), ← Nat.mul_assoc (BB ^ n), Nat.mul_left_comm (first / (lead + 1))]
  have h4 : BB ^ n * BB ^ i * (first / (lead + 1) * (lead + 1)) ≤ BB ^ n * BB ^ i * first := Nat.mul_le_mul_left _ h1
  omega
theorem top_one {l : List Nat} {k : Nat} (h : Dig l) (hl : l.length ≤ k + 1) : BB ^ k * gd l k ≤ nv l ∧ nv l < BB ^ k * (gd l k + 1) := by
 have h1 := nv_take_gd l k
 rw [List.take_of_length_le hl] at h1
 have h2 := nv_take_lt h k
 rw [Nat.mul_add]; omega
theorem top_two {l : List Nat} {k : Nat} (h : Dig l) (hl : l.length ≤ k + 2) : BB ^ k * (gd l (k + 1) * BB + gd l k) ≤ nv l ∧ nv l < BB ^ k * (gd l (k + 1) * BB + gd l k + 1) := by
 have h1 := top2 l k
 rw [List.take_of_length_le hl, Nat.mul_comm _ (BB ^ k)] at h1
 have h2 := nv_take_lt h k
 rw [Nat.mul_add _ _ 1]; omega
theorem gd_last {n : Nat} (h : n ≠ 0) : 0 < gd (dg n) (sz n - 1) := by
 have hp := sz_pos h
 unfold sz at hp
 have h1 := dg_last n (dg n)[(dg n).length - 1] (by rw [List.getLast?_eq_getElem?, List.getElem?_eq_getElem (by omega)])
 unfold sz
 rw [gd_get (by omega)]; omega
theorem halve_mid {low high : Nat} (h : low < high) : low < low + (high - low + 1) / 2 ∧ low + (high - low + 1) / 2 ≤ high := by omega
theorem hdiv_step {a0 a b i q out' : Nat} {out : List Nat} (hb : 0 < b) (hq : q = a / (b * BB ^ i)) (h : a0 = a + b * nv out) (ho : out' = nv out + BB ^ i * q) : a0 = (a - b * q * BB ^ i) + b * out' ∧ a - b * q * BB ^ i < b * BB ^ i ∧ b * q * BB ^ i ≤ a := by
 have h1 := Nat.mod_add_div a (b * BB ^ i)
 have h2 := Nat.mod_lt a (Nat.mul_pos hb (pow_pos' i))
 rw [← hq] at h1
 have e : b * q * BB ^ i = b * BB ^ i * q := by rw [Nat.mul_assoc, Nat.mul_comm q, ← Nat.mul_assoc]
 have e2 : b * (BB ^ i * q) = b * BB ^ i * q := by rw [Nat.mul_assoc]
 rw [e, ho, Nat.mul_add, e2, h]
 omega
theorem hdiv_lt {a b i : Nat} (h : a < b * BB ^ (i + 1)) : a / (b * BB ^ i) < BB := by
 refine Nat.div_lt_of_lt_mul ?_
 rw [Nat.mul_assoc, ← Nat.pow_succ]; exact h
theorem hdiv_first {a b : Nat} (hb : b ≠ 0) (h : sz b ≤ sz a) : a < b * BB ^ (sz a - sz b + 1) := by
 have h1 := lt_sz a
 have h2 := le_sz hb
 have h3 := sz_pos hb
 have e : sz a = (sz b - 1) + (sz a - sz b + 1) := by omega
 rw [e, Nat.pow_add] at h1
 exact Nat.lt_of_lt_of_le h1 (Nat.mul_le_mul_right _ h2)
theorem hdiv_fits {a b i : Nat} (h : a < b * BB ^ (i + 1)) : a < BB ^ (sz b + (i + 1)) := by
 rw [Nat.pow_add]
 exact Nat.lt_of_lt_of_le h (Nat.mul_le_mul_right _ (Nat.le_of_lt (lt_sz b)))
theorem times_fits {b m i : Nat} (hm : m < BB) : b * m * BB ^ i < BB ^ (sz b + 1 + i) := by
 rw [Nat.pow_add, Nat.pow_add, Nat.pow_one]
 refine Nat.mul_lt_mul_of_pos_right ?_ (pow_pos' i)
 exact Nat.mul_lt_mul_of_lt_of_le (lt_sz b) (Nat.le_of_lt hm) BB_pos
theorem gcd_half {a b : Nat} (h : a % 2 = 0) (ho : Nat.gcd a b % 2 = 1) : Nat.gcd (a / 2) b = Nat.gcd a b := by
 obtain ⟨c, rfl⟩ : ∃ c, a = 2 * c := ⟨a / 2, by omega⟩
 rw [Nat.mul_div_cancel_left _ (by omega)]
 have hc : Nat.Coprime (Nat.gcd (2 * c) b) 2 := by unfold Nat.Coprime; rw [Nat.gcd_comm, Nat.gcd_rec, ho, Nat.gcd_one_left]
 refine Nat.dvd_antisymm (Nat.dvd_gcd ?_ (Nat.gcd_dvd_right _ _)) (Nat.dvd_gcd (hc.dvd_of_dvd_mul_left (Nat.gcd_dvd_left _ _)) (Nat.gcd_dvd_right _ _))
 exact Nat.dvd_trans (Nat.gcd_dvd_left _ _) (Nat.dvd_mul_left _ _)
theorem gcd_half2 {a b : Nat} (h : a % 2 = 0) (k : b % 2 = 0) : Nat.gcd a b = 2 * Nat.gcd (a / 2) (b / 2) := by
 obtain ⟨c, rfl⟩ : ∃ c, a = 2 * c := ⟨a / 2, by omega⟩
 obtain ⟨d, rfl⟩ : ∃ c, b = 2 * c := ⟨b / 2, by omega⟩
 rw [Nat.mul_div_cancel_left _ (by omega), Nat.mul_div_cancel_left _ (by omega), Nat.gcd_mul_left]
theorem gcd_odd {a b : Nat} (h : a % 2 = 1 ∨ b % 2 = 1) : Nat.gcd a b % 2 = 1 := by
 rcases Nat.mod_two_eq_zero_or_one (Nat.gcd a b) with h1 | h1
 ·have ha := Nat.mod_eq_zero_of_dvd (Nat.dvd_trans (Nat.dvd_of_mod_eq_zero h1) (Nat.gcd_dvd_left a b))
  have hb := Nat.mod_eq_zero_of_dvd (Nat.dvd_trans (Nat.dvd_of_mod_eq_zero h1) (Nat.gcd_dvd_right a b))
  omega
 ·exact h1
theorem gcd_take {a b : Nat} (h : a ≤ b) : Nat.gcd a (b - a) = Nat.gcd a b := Nat.gcd_sub_self_right h
end Go.Proofs.YtobjjdnfgamgcaaGreat
end
section
namespace Go.Proofs.YtobjjdnfgamgcaaGreat
open Go Go.RowKit
attribute [local irreducible] XWP Spec SpecO XPub XCall seqX clX apX stX ldX iaX slX
theorem rmul_c (V : View) (v u : Value) (a b : Nat) (hv : NatC V v a) (hu : NatC V u b) (fa : Fit a) (fb : Fit b) : Spec Tryz.prog 85 [v, u] V fun v' V' => NatC V' v' (a * b) := by
 obtain ⟨A0, c0, rfl, hc0, hm0⟩ := NatAt.form hv
 obtain ⟨A1, c1, rfl, hc1, hm1⟩ := NatAt.form hu
 refine (Spec.enter Tryz.func85 rfl fun Γ => ?_)
 simp only [Tryz.ntmps85, List.map_cons, List.map_nil, List.length_cons, List.length_nil, Nat.reduceAdd, Nat.reduceSub, List.replicate_succ, List.replicate_zero, List.cons_append, List.nil_append]
 refine Gx.a (by kernel_rfl) fun K hK => ?_
 simp only [XA]
 refine hK _ ?_
 refine Gx.a (by kernel_rfl) fun K hK => ?_
 simp only [XA]
 refine call_go (by kernel_rfl) rfl (rtrim_c _ _ _ hv fa) fun v1 V1 hV1 h1 => ?_
 obtain ⟨A, c, rfl, hc, hm⟩ := NatAt.form h1
 simp only [XA]
 refine call_go (by kernel_rfl) rfl (rtrim_c _ _ _ (hu.mono hV1) fb) fun v2 V2 hV2 h2 => ?_
 obtain ⟨A', c', rfl, hc', hm'⟩ := NatAt.form h2
 have h1 := h1.mono hV2
 have la := fa.len
 have lb := fb.len
 clear hv hu hc0 hc1 hm0 hm1
 simp only [XA]
 refine hK _ ?_
 refine Gx.a (by kernel_rfl) fun K hK => ?_
 simp only [XA, XB, i64_add _ _ (show (dg a).length + (dg b).length ≤ 9223372036854775807 by omega)]
 refine mk_go rfl rfl elemT_47 zeroT_123 (by omega) (by omega) (by omega) (by omega) rfl (by omega) fun q hq1 hq2 => ?_
 simp only [XA, u32s_replicate]
 refine hK _ ?_
 clear hK
 refine XWP.cut (fun s => ∃ (H5 : Heap) (out : List Nat), StIs (fun Z => [.v (.slice A (dg a).length c), .v (.slice A' (dg b).length c'), Z 2,Z 3,Z 4, .v (.slice (some ⟨q, 0, none⟩) ((dg a).length + (dg b).length) ((dg a).length + (dg b).length)), Z 6,Z 7,Z 8,Z 9,Z 10,Z 11,Z 12,Z 13,Z 14,Z 15,Z 16,Z 17,Z 18,Z 19,Z 20,Z 21,Z 22,Z 23,Z 24,Z 25,Z 26,Z 27,Z 28,Z 29,Z 30,Z 31,Z 32,Z 33,Z 34,Z 35,Z 36,Z 37,Z 38,Z 39,Z 40,Z 41,Z 42,Z 43,Z 44,Z 45,Z 46,Z 47,Z 48,Z 49,Z 50,Z 51,Z 52,Z 53,Z 54,Z 55,Z 56,Z 57,Z 58,Z 59,Z 60,Z 61,Z 62,Z 63,Z 64,Z 65,Z 66,Z 67,Z 68,Z 69,Z 70,Z 71,Z 72]) [] H5 V2 s ∧ H5 q = some ⟨123, u32s out, ((dg a).length + (dg b).length) * 1⟩ ∧ out.length = (dg a).length + (dg b).length ∧ Dig out ∧ nv out = a * b) ?_ ?_
 ·refine Gx.a (by kernel_rfl) fun K hK => ?_
  simp only [XA]
  refine hK _ ?_
  clear hK
  refine XWP.block ?_
  refine XWP.loop (fun n s => ∃ (k : Nat) (H5 : Heap) (out : List Nat), StIs (fun Z => [.v (.slice A (dg a).length c), .v (.slice A' (dg b).length c'), Z 2,Z 3,Z 4, .v (.slice (some ⟨q, 0, none⟩) ((dg a).length + (dg b).length) ((dg a).length + (dg b).length)), .v (.int .i64 (k : Int)), Z 7,Z 8,Z 9,Z 10,Z 11,Z 12,Z 13,Z 14,Z 15,Z 16,Z 17,Z 18,Z 19,Z 20,Z 21,Z 22,Z 23,Z 24,Z 25,Z 26,Z 27,Z 28,Z 29,Z 30,Z 31,Z 32,Z 33,Z 34,Z 35,Z 36,Z 37,Z 38,Z 39,Z 40,Z 41,Z 42,Z 43,Z 44,Z 45,Z 46,Z 47,Z 48,Z 49,Z 50,Z 51,Z 52,Z 53,Z 54,Z 55,Z 56,Z 57,Z 58,Z 59,Z 60,Z 61,Z 62,Z 63,Z 64,Z 65,Z 66,Z 67,Z 68,Z 69,Z 70,Z 71,Z 72]) [] H5 V2 s ∧ n + k = (dg a).length ∧ H5 q = some ⟨123, u32s out, ((dg a).length + (dg b).length) * 1⟩ ∧ out.length = (dg a).length + (dg b).length ∧ Dig out ∧ (∀ j, k + (dg b).length ≤ j → out.getD j 0 = 0) ∧ nv out = nv ((dg a).take k) * b) (dg a).length ⟨0, _, List.replicate ((dg a).length + (dg b).length) 0, StIs.of (by exact rfl), rfl, by rw [upd_at]; simp, by simp, Dig_replicate _, fun j _ => by simp only [List.getD_eq_getElem?_getD, List.getElem?_replicate]; split <;> rfl, by simp [nv, nv_replicate]⟩ ?_
  rintro n s ⟨i, H5, out, hs, hn, hH, hol, hod, hz, hnv⟩
  obtain ⟨u, rfl⟩ := hs.out
  try dsimp only
  by_cases hi : i < (dg a).length
  ·have b1 : decide ((i : Int) < ((dg a).length : Int)) = true := decide_eq_true (by omega)
   refine XWP.seq ?_
   refine Gx.a (by kernel_rfl) fun K hK => ?_
   simp only [XA, XB, b1]
   refine hK _ ?_
   refine Gx.t rfl ?_
   refine XWP.skip ?_
   obtain ⟨q1, o1, rfl⟩ := NatAt.addr h1 (by omega)
   have hc1 := NatAt.cells h1 i hi
   have hd1 := Dig_get (Dig_dg a) i hi
   rw [getD_get] at hc1 hd1
   generalize hx : (dg a).getD i 0 = x at *
   refine XWP.seq ?_
   refine XWP.block ?_
   refine Gx.a (by kernel_rfl) fun K hK => ?_
   simp only [XA]
   refine hK _ ?_
   clear hK
   refine XWP.cut (fun s => ∃ (H6 : Heap) (out' : List Nat) (cc : Nat), StIs (fun Z => [.v (.slice (some ⟨q1, o1, none⟩) (dg a).length c), .v (.slice A' (dg b).length c'), Z 2,Z 3,Z 4, .v (.slice (some ⟨q, 0, none⟩) ((dg a).length + (dg b).length) ((dg a).length + (dg b).length)), .v (.int .i64 (i : Int)), .v (.int .u64 ((cc : Nat) : Int)), Z 8,Z 9,Z 10,Z 11,Z 12,Z 13,Z 14,Z 15,Z 16,Z 17,Z 18,Z 19,Z 20,Z 21,Z 22,Z 23,Z 24,Z 25,Z 26,Z 27,Z 28,Z 29,Z 30,Z 31,Z 32,Z 33,Z 34,Z 35,Z 36,Z 37,Z 38,Z 39,Z 40,Z 41,Z 42,Z 43,Z 44,Z 45,Z 46,Z 47,Z 48,Z 49,Z 50,Z 51,Z 52,Z 53,Z 54,Z 55,Z 56,Z 57,Z 58,Z 59,Z 60,Z 61,Z 62,Z 63,Z 64,Z 65,Z 66,Z 67,Z 68,Z 69,Z 70,Z 71,Z 72]) [] H6 V2 s ∧ H6 q = some ⟨123, u32s out', ((dg a).length + (dg b).length) * 1⟩ ∧ out'.length = (dg a).length + (dg b).length ∧ Dig out' ∧ cc < BB ∧ (∀ j, i + (dg b).length ≤ j → out'.getD j 0 = 0) ∧ nv out' + BB ^ (i + (dg b).length) * cc = nv ((dg a).take i) * b + BB ^ i * (x * b)) ?_ ?_
   ·refine Gx.a (by kernel_rfl) fun K hK => ?_
    simp only [XA]
    refine hK _ ?_
    clear hK
    refine XWP.block ?_
    refine XWP.loop (fun n s => ∃ (k : Nat) (H6 : Heap) (out' : List Nat) (cc : Nat), StIs (fun Z => [.v (.slice (some ⟨q1, o1, none⟩) (dg a).length c), .v (.slice A' (dg b).length c'), Z 2,Z 3,Z 4, .v (.slice (some ⟨q, 0, none⟩) ((dg a).length + (dg b).length) ((dg a).length + (dg b).length)), .v (.int .i64 (i : Int)), .v (.int .u64 ((cc : Nat) : Int)), .v (.int .i64 (k : Int)), Z 9,Z 10,Z 11,Z 12,Z 13,Z 14,Z 15,Z 16,Z 17,Z 18,Z 19,Z 20,Z 21,Z 22,Z 23,Z 24,Z 25,Z 26,Z 27,Z 28,Z 29,Z 30,Z 31,Z 32,Z 33,Z 34,Z 35,Z 36,Z 37,Z 38,Z 39,Z 40,Z 41,Z 42,Z 43,Z 44,Z 45,Z 46,Z 47,Z 48,Z 49,Z 50,Z 51,Z 52,Z 53,Z 54,Z 55,Z 56,Z 57,Z 58,Z 59,Z 60,Z 61,Z 62,Z 63,Z 64,Z 65,Z 66,Z 67,Z 68,Z 69,Z 70,Z 71,Z 72]) [] H6 V2 s ∧ n + k = (dg b).length ∧ H6 q = some ⟨123, u32s out', ((dg a).length + (dg b).length) * 1⟩ ∧ out'.length = (dg a).length + (dg b).length ∧ Dig out' ∧ cc < BB ∧ (∀ j, i + (dg b).length ≤ j → out'.getD j 0 = 0) ∧ nv out' + BB ^ (i + k) * cc = nv ((dg a).take i) * b + BB ^ i * (x * nv ((dg b).take k))) (dg b).length ⟨0, H5, out, 0, StIs.of (by exact rfl), rfl, hH, hol, hod, BB_pos, hz, by simp [nv, hnv]⟩ ?_
    rintro n' s ⟨k, H6, out', cc, hs', hn', hH', hol', hod', hcc, hz', hnv'⟩
    obtain ⟨z, rfl⟩ := hs'.out
    try dsimp only
    refine Gx.b (by kernel_rfl) fun K hK => ?_
    by_cases hk : k < (dg b).length
    ·have b2 : decide ((k : Int) < ((dg b).length : Int)) = true := decide_eq_true (by omega)
     simp only [XA, XB, b2]
     refine hK _ ?_
     refine Gx.t rfl ?_
     refine XWP.skip ?_
     refine XWP.seq ?_
     refine XWP.block ?_
     (refine XWP.drw [0, 1, 2, 3, 4, 5, 6, 7, 8, 9, 10, 11, 12, 13, 14, 15, 16, 17, 18, 19, 20, 21] (by kernel_rfl) (by kernel_rfl) (by kernel_rfl) fun K hK => ?_) <;> dsimp only [pickOps, List.getElem?_cons_zero, List.getElem?_cons_succ]
     obtain ⟨q2, o2, rfl⟩ := NatAt.addr h2 (by omega)
     have hc2 := NatAt.cells h2 k hk
     have hd2 := Dig_get (Dig_dg b) k hk
     rw [getD_get] at hc2 hd2
     have hd3 := Dig_get hod' (i + k) (by omega)
     rw [getD_get] at hd3
     obtain ⟨m1, m2, m3, m4⟩ := mul_carry cc (out'.getD (i + k) 0) x ((dg b).getD k 0) hcc hd3 hd1 hd2
     have w1 := i64_add i k (by omega)
     have w2 := u64_add (x * (dg b).getD k 0) (out'.getD (i + k) 0) (by omega)
     have w3 := u64_add (x * (dg b).getD k 0 + out'.getD (i + k) 0) cc (by omega)
     simp only [XA, XB]
     refine ⟨by omega, by omega, ld_mem (loads_cell shapeT_123 (hc1 _)) ?_⟩
     simp only [XA, XB]
     refine ⟨by omega, by omega, ld_mem (loads_cell shapeT_123 (hc2 _)) ?_⟩
     simp only [XA, XB, w1, u64_of_u32 _ hd1, u64_of_u32 _ hd2, u64_mul _ _ m4]
     refine ⟨by omega, by omega, ld_mem (loads_cell shapeT_123 (row_cell hH' (by omega))) ?_⟩
     simp only [XA, XB, u64_of_u32 _ hd3, w2, w3]
     refine hK _ ?_
     have e0 : x * (dg b).getD k 0 + out'.getD (i + k) 0 + cc = cc + (out'.getD (i + k) 0 + x * gd (dg b) k) := by unfold gd; omega
     rw [e0]
     have m1' : cc + (out'.getD (i + k) 0 + x * gd (dg b) k) < 18446744073709551616 := m1
     refine Gx.a (by kernel_rfl) fun K hK => ?_
     simp only [XA, XB, w1, bin_rem _ _ _ _ BB_ne, rem_BB, w32_mod, Nat.mod_mod]
     refine ⟨by omega, by omega, ?_⟩
     refine st_row shapeT_123 rfl rfl hH' (by rw [u32s_length]; omega) ?_
     simp only [XA, u32s_set]
     refine hK _ ?_
     refine Gx.c (by kernel_rfl) fun K hK => ?_
     simp only [XA, XB, bin_quo _ _ _ _ BB_ne, quo_BB _ m1']
     refine hK _ ?_
     refine Gx.c (by kernel_rfl) fun K hK => ?_
     simp only [XA, XB, i64_succ k (by omega)]
     refine hK _ ⟨n' - 1, by omega, k + 1, _, _, _, StIs.of (by exact rfl), by omega, by (simp only [upd_at, Nat.mul_one]; first | done | exact rfl), by simp [hol'], Dig_set hod' _ (Nat.mod_lt _ BB_pos), m2, fun j hj => ?_, mul_step (db := dg b) (by omega) hnv'⟩
     rw [getD_set_ne' _ _ _ _ (by omega)]; exact hz' j hj
    ·have b2 : decide ((k : Int) < ((dg b).length : Int)) = false := decide_eq_false (by omega)
     obtain rfl : k = (dg b).length := by omega
     simp only [XA, XB, b2]
     refine hK _ ?_
     refine Gx.f rfl ?_
     refine XWP.exit ?_
     refine ⟨H6, out', cc, StIs.of (by exact rfl), hH', hol', hod', hcc, hz', ?_⟩
     rw [hnv', List.take_length, nv_dg]
   ·rintro s ⟨H6, out', cc, hs', hH', hol', hod', hcc, hz', hnv'⟩
    obtain ⟨z, rfl⟩ := hs'.out
    try dsimp only
    refine Gx.c (by kernel_rfl) fun K hK => ?_
    have e1 : cc % BB = cc := Nat.mod_eq_of_lt hcc
    simp only [XA, XB, i64_add i (dg b).length (by omega), w32_mod, e1]
    refine ⟨by omega, by omega, ?_⟩
    refine st_row shapeT_123 rfl rfl hH' (by rw [u32s_length]; omega) ?_
    simp only [XA, u32s_set]
    refine hK _ ?_
    refine Gx.c (by kernel_rfl) fun K hK => ?_
    simp only [XA, XB, i64_succ i (by omega)]
    refine hK _ ⟨n - 1, by omega, i + 1, _, _, StIs.of (by exact rfl), by omega, by (simp only [upd_at, Nat.mul_one]; first | done | exact rfl), by simp [hol'], Dig_set hod' _ hcc, fun j hj => ?_, mul_last (by omega) (hz' _ (Nat.le_refl _)) hi hx.symm hnv'⟩
    rw [getD_set_ne' _ _ _ _ (by omega)]; exact hz' j (by omega)
  ·have b1 : decide ((i : Int) < ((dg a).length : Int)) = false := decide_eq_false (by omega)
   obtain rfl : i = (dg a).length := by omega
   refine XWP.seq ?_
   refine Gx.a (by kernel_rfl) fun K hK => ?_
   simp only [XA, XB, b1]
   refine hK _ ?_
   refine Gx.f rfl ?_
   refine XWP.exit ?_
   refine ⟨H5, out, StIs.of (by exact rfl), hH, hol, hod, ?_⟩
   rw [hnv, List.take_length, nv_dg]
 ·rintro s ⟨H5, out, hs, hH, hol, hod, hnv⟩
  obtain ⟨u, rfl⟩ := hs.out
  try dsimp only
  refine Gx.a (by kernel_rfl) fun K hK => ?_
  simp only [XA]
  refine call_pub q _ hH (fun o ho hle' => ?_) (by kernel_rfl) rfl
  refine call_go (by kernel_rfl) rfl (rtrim_any _ _ out (NatAt.pub ho hod hol (Nat.le_refl _) (by omega)) (by omega)) fun v3 V3 hV3 h3 => ?_
  simp only [XA]
  refine hK _ (XWP.ret ?_)
  try simp only [thenX_ret, inBlockX_ret]
  refine ret_go _ rfl ?_
  rw [hnv] at h3
  exact h3
theorem rshort_at (V : View) (v : Value) (ds : List Nat) (d : Nat) (h : NatAt V v ds) (hd0 : 0 < d) (hd : d < BB) (hl : ds.length ≤ 8796093022208) : Spec Tryz.prog 124 [v, .int .u64 (d : Int)] V fun v' V' => ∃ r, v' = .tuple #[r, .int .u64 ((nv ds % d : Nat) : Int)] ∧ NatC V' r (nv ds / d) := by
 obtain ⟨A, c, rfl, hc, hm⟩ := h.form
 have hdi : ((d : Nat) : Int) ≠ 0 := by omega
 have hdig := h.dig
 refine (Spec.enter Tryz.func124 rfl fun Γ => ?_)
 simp only [Tryz.ntmps124, List.map_cons, List.map_nil, List.length_cons, List.length_nil, Nat.reduceAdd, Nat.reduceSub, List.replicate_succ, List.replicate_zero, List.cons_append, List.nil_append]
 refine Gx.a (by kernel_rfl) fun K hK => ?_
 simp only [XA]
 refine hK _ ?_
 refine Gx.a (by kernel_rfl) fun K hK => ?_
 simp only [XA, XB]
 refine mk_go rfl rfl elemT_47 zeroT_123 (by omega) (by omega) (by omega) (by omega) rfl (by omega) fun q hq1 hq2 => ?_
 simp only [XA, u32s_replicate]
 refine hK _ ?_
 refine Gx.a (by kernel_rfl) fun K hK => ?_
 simp only [XA]
 refine hK _ ?_
 clear hK
 refine XWP.cut (fun s => ∃ (H5 : Heap) (out : List Nat) (r : Nat), StIs (fun Z => [.v (.slice A ds.length c), .v (.int .u64 (d : Int)), Z 2,Z 3,Z 4,Z 5, .v (.slice (some ⟨q, 0, none⟩) ds.length ds.length), .v (.int .u64 ((r : Nat) : Int)), Z 8,Z 9,Z 10,Z 11,Z 12,Z 13,Z 14,Z 15,Z 16,Z 17,Z 18,Z 19,Z 20,Z 21,Z 22,Z 23,Z 24,Z 25,Z 26,Z 27,Z 28,Z 29,Z 30,Z 31,Z 32,Z 33,Z 34,Z 35,Z 36,Z 37,Z 38,Z 39,Z 40]) [] H5 V s ∧ H5 q = some ⟨123, u32s out, ds.length⟩ ∧ out.length = ds.length ∧ Dig out ∧ r < d ∧ nv out * d + r = nv ds) ?_ ?_
 ·have w0 : IntKind.i64.wrap ((ds.length : Int) - 1) = (ds.length : Int) - 1 := wrap_id (by omega) (by omega)
  refine Gx.a (by kernel_rfl) fun K hK => ?_
  simp only [XA, XB, w0]
  refine hK _ ?_
  clear hK
  refine XWP.block ?_
  refine XWP.loop (fun k s => ∃ (H5 : Heap) (out : List Nat) (r : Nat), StIs (fun Z => [.v (.slice A ds.length c), .v (.int .u64 (d : Int)), Z 2,Z 3,Z 4,Z 5, .v (.slice (some ⟨q, 0, none⟩) ds.length ds.length), .v (.int .u64 ((r : Nat) : Int)), .v (.int .i64 ((k : Int) - 1)), Z 9,Z 10,Z 11,Z 12,Z 13,Z 14,Z 15,Z 16,Z 17,Z 18,Z 19,Z 20,Z 21,Z 22,Z 23,Z 24,Z 25,Z 26,Z 27,Z 28,Z 29,Z 30,Z 31,Z 32,Z 33,Z 34,Z 35,Z 36,Z 37,Z 38,Z 39,Z 40]) [] H5 V s ∧ k ≤ ds.length ∧ H5 q = some ⟨123, u32s out, ds.length⟩ ∧ out.length = ds.length ∧ Dig out ∧ r < d ∧ nv (out.drop k) * d + r = nv (ds.drop k)) ds.length ⟨_, List.replicate ds.length 0, 0, StIs.of (by exact rfl), Nat.le_refl _, by simp only [upd_at, Nat.mul_one], by simp, Dig_replicate _, hd0, by simp [nv]⟩ ?_
  rintro k s ⟨H5, out, r, hs, hk, hH, hol, hod, hr, hnv⟩
  obtain ⟨u, rfl⟩ := hs.out
  try dsimp only
  by_cases hk0 : k = 0
  ·subst hk0
   have b2 : decide ((0 : Int) ≤ ((0 : Nat) : Int) - 1) = false := decide_eq_false (by omega)
   refine XWP.seq ?_
   refine Gx.a (by kernel_rfl) fun K hK => ?_
   simp only [XA, XB, b2]
   refine hK _ ?_
   refine Gx.f rfl ?_
   refine XWP.exit ?_
   exact ⟨H5, out, r, StIs.of (by exact rfl), hH, hol, hod, hr, hnv⟩
  ·obtain ⟨j, rfl⟩ : ∃ j, k = j + 1 := ⟨k - 1, by omega⟩
   have ej : (((j + 1 : Nat) : Int) - 1) = (j : Int) := by omega
   have b2 : decide ((0 : Int) ≤ (j : Int)) = true := decide_eq_true (by omega)
   refine XWP.seq ?_
   refine Gx.a (by kernel_rfl) fun K hK => ?_
   simp only [XA, XB, ej, b2]
   refine hK _ ?_
   refine Gx.t rfl ?_
   refine XWP.skip ?_
   refine XWP.seq ?_
   refine XWP.block ?_
   refine Gx.a (by kernel_rfl) fun K hK => ?_
   obtain ⟨q1, o1, rfl⟩ := NatAt.addr h (by omega)
   have hc1 := NatAt.cells h j (by omega)
   have hd1 := Dig_get hdig j (by omega)
   rw [getD_get] at hc1 hd1
   obtain ⟨s1, s2, s3⟩ := short_lt hd hr hd1
   have w2 := u64_add (r * BB) (ds.getD j 0) s3
   simp only [XA, XB, mul_BB _ s2]
   refine ⟨by omega, by omega, ld_mem (loads_cell shapeT_123 (hc1 _)) ?_⟩
   simp only [XA, XB, u64_of_u32 _ hd1, w2]
   refine hK _ ?_
   have e1 : (r * BB + ds.getD j 0) / d % BB = (r * BB + ds.getD j 0) / d := Nat.mod_eq_of_lt s1
   refine Gx.a (by kernel_rfl) fun K hK => ?_
   simp only [XA, XB, bin_quo _ _ _ _ hdi, u64_div _ _ s3, w32_mod, e1]
   refine ⟨by omega, by omega, ?_⟩
   refine st_row shapeT_123 rfl rfl hH (by rw [u32s_length]; omega) ?_
   simp only [XA, u32s_set]
   refine hK _ ?_
   refine Gx.c (by kernel_rfl) fun K hK => ?_
   simp only [XA, XB, bin_rem _ _ _ _ hdi, int_tmod]
   refine hK _ ?_
   refine Gx.c (by kernel_rfl) fun K hK => ?_
   have w1 : IntKind.i64.wrap ((j : Int) - 1) = (j : Int) - 1 := wrap_id (by omega) (by omega)
   simp only [XA, XB, w1]
   exact hK _ ⟨j, by omega, _, _, _, StIs.of (by exact rfl), by omega, upd_at _ _ _, by simp [hol], Dig_set hod _ s1, Nat.mod_lt _ hd0, short_step hol (by omega) hd0 hr hnv⟩
 ·rintro s ⟨H5, out, r, hs, hH, hol, hod, hr, hnv⟩
  obtain ⟨u, rfl⟩ := hs.out
  try dsimp only
  refine Gx.a (by kernel_rfl) fun K hK => ?_
  simp only [XA]
  refine call_pub q _ hH (fun o ho hle' => ?_) (by kernel_rfl) rfl
  refine call_go (by kernel_rfl) rfl (rtrim_any _ _ out (NatAt.pub ho hod hol (Nat.le_refl _) (by omega)) (by omega)) fun v3 V3 hV3 h3 => ?_
  simp only [XA]
  refine hK _ (XWP.ret ?_)
  try simp only [thenX_ret, inBlockX_ret]
  refine ret_go _ rfl ?_
  have e2 : nv ds / d = nv out := by rw [← hnv, Nat.mul_comm, Nat.mul_add_div hd0, Nat.div_eq_of_lt hr, Nat.add_zero]
  have e3 : nv ds % d = r := by rw [← hnv, Nat.mul_comm, Nat.mul_add_mod, Nat.mod_eq_of_lt hr]
  rw [e2, e3]
  exact ⟨v3, rfl, h3⟩
theorem rtimes_c (V : View) (v : Value) (b m i : Nat) (hv : NatC V v b) (fb : Fit b) (hm : m < BB) (hi : i < 4398046511104) : Spec Tryz.prog 126 [v, .int .u64 (m : Int), .int .i64 (i : Int)] V fun v' V' => NatC V' v' (b * m * BB ^ i) := by
 obtain ⟨A, c, rfl, hc, hmx⟩ := NatAt.form hv
 have lb := fb.len
 refine (Spec.enter Tryz.func126 rfl fun Γ => ?_)
 simp only [Tryz.ntmps126, List.map_cons, List.map_nil, List.length_cons, List.length_nil, Nat.reduceAdd, Nat.reduceSub, List.replicate_succ, List.replicate_zero, List.cons_append, List.nil_append]
 refine Gx.a (by kernel_rfl) fun K hK => ?_
 simp only [XA]
 refine hK _ ?_
 refine Gx.a (by kernel_rfl) fun K hK => ?_
 simp only [XA]
 refine mk_go rfl rfl elemT_47 zeroT_123 (by omega) (by omega) (by omega) (by omega) rfl (by omega) fun q hq1 hq2 => ?_
 simp only [XA, u32s_replicate]
 refine hK _ ?_
 refine Gx.a (by kernel_rfl) fun K hK => ?_
 simp only [XA]
 refine hK _ ?_
 clear hK
 refine XWP.cut (fun s => ∃ (w : Value) (H5 : Heap) (out : List Nat) (cc : Nat), StIs (fun Z => [.v (.slice A (dg b).length c), .v (.int .u64 (m : Int)), Z 2,Z 3,Z 4,Z 5,Z 6, .v w, .v (.int .u64 (cc : Int)), Z 9,Z 10,Z 11,Z 12,Z 13,Z 14,Z 15,Z 16,Z 17,Z 18,Z 19,Z 20,Z 21,Z 22,Z 23,Z 24,Z 25,Z 26,Z 27,Z 28,Z 29,Z 30,Z 31,Z 32,Z 33,Z 34,Z 35,Z 36,Z 37,Z 38,Z 39,Z 40,Z 41]) [] H5 V s ∧ out.length = i + (dg b).length ∧ Dig out ∧ cc < BB ∧ Own H5 123 1 w (i + (dg b).length) (u32s out) ∧ nv out + BB ^ (i + (dg b).length) * cc = BB ^ i * (b * m)) ?_ ?_
 ·refine Gx.a (by kernel_rfl) fun K hK => ?_
  simp only [XA]
  refine hK _ ?_
  clear hK
  refine XWP.block ?_
  refine XWP.loop (fun n s => ∃ (k : Nat) (w : Value) (H5 : Heap) (out : List Nat) (cc : Nat), StIs (fun Z => [.v (.slice A (dg b).length c), .v (.int .u64 (m : Int)), Z 2,Z 3,Z 4,Z 5,Z 6, .v w, .v (.int .u64 (cc : Int)), .v (.int .i64 (k : Int)), Z 10,Z 11,Z 12,Z 13,Z 14,Z 15,Z 16,Z 17,Z 18,Z 19,Z 20,Z 21,Z 22,Z 23,Z 24,Z 25,Z 26,Z 27,Z 28,Z 29,Z 30,Z 31,Z 32,Z 33,Z 34,Z 35,Z 36,Z 37,Z 38,Z 39,Z 40,Z 41]) [] H5 V s ∧ n + k = (dg b).length ∧ out.length = i + k ∧ Dig out ∧ cc < BB ∧ Own H5 123 1 w (i + k) (u32s out) ∧ nv out + BB ^ (i + k) * cc = BB ^ i * (nv ((dg b).take k) * m)) (dg b).length ⟨0, _, _, List.replicate i 0, 0, StIs.of (by exact rfl), rfl, by simp, Dig_replicate _, BB_pos, own_u32 (by rw [upd_at]; simp) (by simp [u32s]) (by simp) (by omega), by simp [nv, nv_replicate]⟩ ?_
  rintro n s ⟨k, w, H5, out, cc, hs, hn, hol, hod, hcc, hown, hnv⟩
  obtain ⟨u, rfl⟩ := hs.out
  try dsimp only
  by_cases hk : k < (dg b).length
  ·have b1 : decide ((k : Int) < ((dg b).length : Int)) = true := decide_eq_true (by omega)
   refine XWP.seq ?_
   refine Gx.a (by kernel_rfl) fun K hK => ?_
   simp only [XA, XB, b1]
   refine hK _ ?_
   refine Gx.t rfl ?_
   refine XWP.skip ?_
   refine XWP.seq ?_
   refine XWP.block ?_
   refine Gx.a (by kernel_rfl) fun K hK => ?_
   obtain ⟨q1, o1, rfl⟩ := NatAt.addr hv (by omega)
   have hc1 := NatAt.cells hv k hk
   have hd1 := Dig_get (Dig_dg b) k hk
   rw [getD_get] at hc1 hd1
   obtain ⟨m1, m2, m3⟩ := times_carry hd1 hm hcc
   have w2 := u64_add ((dg b).getD k 0 * m) cc m1
   simp only [XA, XB]
   refine ⟨by omega, by omega, ld_mem (loads_cell shapeT_123 (hc1 _)) ?_⟩
   simp only [XA, XB, u64_of_u32 _ hd1, u64_mul _ _ m3, w2]
   refine hK _ ?_
   have hst := times_step (ds := dg b) (m := m) hol hnv
   have hgd : gd (dg b) k = (dg b).getD k 0 := rfl
   rw [hgd] at hst
   generalize (dg b).getD k 0 * m + cc = c2 at *
   refine Gx.a (by kernel_rfl) fun K hK => ?_
   simp only [XA, XB, bin_rem _ _ _ _ BB_ne, rem_BB, w32_mod, Nat.mod_mod]
   refine bs_go (by kernel_rfl) #[(0, .int .u32 ((c2 % BB : Nat) : Int))] (by simp [ev_tmp, SV.val]) (bs_one elemT_47 zeroT_123 rfl) fun q3 hq3 hq4 => ?_
   simp only [XA]
   refine ap_go elemT_47 (by kernel_rfl) zeroT_123 rfl (by omega) (own_upd hown hq3) (src_row (ds := [c2 % BB]) (by simp [upd, u32s]; exact ⟨rfl, rfl⟩) rfl) (by omega) (by omega) fun v' H' hres => ?_
   simp only [XA]
   refine hK _ ?_
   refine Gx.c (by kernel_rfl) fun K hK => ?_
   simp only [XA, XB, bin_quo _ _ _ _ BB_ne, quo_BB _ m1]
   refine hK _ ?_
   refine Gx.c (by kernel_rfl) fun K hK => ?_
   simp only [XA, XB, i64_succ k (by omega)]
   refine hK _ ⟨n - 1, by omega, k + 1, _, _, out ++ [c2 % BB], c2 / BB, StIs.of (by exact rfl), by omega, by simp [hol]; omega, Dig_append hod (Dig_one (Nat.mod_lt _ BB_pos)), m2, ?_, hst⟩
   rw [u32s_append]; exact hres.1
  ·have b1 : decide ((k : Int) < ((dg b).length : Int)) = false := decide_eq_false (by omega)
   obtain rfl : k = (dg b).length := by omega
   refine XWP.seq ?_
   refine Gx.a (by kernel_rfl) fun K hK => ?_
   simp only [XA, XB, b1]
   refine hK _ ?_
   refine Gx.f rfl ?_
   refine XWP.exit ?_
   refine ⟨w, H5, out, cc, StIs.of (by exact rfl), hol, hod, hcc, hown, ?_⟩
   rw [hnv, List.take_length, nv_dg]
 ·rintro s ⟨w, H5, out, cc, hs, hol, hod, hcc, hown, hnv⟩
  obtain ⟨u, rfl⟩ := hs.out
  try dsimp only
  have e1 : cc % BB = cc := Nat.mod_eq_of_lt hcc
  refine Gx.a (by kernel_rfl) fun K hK => ?_
  simp only [XA, XB, w32_mod, e1]
  refine bs_go (by kernel_rfl) #[(0, .int .u32 ((cc : Nat) : Int))] (by simp [ev_tmp, SV.val]) (bs_one elemT_47 zeroT_123 rfl) fun q3 hq3 hq4 => ?_
  simp only [XA]
  refine ap_go elemT_47 (by kernel_rfl) zeroT_123 rfl (by omega) (own_upd hown hq3) (src_row (ds := [cc]) (by simp [upd, u32s]; exact ⟨rfl, rfl⟩) rfl) (by omega) (by omega) fun v' H' hres => ?_
  simp only [XA]
  obtain ⟨hown', _, _⟩ := hres
  rw [← u32s_append] at hown'
  obtain ⟨g, cap, rfl, hg, hle, hcap, hlen⟩ := own_row hown' (by omega)
  have hod' := Dig_append hod (Dig_one hcc)
  have hnv' : nv (out ++ [cc]) = b * m * BB ^ i := by rw [nv_snoc, hol, hnv, Nat.mul_comm]
  refine call_pub g _ hg (fun o ho hle' => ?_) (by kernel_rfl) rfl
  refine call_go (by kernel_rfl) rfl (rtrim_any _ _ (out ++ [cc]) (NatAt.pub ho hod' hlen hle (by omega)) (by rw [hlen]; omega)) fun v3 V3 hV3 h3 => ?_
  simp only [XA]
  refine hK _ (XWP.ret ?_)
  try simp only [thenX_ret, inBlockX_ret]
  refine ret_go _ rfl ?_
  rw [hnv'] at h3
  exact h3
theorem rhalf_c (V : View) (v : Value) (a : Nat) (hv : NatC V v a) (fa : Fit a) : Spec Tryz.prog 121 [v] V fun v' V' => NatC V' v' (a / 2) := by
 have la := fa.len
 refine (Spec.enter Tryz.func121 rfl fun Γ => ?_)
 simp only [Tryz.ntmps121, List.map_cons, List.map_nil, List.length_cons, List.length_nil, Nat.reduceAdd, Nat.reduceSub, List.replicate_succ, List.replicate_zero, List.cons_append, List.nil_append]
 refine Gx.a (by kernel_rfl) fun K hK => ?_
 simp only [XA]
 refine hK _ ?_
 refine Gx.a (by kernel_rfl) fun K hK => ?_
 simp only [XA]
 refine call_go (by kernel_rfl) rfl (rtrim_c _ _ _ hv fa) fun v1 V1 hV1 h1 => ?_
 simp only [XA]
 refine call_go (by kernel_rfl) rfl (rshort_at _ _ _ 2 h1 (by omega) (by unfold BB; omega) (by omega)) fun v2 V2 hV2 h2 => ?_
 obtain ⟨r, rfl, hr⟩ := h2
 rw [nv_dg] at hr
 simp only [XA]
 refine hK _ ?_
 refine Gx.a (by kernel_rfl) fun K hK => ?_
 simp only [XA]
 refine hK _ (XWP.ret ?_)
 try simp only [thenX_ret, inBlockX_ret]
 refine ret_go _ rfl ?_
 exact hr
theorem reven_c (V : View) (v : Value) (a : Nat) (hv : NatC V v a) : Spec Tryz.prog 120 [v] V fun v' V' => v' = .bool (decide (a % 2 = 0)) := by
 refine (Spec.enter Tryz.func120 rfl fun Γ => ?_)
 simp only [Tryz.ntmps120, List.map_cons, List.map_nil, List.length_cons, List.length_nil, Nat.reduceAdd, Nat.reduceSub, List.replicate_succ, List.replicate_zero, List.cons_append, List.nil_append]
 refine Gx.a (by kernel_rfl) fun K hK => ?_
 simp only [XA]
 refine hK _ ?_
 refine Gx.a (by kernel_rfl) fun K hK => ?_
 simp only [XA]
 refine call_go (by kernel_rfl) rfl (rat_c _ _ _ 0 hv (by omega)) fun v1 V1 hV1 h1 => ?_
 subst h1
 have e : ((2 : Nat) : Int) ≠ 0 := by omega
 have e2 : (2 : Int) = ((2 : Nat) : Int) := rfl
 rw [show Value.int IntKind.u64 2 = Value.int IntKind.u64 ((2 : Nat) : Int) from rfl]
 simp only [XA, XB, bin_rem _ _ _ _ e, int_tmod]
 refine hK _ (XWP.ret ?_)
 try simp only [thenX_ret, inBlockX_ret]
 refine ret_go _ rfl ?_
 have : a % 2 = gd (dg a) 0 % 2 := by
  conv => lhs; rw [← nv_dg a]
  cases dg a with
  | nil => rfl
  | cons d r => simp only [nv, gd, List.getD_cons_zero]; unfold BB; omega
 rw [this]
 show Value.bool _ = _
 congr 1
 rw [decide_eq_decide]; omega
theorem rbits_c (V : View) (v : Value) (a : Nat) (hv : NatC V v a) (fa : Fit a) : Spec Tryz.prog 88 [v] V fun v' V' => ∃ r : Nat, v' = .int .i64 (r : Int) ∧ (r = 0 ↔ a = 0) := by
 refine (Spec.enter Tryz.func88 rfl fun Γ => ?_)
 simp only [Tryz.ntmps88, List.map_cons, List.map_nil, List.length_cons, List.length_nil, Nat.reduceAdd, Nat.reduceSub, List.replicate_succ, List.replicate_zero, List.cons_append, List.nil_append]
 refine Gx.a (by kernel_rfl) fun K hK => ?_
 simp only [XA]
 refine hK _ ?_
 refine Gx.a (by kernel_rfl) fun K hK => ?_
 simp only [XA]
 refine call_go (by kernel_rfl) rfl (rtrim_c _ _ _ hv fa) fun v1 V1 hV1 h1 => ?_
 obtain ⟨A, c, rfl, hc, hm⟩ := NatAt.form h1
 have la := fa.len
 simp only [XA]
 refine hK _ ?_
 by_cases h0 : a = 0
 ·subst h0
  have b1 : decide (((dg 0).length : Int) = 0) = true := by rw [dg_zero]; rfl
  refine XWP.seq ?_
  refine Gx.a (by kernel_rfl) fun K hK => ?_
  simp only [XA, XB, b1]
  refine hK _ ?_
  refine Gx.t rfl ?_
  refine Gx.a (by kernel_rfl) fun K hK => ?_
  simp only [XA]
  refine hK _ (XWP.ret ?_)
  try simp only [thenX_ret, inBlockX_ret]
  refine ret_go _ rfl ?_
  exact ⟨0, rfl, by simp⟩
 ·have hp := sz_pos h0
  unfold sz at hp
  have b1 : decide (((dg a).length : Int) = 0) = false := decide_eq_false (by omega)
  refine XWP.seq ?_
  refine Gx.a (by kernel_rfl) fun K hK => ?_
  simp only [XA, XB, b1]
  refine hK _ ?_
  refine Gx.f rfl ?_
  refine XWP.skip ?_
  have w0 := i64_pred (dg a).length (by omega) (by omega)
  have w1 : IntKind.i64.wrap (32 * (((dg a).length - 1 : Nat) : Int)) = ((32 * ((dg a).length - 1) : Nat) : Int) := by rw [wrap_id (by omega) (by omega)]; omega
  refine Gx.a (by kernel_rfl) fun K hK => ?_
  simp only [XA, XB, w0, w1]
  refine hK _ ?_
  clear hK
  refine XWP.cut (fun s => ∃ r : Nat, StIs (fun Z => [Z 0,Z 1,Z 2, .v (.int .i64 (r : Int)), Z 4,Z 5,Z 6,Z 7,Z 8,Z 9,Z 10,Z 11,Z 12,Z 13,Z 14,Z 15,Z 16,Z 17,Z 18,Z 19,Z 20,Z 21,Z 22,Z 23,Z 24,Z 25,Z 26]) [] (fun _ => none) V1 s ∧ r ≠ 0) ?_ ?_
  ·refine Gx.a (by kernel_rfl) fun K hK => ?_
   obtain ⟨q1, o1, rfl⟩ := NatAt.addr h1 (by omega)
   have hc1 := NatAt.cells h1 ((dg a).length - 1) (by omega)
   have hd1 := Dig_get (Dig_dg a) ((dg a).length - 1) (by omega)
   have hpos := gd_last h0
   unfold sz at hpos
   rw [getD_get] at hc1 hd1
   simp only [XA, XB, w0]
   refine ⟨by omega, by omega, ld_mem (loads_cell shapeT_123 (hc1 _)) ?_⟩
   simp only [XA]
   refine hK _ ?_
   clear hK
   have hpos' : 0 < (dg a).getD ((dg a).length - 1) 0 := hpos
   generalize (dg a).getD ((dg a).length - 1) 0 = x0 at *
   generalize hN : 32 * ((dg a).length - 1) = N0 at *
   refine XWP.block ?_
   refine XWP.loop (fun n s => ∃ r : Nat, StIs (fun Z => [Z 0,Z 1,Z 2, .v (.int .i64 (r : Int)), .v (.int .u32 (n : Int)), Z 5,Z 6,Z 7,Z 8,Z 9,Z 10,Z 11,Z 12,Z 13,Z 14,Z 15,Z 16,Z 17,Z 18,Z 19,Z 20,Z 21,Z 22,Z 23,Z 24,Z 25,Z 26]) [] (fun _ => none) V1 s ∧ n ≤ x0 ∧ r + n ≤ N0 + x0 ∧ (n = x0 ∨ r ≠ 0)) x0 ⟨N0, StIs.of (by exact rfl), Nat.le_refl _, Nat.le_refl _, .inl rfl⟩ ?_
   rintro n s ⟨r, hs, hnx, hr, hor⟩
   obtain ⟨u, rfl⟩ := hs.out
   try dsimp only
   unfold BB at hd1
   by_cases hn : n = 0
   ·subst hn
    have b2 : decide ((0 : Int) < ((0 : Nat) : Int)) = false := decide_eq_false (by omega)
    refine XWP.seq ?_
    refine Gx.a (by kernel_rfl) fun K hK => ?_
    simp only [XA, XB, b2]
    refine hK _ ?_
    refine Gx.f rfl ?_
    refine XWP.exit ?_
    exact ⟨r, StIs.of (by exact rfl), by omega⟩
   ·have b2 : decide ((0 : Int) < (n : Int)) = true := decide_eq_true (by omega)
    refine XWP.seq ?_
    refine Gx.a (by kernel_rfl) fun K hK => ?_
    simp only [XA, XB, b2]
    refine hK _ ?_
    refine Gx.t rfl ?_
    refine XWP.skip ?_
    refine XWP.seq ?_
    refine XWP.block ?_
    refine Gx.c (by kernel_rfl) fun K hK => ?_
    simp only [XA, XB, i64_succ r (by omega)]
    refine hK _ ?_
    have e : ((2 : Nat) : Int) ≠ 0 := by omega
    have w3 : IntKind.u32.wrap (Int.tdiv (n : Int) 2) = ((n / 2 : Nat) : Int) := by
     have : Int.tdiv (n : Int) 2 = ((n / 2 : Nat) : Int) := (Int.ofNat_tdiv n 2).symm
     rw [this, w32_mod, Nat.mod_eq_of_lt (by unfold BB; omega)]
    have e3 : (2 : Int) ≠ 0 := by omega
    refine Gx.c (by kernel_rfl) fun K hK => ?_
    simp only [XA, XB, bin_quo _ _ _ _ e3, w3]
    exact hK _ ⟨n / 2, by omega, r + 1, StIs.of (by exact rfl), by omega, by omega, .inr (by omega)⟩
  ·rintro s ⟨r, hs, hr⟩
   obtain ⟨u, rfl⟩ := hs.out
   try dsimp only
   refine Gx.a (by kernel_rfl) fun K hK => ?_
   simp only [XA]
   refine hK _ (XWP.ret ?_)
   try simp only [thenX_ret, inBlockX_ret]
   refine ret_go _ rfl ?_
   exact ⟨r, rfl, by simp [hr, h0]⟩
theorem rguess_c (V : View) (v u : Value) (a b i : Nat) (hv : NatC V v a) (hu : NatC V u b) (fa : Fit a) (fb : Fit b) (hb : 1 ≤ sz b) (hi : i < 4398046511104) (ha : a < b * BB ^ (i + 1)) : Spec Tryz.prog 125 [v, u, .int .i64 (i : Int)] V fun v' V' => ∃ lo hi : Nat, v' = .tuple #[.int .u64 (lo : Int), .int .u64 (hi : Int)] ∧ lo ≤ a / (b * BB ^ i) ∧ a / (b * BB ^ i) ≤ hi ∧ hi < BB := by
 obtain ⟨A, c, rfl, hc, hm⟩ := NatAt.form hv
 obtain ⟨A', c', rfl, hc', hm'⟩ := NatAt.form hu
 have la := fa.len
 have lb := fb.len
 obtain ⟨n, hn⟩ : ∃ n, (dg b).length = n + 1 := ⟨(dg b).length - 1, by unfold sz at hb; omega⟩
 refine (Spec.enter Tryz.func125 rfl fun Γ => ?_)
 simp only [Tryz.ntmps125, List.map_cons, List.map_nil, List.length_cons, List.length_nil, Nat.reduceAdd, Nat.reduceSub, List.replicate_succ, List.replicate_zero, List.cons_append, List.nil_append]
 refine Gx.a (by kernel_rfl) fun K hK => ?_
 simp only [XA]
 refine hK _ ?_
 refine Gx.a (by kernel_rfl) fun K hK => ?_
 simp only [XA, XB]
 refine hK _ ?_
 (refine XWP.drw [0, 1, 2, 3, 6, 7, 8, 9, 10, 13, 14, 15, 16, 17, 18, 4, 5, 11, 12, 19, 20] (by kernel_rfl) (by kernel_rfl) (by kernel_rfl) fun K hK => ?_) <;> dsimp only [pickOps, List.getElem?_cons_zero, List.getElem?_cons_succ]
 obtain ⟨q1, o1, rfl⟩ := NatAt.addr hu (by omega)
 have hc1 := NatAt.cells hu n (by omega)
 have hd1 := Dig_get (Dig_dg b) n (by omega)
 rw [getD_get] at hc1 hd1
 have w1 : IntKind.i64.wrap ((i : Int) + ((dg b).length : Int)) = ((i + (n + 1) : Nat) : Int) := by rw [hn, i64_add _ _ (by omega)]
 have w2 : IntKind.i64.wrap (((i + (n + 1) : Nat) : Int) - 1) = ((i + n : Nat) : Int) := by rw [i64_pred _ (by omega) (by omega)]; rfl
 have w3 : IntKind.i64.wrap (((dg b).length : Int) - 1) = (n : Int) := by rw [hn, i64_pred _ (by omega) (by omega)]; rfl
 simp only [XA, XB, w1, w2, w3]
 refine ⟨by omega, by omega, ld_mem (loads_cell shapeT_123 (hc1 _)) ?_⟩
 simp only [XA, XB, u64_of_u32 _ hd1]
 refine call_go (by kernel_rfl) rfl (rat_c _ _ _ (i + (n + 1)) hv (by omega)) fun v1 V1 hV1 h1 => ?_
 subst h1
 have g1 := gd_lt (Dig_dg a) (i + (n + 1))
 have g2 := gd_lt (Dig_dg a) (i + n)
 simp only [XA, XB, Int.reduceToNat, Int.reduceLE, shl32 _ g1]
 refine call_go (by kernel_rfl) rfl (rat_c _ _ _ (i + n) (NatAt.mono hv hV1) (by omega)) fun v2 V2 hV2 h2 => ?_
 subst h2
 simp only [XA, XB, or_add _ _ g1 g2]
 refine hK _ ?_
 have hfit := sz_le (hdiv_fits ha)
 unfold sz at hfit
 have t1 := top_two (Dig_dg a) (k := i + n) (by omega)
 have t2 := top_one (Dig_dg b) (k := n) (by omega)
 have hld := gd_last (n := b) (by intro e; subst e; rw [dg_zero] at hn; simp at hn)
 have e0 : sz b - 1 = n := by unfold sz; omega
 rw [e0] at hld
 rw [nv_dg] at t1 t2
 have gb := guess_bounds t2.1 t2.2 hld t1.1 t1.2 rfl
 have hqB := hdiv_lt ha
 have hfB : gd (dg a) (i + n + 1) * BB + gd (dg a) (i + n) < 18446744073709551616 := by
  have : gd (dg a) (i + n + 1) < BB := g1
  unfold BB at *; omega
 have hlB : (dg b).getD n 0 < BB := hd1
 have e1 : gd (dg a) (i + (n + 1)) * BB + gd (dg a) (i + n) = gd (dg a) (i + n + 1) * BB + gd (dg a) (i + n) := rfl
 have e2 : (dg b).getD n 0 = gd (dg b) n := rfl
 rw [e1, e2]
 rw [e2] at hlB
 generalize gd (dg a) (i + n + 1) * BB + gd (dg a) (i + n) = first at *
 generalize gd (dg b) n = lead at *
 generalize a / (b * BB ^ i) = q at *
 have hl0 : (lead : Int) ≠ 0 := by omega
 refine Gx.a (by kernel_rfl) fun K hK => ?_
 simp only [XA]
 refine hK _ ?_
 clear hK
 refine XWP.cut (fun s => ∃ H : Nat, StIs (fun Z => [Z 0,Z 1,Z 2,Z 3,Z 4,Z 5,Z 6,Z 7,Z 8, .v (.int .u64 (first : Int)), .v (.int .u64 (lead : Int)), .v (.int .u64 0), .v (.int .u64 (H : Int)), Z 13,Z 14,Z 15,Z 16,Z 17,Z 18,Z 19,Z 20,Z 21,Z 22,Z 23,Z 24,Z 25,Z 26,Z 27,Z 28,Z 29,Z 30,Z 31,Z 32,Z 33,Z 34,Z 35,Z 36,Z 37,Z 38,Z 39,Z 40,Z 41,Z 42,Z 43,Z 44,Z 45,Z 46,Z 47,Z 48,Z 49,Z 50,Z 51,Z 52,Z 53,Z 54,Z 55,Z 56,Z 57,Z 58,Z 59,Z 60,Z 61]) [] (fun _ => none) V2 s ∧ q ≤ H ∧ H < BB) ?_ ?_
 ·refine Gx.a (by kernel_rfl) fun K hK => ?_
  by_cases h : first / lead < 4294967295
  ·have b1 : decide (((first / lead : Nat) : Int) < 4294967295) = true := decide_eq_true (by omega)
   simp only [XA, XB, bin_quo _ _ _ _ hl0, u64_div _ _ hfB, b1]
   refine hK _ ?_
   refine Gx.t rfl ?_
   refine Gx.c (by kernel_rfl) fun K hK => ?_
   simp only [XA, XB, bin_quo _ _ _ _ hl0, u64_div _ _ hfB]
   exact hK _ ⟨first / lead, StIs.of (by exact rfl), gb.1, by unfold BB; omega⟩
  ·have b1 : decide (((first / lead : Nat) : Int) < 4294967295) = false := decide_eq_false (by omega)
   simp only [XA, XB, bin_quo _ _ _ _ hl0, u64_div _ _ hfB, b1]
   refine hK _ ?_
   refine Gx.f rfl ?_
   refine XWP.skip ?_
   exact ⟨4294967295, StIs.of (by exact rfl), by unfold BB at hqB; omega, by unfold BB; omega⟩
 rintro s ⟨H, hs, hqH, hHB⟩
 obtain ⟨z, rfl⟩ := hs.out
 try dsimp only
 refine XWP.cut (fun s => ∃ L : Nat, StIs (fun Z => [Z 0,Z 1,Z 2,Z 3,Z 4,Z 5,Z 6,Z 7,Z 8,Z 9,Z 10, .v (.int .u64 (L : Int)), .v (.int .u64 (H : Int)), Z 13,Z 14,Z 15,Z 16,Z 17,Z 18,Z 19,Z 20,Z 21,Z 22,Z 23,Z 24,Z 25,Z 26,Z 27,Z 28,Z 29,Z 30,Z 31,Z 32,Z 33,Z 34,Z 35,Z 36,Z 37,Z 38,Z 39,Z 40,Z 41,Z 42,Z 43,Z 44,Z 45,Z 46,Z 47,Z 48,Z 49,Z 50,Z 51,Z 52,Z 53,Z 54,Z 55,Z 56,Z 57,Z 58,Z 59,Z 60,Z 61]) [] (fun _ => none) V2 s ∧ L ≤ q) ?_ ?_
 ·refine Gx.a (by kernel_rfl) fun K hK => ?_
  have w4 := u64_add lead 1 (by unfold BB at hlB; omega)
  have w4 : IntKind.u64.wrap ((lead : Int) + 1) = ((lead + 1 : Nat) : Int) := w4
  have hl1 : ((lead + 1 : Nat) : Int) ≠ 0 := by omega
  by_cases h : lead + 1 < 4294967296
  ·have b1 : decide (((lead + 1 : Nat) : Int) < 4294967296) = true := decide_eq_true (by omega)
   by_cases h' : first / (lead + 1) < 4294967296
   ·have b2 : decide (((first / (lead + 1) : Nat) : Int) < 4294967296) = true := decide_eq_true (by omega)
    simp only [XA, XB, gateX, ↓reduceIte, beq_self_eq_true, w4, b1, bin_quo _ _ _ _ hl1, u64_div _ _ hfB, b2]
    refine hK _ ?_
    refine Gx.t rfl ?_
    refine Gx.c (by kernel_rfl) fun K hK => ?_
    simp only [XA, XB, w4, bin_quo _ _ _ _ hl1, u64_div _ _ hfB]
    exact hK _ ⟨first / (lead + 1), StIs.of (by exact rfl), gb.2⟩
   ·have b2 : decide (((first / (lead + 1) : Nat) : Int) < 4294967296) = false := decide_eq_false (by omega)
    simp only [XA, XB, gateX, ↓reduceIte, beq_self_eq_true, w4, b1, bin_quo _ _ _ _ hl1, u64_div _ _ hfB, b2]
    refine hK _ ?_
    refine Gx.f rfl ?_
    refine XWP.skip ?_
    exact ⟨0, StIs.of (by exact rfl), by omega⟩
  ·have b1 : decide (((lead + 1 : Nat) : Int) < 4294967296) = false := decide_eq_false (by omega)
   simp only [XA, XB, gateX, ↓reduceIte, w4, b1]
   refine hK _ ?_
   refine Gx.f rfl ?_
   refine XWP.skip ?_
   exact ⟨0, StIs.of (by exact rfl), by omega⟩
 rintro s ⟨L, hs, hL⟩
 obtain ⟨z, rfl⟩ := hs.out
 try dsimp only
 have b1 : decide ((H : Int) < (L : Int)) = false := decide_eq_false (by omega)
 refine XWP.seq ?_
 refine Gx.a (by kernel_rfl) fun K hK => ?_
 simp only [XA, XB, b1]
 refine hK _ ?_
 refine Gx.f rfl ?_
 refine XWP.skip ?_
 refine Gx.a (by kernel_rfl) fun K hK => ?_
 simp only [XA]
 refine hK _ (XWP.ret ?_)
 try simp only [thenX_ret, inBlockX_ret]
 refine ret_go _ rfl ?_
 exact ⟨L, H, rfl, hL, hqH, hHB⟩
def Fit1 (n : Nat) : Prop := sz n ≤ 4398046511103
theorem Fit1.fit {n : Nat} (h : Fit1 n) : Fit n := Nat.le_trans h (by omega)
theorem cmp_leq (a b : Nat) : decide (cmpI a b ≤ 0) = decide (a ≤ b) := by
 rw [decide_eq_decide]
 unfold cmpI
 split
 ·omega
 ·split <;> omega
theorem mid_le {x b i mid : Nat} (hb : b ≠ 0) : b * mid * BB ^ i ≤ x ↔ mid ≤ x / (b * BB ^ i) := by
 rw [Nat.le_div_iff_mul_le (Nat.mul_pos (Nat.pos_of_ne_zero hb) (pow_pos' i)), Nat.mul_comm b mid, Nat.mul_assoc]
theorem rdiv_c (V : View) (v u : Value) (a b : Nat) (hv : NatC V v a) (hu : NatC V u b) (fa1 : Fit1 a) (fb : Fit b) : Spec Tryz.prog 89 [v, u] V fun v' V' => (b = 0 → v' = .tuple #[.slice none 0 0, .slice none 0 0, .int .i64 31]) ∧ (b ≠ 0 → ∃ q r, v' = .tuple #[q, r, .int .i64 0] ∧ NatC V' q (a / b) ∧ NatC V' r (a % b)) := by
 obtain ⟨A0, c0, rfl, hc0, hm0⟩ := NatAt.form hv
 obtain ⟨A1, c1, rfl, hc1, hm1⟩ := NatAt.form hu
 have fa := fa1.fit
 refine (Spec.enter Tryz.func89 rfl fun Γ => ?_)
 simp only [Tryz.ntmps89, List.map_cons, List.map_nil, List.length_cons, List.length_nil, Nat.reduceAdd, Nat.reduceSub, List.replicate_succ, List.replicate_zero, List.cons_append, List.nil_append]
 refine Gx.a (by kernel_rfl) fun K hK => ?_
 simp only [XA]
 refine hK _ ?_
 refine Gx.a (by kernel_rfl) fun K hK => ?_
 simp only [XA]
 refine call_go (by kernel_rfl) rfl (rtrim_c _ _ _ hv fa) fun v1 V1 hV1 h1 => ?_
 obtain ⟨A, c, rfl, hc, hm⟩ := NatAt.form h1
 simp only [XA]
 refine call_go (by kernel_rfl) rfl (rtrim_c _ _ _ (hu.mono hV1) fb) fun v2 V2 hV2 h2 => ?_
 obtain ⟨A', c', rfl, hc', hm'⟩ := NatAt.form h2
 have h1 := h1.mono hV2
 have la := fa.len
 have lb := fb.len
 simp only [XA]
 refine hK _ ?_
 clear hv hu hc0 hc1 hm0 hm1
 refine XWP.seq ?_
 by_cases hb : b = 0
 ·subst hb
  have b1 : decide (((dg 0).length : Int) = 0) = true := by rw [dg_zero]; rfl
  refine Gx.a (by kernel_rfl) fun K hK => ?_
  simp only [XA, XB, b1]
  refine hK _ ?_
  refine Gx.t rfl ?_
  refine Gx.a (by kernel_rfl) fun K hK => ?_
  simp only [XA]
  refine hK _ (XWP.ret ?_)
  try simp only [thenX_ret, inBlockX_ret]
  refine ret_go _ rfl ?_
  exact ⟨fun _ => rfl, fun h => absurd rfl h⟩
 have hbp := sz_pos hb
 unfold sz at hbp
 have b1 : decide (((dg b).length : Int) = 0) = false := decide_eq_false (by omega)
 refine Gx.a (by kernel_rfl) fun K hK => ?_
 simp only [XA, XB, b1]
 refine hK _ ?_
 refine Gx.f rfl ?_
 refine XWP.skip ?_
 refine XWP.seq ?_
 by_cases hb1 : (dg b).length = 1
 ·have b2 : decide (((dg b).length : Int) = 1) = true := decide_eq_true (by omega)
  refine Gx.a (by kernel_rfl) fun K hK => ?_
  simp only [XA, XB, b2]
  refine hK _ ?_
  refine Gx.t rfl ?_
  refine Gx.a (by kernel_rfl) fun K hK => ?_
  obtain ⟨q1, o1, rfl⟩ := NatAt.addr h2 (by omega)
  have hc1 := NatAt.cells h2 0 (by omega)
  have hd1 := Dig_get (Dig_dg b) 0 (by omega)
  rw [getD_get] at hc1 hd1
  have e0 := small_one hb1
  rw [e0] at hc1 hd1
  simp only [XA, XB, Int.reduceLE]
  refine ⟨by omega, ld_mem (loads_cell shapeT_123 (hc1 _)) ?_⟩
  simp only [XA, XB, u64_of_u32 _ hd1]
  refine call_go (by kernel_rfl) rfl (rshort_at _ _ _ b h1 (by omega) hd1 (by omega)) fun v3 V3 hV3 h3 => ?_
  obtain ⟨r, rfl, hr⟩ := h3
  rw [nv_dg] at hr
  simp only [XA]
  refine hK _ ?_
  refine Gx.a (by kernel_rfl) fun K hK => ?_
  simp only [XA]
  rw [nv_dg]
  have hlt := Nat.mod_lt a (Nat.pos_of_ne_zero hb)
  refine call_go (by kernel_rfl) rfl (rof_c _ (a % b) (by unfold BB at hd1; omega)) fun v4 V4 hV4 h4 => ?_
  simp only [XA]
  refine hK _ (XWP.ret ?_)
  try simp only [thenX_ret, inBlockX_ret]
  refine ret_go _ rfl ?_
  exact ⟨fun h => absurd h hb, fun _ => ⟨_, _, rfl, hr.mono hV4, h4⟩⟩
 have b2 : decide (((dg b).length : Int) = 1) = false := decide_eq_false (by omega)
 refine Gx.a (by kernel_rfl) fun K hK => ?_
 simp only [XA, XB, b2]
 refine hK _ ?_
 refine Gx.f rfl ?_
 refine XWP.skip ?_
 refine XWP.seq ?_
 by_cases hlt : (dg a).length < (dg b).length
 ·have b3 : decide (((dg a).length : Int) < ((dg b).length : Int)) = true := decide_eq_true (by omega)
  refine Gx.a (by kernel_rfl) fun K hK => ?_
  simp only [XA, XB, b3]
  refine hK _ ?_
  refine Gx.t rfl ?_
  refine Gx.a (by kernel_rfl) fun K hK => ?_
  simp only [XA]
  refine hK _ (XWP.ret ?_)
  try simp only [thenX_ret, inBlockX_ret]
  refine ret_go _ rfl ?_
  have hab : a < b := lt_of_sz_lt hlt
  refine ⟨fun h => absurd h hb, fun _ => ⟨_, _, rfl, ?_, ?_⟩⟩
  ·rw [Nat.div_eq_of_lt hab]; exact NatC.zero _
  ·rw [Nat.mod_eq_of_lt hab]; exact h1
 have b3 : decide (((dg a).length : Int) < ((dg b).length : Int)) = false := decide_eq_false (by omega)
 refine Gx.a (by kernel_rfl) fun K hK => ?_
 simp only [XA, XB, b3]
 refine hK _ ?_
 refine Gx.f rfl ?_
 refine XWP.skip ?_
 refine Gx.a (by kernel_rfl) fun K hK => ?_
 simp only [XA, XB]
 refine mk_go rfl rfl elemT_47 zeroT_123 (by omega) (by omega) (by omega) (by omega) rfl (by omega) fun q hq1 hq2 => ?_
 simp only [XA, u32s_replicate]
 refine hK _ ?_
 clear hK
 have hfirst := hdiv_first hb (a := a) (by unfold sz; omega)
 unfold sz at hfirst
 refine XWP.cut (fun s => ∃ (V3 : View) (H5 : Heap) (out : List Nat) (w : Value), StIs (fun Z => [.v w, .v (.slice A' (dg b).length c'), Z 2,Z 3,Z 4,Z 5,Z 6,Z 7,Z 8, .v (.slice (some ⟨q, 0, none⟩) (dg a).length (dg a).length), Z 10,Z 11,Z 12,Z 13,Z 14,Z 15,Z 16,Z 17,Z 18,Z 19,Z 20,Z 21,Z 22,Z 23,Z 24,Z 25,Z 26,Z 27,Z 28,Z 29,Z 30,Z 31,Z 32,Z 33,Z 34,Z 35,Z 36,Z 37,Z 38,Z 39,Z 40,Z 41,Z 42,Z 43,Z 44,Z 45,Z 46,Z 47,Z 48,Z 49,Z 50,Z 51,Z 52,Z 53,Z 54,Z 55,Z 56,Z 57,Z 58,Z 59,Z 60,Z 61,Z 62,Z 63,Z 64,Z 65,Z 66,Z 67,Z 68,Z 69,Z 70,Z 71,Z 72,Z 73,Z 74,Z 75,Z 76,Z 77,Z 78,Z 79,Z 80,Z 81,Z 82,Z 83,Z 84,Z 85,Z 86,Z 87,Z 88,Z 89,Z 90,Z 91,Z 92,Z 93,Z 94,Z 95,Z 96,Z 97]) [] H5 V3 s ∧ H5 q = some ⟨123, u32s out, (dg a).length * 1⟩ ∧ out.length = (dg a).length ∧ Dig out ∧ nv out = a / b ∧ NatC V3 w (a % b)) ?_ ?_
 ·have w0 : IntKind.i64.wrap (((dg a).length : Int) - ((dg b).length : Int)) = (((dg a).length - (dg b).length + 1 : Nat) : Int) - 1 := by rw [i64_sub (dg a).length (dg b).length (by omega) (by omega)]; omega
  refine Gx.a (by kernel_rfl) fun K hK => ?_
  simp only [XA, XB, w0]
  refine hK _ ?_
  clear hK
  refine XWP.block ?_
  refine XWP.loop (fun n s => ∃ (V3 : View) (H5 : Heap) (out : List Nat) (w : Value) (x : Nat), StIs (fun Z => [.v w, .v (.slice A' (dg b).length c'), Z 2,Z 3,Z 4,Z 5,Z 6,Z 7,Z 8, .v (.slice (some ⟨q, 0, none⟩) (dg a).length (dg a).length), .v (.int .i64 ((n : Int) - 1)), Z 11,Z 12,Z 13,Z 14,Z 15,Z 16,Z 17,Z 18,Z 19,Z 20,Z 21,Z 22,Z 23,Z 24,Z 25,Z 26,Z 27,Z 28,Z 29,Z 30,Z 31,Z 32,Z 33,Z 34,Z 35,Z 36,Z 37,Z 38,Z 39,Z 40,Z 41,Z 42,Z 43,Z 44,Z 45,Z 46,Z 47,Z 48,Z 49,Z 50,Z 51,Z 52,Z 53,Z 54,Z 55,Z 56,Z 57,Z 58,Z 59,Z 60,Z 61,Z 62,Z 63,Z 64,Z 65,Z 66,Z 67,Z 68,Z 69,Z 70,Z 71,Z 72,Z 73,Z 74,Z 75,Z 76,Z 77,Z 78,Z 79,Z 80,Z 81,Z 82,Z 83,Z 84,Z 85,Z 86,Z 87,Z 88,Z 89,Z 90,Z 91,Z 92,Z 93,Z 94,Z 95,Z 96,Z 97]) [] H5 V3 s ∧ V2.le V3 ∧ n ≤ (dg a).length - (dg b).length + 1 ∧ H5 q = some ⟨123, u32s out, (dg a).length * 1⟩ ∧ out.length = (dg a).length ∧ Dig out ∧ (∀ j, j < n → out.getD j 0 = 0) ∧ NatC V3 w x ∧ x ≤ a ∧ a = x + b * nv out ∧ x < b * BB ^ n) ((dg a).length - (dg b).length + 1) ⟨V2, _, List.replicate (dg a).length 0, _, a, StIs.of (by exact rfl), View.le_refl _, Nat.le_refl _, by rw [upd_at]; simp, by simp, Dig_replicate _, fun j _ => by simp only [List.getD_eq_getElem?_getD, List.getElem?_replicate]; split <;> rfl, h1, Nat.le_refl _, by rw [nv_replicate]; rfl, hfirst⟩ ?_
  rintro n s ⟨V3, H5, out, w, x, hs, hV3, hn, hH, hol, hod, hz, hx, hxa, hnv, hxlt⟩
  obtain ⟨z, rfl⟩ := hs.out
  try dsimp only
  refine XWP.seq ?_
  by_cases hn0 : n = 0
  ·subst hn0
   have b4 : decide ((0 : Int) ≤ ((0 : Nat) : Int) - 1) = false := decide_eq_false (by omega)
   refine Gx.a (by kernel_rfl) fun K hK => ?_
   simp only [XA, XB, b4]
   refine hK _ ?_
   refine Gx.f rfl ?_
   refine XWP.exit ?_
   have hxb : x < b := by simpa using hxlt
   refine ⟨V3, H5, out, w, StIs.of (by exact rfl), hH, hol, hod, ?_, ?_⟩
   ·rw [hnv, Nat.add_mul_div_left _ _ (by omega), Nat.div_eq_of_lt hxb, Nat.zero_add]
   ·rw [hnv, Nat.add_mul_mod_self_left, Nat.mod_eq_of_lt hxb]; exact hx
  obtain ⟨i, rfl⟩ : ∃ i, n = i + 1 := ⟨n - 1, by omega⟩
  have ei : (((i + 1 : Nat) : Int) - 1) = (i : Int) := by omega
  have b4 : decide ((0 : Int) ≤ (i : Int)) = true := decide_eq_true (by omega)
  refine Gx.a (by kernel_rfl) fun K hK => ?_
  simp only [XA, XB, ei, b4]
  refine hK _ ?_
  refine Gx.t rfl ?_
  refine XWP.skip ?_
  refine XWP.seq ?_
  refine XWP.block ?_
  have fx : Fit x := fa.mono hxa
  refine Gx.a (by kernel_rfl) fun K hK => ?_
  simp only [XA]
  refine call_go (by kernel_rfl) rfl (rguess_c _ _ _ x b i hx (NatC.mono h2 hV3) fx fb hbp (by omega) hxlt) fun v4 V4 hV4 h4 => ?_
  obtain ⟨lo, hi, rfl, hlo, hhi, hhB⟩ := h4
  simp only [XA]
  refine hK _ ?_
  clear hK
  have hx := hx.mono hV4
  have h2' := (NatC.mono h2 hV3).mono hV4
  have hst := hdiv_step (out := out) (out' := nv out + BB ^ i * (x / (b * BB ^ i))) (Nat.pos_of_ne_zero hb) rfl hnv rfl
  have hgB := hdiv_lt hxlt
  generalize hg : x / (b * BB ^ i) = g at *
  refine XWP.cut (fun s => ∃ V5 : View, StIs (fun Z => [.v w, .v (.slice A' (dg b).length c'), Z 2,Z 3,Z 4,Z 5,Z 6,Z 7,Z 8, .v (.slice (some ⟨q, 0, none⟩) (dg a).length (dg a).length), .v (.int .i64 (i : Int)), .v (.int .u64 (g : Int)), Z 12,Z 13,Z 14,Z 15,Z 16,Z 17,Z 18,Z 19,Z 20,Z 21,Z 22,Z 23,Z 24,Z 25,Z 26,Z 27,Z 28,Z 29,Z 30,Z 31,Z 32,Z 33,Z 34,Z 35,Z 36,Z 37,Z 38,Z 39,Z 40,Z 41,Z 42,Z 43,Z 44,Z 45,Z 46,Z 47,Z 48,Z 49,Z 50,Z 51,Z 52,Z 53,Z 54,Z 55,Z 56,Z 57,Z 58,Z 59,Z 60,Z 61,Z 62,Z 63,Z 64,Z 65,Z 66,Z 67,Z 68,Z 69,Z 70,Z 71,Z 72,Z 73,Z 74,Z 75,Z 76,Z 77,Z 78,Z 79,Z 80,Z 81,Z 82,Z 83,Z 84,Z 85,Z 86,Z 87,Z 88,Z 89,Z 90,Z 91,Z 92,Z 93,Z 94,Z 95,Z 96,Z 97]) [] H5 V5 s ∧ V4.le V5) ?_ ?_
  ·refine XWP.block ?_
   refine XWP.loop (fun m s => ∃ (V5 : View) (lo hi : Nat), StIs (fun Z => [.v w, .v (.slice A' (dg b).length c'), Z 2,Z 3,Z 4,Z 5,Z 6,Z 7,Z 8, .v (.slice (some ⟨q, 0, none⟩) (dg a).length (dg a).length), .v (.int .i64 (i : Int)), .v (.int .u64 (lo : Int)), .v (.int .u64 (hi : Int)), Z 13,Z 14,Z 15,Z 16,Z 17,Z 18,Z 19,Z 20,Z 21,Z 22,Z 23,Z 24,Z 25,Z 26,Z 27,Z 28,Z 29,Z 30,Z 31,Z 32,Z 33,Z 34,Z 35,Z 36,Z 37,Z 38,Z 39,Z 40,Z 41,Z 42,Z 43,Z 44,Z 45,Z 46,Z 47,Z 48,Z 49,Z 50,Z 51,Z 52,Z 53,Z 54,Z 55,Z 56,Z 57,Z 58,Z 59,Z 60,Z 61,Z 62,Z 63,Z 64,Z 65,Z 66,Z 67,Z 68,Z 69,Z 70,Z 71,Z 72,Z 73,Z 74,Z 75,Z 76,Z 77,Z 78,Z 79,Z 80,Z 81,Z 82,Z 83,Z 84,Z 85,Z 86,Z 87,Z 88,Z 89,Z 90,Z 91,Z 92,Z 93,Z 94,Z 95,Z 96,Z 97]) [] H5 V5 s ∧ V4.le V5 ∧ lo ≤ g ∧ g ≤ hi ∧ hi < BB ∧ m = hi - lo) (hi - lo) ⟨V4, lo, hi, StIs.of (by exact rfl), View.le_refl _, hlo, hhi, hhB, rfl⟩ ?_
   clear hlo hhi hhB
   rintro m s ⟨V5, lo, hi, hs, hV5, hlo, hhi, hhB, hm⟩
   obtain ⟨z, rfl⟩ := hs.out
   try dsimp only
   unfold BB at hhB
   refine XWP.seq ?_
   by_cases hlh : lo < hi
   ·have b5 : decide ((lo : Int) < (hi : Int)) = true := decide_eq_true (by omega)
    refine Gx.a (by kernel_rfl) fun K hK => ?_
    simp only [XA, XB, b5]
    refine hK _ ?_
    refine Gx.t rfl ?_
    refine XWP.skip ?_
    refine XWP.block ?_
    obtain ⟨m1, m2⟩ := halve_mid hlh
    have w1 := u64_sub hi lo (by omega) (by omega)
    have w2 : IntKind.u64.wrap (((hi - lo : Nat) : Int) + 1) = ((hi - lo + 1 : Nat) : Int) := u64_add (hi - lo) 1 (by omega)
    have e2 : (2 : Int) ≠ 0 := by omega
    have w3 : IntKind.u64.wrap (Int.tdiv ((hi - lo + 1 : Nat) : Int) 2) = (((hi - lo + 1) / 2 : Nat) : Int) := u64_div (hi - lo + 1) 2 (by omega)
    have w4 := u64_add lo ((hi - lo + 1) / 2) (by omega)
    refine Gx.a (by kernel_rfl) fun K hK => ?_
    simp only [XA, XB, w1, w2, bin_quo _ _ _ _ e2, w3, w4]
    refine hK _ ?_
    generalize lo + (hi - lo + 1) / 2 = mid at *
    have hmB : mid < BB := by unfold BB; omega
    refine Gx.a (by kernel_rfl) fun K hK => ?_
    simp only [XA]
    refine call_go (by kernel_rfl) rfl (rtimes_c _ _ b mid i (h2'.mono hV5) fb hmB (by omega)) fun v6 V6 hV6 h6 => ?_
    simp only [XA]
    have ft : Fit (b * mid * BB ^ i) := by
     have := sz_le (times_fits (b := b) (i := i) hmB)
     unfold Fit1 at fa1; unfold Fit; unfold sz at *; omega
    refine call_go (by kernel_rfl) rfl (rcompare_c _ _ _ _ _ h6 ((hx.mono hV5).mono hV6) ft fx) fun v7 V7 hV7 h7 => ?_
    subst h7
    have hmm : b * mid * BB ^ i ≤ x ↔ mid ≤ g := by rw [mid_le hb, hg]
    by_cases hmg : mid ≤ g
    ·have b6 : decide (b * mid * BB ^ i ≤ x) = true := decide_eq_true (hmm.2 hmg)
     simp only [XA, XB, cmp_leq, b6]
     refine hK _ ?_
     refine Gx.t rfl ?_
     refine Gx.c (by kernel_rfl) fun K hK => ?_
     simp only [XA]
     exact hK _ ⟨hi - mid, by omega, V7, mid, hi, StIs.of (by exact rfl), View.le_trans hV5 (View.le_trans hV6 hV7), hmg, hhi, by unfold BB; omega, rfl⟩
    ·have b6 : decide (b * mid * BB ^ i ≤ x) = false := decide_eq_false fun h => hmg (hmm.1 h)
     simp only [XA, XB, cmp_leq, b6]
     refine hK _ ?_
     refine Gx.f rfl ?_
     have w5 : IntKind.u64.wrap ((mid : Int) - 1) = ((mid - 1 : Nat) : Int) := u64_sub mid 1 (by omega) (by omega)
     refine Gx.c (by kernel_rfl) fun K hK => ?_
     simp only [XA, XB, w5]
     exact hK _ ⟨mid - 1 - lo, by omega, V7, lo, mid - 1, StIs.of (by exact rfl), View.le_trans hV5 (View.le_trans hV6 hV7), hlo, by omega, by unfold BB; omega, rfl⟩
   ·have b5 : decide ((lo : Int) < (hi : Int)) = false := decide_eq_false (by omega)
    obtain rfl : lo = g := by omega
    refine Gx.a (by kernel_rfl) fun K hK => ?_
    simp only [XA, XB, b5]
    refine hK _ ?_
    refine Gx.f rfl ?_
    refine XWP.exit ?_
    exact ⟨V5, StIs.of (by exact rfl), hV5⟩
  ·rintro s ⟨V5, hs, hV5⟩
   obtain ⟨z, rfl⟩ := hs.out
   try dsimp only
   have e1 : g % BB = g := Nat.mod_eq_of_lt hgB
   refine Gx.a (by kernel_rfl) fun K hK => ?_
   simp only [XA, XB, w32_mod, e1]
   refine ⟨by omega, by omega, ?_⟩
   refine st_row shapeT_123 rfl rfl hH (by rw [u32s_length]; omega) ?_
   simp only [XA, u32s_set]
   refine hK _ ?_
   refine Gx.c (by kernel_rfl) fun K hK => ?_
   simp only [XA]
   refine call_go (by kernel_rfl) rfl (rtimes_c _ _ b g i (h2'.mono hV5) fb hgB (by omega)) fun v6 V6 hV6 h6 => ?_
   simp only [XA]
   have ft : Fit (b * g * BB ^ i) := fx.mono hst.2.2
   refine call_go (by kernel_rfl) rfl (rsub_c _ _ _ _ _ ((hx.mono hV5).mono hV6) h6 fx ft) fun v7 V7 hV7 h7 => ?_
   obtain ⟨r, rfl, hr⟩ := h7.2 hst.2.2
   simp only [XA]
   refine hK _ ?_
   have w1 : IntKind.i64.wrap ((i : Int) - 1) = (i : Int) - 1 := wrap_id (by omega) (by omega)
   refine Gx.c (by kernel_rfl) fun K hK => ?_
   simp only [XA, XB, w1]
   have hns := nv_set out i g (by omega)
   rw [hz i (by omega), Nat.mul_zero, Nat.add_zero] at hns
   refine hK _ ⟨i, by omega, V7, _, _, _, _, StIs.of (by exact rfl), View.le_trans hV3 (View.le_trans hV4 (View.le_trans hV5 (View.le_trans hV6 hV7))), by omega, by (simp only [upd_at, Nat.mul_one]; first | done | exact rfl), by simp [hol], Dig_set hod _ hgB, fun j hj => ?_, hr, Nat.le_trans (Nat.sub_le _ _) hxa, by rw [hns]; exact hst.1, hst.2.1⟩
   rw [getD_set_ne' _ _ _ _ (by omega)]; exact hz j (by omega)
 ·rintro s ⟨V3, H5, out, w, hs, hH, hol, hod, hnv, hw⟩
  obtain ⟨z, rfl⟩ := hs.out
  try dsimp only
  refine Gx.a (by kernel_rfl) fun K hK => ?_
  simp only [XA]
  refine call_pub q _ hH (fun o ho hle' => ?_) (by kernel_rfl) rfl
  refine call_go (by kernel_rfl) rfl (rtrim_any _ _ out (NatAt.pub ho hod hol (Nat.le_refl _) (by omega)) (by omega)) fun v4 V4 hV4 h4 => ?_
  have hw := (hw.mono hle').mono hV4
  simp only [XA]
  refine hK _ (XWP.ret ?_)
  try simp only [thenX_ret, inBlockX_ret]
  refine ret_go _ rfl ?_
  rw [hnv] at h4
  exact ⟨fun h => absurd h hb, fun _ => ⟨_, _, rfl, h4, hw⟩⟩
theorem small_form {a : Nat} {v : Value} (h : v = if a < 18446744073709551616 then .tuple #[.int .u64 (a : Int), .bool true] else .tuple #[.int .u64 0, .bool false]) : ∃ (x : Nat) (m : Bool), v = .tuple #[.int .u64 (x : Int), .bool m] ∧ (m = true → x = a ∧ a < 18446744073709551616) ∧ (m = false → 18446744073709551616 ≤ a) := by
 by_cases ha : a < 18446744073709551616
 ·rw [if_pos ha] at h; exact ⟨a, true, h, fun _ => ⟨rfl, ha⟩, fun h => by cases h⟩
 ·rw [if_neg ha] at h; exact ⟨0, false, h, fun h => (by cases h), fun _ => by omega⟩
theorem len_zero' (a : Nat) : decide (((dg a).length : Int) = 0) = decide (a = 0) := by
 rw [decide_eq_decide]
 constructor
 ·intro h; exact sz_eq_zero (by unfold sz; omega)
 ·intro h; subst h; rw [dg_zero]; rfl
theorem rgcd_c (V : View) (v u : Value) (a b : Nat) (hv : NatC V v a) (hu : NatC V u b) (fa : Fit a) (fb : Fit b) : Spec Tryz.prog 82 [v, u] V fun v' V' => NatC V' v' (Nat.gcd a b) := by
 refine (Spec.enter Tryz.func82 rfl fun Γ => ?_)
 simp only [Tryz.ntmps82, List.map_cons, List.map_nil, List.length_cons, List.length_nil, Nat.reduceAdd, Nat.reduceSub, List.replicate_succ, List.replicate_zero, List.cons_append, List.nil_append]
 refine Gx.a (by kernel_rfl) fun K hK => ?_
 simp only [XA]
 refine hK _ ?_
 refine Gx.a (by kernel_rfl) fun K hK => ?_
 simp only [XA]
 refine call_go (by kernel_rfl) rfl (rtrim_c _ _ _ hv fa) fun v1 V1 hV1 h1 => ?_
 simp only [XA]
 refine call_go (by kernel_rfl) rfl (rtrim_c _ _ _ (hu.mono hV1) fb) fun v2 V2 hV2 h2 => ?_
 have h1 := h1.mono hV2
 simp only [XA]
 refine hK _ ?_
 clear hv hu
 refine Gx.a (by kernel_rfl) fun K hK => ?_
 simp only [XA]
 refine call_go (by kernel_rfl) rfl (rsmall_c _ _ _ h1 fa) fun v3 V3 hV3 h3 => ?_
 have h1 := h1.mono hV3
 have h2 := h2.mono hV3
 obtain ⟨x0, ma, rfl, ha1, ha2⟩ := small_form h3
 simp only [XA]
 refine hK _ ?_
 refine Gx.a (by kernel_rfl) fun K hK => ?_
 simp only [XA]
 refine call_go (by kernel_rfl) rfl (rsmall_c _ _ _ h2 fb) fun v4 V4 hV4 h4 => ?_
 have h1 := h1.mono hV4
 have h2 := h2.mono hV4
 obtain ⟨y0, mb, rfl, hb1, hb2⟩ := small_form h4
 simp only [XA]
 refine hK _ ?_
 clear hK
 refine XWP.cut (fun s => StIs (fun Z => [.v v1, .v v2, Z 2,Z 3,Z 4,Z 5,Z 6,Z 7,Z 8,Z 9,Z 10,Z 11,Z 12,Z 13,Z 14,Z 15,Z 16,Z 17,Z 18,Z 19,Z 20,Z 21,Z 22,Z 23,Z 24,Z 25,Z 26,Z 27,Z 28,Z 29,Z 30,Z 31,Z 32,Z 33,Z 34,Z 35,Z 36,Z 37,Z 38,Z 39,Z 40,Z 41,Z 42,Z 43,Z 44,Z 45,Z 46,Z 47,Z 48,Z 49,Z 50,Z 51,Z 52,Z 53,Z 54,Z 55,Z 56,Z 57,Z 58,Z 59,Z 60,Z 61,Z 62,Z 63,Z 64,Z 65,Z 66,Z 67,Z 68,Z 69,Z 70,Z 71,Z 72,Z 73,Z 74,Z 75,Z 76,Z 77,Z 78,Z 79,Z 80,Z 81,Z 82,Z 83]) [] (fun _ => none) V4 s ∧ (ma && mb) = false) ?_ ?_
 ·cases ma with
  | false =>
   refine Gx.a (by kernel_rfl) fun K hK => ?_
   simp only [XA, gateX, ↓reduceIte]
   refine hK _ ?_
   refine Gx.f rfl ?_
   refine XWP.skip ?_
   exact ⟨StIs.of (by exact rfl), rfl⟩
  | true =>
   cases mb with
   | false =>
    refine Gx.a (by kernel_rfl) fun K hK => ?_
    simp only [XA, gateX, ↓reduceIte, beq_self_eq_true]
    refine hK _ ?_
    refine Gx.f rfl ?_
    refine XWP.skip ?_
    exact ⟨StIs.of (by exact rfl), rfl⟩
   | true =>
    obtain ⟨rfl, la⟩ := ha1 rfl
    obtain ⟨rfl, lb⟩ := hb1 rfl
    refine Gx.a (by kernel_rfl) fun K hK => ?_
    simp only [XA, gateX, ↓reduceIte, beq_self_eq_true]
    refine hK _ ?_
    refine Gx.t rfl ?_
    clear hK
    refine XWP.cut (fun s => StIs (fun Z => [Z 0,Z 1,Z 2,Z 3,Z 4, .v (.int .u64 ((Nat.gcd x0 y0 : Nat) : Int)), Z 6,Z 7,Z 8,Z 9,Z 10,Z 11,Z 12,Z 13,Z 14,Z 15,Z 16,Z 17,Z 18,Z 19,Z 20,Z 21,Z 22,Z 23,Z 24,Z 25,Z 26,Z 27,Z 28,Z 29,Z 30,Z 31,Z 32,Z 33,Z 34,Z 35,Z 36,Z 37,Z 38,Z 39,Z 40,Z 41,Z 42,Z 43,Z 44,Z 45,Z 46,Z 47,Z 48,Z 49,Z 50,Z 51,Z 52,Z 53,Z 54,Z 55,Z 56,Z 57,Z 58,Z 59,Z 60,Z 61,Z 62,Z 63,Z 64,Z 65,Z 66,Z 67,Z 68,Z 69,Z 70,Z 71,Z 72,Z 73,Z 74,Z 75,Z 76,Z 77,Z 78,Z 79,Z 80,Z 81,Z 82,Z 83]) [] (fun _ => none) V4 s ∧ Nat.gcd x0 y0 < 18446744073709551616) ?_ ?_
    ·refine XWP.block ?_
     refine XWP.loop (fun n s => ∃ x : Nat, StIs (fun Z => [Z 0,Z 1,Z 2,Z 3,Z 4, .v (.int .u64 (x : Int)), Z 6, .v (.int .u64 (n : Int)), Z 8,Z 9,Z 10,Z 11,Z 12,Z 13,Z 14,Z 15,Z 16,Z 17,Z 18,Z 19,Z 20,Z 21,Z 22,Z 23,Z 24,Z 25,Z 26,Z 27,Z 28,Z 29,Z 30,Z 31,Z 32,Z 33,Z 34,Z 35,Z 36,Z 37,Z 38,Z 39,Z 40,Z 41,Z 42,Z 43,Z 44,Z 45,Z 46,Z 47,Z 48,Z 49,Z 50,Z 51,Z 52,Z 53,Z 54,Z 55,Z 56,Z 57,Z 58,Z 59,Z 60,Z 61,Z 62,Z 63,Z 64,Z 65,Z 66,Z 67,Z 68,Z 69,Z 70,Z 71,Z 72,Z 73,Z 74,Z 75,Z 76,Z 77,Z 78,Z 79,Z 80,Z 81,Z 82,Z 83]) [] (fun _ => none) V4 s ∧ Nat.gcd x n = Nat.gcd x0 y0 ∧ x < 18446744073709551616 ∧ n < 18446744073709551616) y0 ⟨x0, StIs.of (by exact rfl), rfl, la, lb⟩ ?_
     rintro n s ⟨x, hs, hg, hx, hn⟩
     obtain ⟨z, rfl⟩ := hs.out
     try dsimp only
     refine XWP.seq ?_
     by_cases hn0 : n = 0
     ·subst hn0
      have b1 : (!decide (((0 : Nat) : Int) = 0)) = false := rfl
      refine Gx.a (by kernel_rfl) fun K hK => ?_
      simp only [XA, XB, b1]
      refine hK _ ?_
      refine Gx.f rfl ?_
      refine XWP.exit ?_
      rw [Nat.gcd_zero_right] at hg
      subst hg
      exact ⟨StIs.of (by exact rfl), hx⟩
     ·have b1 : (!decide ((n : Int) = 0)) = true := by rw [decide_eq_false (by omega)]; rfl
      have hn0' : (n : Int) ≠ 0 := by omega
      refine Gx.a (by kernel_rfl) fun K hK => ?_
      simp only [XA, XB, b1]
      refine hK _ ?_
      refine Gx.t rfl ?_
      refine XWP.skip ?_
      refine XWP.block ?_
      (refine XWP.drw1 [0, 1, 2, 3, 4, 5] (by kernel_rfl) (by kernel_rfl) (by kernel_rfl) fun K hK => ?_) <;> dsimp only [pickOps, List.getElem?_cons_zero, List.getElem?_cons_succ]
      simp only [XA, XB, bin_rem _ _ _ _ hn0', int_tmod]
      exact hK _ ⟨x % n, Nat.mod_lt _ (by omega), n, StIs.of (by exact rfl), by rw [gcd_step]; exact hg, hn, by have := Nat.mod_lt x (show 0 < n by omega); omega⟩
    ·rintro s ⟨hs, hlt⟩
     obtain ⟨z, rfl⟩ := hs.out
     try dsimp only
     refine Gx.a (by kernel_rfl) fun K hK => ?_
     simp only [XA]
     refine call_go (by kernel_rfl) rfl (rof_c _ _ hlt) fun v5 V5 hV5 h5 => ?_
     simp only [XA]
     refine hK _ (XWP.ret ?_)
     try simp only [thenX_ret, inBlockX_ret]
     refine ret_go _ rfl ?_
     exact h5
 rintro s ⟨hs, hmm⟩
 obtain ⟨z, rfl⟩ := hs.out
 try dsimp only
 obtain ⟨A, c, rfl, hc, hm⟩ := NatAt.form h1
 obtain ⟨A', c', rfl, hc', hm'⟩ := NatAt.form h2
 refine XWP.seq ?_
 by_cases ha0 : a = 0
 ·subst ha0
  have b1 : decide ((0 : Nat) = 0) = true := decide_eq_true (by omega)
  refine Gx.a (by kernel_rfl) fun K hK => ?_
  simp only [XA, XB, len_zero']
  refine hK _ ?_
  refine Gx.t rfl ?_
  refine Gx.a (by kernel_rfl) fun K hK => ?_
  simp only [XA]
  refine hK _ (XWP.ret ?_)
  try simp only [thenX_ret, inBlockX_ret]
  refine ret_go _ rfl ?_
  rw [Nat.gcd_zero_left]; exact h2
 have b1 : decide (a = 0) = false := decide_eq_false (by omega)
 refine Gx.a (by kernel_rfl) fun K hK => ?_
 simp only [XA, XB, len_zero', b1]
 refine hK _ ?_
 refine Gx.f rfl ?_
 refine XWP.skip ?_
 refine XWP.seq ?_
 by_cases hb0 : b = 0
 ·subst hb0
  have b2 : decide ((0 : Nat) = 0) = true := decide_eq_true (by omega)
  refine Gx.a (by kernel_rfl) fun K hK => ?_
  simp only [XA, XB, len_zero']
  refine hK _ ?_
  refine Gx.t rfl ?_
  refine Gx.a (by kernel_rfl) fun K hK => ?_
  simp only [XA]
  refine hK _ (XWP.ret ?_)
  try simp only [thenX_ret, inBlockX_ret]
  refine ret_go _ rfl ?_
  rw [Nat.gcd_zero_right]; exact h1
 have b2 : decide (b = 0) = false := decide_eq_false (by omega)
 refine Gx.a (by kernel_rfl) fun K hK => ?_
 simp only [XA, XB, len_zero', b2]
 refine hK _ ?_
 refine Gx.f rfl ?_
 refine XWP.skip ?_
 refine Gx.a (by kernel_rfl) fun K hK => ?_
 simp only [XA]
 refine call_go (by kernel_rfl) rfl (rof_c _ 1 (by omega)) fun v5 V5 hV5 h5 => ?_
 have h1 := h1.mono hV5
 have h2 := h2.mono hV5
 simp only [XA]
 refine hK _ ?_
 clear hK
 have hgp : 0 < Nat.gcd a b := Nat.gcd_pos_of_pos_left _ (by omega)
 refine XWP.cut (fun s => ∃ (V6 : View) (wa wb wt : Value) (x y t : Nat), StIs (fun Z => [.v wa, .v wb, Z 2,Z 3,Z 4,Z 5,Z 6,Z 7,Z 8, .v wt, Z 10,Z 11,Z 12,Z 13,Z 14,Z 15,Z 16,Z 17,Z 18,Z 19,Z 20,Z 21,Z 22,Z 23,Z 24,Z 25,Z 26,Z 27,Z 28,Z 29,Z 30,Z 31,Z 32,Z 33,Z 34,Z 35,Z 36,Z 37,Z 38,Z 39,Z 40,Z 41,Z 42,Z 43,Z 44,Z 45,Z 46,Z 47,Z 48,Z 49,Z 50,Z 51,Z 52,Z 53,Z 54,Z 55,Z 56,Z 57,Z 58,Z 59,Z 60,Z 61,Z 62,Z 63,Z 64,Z 65,Z 66,Z 67,Z 68,Z 69,Z 70,Z 71,Z 72,Z 73,Z 74,Z 75,Z 76,Z 77,Z 78,Z 79,Z 80,Z 81,Z 82,Z 83]) [] (fun _ => none) V6 s ∧ NatC V6 wa x ∧ NatC V6 wb y ∧ NatC V6 wt t ∧ x ≠ 0 ∧ x ≤ a ∧ y ≤ b ∧ t * Nat.gcd x y = Nat.gcd a b ∧ Nat.gcd x y % 2 = 1) ?_ ?_
 ·refine XWP.block ?_
  refine XWP.loop (fun n s => ∃ (V6 : View) (wa wb wt : Value) (y t : Nat), StIs (fun Z => [.v wa, .v wb, Z 2,Z 3,Z 4,Z 5,Z 6,Z 7,Z 8, .v wt, Z 10,Z 11,Z 12,Z 13,Z 14,Z 15,Z 16,Z 17,Z 18,Z 19,Z 20,Z 21,Z 22,Z 23,Z 24,Z 25,Z 26,Z 27,Z 28,Z 29,Z 30,Z 31,Z 32,Z 33,Z 34,Z 35,Z 36,Z 37,Z 38,Z 39,Z 40,Z 41,Z 42,Z 43,Z 44,Z 45,Z 46,Z 47,Z 48,Z 49,Z 50,Z 51,Z 52,Z 53,Z 54,Z 55,Z 56,Z 57,Z 58,Z 59,Z 60,Z 61,Z 62,Z 63,Z 64,Z 65,Z 66,Z 67,Z 68,Z 69,Z 70,Z 71,Z 72,Z 73,Z 74,Z 75,Z 76,Z 77,Z 78,Z 79,Z 80,Z 81,Z 82,Z 83]) [] (fun _ => none) V6 s ∧ NatC V6 wa n ∧ NatC V6 wb y ∧ NatC V6 wt t ∧ n ≠ 0 ∧ n ≤ a ∧ y ≤ b ∧ t * Nat.gcd n y = Nat.gcd a b) a ⟨V5, _, _, _, b, 1, StIs.of (by exact rfl), h1, h2, h5, ha0, Nat.le_refl _, Nat.le_refl _, by omega⟩ ?_
  rintro n s ⟨V6, wa, wb, wt, y, t, hs, hwa, hwb, hwt, hn, hna, hyb, ht⟩
  obtain ⟨z, rfl⟩ := hs.out
  try dsimp only
  have fn := fa.mono hna
  have fy := fb.mono hyb
  have ft : Fit t := fa.mono (Nat.le_trans (by rw [← ht]; exact Nat.le_mul_of_pos_right _ (Nat.gcd_pos_of_pos_left _ (by omega))) (Nat.gcd_le_left b (by omega)))
  refine XWP.seq ?_
  refine Gx.a (by kernel_rfl) fun K hK => ?_
  simp only [XA]
  refine call_go (by kernel_rfl) rfl (reven_c _ _ _ hwa) fun v6 V7 hV7 h6 => ?_
  subst h6
  have hwa := hwa.mono hV7
  have hwb := hwb.mono hV7
  have hwt := hwt.mono hV7
  by_cases e1 : n % 2 = 0
  ·have b3 : decide (n % 2 = 0) = true := decide_eq_true e1
   simp only [XA, gateX, ↓reduceIte, beq_self_eq_true, b3]
   refine call_go (by kernel_rfl) rfl (reven_c _ _ _ hwb) fun v7 V8 hV8 h7 => ?_
   subst h7
   have hwa := hwa.mono hV8
   have hwb := hwb.mono hV8
   have hwt := hwt.mono hV8
   by_cases e2 : y % 2 = 0
   ·have b4 : decide (y % 2 = 0) = true := decide_eq_true e2
    simp only [XA, ↓reduceIte, b4]
    refine hK _ ?_
    refine Gx.t rfl ?_
    refine XWP.skip ?_
    refine XWP.block ?_
    refine Gx.c (by kernel_rfl) fun K hK => ?_
    simp only [XA]
    refine call_go (by kernel_rfl) rfl (rhalf_c _ _ _ hwa fn) fun v9 V9 hV9 h9 => ?_
    simp only [XA]
    refine call_go (by kernel_rfl) rfl (rhalf_c _ _ _ (hwb.mono hV9) fy) fun v10 V10 hV10 h10 => ?_
    simp only [XA]
    refine call_go (by kernel_rfl) rfl (radd_c _ _ _ _ _ ((hwt.mono hV9).mono hV10) ((hwt.mono hV9).mono hV10) ft ft) fun v11 V11 hV11 h11 => ?_
    simp only [XA]
    have hg2 := gcd_half2 e1 e2
    refine hK _ ⟨n / 2, by omega, V11, _, _, _, y / 2, t + t, StIs.of (by exact rfl), (h9.mono hV10).mono hV11, h10.mono hV11, h11, by omega, by omega, by omega, ?_⟩
    rw [← ht, hg2, Nat.add_mul, Nat.mul_left_comm]; omega
   ·have b4 : decide (y % 2 = 0) = false := decide_eq_false e2
    simp only [XA, ↓reduceIte, b4]
    refine hK _ ?_
    refine Gx.f rfl ?_
    refine XWP.exit ?_
    exact ⟨V8, _, _, _, n, y, t, StIs.of (by exact rfl), hwa, hwb, hwt, hn, hna, hyb, ht, gcd_odd (.inr (by omega))⟩
  ·have b3 : decide (n % 2 = 0) = false := decide_eq_false e1
   simp only [XA, gateX, ↓reduceIte, b3]
   refine hK _ ?_
   refine Gx.f rfl ?_
   refine XWP.exit ?_
   exact ⟨V7, _, _, _, n, y, t, StIs.of (by exact rfl), hwa, hwb, hwt, hn, hna, hyb, ht, gcd_odd (.inl (by omega))⟩
 clear h1 h2 h5
 rintro s ⟨V6, wa, wb, wt, x, y, t, hs, hwa, hwb, hwt, hx, hxa, hyb, ht, hodd⟩
 obtain ⟨z, rfl⟩ := hs.out
 try dsimp only
 have fx := fa.mono hxa
 have fy := fb.mono hyb
 have ft : Fit t := fa.mono (Nat.le_trans (by rw [← ht]; exact Nat.le_mul_of_pos_right _ (Nat.gcd_pos_of_pos_left _ (by omega))) (Nat.gcd_le_left b (by omega)))
 generalize hg : Nat.gcd x y = g at *
 refine XWP.cut (fun s => ∃ (V7 : View) (wa : Value), StIs (fun Z => [.v wa, Z 1,Z 2,Z 3,Z 4,Z 5,Z 6,Z 7,Z 8, .v wt, Z 10,Z 11,Z 12,Z 13,Z 14,Z 15,Z 16,Z 17,Z 18,Z 19,Z 20,Z 21,Z 22,Z 23,Z 24,Z 25,Z 26,Z 27,Z 28,Z 29,Z 30,Z 31,Z 32,Z 33,Z 34,Z 35,Z 36,Z 37,Z 38,Z 39,Z 40,Z 41,Z 42,Z 43,Z 44,Z 45,Z 46,Z 47,Z 48,Z 49,Z 50,Z 51,Z 52,Z 53,Z 54,Z 55,Z 56,Z 57,Z 58,Z 59,Z 60,Z 61,Z 62,Z 63,Z 64,Z 65,Z 66,Z 67,Z 68,Z 69,Z 70,Z 71,Z 72,Z 73,Z 74,Z 75,Z 76,Z 77,Z 78,Z 79,Z 80,Z 81,Z 82,Z 83]) [] (fun _ => none) V7 s ∧ NatC V7 wa g ∧ NatC V7 wt t ∧ Fit g) ?_ ?_
 ·refine XWP.block ?_
  refine XWP.loop (fun n s => ∃ (V7 : View) (wa wb : Value) (x y : Nat), StIs (fun Z => [.v wa, .v wb, Z 2,Z 3,Z 4,Z 5,Z 6,Z 7,Z 8, .v wt, Z 10,Z 11,Z 12,Z 13,Z 14,Z 15,Z 16,Z 17,Z 18,Z 19,Z 20,Z 21,Z 22,Z 23,Z 24,Z 25,Z 26,Z 27,Z 28,Z 29,Z 30,Z 31,Z 32,Z 33,Z 34,Z 35,Z 36,Z 37,Z 38,Z 39,Z 40,Z 41,Z 42,Z 43,Z 44,Z 45,Z 46,Z 47,Z 48,Z 49,Z 50,Z 51,Z 52,Z 53,Z 54,Z 55,Z 56,Z 57,Z 58,Z 59,Z 60,Z 61,Z 62,Z 63,Z 64,Z 65,Z 66,Z 67,Z 68,Z 69,Z 70,Z 71,Z 72,Z 73,Z 74,Z 75,Z 76,Z 77,Z 78,Z 79,Z 80,Z 81,Z 82,Z 83]) [] (fun _ => none) V7 s ∧ NatC V7 wa x ∧ NatC V7 wb y ∧ NatC V7 wt t ∧ Nat.gcd x y = g ∧ n = x + y ∧ x ≠ 0 ∧ Fit x ∧ Fit y) (x + y) ⟨V6, _, _, x, y, StIs.of (by exact rfl), hwa, hwb, hwt, hg, rfl, hx, fx, fy⟩ ?_
  clear hwa hwb hwt fx fy hx hxa hyb hg z x y hs wa wb
  rintro n s ⟨V7, wa, wb, x, y, hs, hwa, hwb, hwt, hg, hn, hx, fx, fy⟩
  obtain ⟨z, rfl⟩ := hs.out
  try dsimp only
  obtain ⟨A, c, rfl, hc, hm⟩ := NatAt.form hwb
  refine XWP.seq ?_
  by_cases hy : y = 0
  ·subst hy
   have b1 : decide ((0 : Int) < ((dg 0).length : Int)) = false := by rw [dg_zero]; rfl
   refine Gx.a (by kernel_rfl) fun K hK => ?_
   simp only [XA, XB, b1]
   refine hK _ ?_
   refine Gx.f rfl ?_
   refine XWP.exit ?_
   rw [Nat.gcd_zero_right] at hg
   subst hg
   exact ⟨V7, wa, StIs.of (by exact rfl), hwa, hwt, fx⟩
  have hyp := sz_pos hy
  unfold sz at hyp
  have b1 : decide ((0 : Int) < ((dg y).length : Int)) = true := decide_eq_true (by omega)
  refine Gx.a (by kernel_rfl) fun K hK => ?_
  simp only [XA, XB, b1]
  refine hK _ ?_
  refine Gx.t rfl ?_
  refine XWP.skip ?_
  refine XWP.block ?_
  clear hK
  generalize hwbv : (Value.slice A (dg y).length c) = wb at *
  refine XWP.cut (fun s => ∃ (V8 : View) (wa : Value) (x' : Nat), StIs (fun Z => [.v wa, .v wb, Z 2,Z 3,Z 4,Z 5,Z 6,Z 7,Z 8, .v wt, Z 10,Z 11,Z 12,Z 13,Z 14,Z 15,Z 16,Z 17,Z 18,Z 19,Z 20,Z 21,Z 22,Z 23,Z 24,Z 25,Z 26,Z 27,Z 28,Z 29,Z 30,Z 31,Z 32,Z 33,Z 34,Z 35,Z 36,Z 37,Z 38,Z 39,Z 40,Z 41,Z 42,Z 43,Z 44,Z 45,Z 46,Z 47,Z 48,Z 49,Z 50,Z 51,Z 52,Z 53,Z 54,Z 55,Z 56,Z 57,Z 58,Z 59,Z 60,Z 61,Z 62,Z 63,Z 64,Z 65,Z 66,Z 67,Z 68,Z 69,Z 70,Z 71,Z 72,Z 73,Z 74,Z 75,Z 76,Z 77,Z 78,Z 79,Z 80,Z 81,Z 82,Z 83]) [] (fun _ => none) V8 s ∧ NatC V8 wa x' ∧ NatC V8 wb y ∧ NatC V8 wt t ∧ Nat.gcd x' y = g ∧ x' ≤ x ∧ x' ≠ 0) ?_ ?_
  ·refine XWP.block ?_
   refine XWP.loop (fun m s => ∃ (V8 : View) (wa : Value), StIs (fun Z => [.v wa, .v wb, Z 2,Z 3,Z 4,Z 5,Z 6,Z 7,Z 8, .v wt, Z 10,Z 11,Z 12,Z 13,Z 14,Z 15,Z 16,Z 17,Z 18,Z 19,Z 20,Z 21,Z 22,Z 23,Z 24,Z 25,Z 26,Z 27,Z 28,Z 29,Z 30,Z 31,Z 32,Z 33,Z 34,Z 35,Z 36,Z 37,Z 38,Z 39,Z 40,Z 41,Z 42,Z 43,Z 44,Z 45,Z 46,Z 47,Z 48,Z 49,Z 50,Z 51,Z 52,Z 53,Z 54,Z 55,Z 56,Z 57,Z 58,Z 59,Z 60,Z 61,Z 62,Z 63,Z 64,Z 65,Z 66,Z 67,Z 68,Z 69,Z 70,Z 71,Z 72,Z 73,Z 74,Z 75,Z 76,Z 77,Z 78,Z 79,Z 80,Z 81,Z 82,Z 83]) [] (fun _ => none) V8 s ∧ NatC V8 wa m ∧ NatC V8 wb y ∧ NatC V8 wt t ∧ Nat.gcd m y = g ∧ m ≤ x ∧ m ≠ 0) x ⟨V7, _, StIs.of (by exact rfl), hwa, hwb, hwt, hg, Nat.le_refl _, hx⟩ ?_
   rintro m s ⟨V8, wa, hs, hwa, hwb, hwt, hg, hmx, hm0⟩
   obtain ⟨z, rfl⟩ := hs.out
   try dsimp only
   refine XWP.seq ?_
   refine Gx.a (by kernel_rfl) fun K hK => ?_
   simp only [XA]
   refine call_go (by kernel_rfl) rfl (reven_c _ _ _ hwa) fun v6 V9 hV9 h6 => ?_
   subst h6
   have hwa := hwa.mono hV9
   have hwb := hwb.mono hV9
   have hwt := hwt.mono hV9
   by_cases e1 : m % 2 = 0
   ·have b3 : decide (m % 2 = 0) = true := decide_eq_true e1
    simp only [XA, b3]
    refine hK _ ?_
    refine Gx.t rfl ?_
    refine XWP.skip ?_
    refine XWP.block ?_
    refine Gx.c (by kernel_rfl) fun K hK => ?_
    simp only [XA]
    refine call_go (by kernel_rfl) rfl (rhalf_c _ _ _ hwa (fx.mono hmx)) fun v9 V10 hV10 h9 => ?_
    simp only [XA]
    exact hK _ ⟨m / 2, by omega, V10, _, StIs.of (by exact rfl), h9, hwb.mono hV10, hwt.mono hV10, by rw [gcd_half e1 (by rw [hg]; exact hodd)]; exact hg, by omega, by omega⟩
   ·have b3 : decide (m % 2 = 0) = false := decide_eq_false e1
    simp only [XA, b3]
    refine hK _ ?_
    refine Gx.f rfl ?_
    refine XWP.exit ?_
    exact ⟨V9, _, m, StIs.of (by exact rfl), hwa, hwb, hwt, hg, hmx, hm0⟩
  clear hwa hwb hwt hg hs
  rintro s ⟨V8, wa, x', hs, hwa, hwb, hwt, hg, hxx, hx0⟩
  obtain ⟨z, rfl⟩ := hs.out
  try dsimp only
  refine XWP.cut (fun s => ∃ (V9 : View) (wb : Value) (y' : Nat), StIs (fun Z => [.v wa, .v wb, Z 2,Z 3,Z 4,Z 5,Z 6,Z 7,Z 8, .v wt, Z 10,Z 11,Z 12,Z 13,Z 14,Z 15,Z 16,Z 17,Z 18,Z 19,Z 20,Z 21,Z 22,Z 23,Z 24,Z 25,Z 26,Z 27,Z 28,Z 29,Z 30,Z 31,Z 32,Z 33,Z 34,Z 35,Z 36,Z 37,Z 38,Z 39,Z 40,Z 41,Z 42,Z 43,Z 44,Z 45,Z 46,Z 47,Z 48,Z 49,Z 50,Z 51,Z 52,Z 53,Z 54,Z 55,Z 56,Z 57,Z 58,Z 59,Z 60,Z 61,Z 62,Z 63,Z 64,Z 65,Z 66,Z 67,Z 68,Z 69,Z 70,Z 71,Z 72,Z 73,Z 74,Z 75,Z 76,Z 77,Z 78,Z 79,Z 80,Z 81,Z 82,Z 83]) [] (fun _ => none) V9 s ∧ NatC V9 wa x' ∧ NatC V9 wb y' ∧ NatC V9 wt t ∧ Nat.gcd x' y' = g ∧ y' ≤ y ∧ y' ≠ 0) ?_ ?_
  ·refine XWP.block ?_
   refine XWP.loop (fun m s => ∃ (V9 : View) (wb : Value), StIs (fun Z => [.v wa, .v wb, Z 2,Z 3,Z 4,Z 5,Z 6,Z 7,Z 8, .v wt, Z 10,Z 11,Z 12,Z 13,Z 14,Z 15,Z 16,Z 17,Z 18,Z 19,Z 20,Z 21,Z 22,Z 23,Z 24,Z 25,Z 26,Z 27,Z 28,Z 29,Z 30,Z 31,Z 32,Z 33,Z 34,Z 35,Z 36,Z 37,Z 38,Z 39,Z 40,Z 41,Z 42,Z 43,Z 44,Z 45,Z 46,Z 47,Z 48,Z 49,Z 50,Z 51,Z 52,Z 53,Z 54,Z 55,Z 56,Z 57,Z 58,Z 59,Z 60,Z 61,Z 62,Z 63,Z 64,Z 65,Z 66,Z 67,Z 68,Z 69,Z 70,Z 71,Z 72,Z 73,Z 74,Z 75,Z 76,Z 77,Z 78,Z 79,Z 80,Z 81,Z 82,Z 83]) [] (fun _ => none) V9 s ∧ NatC V9 wa x' ∧ NatC V9 wb m ∧ NatC V9 wt t ∧ Nat.gcd x' m = g ∧ m ≤ y ∧ m ≠ 0) y ⟨V8, _, StIs.of (by exact rfl), hwa, hwb, hwt, hg, Nat.le_refl _, hy⟩ ?_
   rintro m s ⟨V9, wb, hs, hwa, hwb, hwt, hg, hmy, hm0⟩
   obtain ⟨z, rfl⟩ := hs.out
   try dsimp only
   refine XWP.seq ?_
   refine Gx.a (by kernel_rfl) fun K hK => ?_
   simp only [XA]
   refine call_go (by kernel_rfl) rfl (reven_c _ _ _ hwb) fun v6 V10 hV10 h6 => ?_
   subst h6
   have hwa := hwa.mono hV10
   have hwb := hwb.mono hV10
   have hwt := hwt.mono hV10
   by_cases e1 : m % 2 = 0
   ·have b3 : decide (m % 2 = 0) = true := decide_eq_true e1
    simp only [XA, b3]
    refine hK _ ?_
    refine Gx.t rfl ?_
    refine XWP.skip ?_
    refine XWP.block ?_
    refine Gx.c (by kernel_rfl) fun K hK => ?_
    simp only [XA]
    refine call_go (by kernel_rfl) rfl (rhalf_c _ _ _ hwb (fy.mono hmy)) fun v9 V11 hV11 h9 => ?_
    simp only [XA]
    exact hK _ ⟨m / 2, by omega, V11, _, StIs.of (by exact rfl), hwa.mono hV11, h9, hwt.mono hV11, by rw [Nat.gcd_comm, gcd_half e1 (by rw [Nat.gcd_comm, hg]; exact hodd), Nat.gcd_comm]; exact hg, by omega, by omega⟩
   ·have b3 : decide (m % 2 = 0) = false := decide_eq_false e1
    simp only [XA, b3]
    refine hK _ ?_
    refine Gx.f rfl ?_
    refine XWP.exit ?_
    exact ⟨V10, _, m, StIs.of (by exact rfl), hwa, hwb, hwt, hg, hmy, hm0⟩
  clear hwa hwb hwt hg hs
  rintro s ⟨V9, wb, y', hs, hwa, hwb, hwt, hg, hyy, hy0⟩
  obtain ⟨z, rfl⟩ := hs.out
  try dsimp only
  have fx' := fx.mono hxx
  have fy' := fy.mono hyy
  refine XWP.cut (fun s => ∃ (V10 : View) (wa wb : Value) (p q : Nat), StIs (fun Z => [.v wa, .v wb, Z 2,Z 3,Z 4,Z 5,Z 6,Z 7,Z 8, .v wt, Z 10,Z 11,Z 12,Z 13,Z 14,Z 15,Z 16,Z 17,Z 18,Z 19,Z 20,Z 21,Z 22,Z 23,Z 24,Z 25,Z 26,Z 27,Z 28,Z 29,Z 30,Z 31,Z 32,Z 33,Z 34,Z 35,Z 36,Z 37,Z 38,Z 39,Z 40,Z 41,Z 42,Z 43,Z 44,Z 45,Z 46,Z 47,Z 48,Z 49,Z 50,Z 51,Z 52,Z 53,Z 54,Z 55,Z 56,Z 57,Z 58,Z 59,Z 60,Z 61,Z 62,Z 63,Z 64,Z 65,Z 66,Z 67,Z 68,Z 69,Z 70,Z 71,Z 72,Z 73,Z 74,Z 75,Z 76,Z 77,Z 78,Z 79,Z 80,Z 81,Z 82,Z 83]) [] (fun _ => none) V10 s ∧ NatC V10 wa p ∧ NatC V10 wb q ∧ NatC V10 wt t ∧ Nat.gcd p q = g ∧ p ≤ q ∧ p ≠ 0 ∧ p + q ≤ n ∧ Fit p ∧ Fit q) ?_ ?_
  ·refine Gx.a (by kernel_rfl) fun K hK => ?_
   simp only [XA]
   refine call_go (by kernel_rfl) rfl (rcompare_c _ _ _ _ _ hwa hwb fx' fy') fun v6 V10 hV10 h6 => ?_
   subst h6
   have hwa := hwa.mono hV10
   have hwb := hwb.mono hV10
   have hwt := hwt.mono hV10
   have ec : decide (0 < cmpI x' y') = decide (y' < x') := by
    rw [decide_eq_decide]
    unfold cmpI
    split
    ·omega
    ·split <;> omega
   by_cases hlt : y' < x'
   ·have b4 : decide (y' < x') = true := decide_eq_true (by omega)
    simp only [XA, XB, ec, b4]
    refine hK _ ?_
    refine Gx.t rfl ?_
    refine Gx.c (by kernel_rfl) fun K hK => ?_
    simp only [XA]
    exact hK _ ⟨V10, _, _, y', x', StIs.of (by exact rfl), hwb, hwa, hwt, by rw [Nat.gcd_comm]; exact hg, by omega, hy0, by omega, fy', fx'⟩
   ·have b4 : decide (y' < x') = false := decide_eq_false (by omega)
    simp only [XA, XB, ec, b4]
    refine hK _ ?_
    refine Gx.f rfl ?_
    refine XWP.skip ?_
    exact ⟨V10, _, _, x', y', StIs.of (by exact rfl), hwa, hwb, hwt, hg, by omega, hx0, by omega, fx', fy'⟩
  clear hwa hwb hwt hg hs
  rintro s ⟨V10, wa, wb, p, q, hs, hwa, hwb, hwt, hg, hpq, hp0, hpn, fp, fq⟩
  obtain ⟨z, rfl⟩ := hs.out
  try dsimp only
  refine Gx.c (by kernel_rfl) fun K hK => ?_
  simp only [XA]
  refine call_go (by kernel_rfl) rfl (rsub_c _ _ _ _ _ hwb hwa fq fp) fun v6 V11 hV11 h6 => ?_
  obtain ⟨r, rfl, hr⟩ := h6.2 hpq
  simp only [XA]
  exact hK _ ⟨p + (q - p), by omega, V11, _, _, p, q - p, StIs.of (by exact rfl), hwa.mono hV11, hr, hwt.mono hV11, by rw [gcd_take hpq]; exact hg, rfl, hp0, fp, fq.mono (Nat.sub_le _ _)⟩
 rintro s ⟨V7, wa', hs, hwa, hwt, fg⟩
 obtain ⟨z, rfl⟩ := hs.out
 try dsimp only
 refine Gx.a (by kernel_rfl) fun K hK => ?_
 simp only [XA]
 refine call_go (by kernel_rfl) rfl (rmul_c _ _ _ _ _ hwa hwt fg ft) fun v6 V8 hV8 h6 => ?_
 simp only [XA]
 refine hK _ (XWP.ret ?_)
 try simp only [thenX_ret, inBlockX_ret]
 refine ret_go _ rfl ?_
 rw [Nat.mul_comm, ht] at h6
 exact h6
end Go.Proofs.YtobjjdnfgamgcaaGreat
end
section
namespace Go.Proofs.YtobjjdnfgamgcaaGreat
def sg (neg : Bool) (a : Nat) : Int := if neg then -(a : Int) else a
def rv (neg : Bool) (a b : Nat) : Rat := mkRat (sg neg a) b
theorem sg_abs (neg : Bool) (a : Nat) : (sg neg a).natAbs = a := by cases neg <;> simp [sg]
theorem sg_neg (neg : Bool) (a : Nat) : decide (sg neg a < 0) = (neg && decide (a ≠ 0)) := by
 cases neg
 ·simp [sg]
 ·simp only [sg, if_true, Bool.true_and]; rw [decide_eq_decide]; omega
theorem sg_mul (m n : Bool) (a b : Nat) : sg m a * sg n b = sg (m != n) (a * b) := by cases m <;> cases n <;> simp [sg, Int.neg_mul, Int.mul_neg]
theorem sg_not (m : Bool) (a : Nat) : -sg m a = sg (!m) a := by cases m <;> simp [sg]
theorem sg_nat (m : Bool) (a b : Nat) : sg m a * (b : Int) = sg m (a * b) := by cases m <;> simp [sg, Int.neg_mul]
theorem sg_add (m : Bool) (a b : Nat) : sg m a + sg m b = sg m (a + b) := by cases m <;> simp [sg] <;> omega
theorem sg_sub (m : Bool) {a b : Nat} (h : b ≤ a) : sg m a + sg (!m) b = sg m (a - b) := by cases m <;> simp [sg] <;> omega
theorem rv_none (m : Bool) (a : Nat) : rv m a 0 = 0 := by unfold rv; simp
theorem rv_num (m : Bool) (a : Nat) {b : Nat} (h : b ≠ 0) : (rv m a b).num = sg m (a / Nat.gcd a b) := by
 unfold rv
 rw [Rat.num_mkRat, if_neg h, sg_abs, Nat.gcd_comm b a]
 have hd : ((Nat.gcd a b : Nat) : Int) ∣ (a : Int) := Int.natCast_dvd_natCast.2 (Nat.gcd_dvd_left a b)
 cases m
 ·simp [sg]
 ·simp only [sg, if_true]; rw [Int.neg_ediv_of_dvd hd]; simp
theorem rv_den (m : Bool) (a : Nat) {b : Nat} (h : b ≠ 0) : (rv m a b).den = b / Nat.gcd a b := by
 unfold rv
 rw [Rat.den_mkRat, if_neg h, sg_abs, Nat.gcd_comm b a]
theorem rv_abs (m : Bool) (a : Nat) {b : Nat} (h : b ≠ 0) : (rv m a b).num.natAbs = a / Nat.gcd a b := by rw [rv_num m a h, sg_abs]
def ng (q : Rat) : Bool := decide (q.num < 0)
theorem rv_ng (m : Bool) (a : Nat) {b : Nat} (h : b ≠ 0) : ng (rv m a b) = (m && decide (a / Nat.gcd a b ≠ 0)) := by
 unfold ng; rw [rv_num m a h, sg_neg]
theorem sg_self (n : Int) : sg (decide (n < 0)) n.natAbs = n := by
 by_cases h : n < 0
 ·simp [sg, h]; omega
 ·simp [sg, h]; omega
theorem rv_self (q : Rat) : rv (ng q) q.num.natAbs q.den = q := by unfold rv ng; rw [sg_self, Rat.mkRat_self]
theorem rv_mul (m n : Bool) (a b c d : Nat) : rv m a b * rv n c d = rv (m != n) (a * c) (b * d) := by
 unfold rv; rw [Rat.mkRat_mul_mkRat, sg_mul]
theorem rv_neg (m : Bool) (a b : Nat) : -rv m a b = rv (!m) a b := by unfold rv; rw [Rat.neg_mkRat, sg_not]
theorem rv_inv (m : Bool) {a b : Nat} (ha : a ≠ 0) : (rv m a b)⁻¹ = rv m b a := by
 unfold rv
 rw [← Rat.divInt_ofNat, ← Rat.divInt_ofNat, Rat.inv_divInt]
 cases m
 ·simp [sg]
 ·simp only [sg, if_true]; rw [← Rat.neg_divInt_neg]; simp
theorem rv_div (m n : Bool) {a b c d : Nat} (hc : c ≠ 0) : rv m a b / rv n c d = rv (m != n) (a * d) (b * c) := by
 rw [Rat.div_def, rv_inv n hc, rv_mul]
theorem rv_add (m : Bool) {a b c d : Nat} (hb : b ≠ 0) (hd : d ≠ 0) : rv m a b + rv m c d = rv m (a * d + c * b) (b * d) := by
 unfold rv; rw [Rat.mkRat_add_mkRat _ _ hb hd, sg_nat, sg_nat, sg_add]
theorem rv_sub (m : Bool) {a b c d : Nat} (hb : b ≠ 0) (hd : d ≠ 0) (h : c * b ≤ a * d) : rv m a b + rv (!m) c d = rv m (a * d - c * b) (b * d) := by
 unfold rv; rw [Rat.mkRat_add_mkRat _ _ hb hd, sg_nat, sg_nat, sg_sub m h]
theorem rat_zero_iff (q : Rat) : q = 0 ↔ q.num.natAbs = 0 := by rw [← Rat.num_eq_zero]; omega
def QB (B : Nat) (q : Rat) : Prop := q.num.natAbs ≤ 2 ^ B ∧ q.den ≤ 2 ^ B
theorem two_mono {a b : Nat} (h : a ≤ b) : 2 ^ a ≤ 2 ^ b := Nat.pow_le_pow_right (by omega) h
theorem two_pos (a : Nat) : 0 < 2 ^ a := Nat.pow_pos (by omega)
theorem QB.mono {A B : Nat} {q : Rat} (h : QB A q) (hB : A ≤ B) : QB B q := ⟨Nat.le_trans h.1 (two_mono hB), Nat.le_trans h.2 (two_mono hB)⟩
theorem QB_rv (m : Bool) {a b B : Nat} (ha : a ≤ 2 ^ B) (hb : b ≤ 2 ^ B) : QB B (rv m a b) := by
 by_cases h : b = 0
 ·subst h; rw [rv_none]; exact ⟨by simp, Nat.succ_le_of_lt (two_pos B)⟩
 ·exact ⟨by rw [rv_abs m a h]; exact Nat.le_trans (Nat.div_le_self _ _) ha, by rw [rv_den m a h]; exact Nat.le_trans (Nat.div_le_self _ _) hb⟩
theorem two_mul_le {A B a b : Nat} (ha : a ≤ 2 ^ A) (hb : b ≤ 2 ^ B) : a * b ≤ 2 ^ (A + B) := by rw [Nat.pow_add]; exact Nat.mul_le_mul ha hb
theorem two_add_le {A a b : Nat} (ha : a ≤ 2 ^ A) (hb : b ≤ 2 ^ A) : a + b ≤ 2 ^ (A + 1) := by rw [Nat.pow_succ]; omega
theorem QB.mul {A B : Nat} {p q : Rat} (hp : QB A p) (hq : QB B q) : QB (A + B) (p * q) := by
 rw [← rv_self p, ← rv_self q, rv_mul]
 exact QB_rv _ (two_mul_le hp.1 hq.1) (two_mul_le hp.2 hq.2)
theorem QB.neg {A : Nat} {p : Rat} (hp : QB A p) : QB A (-p) := by unfold QB; rw [Rat.neg_num, Rat.neg_den, Int.natAbs_neg]; exact hp
theorem QB.inv {A : Nat} {p : Rat} (hp : QB A p) : QB A p⁻¹ := by
 by_cases h : p = 0
 ·subst h; simpa using hp
 ·have h1 : p.num.natAbs ≠ 0 := fun e => h ((rat_zero_iff p).2 e)
  rw [← rv_self p, rv_inv _ h1]
  exact QB_rv _ hp.2 hp.1
theorem QB.div {A B : Nat} {p q : Rat} (hp : QB A p) (hq : QB B q) : QB (A + B) (p / q) := by rw [Rat.div_def]; exact hp.mul hq.inv
theorem QB.add {A B : Nat} {p q : Rat} (hp : QB A p) (hq : QB B q) : QB (A + B + 1) (p + q) := by
 rw [Rat.add_def']
 have h1 := two_mul_le hp.1 hq.2
 have h2 := two_mul_le hq.1 hp.2
 rw [Nat.add_comm B A] at h2
 have h3 : (p.num * q.den + q.num * p.den).natAbs ≤ 2 ^ (A + B + 1) := by
  refine Nat.le_trans (Int.natAbs_add_le _ _) ?_
  rw [Int.natAbs_mul, Int.natAbs_mul, Int.natAbs_natCast, Int.natAbs_natCast]
  exact two_add_le h1 h2
 have h4 := Nat.le_trans (two_mul_le hp.2 hq.2) (two_mono (Nat.le_succ _))
 have e : mkRat (p.num * q.den + q.num * p.den) (p.den * q.den) = rv (decide (p.num * q.den + q.num * p.den < 0)) (p.num * q.den + q.num * p.den).natAbs (p.den * q.den) := by unfold rv; rw [sg_self]
 rw [e]
 exact QB_rv _ h3 h4
theorem QB.sub {A B : Nat} {p q : Rat} (hp : QB A p) (hq : QB B q) : QB (A + B + 1) (p - q) := by rw [Rat.sub_eq_add_neg]; exact hp.add hq.neg
theorem QB_zero (B : Nat) : QB B 0 := ⟨by simp, Nat.succ_le_of_lt (two_pos B)⟩
theorem QB_one (B : Nat) : QB B 1 := ⟨Nat.succ_le_of_lt (two_pos B), Nat.succ_le_of_lt (two_pos B)⟩
theorem sz_two {n B : Nat} (h : n ≤ 2 ^ B) : sz n ≤ B / 32 + 1 := by
 refine sz_le (Nat.lt_of_le_of_lt h ?_)
 have e : BB = 2 ^ 32 := rfl
 rw [e, ← Nat.pow_mul]
 exact Nat.pow_lt_pow_right (by omega) (by omega)
def QF (q : Rat) : Prop := ∃ B, B ≤ 17592186044416 ∧ QB B q
theorem QF.of {B : Nat} {q : Rat} (h : QB B q) (hB : B ≤ 17592186044416) : QF q := ⟨B, hB, h⟩
theorem QF_zero : QF 0 := ⟨0, by omega, QB_zero 0⟩
theorem QF_one : QF 1 := ⟨0, by omega, QB_one 0⟩
theorem QF.neg {q : Rat} (h : QF q) : QF (-q) := by obtain ⟨B, h1, h2⟩ := h; exact ⟨B, h1, h2.neg⟩
end Go.Proofs.YtobjjdnfgamgcaaGreat
end
section
namespace Go.Proofs.YtobjjdnfgamgcaaGreat
open Go Go.RowKit
attribute [local irreducible] XWP Spec SpecO XPub XCall seqX clX apX stX ldX iaX slX
def placesT (P : Program) (t : TypeId) : Option (List (Nat × Nat)) := match P.underlying t with
 | some (.struct fs) => fs.toList.mapM fun f => (P.info? f.type).map fun i => (f.offset, i.size)
 | _ => none
theorem places_run {P : Program} : ∀ (fs : List Field) (L : List (Nat × Nat)), fs.mapM (fun f => (P.info? f.type).map fun i => (f.offset, i.size)) = some L → ∀ w, (fs.mapM (fun f => do pure (f.offset, ← sizeOf f.type) : Field → Sem (Nat × Nat))).run P w = .ok L w
 | [], L, h, w => by simp at h; subst h; rfl
 | f :: fs, L, h, w => by
  rw [List.mapM_cons] at h
  cases hi : P.info? f.type with
  | none => simp [hi] at h
  | some i =>
   cases hr : fs.mapM (fun f => (P.info? f.type).map fun i => (f.offset, i.size)) with
   | none => simp [hi, hr] at h
   | some L' =>
    simp [hi, hr] at h
    subst h
    have := places_run fs L' hr w
    simp at this
    have h1 : ∀ w, (sizeOf f.type).run P w = .ok i.size w := fun w => by simp [sizeOf, typeInfo, hi]
    simp [h1, this]
theorem bd_run {P : Program} {t n b : Nat} {z : List Value} {L : List (Nat × Nat)} {parts : Array (Nat × Value)} {cells : Array Value} (hp : placesT P t = some L) (hz : zeroT P t = some (z, n, b)) (hf : Instr.fill (fun i => L[i]?) z.toArray parts.toList = some cells) : BuildsTo P t parts (.agg cells) := fun w => by
 unfold placesT at hp
 obtain ⟨i, zv, hi, hzv, rfl, rfl, rfl⟩ := zero_parts hz
 cases hu : P.underlying t with
 | none => simp [hu] at hp
 | some d =>
  cases d <;> simp [hu] at hp
  rename_i fs
  have h1 := places_run fs.toList L hp w
  have h2 : (fs.mapM (fun f => do pure (f.offset, ← sizeOf f.type) : Field → Sem (Nat × Nat))).run P w = .ok L.toArray w := by
   rw [Array.mapM_eq_mapM_toList]
   simp at h1
   simp [h1]
  simp at h2
  simp at hf
  simp [Instr.build, zeroValue, typeInfo, hi, hzv, run_und hu, h2, hf]
theorem placesT_49 : placesT Tryz.prog 49 = some [(0, 1), (1, 1), (2, 1)] := by kernel_rfl
theorem bd_rat3 {x y z : Value} (hx : isOne x = true) (hy : isOne y = true) (hz : isOne z = true) : BuildsTo Tryz.prog 49 #[(0, x), (1, y), (2, z)] (.agg #[x, y, z]) := by
 refine bd_run placesT_49 zeroT_49 ?_
 show Instr.fill _ _ [(0, x), (1, y), (2, z)] = _
 rw [fill_one (off := 0) rfl hx (by simp), fill_one (off := 1) rfl hy (by simp), fill_one (off := 2) rfl hz (by simp)]; rfl
theorem bd_rat2 {y z : Value} (hy : isOne y = true) (hz : isOne z = true) : BuildsTo Tryz.prog 49 #[(1, y), (2, z)] (.agg #[.bool false, y, z]) := by
 refine bd_run placesT_49 zeroT_49 ?_
 show Instr.fill _ _ [(1, y), (2, z)] = _
 rw [fill_one (off := 1) rfl hy (by simp), fill_one (off := 2) rfl hz (by simp)]; rfl
theorem bd_rat1 {z : Value} (hz : isOne z = true) : BuildsTo Tryz.prog 49 #[(2, z)] (.agg #[.bool false, .slice none 0 0, z]) := by
 refine bd_run placesT_49 zeroT_49 ?_
 show Instr.fill _ _ [(2, z)] = _
 rw [fill_one (off := 2) rfl hz (by simp)]; rfl
theorem bd_rat0 : BuildsTo Tryz.prog 49 #[] (.agg #[.bool false, .slice none 0 0, .slice none 0 0]) := by
 refine bd_run placesT_49 zeroT_49 ?_
 rfl
theorem NatAt.one {V : View} {v : Value} {ds : List Nat} (h : NatAt V v ds) : isOne v = true := by obtain ⟨A, c, rfl, _⟩ := h.form; rfl
theorem NatC.one {V : View} {v : Value} {n : Nat} (h : NatC V v n) : isOne v = true := NatAt.one h
def RawAt (V : View) (v : Value) (m : Bool) (nd dd : List Nat) : Prop := ∃ n d, v = .agg #[.bool m, n, d] ∧ NatAt V n nd ∧ NatAt V d dd
def TripC (V : View) (v : Value) (m : Bool) (a b : Nat) : Prop := ∃ n d, v = .agg #[.bool m, n, d] ∧ NatC V n a ∧ NatC V d b
def RatC (V : View) (v : Value) (q : Rat) : Prop := TripC V v (ng q) q.num.natAbs q.den
theorem TripC.mono {V V' : View} {v : Value} {m : Bool} {a b : Nat} (h : TripC V v m a b) (hV : V.le V') : TripC V' v m a b := by
 obtain ⟨n, d, e, h1, h2⟩ := h; exact ⟨n, d, e, h1.mono hV, h2.mono hV⟩
theorem RatC.mono {V V' : View} {v : Value} {q : Rat} (h : RatC V v q) (hV : V.le V') : RatC V' v q := TripC.mono h hV
theorem RatC.rv {V : View} {m : Bool} {n d : Value} {a b : Nat} (hb : b ≠ 0) (hn : NatC V n (a / Nat.gcd a b)) (hd : NatC V d (b / Nat.gcd a b)) {m' : Bool} (hm : m' = (m && decide (a / Nat.gcd a b ≠ 0))) : RatC V (.agg #[.bool m', n, d]) (rv m a b) := by
 unfold RatC
 rw [rv_ng m a hb, rv_abs m a hb, rv_den m a hb, ← hm]
 exact ⟨n, d, rfl, hn, hd⟩
theorem Fit.of_two {n B : Nat} (h : n ≤ 2 ^ B) (hB : B ≤ 70368744177664) : Fit n := by
 have := sz_two h
 unfold Fit; omega
theorem QF.fits {q : Rat} (h : QF q) : Fit q.num.natAbs ∧ Fit q.den := by
 obtain ⟨B, hB, h1, h2⟩ := h
 exact ⟨Fit.of_two h1 (by omega), Fit.of_two h2 (by omega)⟩
theorem QF.two {p q : Rat} (hp : QF p) (hq : QF q) : Fit (p.num.natAbs * q.num.natAbs) ∧ Fit (p.num.natAbs * q.den) ∧ Fit (p.den * q.num.natAbs) ∧ Fit (p.den * q.den) ∧ Fit (q.num.natAbs * p.den) ∧ Fit (p.num.natAbs * q.den + q.num.natAbs * p.den) := by
 obtain ⟨A, hA, a1, a2⟩ := hp
 obtain ⟨B, hB, b1, b2⟩ := hq
 have h1 := two_mul_le a1 b2
 have h2 := two_mul_le b1 a2
 rw [Nat.add_comm B A] at h2
 exact ⟨Fit.of_two (two_mul_le a1 b1) (by omega), Fit.of_two h1 (by omega), Fit.of_two (two_mul_le a2 b1) (by omega), Fit.of_two (two_mul_le a2 b2) (by omega), Fit.of_two h2 (by omega), Fit.of_two (two_add_le h1 h2) (by omega)⟩
section
variable {ops : Array Oper} {rest : List Oper} {K : XS → Prop} {s : XS} {d : Option Tmp}
theorem st_rat {i : Nat} {m : Value} {n e : Value} {vs : List Value} (hb : s.bx[i]? = some vs) (hl : vs.length = 3) (h0 : isOne m = true) (h1 : isOne n = true) (h2 : isOne e = true) (h : seqX Tryz.prog ops rest K (XS.put ⟨s.t, s.bx.set i [m, n, e], s.H, s.V⟩ d (.v undef))) : stX Tryz.prog ops rest K s d 49 (.p i 0) (.v (.agg #[m, n, e])) := by
 refine st_agg (cs := [m, n, e]) shapeT_49 hb rfl ⟨rfl, by simp [h0, h1, h2], by omega, ?_⟩
 have : splice vs 0 [m, n, e] = [m, n, e] := by
  unfold splice; simp [hl]
 rw [this]; exact h
theorem ret_rat1 {t i : Nat} {R : Value → View → Prop} {vs : List Value} (ht : s.t[t]? = some (.p i 0)) (hb : s.bx[i]? = some vs) (hl : vs.length = 3) (hR : R (.agg vs.toArray) s.V) : XPost Tryz.prog [.cell t 49] R .ret s := by
 refine ret_go [.agg vs.toArray] ?_ hR
 simp [resAll, resV, cellsV, ht, hb, shapeT_49, hl]
theorem ret_rat2 {t i k : Nat} {R : Value → View → Prop} {vs : List Value} {e : Value} (ht : s.t[t]? = some (.p i 0)) (hb : s.bx[i]? = some vs) (hk : s.t[k]? = some (.v e)) (hl : vs.length = 3) (hR : R (.tuple #[.agg vs.toArray, e]) s.V) : XPost Tryz.prog [.cell t 49, .tmp k] R .ret s := by
 refine ret_go [.agg vs.toArray, e] ?_ hR
 simp [resAll, resV, cellsV, ht, hb, hk, shapeT_49, hl]
end
theorem cmp_zero (a : Nat) : decide (cmpI a 0 = 0) = decide (a = 0) := by
 rw [decide_eq_decide]
 unfold cmpI
 split
 ·omega
 ·split <;> omega
theorem len_pos (a : Nat) : decide ((0 : Int) < ((dg a).length : Int)) = decide (a ≠ 0) := by
 rw [decide_eq_decide]
 constructor
 ·intro h e; subst e; rw [dg_zero] at h; simp at h
 ·intro h; have := sz_pos h; unfold sz at this; omega
theorem len_zero (a : Nat) : decide (((dg a).length : Int) = 0) = decide (a = 0) := by
 rw [decide_eq_decide]
 constructor
 ·intro h; exact sz_eq_zero (by unfold sz; omega)
 ·intro h; subst h; rw [dg_zero]; rfl
theorem qof_c (V : View) (m : Bool) (n d : Value) (a b : Nat) (hn : NatC V n a) (hd : NatC V d b) (fa : Fit a) (fb : Fit b) : Spec Tryz.prog 131 [.bool m, n, d] V fun v' V' => (b = 0 → v' = .tuple #[.agg #[.bool false, .slice none 0 0, .slice none 0 0], .int .i64 31]) ∧ (b ≠ 0 → ∃ r, v' = .tuple #[r, .int .i64 0] ∧ RatC V' r (rv m a b)) := by
 refine (Spec.enter Tryz.func131 rfl fun Γ => ?_)
 simp only [Tryz.ntmps131, List.map_cons, List.map_nil, List.length_cons, List.length_nil, Nat.reduceAdd, Nat.reduceSub, List.replicate_succ, List.replicate_zero, List.cons_append, List.nil_append]
 refine Gx.a (by kernel_rfl) fun K hK => ?_
 simp only [XA, XB]
 refine hK _ ?_
 refine Gx.a (by kernel_rfl) fun K hK => ?_
 simp only [XA]
 refine call_go (by kernel_rfl) rfl (gcd_c _ _ _ _ _ hn hd fa fb) fun v1 V1 hV1 h1 => ?_
 have hn := hn.mono hV1
 have hd := hd.mono hV1
 simp only [XA]
 refine hK _ ?_
 refine XWP.seq ?_
 refine Gx.a (by kernel_rfl) fun K hK => ?_
 simp only [XA]
 refine call_go (by kernel_rfl) rfl (compare_c _ _ _ _ _ hd (NatC.zero _)) fun v2 V2 hV2 h2 => ?_
 subst h2
 have hn := hn.mono hV2
 have hd := hd.mono hV2
 have h1 := h1.mono hV2
 by_cases hb : b = 0
 ·have b1 : decide (b = 0) = true := decide_eq_true (by omega)
  simp only [XA, XB, cmp_zero, b1]
  refine hK _ ?_
  refine Gx.t rfl ?_
  refine Gx.a (by kernel_rfl) fun K hK => ?_
  refine bd_go (by kernel_rfl) #[] (by simp) bd_rat0 ?_
  simp only [XA]
  refine st_rat rfl rfl rfl rfl rfl ?_
  simp only [XA]
  refine hK _ (XWP.ret ?_)
  try simp only [thenX_ret, inBlockX_ret]
  refine ret_rat2 rfl rfl rfl rfl ?_
  exact ⟨fun _ => rfl, fun h => absurd hb h⟩
 ·have b1 : decide (b = 0) = false := decide_eq_false (by omega)
  simp only [XA, XB, cmp_zero, b1]
  refine hK _ ?_
  refine Gx.f rfl ?_
  refine XWP.skip ?_
  have hg : Nat.gcd a b ≠ 0 := fun e => hb (Nat.gcd_eq_zero_iff.1 e).2
  have fg : Fit (Nat.gcd a b) := fb.mono (Nat.gcd_le_right _ (by omega))
  refine Gx.a (by kernel_rfl) fun K hK => ?_
  simp only [XA]
  refine call_go (by kernel_rfl) rfl (div_c _ _ _ _ _ hn h1 fa fg) fun v3 V3 hV3 h3 => ?_
  obtain ⟨q3, r3, rfl, hq3, hr3⟩ := h3.2 hg
  have hd := hd.mono hV3
  have h1 := h1.mono hV3
  simp only [XA]
  refine hK _ ?_
  refine Gx.a (by kernel_rfl) fun K hK => ?_
  simp only [XA]
  refine call_go (by kernel_rfl) rfl (div_c _ _ _ _ _ hd h1 fb fg) fun v4 V4 hV4 h4 => ?_
  obtain ⟨q4, r4, rfl, hq4, hr4⟩ := h4.2 hg
  have hq3 := hq3.mono hV4
  simp only [XA]
  refine hK _ ?_
  obtain ⟨A3, c3, rfl, _, _⟩ := NatAt.form hq3
  obtain ⟨A4, c4, rfl, _, _⟩ := NatAt.form hq4
  refine Gx.a (by kernel_rfl) fun K hK => ?_
  cases m
  ·simp only [XA, gateX, ↓reduceIte]
   refine bd_go (by kernel_rfl) #[(0, .bool false), (1, .slice A3 (dg (a / Nat.gcd a b)).length c3), (2, .slice A4 (dg (b / Nat.gcd a b)).length c4)] (by simp [ev_tmp, SV.val]) (bd_rat3 rfl rfl rfl) ?_
   simp only [XA]
   refine st_rat rfl rfl rfl rfl rfl ?_
   simp only [XA]
   refine hK _ (XWP.ret ?_)
   try simp only [thenX_ret, inBlockX_ret]
   refine ret_rat2 rfl rfl rfl rfl ?_
   exact ⟨fun h => absurd h hb, fun _ => ⟨_, rfl, RatC.rv hb hq3 hq4 rfl⟩⟩
  ·simp only [XA, XB, gateX, ↓reduceIte, beq_self_eq_true, len_pos]
   refine bd_go (by kernel_rfl) #[(0, .bool (decide (a / Nat.gcd a b ≠ 0))), (1, .slice A3 (dg (a / Nat.gcd a b)).length c3), (2, .slice A4 (dg (b / Nat.gcd a b)).length c4)] (by simp [ev_tmp, SV.val]) (bd_rat3 rfl rfl rfl) ?_
   simp only [XA]
   refine st_rat rfl rfl rfl rfl rfl ?_
   simp only [XA]
   refine hK _ (XWP.ret ?_)
   try simp only [thenX_ret, inBlockX_ret]
   refine ret_rat2 rfl rfl rfl rfl ?_
   exact ⟨fun h => absurd h hb, fun _ => ⟨_, rfl, RatC.rv hb hq3 hq4 (by simp)⟩⟩
theorem qzero_c (V : View) : Spec Tryz.prog 66 [] V fun v' V' => RatC V' v' 0 := by
 refine (Spec.enter Tryz.func66 rfl fun Γ => ?_)
 simp only [Tryz.ntmps66, List.map_nil, List.length_nil, Nat.reduceSub, List.replicate_succ, List.replicate_zero, List.nil_append]
 refine Gx.a (by kernel_rfl) fun K hK => ?_
 simp only [XA, XB]
 refine hK _ ?_
 refine Gx.a (by kernel_rfl) fun K hK => ?_
 simp only [XA]
 refine call_go (by kernel_rfl) rfl (of_c _ 1 (by omega)) fun v1 V1 hV1 h1 => ?_
 simp only [XA]
 refine bd_go (by kernel_rfl) #[(2, v1)] (by simp [ev_tmp, SV.val]) (bd_rat1 h1.one) ?_
 simp only [XA]
 refine st_rat rfl rfl rfl rfl h1.one ?_
 simp only [XA]
 refine hK _ (XWP.ret ?_)
 try simp only [thenX_ret, inBlockX_ret]
 refine ret_rat1 rfl rfl rfl ?_
 exact ⟨_, _, rfl, NatC.zero _, h1⟩
theorem qone_c (V : View) : Spec Tryz.prog 51 [] V fun v' V' => RatC V' v' 1 := by
 refine (Spec.enter Tryz.func51 rfl fun Γ => ?_)
 simp only [Tryz.ntmps51, List.map_nil, List.length_nil, Nat.reduceSub, List.replicate_succ, List.replicate_zero, List.nil_append]
 refine Gx.a (by kernel_rfl) fun K hK => ?_
 simp only [XA, XB]
 refine hK _ ?_
 refine Gx.a (by kernel_rfl) fun K hK => ?_
 simp only [XA]
 refine call_go (by kernel_rfl) rfl (of_c _ 1 (by omega)) fun v1 V1 hV1 h1 => ?_
 simp only [XA]
 refine call_go (by kernel_rfl) rfl (of_c _ 1 (by omega)) fun v2 V2 hV2 h2 => ?_
 have h1 := h1.mono hV2
 simp only [XA]
 refine bd_go (by kernel_rfl) #[(1, v1), (2, v2)] (by simp [ev_tmp, SV.val]) (bd_rat2 h1.one h2.one) ?_
 simp only [XA]
 refine st_rat rfl rfl rfl h1.one h2.one ?_
 simp only [XA]
 refine hK _ (XWP.ret ?_)
 try simp only [thenX_ret, inBlockX_ret]
 refine ret_rat1 rfl rfl rfl ?_
 exact ⟨_, _, rfl, h1, h2⟩
theorem qmade_c (V : View) (m : Bool) (n d : Value) (a b : Nat) (hn : NatC V n a) (hd : NatC V d b) (fa : Fit a) (fb : Fit b) : Spec Tryz.prog 106 [.bool m, n, d] V fun v' V' => RatC V' v' (rv m a b) := by
 refine (Spec.enter Tryz.func106 rfl fun Γ => ?_)
 simp only [Tryz.ntmps106, List.map_cons, List.map_nil, List.length_cons, List.length_nil, Nat.reduceAdd, Nat.reduceSub, List.replicate_succ, List.replicate_zero, List.cons_append, List.nil_append]
 refine Gx.a (by kernel_rfl) fun K hK => ?_
 simp only [XA, XB]
 refine hK _ ?_
 refine Gx.a (by kernel_rfl) fun K hK => ?_
 simp only [XA]
 refine call_go (by kernel_rfl) rfl (qof_c _ _ _ _ _ _ hn hd fa fb) fun v1 V1 hV1 h1 => ?_
 by_cases hb : b = 0
 ·obtain rfl := h1.1 hb
  subst hb
  simp only [XA, XB]
  refine st_rat rfl rfl rfl rfl rfl ?_
  simp only [XA]
  refine hK _ ?_
  have b1 : decide ((31 : Int) = 0) = false := decide_eq_false (by omega)
  refine XWP.seq ?_
  refine Gx.a (by kernel_rfl) fun K hK => ?_
  simp only [XA, XB, b1]
  refine hK _ ?_
  refine Gx.t rfl ?_
  refine Gx.a (by kernel_rfl) fun K hK => ?_
  simp only [XA]
  refine call_go (by kernel_rfl) rfl (qzero_c _) fun v2 V2 hV2 h2 => ?_
  obtain ⟨x, y, rfl, hx, hy⟩ := h2
  simp only [XA]
  refine st_rat rfl rfl rfl hx.one hy.one ?_
  simp only [XA]
  refine hK _ (XWP.ret ?_)
  try simp only [thenX_ret, inBlockX_ret]
  refine ret_rat1 rfl rfl rfl ?_
  rw [rv_none]
  exact ⟨_, _, rfl, hx, hy⟩
 ·obtain ⟨r, rfl, x, y, rfl, hx, hy⟩ := h1.2 hb
  simp only [XA, XB]
  refine st_rat rfl rfl rfl hx.one hy.one ?_
  simp only [XA]
  refine hK _ ?_
  have b1 : decide ((0 : Int) = 0) = true := decide_eq_true (by omega)
  refine XWP.seq ?_
  refine Gx.a (by kernel_rfl) fun K hK => ?_
  simp only [XA, XB]
  refine hK _ ?_
  refine Gx.f rfl ?_
  refine XWP.skip ?_
  refine Gx.a (by kernel_rfl) fun K hK => ?_
  simp only [XA, XB, Nat.reduceAdd, Nat.reduceLeDiff, ↓reduceIte]
  refine st_rat rfl rfl rfl hx.one hy.one ?_
  simp only [XA]
  refine hK _ (XWP.ret ?_)
  try simp only [thenX_ret, inBlockX_ret]
  refine ret_rat1 rfl rfl rfl ?_
  exact ⟨_, _, rfl, hx, hy⟩
def sgI (q : Rat) : Int := if q = 0 then 0 else if ng q then -1 else 1
theorem sgI_zero (q : Rat) : decide (sgI q = 0) = decide (q = 0) := by
 rw [decide_eq_decide]; unfold sgI
 split
 ·simp [*]
 ·split <;> simp [*]
theorem qsign_c (V : View) (v : Value) (q : Rat) (h : RatC V v q) : Spec Tryz.prog 95 [v] V fun v' V' => v' = .int .i64 (sgI q) := by
 obtain ⟨n, d, rfl, hn, hd⟩ := h
 refine (Spec.enter Tryz.func95 rfl fun Γ => ?_)
 simp only [Tryz.ntmps95, List.map_cons, List.map_nil, List.length_cons, List.length_nil, Nat.reduceAdd, Nat.reduceSub, List.replicate_succ, List.replicate_zero, List.cons_append, List.nil_append]
 refine Gx.a (by kernel_rfl) fun K hK => ?_
 simp only [XA]
 refine hK _ ?_
 have hq := rat_zero_iff q
 refine XWP.seq ?_
 refine XWP.block ?_
 refine Gx.a (by kernel_rfl) fun K hK => ?_
 simp only [XA, XB]
 refine call_go (by kernel_rfl) rfl (compare_c _ _ _ _ _ hn (NatC.zero _)) fun v1 V1 hV1 h1 => ?_
 subst h1
 by_cases h0 : q.num.natAbs = 0
 ·have b1 : decide (q.num.natAbs = 0) = true := decide_eq_true (by omega)
  simp only [XA, XB, gateX, ↓reduceIte, cmp_zero, b1]
  refine hK _ ?_
  refine Gx.t rfl ?_
  refine Gx.a (by kernel_rfl) fun K hK => ?_
  simp only [XA]
  refine hK _ (XWP.ret ?_)
  try simp only [thenX_ret, inBlockX_ret]
  refine ret_go _ rfl ?_
  unfold sgI; rw [if_pos (hq.2 h0)]; rfl
 ·have b1 : decide (q.num.natAbs = 0) = false := decide_eq_false (by omega)
  simp only [XA, XB, gateX, ↓reduceIte, beq_self_eq_true, cmp_zero, b1]
  refine call_go (by kernel_rfl) rfl (compare_c _ _ _ _ _ (hd.mono hV1) (NatC.zero _)) fun v2 V2 hV2 h2 => ?_
  subst h2
  have b2 : decide (q.den = 0) = false := decide_eq_false q.den_nz
  simp only [XA, XB, gateX, ↓reduceIte, beq_self_eq_true, cmp_zero, b2]
  refine hK _ ?_
  refine Gx.f rfl ?_
  refine Gx.a (by kernel_rfl) fun K hK => ?_
  cases hng : ng q
  ·simp only [XA, XB]
   refine hK _ ?_
   refine Gx.f rfl ?_
   refine XWP.skip ?_
   refine Gx.a (by kernel_rfl) fun K hK => ?_
   simp only [XA]
   refine hK _ (XWP.ret ?_)
   try simp only [thenX_ret, inBlockX_ret]
   refine ret_go _ rfl ?_
   unfold sgI; rw [if_neg (fun e => h0 (hq.1 e)), hng]; rfl
  ·simp only [XA, XB]
   refine hK _ ?_
   refine Gx.t rfl ?_
   refine Gx.a (by kernel_rfl) fun K hK => ?_
   simp only [XA]
   refine hK _ (XWP.ret ?_)
   try simp only [thenX_ret, inBlockX_ret]
   refine ret_go _ rfl ?_
   unfold sgI; rw [if_neg (fun e => h0 (hq.1 e)), hng]; rfl
theorem qneg_c (V : View) (v : Value) (q : Rat) (h : RatC V v q) (f : QF q) : Spec Tryz.prog 101 [v] V fun v' V' => RatC V' v' (-q) := by
 obtain ⟨n, d, rfl, hn, hd⟩ := h
 refine (Spec.enter Tryz.func101 rfl fun Γ => ?_)
 simp only [Tryz.ntmps101, List.map_cons, List.map_nil, List.length_cons, List.length_nil, Nat.reduceAdd, Nat.reduceSub, List.replicate_succ, List.replicate_zero, List.cons_append, List.nil_append]
 refine Gx.a (by kernel_rfl) fun K hK => ?_
 simp only [XA, XB]
 refine hK _ ?_
 refine Gx.a (by kernel_rfl) fun K hK => ?_
 simp only [XA, XB]
 refine call_go (by kernel_rfl) rfl (qmade_c _ _ _ _ _ _ hn hd f.fits.1 f.fits.2) fun v1 V1 hV1 h1 => ?_
 rw [← rv_neg, rv_self] at h1
 obtain ⟨x, y, rfl, hx, hy⟩ := h1
 simp only [XA]
 refine st_rat rfl rfl rfl hx.one hy.one ?_
 simp only [XA]
 refine hK _ (XWP.ret ?_)
 try simp only [thenX_ret, inBlockX_ret]
 exact ret_rat1 rfl rfl rfl ⟨_, _, rfl, hx, hy⟩
theorem bne_eq (a b : Bool) : (!(a == b)) = (a != b) := rfl
theorem qmul_c (V : View) (v u : Value) (p q : Rat) (hv : RatC V v p) (hu : RatC V u q) (fp : QF p) (fq : QF q) : Spec Tryz.prog 60 [v, u] V fun v' V' => RatC V' v' (p * q) := by
 obtain ⟨n1, d1, rfl, hn1, hd1⟩ := hv
 obtain ⟨n2, d2, rfl, hn2, hd2⟩ := hu
 obtain ⟨f1, f2, f3, f4, f5, f6⟩ := QF.two fp fq
 refine (Spec.enter Tryz.func60 rfl fun Γ => ?_)
 simp only [Tryz.ntmps60, List.map_cons, List.map_nil, List.length_cons, List.length_nil, Nat.reduceAdd, Nat.reduceSub, List.replicate_succ, List.replicate_zero, List.cons_append, List.nil_append]
 refine Gx.a (by kernel_rfl) fun K hK => ?_
 simp only [XA, XB, Nat.reduceAdd]
 refine hK _ ?_
 (refine XWP.drw [0, 1, 2, 3, 4, 5, 6, 7, 8, 10, 11, 12, 13, 9, 14, 15, 16] (by kernel_rfl) (by kernel_rfl) (by kernel_rfl) fun K hK => ?_) <;> dsimp only [pickOps, List.getElem?_cons_zero, List.getElem?_cons_succ]
 simp only [XA, XB]
 refine call_go (by kernel_rfl) rfl (mul_c _ _ _ _ _ hn1 hn2 fp.fits.1 fq.fits.1) fun v1 V1 hV1 h1 => ?_
 simp only [XA]
 refine call_go (by kernel_rfl) rfl (mul_c _ _ _ _ _ (hd1.mono hV1) (hd2.mono hV1) fp.fits.2 fq.fits.2) fun v2 V2 hV2 h2 => ?_
 simp only [XA, bne_eq]
 refine call_go (by kernel_rfl) rfl (qmade_c _ _ _ _ _ _ (h1.mono hV2) h2 f1 f4) fun v3 V3 hV3 h3 => ?_
 rw [← rv_mul, rv_self, rv_self] at h3
 obtain ⟨x, y, rfl, hx, hy⟩ := h3
 simp only [XA]
 refine st_rat rfl rfl rfl hx.one hy.one ?_
 simp only [XA]
 refine hK _ (XWP.ret ?_)
 try simp only [thenX_ret, inBlockX_ret]
 exact ret_rat1 rfl rfl rfl ⟨_, _, rfl, hx, hy⟩
theorem qdiv_c (V : View) (v u : Value) (p q : Rat) (hv : RatC V v p) (hu : RatC V u q) (fp : QF p) (fq : QF q) : Spec Tryz.prog 107 [v, u] V fun v' V' => (q = 0 → v' = .tuple #[.agg #[.bool false, .slice none 0 0, .slice none 0 0], .int .i64 31]) ∧ (q ≠ 0 → ∃ r, v' = .tuple #[r, .int .i64 0] ∧ RatC V' r (p / q)) := by
 have hu0 := hu
 obtain ⟨n1, d1, rfl, hn1, hd1⟩ := hv
 obtain ⟨n2, d2, rfl, hn2, hd2⟩ := hu
 obtain ⟨f1, f2, f3, f4, f5, f6⟩ := QF.two fp fq
 have hz := rat_zero_iff q
 refine (Spec.enter Tryz.func107 rfl fun Γ => ?_)
 simp only [Tryz.ntmps107, List.map_cons, List.map_nil, List.length_cons, List.length_nil, Nat.reduceAdd, Nat.reduceSub, List.replicate_succ, List.replicate_zero, List.cons_append, List.nil_append]
 refine Gx.a (by kernel_rfl) fun K hK => ?_
 simp only [XA, XB, Nat.reduceAdd]
 refine hK _ ?_
 refine XWP.seq ?_
 refine Gx.a (by kernel_rfl) fun K hK => ?_
 simp only [XA, XB, Nat.reduceAdd, Nat.reduceLeDiff, ↓reduceIte]
 refine call_go (by kernel_rfl) rfl (qsign_c _ _ _ hu0) fun v0 V0 hV0 h0 => ?_
 subst h0
 by_cases hq : q = 0
 ·have b1 : decide (q = 0) = true := decide_eq_true hq
  simp only [XA, XB, sgI_zero, b1]
  refine hK _ ?_
  refine Gx.t rfl ?_
  refine Gx.a (by kernel_rfl) fun K hK => ?_
  refine bd_go (by kernel_rfl) #[] (by simp) bd_rat0 ?_
  simp only [XA]
  refine st_rat rfl rfl rfl rfl rfl ?_
  simp only [XA]
  refine hK _ (XWP.ret ?_)
  try simp only [thenX_ret, inBlockX_ret]
  exact ret_rat2 rfl rfl rfl rfl ⟨fun _ => rfl, fun h => absurd hq h⟩
 ·have b1 : decide (q = 0) = false := decide_eq_false hq
  simp only [XA, XB, sgI_zero, b1]
  refine hK _ ?_
  refine Gx.f rfl ?_
  refine XWP.skip ?_
  (refine XWP.drw [0, 1, 2, 3, 4, 5, 6, 7, 8, 10, 11, 12, 13, 9, 14, 15, 16, 17] (by kernel_rfl) (by kernel_rfl) (by kernel_rfl) fun K hK => ?_) <;> dsimp only [pickOps, List.getElem?_cons_zero, List.getElem?_cons_succ]
  simp only [XA, XB]
  refine call_go (by kernel_rfl) rfl (mul_c _ _ _ _ _ (hn1.mono hV0) (hd2.mono hV0) fp.fits.1 fq.fits.2) fun v1 V1 hV1 h1 => ?_
  simp only [XA]
  refine call_go (by kernel_rfl) rfl (mul_c _ _ _ _ _ ((hd1.mono hV0).mono hV1) ((hn2.mono hV0).mono hV1) fp.fits.2 fq.fits.1) fun v2 V2 hV2 h2 => ?_
  simp only [XA, bne_eq]
  refine call_go (by kernel_rfl) rfl (qmade_c _ _ _ _ _ _ (h1.mono hV2) h2 f2 f3) fun v3 V3 hV3 h3 => ?_
  rw [← rv_div _ _ (fun e => hq (hz.2 e)), rv_self, rv_self] at h3
  obtain ⟨x, y, rfl, hx, hy⟩ := h3
  simp only [XA]
  refine st_rat rfl rfl rfl hx.one hy.one ?_
  simp only [XA]
  refine hK _ (XWP.ret ?_)
  try simp only [thenX_ret, inBlockX_ret]
  exact ret_rat2 rfl rfl rfl rfl ⟨fun h => absurd h hq, fun _ => ⟨_, rfl, _, _, rfl, hx, hy⟩⟩
end Go.Proofs.YtobjjdnfgamgcaaGreat
end
