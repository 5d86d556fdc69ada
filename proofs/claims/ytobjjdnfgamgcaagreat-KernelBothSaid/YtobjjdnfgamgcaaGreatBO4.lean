/- The composition and every mixture of two kernels leave the posterior invariant, at every input. (part 4 of 13) -/
import Derived.OrdersHeld
import Derived.Below
import Derived.Tactics
import Derived.KernelRfl
import Derived.RangeFuncCalls
import Derived.RangeFuncFrom
import Derived.RangeFuncLeaves
import Derived.OrdersIn
import Derived.Laws.AppendOwn
import Derived.Laws.MakeOwn
import Derived.Laws.CopyRow
import Derived.Laws.Cells
import Derived.Laws.World
import Derived.Laws.Alloc2
import Derived.Laws.NewBlocks
import Derived.Maps.AppendAt
import Derived.Test.YtobjjdnfgamgcaaGreatProg
import Init.Data.List.Lemmas
import Init.Omega
import Derived.Test.YtobjjdnfgamgcaaGreatBO3
set_option linter.unusedVariables false
set_option linter.unusedSimpArgs false
section
namespace Go.Proofs.YtobjjdnfgamgcaaGreat
open Go Go.RowKit
attribute [local irreducible] XWP Spec SpecO XPub XCall seqX clX apX stX ldX iaX slX
theorem and_mask (t : Nat) (h : t < 18446744073709551616) : andI .u64 (t : Int) 4294967295 = ((t % BB : Nat) : Int) := by
 show IntKind.u64.wrap (((BitVec.ofInt 64 (t : Int) &&& BitVec.ofInt 64 4294967295).toNat : Nat) : Int) = _
 have e0 : (4294967295 : Int) = ((4294967295 : Nat) : Int) := rfl
 have e3 : (BitVec.ofNat 64 t &&& BitVec.ofNat 64 4294967295).toNat = t % BB := by
  rw [BitVec.toNat_and, BitVec.toNat_ofNat, BitVec.toNat_ofNat, Nat.mod_eq_of_lt (by omega), Nat.mod_eq_of_lt (by omega)]
  have : (4294967295 : Nat) = 2 ^ 32 - 1 := rfl
  rw [this, Nat.and_two_pow_sub_one_eq_mod]; rfl
 have hm := Nat.mod_lt t BB_pos
 unfold BB at *
 rw [e0, BitVec.ofInt_natCast, BitVec.ofInt_natCast, e3]
 exact w64_id (by omega) (by omega)
theorem sub_last (x y : Nat) (hx : x < BB) (hy : y ≤ BB) : IntKind.u32.wrap (IntKind.u64.wrap ((x : Int) - (y : Int))) = ((subD x y : Nat) : Int) := by
 obtain ⟨_, h2, _⟩ := subD_eq hx hy
 unfold subD at *
 by_cases h : x < y
 ·rw [if_pos h] at *
  have e : IntKind.u64.wrap ((x : Int) - (y : Int)) = ((x + 18446744073709551616 - y : Nat) : Int) := by
   unfold BB at *
   simp [IntKind.wrap, IntKind.bits, IntKind.signed]; omega
  rw [e, w32_mod]
  unfold BB at *
  omega
 ·rw [if_neg h] at *
  have e : IntKind.u64.wrap ((x : Int) - (y : Int)) = ((x - y : Nat) : Int) := by
   unfold BB at *
   rw [w64_id (by omega) (by omega)]; omega
  rw [e, w32_mod, Nat.mod_eq_of_lt h2]
theorem u64_sub (a b : Nat) (h : b ≤ a) (h2 : a < 18446744073709551616) : IntKind.u64.wrap ((a : Int) - (b : Int)) = ((a - b : Nat) : Int) := by
 rw [w64_id (by omega) (by omega)]; omega
theorem i64_sub (a b : Nat) (h : b ≤ a) (h2 : a ≤ 9223372036854775807) : IntKind.i64.wrap ((a : Int) - (b : Int)) = ((a - b : Nat) : Int) := by
 rw [wrap_id (by omega) (by omega)]; omega
theorem sub_mid (x y : Nat) (hx : x < BB) (hy : y ≤ BB) : IntKind.u32.wrap (IntKind.u64.wrap (IntKind.u64.wrap ((x : Int) + ((subB x y * BB : Nat) : Int)) - (y : Int))) = ((subD x y : Nat) : Int) := by
 obtain ⟨h1, h2⟩ := sub_digit x y (subB x y) hx hy rfl
 rw [h1, h2]; rfl
theorem i64_pred (n : Nat) (h : 1 ≤ n) (h2 : n ≤ 9223372036854775807) : IntKind.i64.wrap ((n : Int) - 1) = ((n - 1 : Nat) : Int) := by
 rw [wrap_id (by omega) (by omega)]; omega
theorem i64_sub2 (n : Nat) (h : 2 ≤ n) (h2 : n ≤ 9223372036854775807) : IntKind.i64.wrap ((n : Int) - 2) = ((n - 2 : Nat) : Int) := by
 rw [wrap_id (by omega) (by omega)]; omega
theorem u64_small (n : Nat) (h : n < 18446744073709551616) : IntKind.u64.wrap (n : Int) = (n : Int) := w64_id (by omega) (by omega)
set_option maxRecDepth 100000 in
set_option maxHeartbeats 0 in
theorem div_c (V : View) (v u : Value) (a b : Nat) (hv : NatC V v a) (hu : NatC V u b) (fa : Fit a) (fb : Fit b) : Spec Tryz.prog 129 [v, u] V fun v' V' => (b = 0 → v' = .tuple #[.slice none 0 0, .slice none 0 0, .int .i64 31]) ∧ (b ≠ 0 → ∃ q r, v' = .tuple #[q, r, .int .i64 0] ∧ NatC V' q (a / b) ∧ NatC V' r (a % b)) := by
 obtain ⟨A0, c0, rfl, hc0, hm0⟩ := NatAt.form hv
 obtain ⟨A1, c1, rfl, hc1, hm1⟩ := NatAt.form hu
 refine (Spec.enter Tryz.func129 rfl fun Γ => ?_)
 simp only [Tryz.ntmps129, List.map_cons, List.map_nil, List.length_cons, List.length_nil, Nat.reduceAdd, Nat.reduceSub, List.replicate_succ, List.replicate_zero, List.cons_append, List.nil_append]
 refine Gx.a (by kernel_rfl) fun K hK => ?_
 simp only [XA]
 refine hK _ ?_
 refine Gx.a (by kernel_rfl) fun K hK => ?_
 simp only [XA]
 refine call_go (by kernel_rfl) rfl (trim_c _ _ _ hv) fun v1 V1 hV1 h1 => ?_
 obtain ⟨A, c, rfl, hc, hm⟩ := NatAt.form h1
 simp only [XA]
 refine call_go (by kernel_rfl) rfl (trim_c _ _ _ (hu.mono hV1)) fun v2 V2 hV2 h2 => ?_
 obtain ⟨A', c', rfl, hc', hm'⟩ := NatAt.form h2
 have h1 := h1.mono hV2
 have la := fa.len
 have lb := fb.len
 clear hv hu hc0 hc1 hm0 hm1
 simp only [XA]
 refine hK _ ?_
 clear hK
 refine XWP.cut (fun s => ∃ V3, StIs (fun Z => [.v (.slice A (dg a).length c), .v (.slice A' (dg b).length c'), Z 2,Z 3,Z 4,Z 5,Z 6,Z 7,Z 8,Z 9,Z 10,Z 11,Z 12,Z 13,Z 14,Z 15,Z 16,Z 17,Z 18,Z 19,Z 20,Z 21,Z 22,Z 23,Z 24,Z 25,Z 26,Z 27,Z 28,Z 29,Z 30,Z 31,Z 32,Z 33,Z 34,Z 35,Z 36,Z 37,Z 38,Z 39,Z 40,Z 41,Z 42,Z 43,Z 44,Z 45,Z 46,Z 47,Z 48,Z 49,Z 50,Z 51,Z 52,Z 53,Z 54,Z 55,Z 56,Z 57,Z 58,Z 59,Z 60,Z 61,Z 62,Z 63,Z 64,Z 65,Z 66,Z 67,Z 68,Z 69,Z 70,Z 71,Z 72,Z 73,Z 74,Z 75,Z 76,Z 77,Z 78,Z 79,Z 80,Z 81,Z 82,Z 83,Z 84,Z 85,Z 86,Z 87,Z 88,Z 89,Z 90,Z 91,Z 92,Z 93,Z 94,Z 95,Z 96,Z 97,Z 98,Z 99,Z 100,Z 101,Z 102,Z 103,Z 104,Z 105,Z 106,Z 107,Z 108,Z 109,Z 110,Z 111,Z 112,Z 113,Z 114,Z 115,Z 116,Z 117,Z 118,Z 119,Z 120,Z 121,Z 122,Z 123,Z 124,Z 125,Z 126,Z 127,Z 128,Z 129,Z 130,Z 131,Z 132,Z 133,Z 134,Z 135,Z 136,Z 137,Z 138,Z 139,Z 140,Z 141,Z 142,Z 143,Z 144,Z 145,Z 146,Z 147,Z 148,Z 149,Z 150,Z 151,Z 152,Z 153,Z 154,Z 155,Z 156,Z 157,Z 158,Z 159,Z 160,Z 161,Z 162,Z 163,Z 164,Z 165,Z 166,Z 167,Z 168,Z 169,Z 170,Z 171,Z 172,Z 173,Z 174,Z 175,Z 176,Z 177,Z 178,Z 179,Z 180,Z 181,Z 182,Z 183,Z 184,Z 185,Z 186,Z 187,Z 188,Z 189,Z 190,Z 191,Z 192,Z 193,Z 194,Z 195,Z 196,Z 197,Z 198,Z 199,Z 200,Z 201,Z 202,Z 203,Z 204,Z 205,Z 206,Z 207,Z 208,Z 209,Z 210,Z 211,Z 212,Z 213,Z 214,Z 215,Z 216,Z 217,Z 218,Z 219,Z 220,Z 221,Z 222,Z 223,Z 224,Z 225,Z 226,Z 227,Z 228,Z 229,Z 230,Z 231,Z 232,Z 233,Z 234,Z 235,Z 236,Z 237,Z 238,Z 239,Z 240,Z 241,Z 242,Z 243,Z 244,Z 245,Z 246,Z 247,Z 248,Z 249,Z 250,Z 251,Z 252,Z 253,Z 254,Z 255,Z 256,Z 257,Z 258,Z 259,Z 260,Z 261,Z 262,Z 263,Z 264,Z 265,Z 266,Z 267,Z 268,Z 269,Z 270,Z 271,Z 272,Z 273,Z 274,Z 275,Z 276,Z 277,Z 278,Z 279,Z 280,Z 281,Z 282,Z 283,Z 284,Z 285,Z 286,Z 287,Z 288,Z 289,Z 290,Z 291,Z 292,Z 293,Z 294,Z 295,Z 296,Z 297,Z 298,Z 299,Z 300,Z 301,Z 302,Z 303,Z 304,Z 305,Z 306,Z 307,Z 308,Z 309,Z 310,Z 311,Z 312,Z 313,Z 314]) [] (fun _ => none) V3 s ∧ NatC V3 (.slice A (dg a).length c) a ∧ NatC V3 (.slice A' (dg b).length c') b ∧ b ≠ 0 ∧ b ≤ a ∧ 2 ≤ (dg b).length) ?_ ?_
 ·
  refine XWP.block ?_
  refine Gx.a (by kernel_rfl) fun K hK => ?_
  by_cases hb0 : b = 0
  ·subst hb0
   have b0 : decide (((dg 0).length : Int) = 0) = true := decide_eq_true (by rw [dg_zero]; rfl)
   simp only [XA, XB, b0]
   refine hK _ ?_
   refine Gx.t rfl ?_
   refine Gx.a (by kernel_rfl) fun K hK => ?_
   simp only [XA]
   refine hK _ (XWP.ret ?_)
   try simp only [thenX_ret, inBlockX_ret]
   refine ret_go _ rfl ?_
   exact ⟨fun _ => rfl, fun h => absurd rfl h⟩
  have hsb := sz_pos hb0
  unfold sz at hsb
  have b0 : decide (((dg b).length : Int) = 0) = false := decide_eq_false (by omega)
  simp only [XA, XB, b0]
  refine hK _ ?_
  refine Gx.f rfl ?_
  refine Gx.a (by kernel_rfl) fun K hK => ?_
  simp only [XA]
  refine call_go (by kernel_rfl) rfl (compare_c _ _ _ _ _ h1 h2) fun v3 V3 hV3 h3 => ?_
  subst h3
  simp only [XA, XB]
  by_cases hlt : a < b
  ·have b1 : decide (cmpI a b < 0) = true := decide_eq_true (by rw [cmpI_lt hlt]; omega)
   simp only [b1]
   refine hK _ ?_
   refine Gx.t rfl ?_
   refine Gx.a (by kernel_rfl) fun K hK => ?_
   simp only [XA]
   refine call_go (by kernel_rfl) rfl (clone_at _ _ _ (h1.mono hV3) (by omega)) fun v4 V4 hV4 h4 => ?_
   simp only [XA]
   refine hK _ (XWP.ret ?_)
   try simp only [thenX_ret, inBlockX_ret]
   refine ret_go _ rfl ?_
   refine ⟨fun h => absurd h hb0, fun _ => ⟨_, v4, rfl, ?_, ?_⟩⟩
   ·rw [Nat.div_eq_of_lt hlt]; exact NatC.zero _
   ·rw [Nat.mod_eq_of_lt hlt]; exact h4
  have b1 : decide (cmpI a b < 0) = false := decide_eq_false (by
   rcases Nat.lt_or_ge b a with h | h
   ·rw [cmpI_gt h]; omega
   ·have : a = b := by omega
    rw [this, cmpI_eq]; omega)
  simp only [b1]
  refine hK _ ?_
  refine Gx.f rfl ?_
  refine Gx.a (by kernel_rfl) fun K hK => ?_
  by_cases hl1 : (dg b).length = 1
  ·have b2 : decide (((dg b).length : Int) = 1) = true := decide_eq_true (by omega)
   simp only [XA, XB, b2]
   refine hK _ ?_
   refine Gx.t rfl ?_
   refine Gx.a (by kernel_rfl) fun K hK => ?_
   have h2' := h2.mono hV3
   obtain ⟨q1, o1, rfl⟩ := NatAt.addr h2' (by omega)
   have hc1 := NatAt.cells h2' 0 (by omega)
   rw [getD_get, small_one hl1] at hc1
   have hbB : b < BB := by have := lt_sz b; unfold sz at this; rw [hl1] at this; simpa using this
   simp only [XA, XB, Int.reduceLE]
   refine ⟨by omega, ld_mem (loads_cell shapeT_123 (hc1 _)) ?_⟩
   simp only [XA]
   refine call_go (by kernel_rfl) rfl (short_at _ _ _ b (h1.mono hV3) (by omega) hbB (by omega)) fun v4 V4 hV4 h4 => ?_
   obtain ⟨r, rfl, h4⟩ := h4
   rw [nv_dg] at h4 ⊢
   have hmod := Nat.mod_lt a (show 0 < b by omega)
   simp only [XA]
   refine hK _ ?_
   refine Gx.a (by kernel_rfl) fun K hK => ?_
   simp only [XA, XB, u64_of_u32 _ (show a % b < BB by omega)]
   refine call_go (by kernel_rfl) rfl (of_c _ (a % b) (by unfold BB at hbB; omega)) fun v5 V5 hV5 h5 => ?_
   simp only [XA]
   refine hK _ (XWP.ret ?_)
   try simp only [thenX_ret, inBlockX_ret]
   refine ret_go _ rfl ?_
   exact ⟨fun h => absurd h hb0, fun _ => ⟨r, v5, rfl, h4.mono hV5, h5⟩⟩
  have b2 : decide (((dg b).length : Int) = 1) = false := decide_eq_false (by omega)
  simp only [XA, XB, b2]
  refine hK _ ?_
  refine Gx.f rfl ?_
  refine XWP.skip ?_
  exact ⟨V3, StIs.of (by kernel_rfl), h1.mono hV3, h2.mono hV3, hb0, by omega, by omega⟩
 ·rintro s ⟨V3, hs, h1, h2, hb0, hle, hlb⟩
  obtain ⟨u, rfl⟩ := hs.out
  dsimp only
  clear hm hm' hc hc'
  have hsle : (dg b).length ≤ (dg a).length := sz_mono hle
  refine Gx.a (by kernel_rfl) fun K hK => ?_
  obtain ⟨q1, o1, rfl⟩ := NatAt.addr h2 (by omega)
  have hc1 := NatAt.cells h2 ((dg b).length - 1) (by omega)
  have hd1 := Dig_get (Dig_dg b) ((dg b).length - 1) (by omega)
  rw [getD_get] at hc1 hd1
  have hx0 : (dg b).getD ((dg b).length - 1) 0 ≠ 0 := dg_last b _ (by rw [List.getLast?_eq_getElem?, ← getD_get (by omega), List.getElem?_eq_getElem])
  generalize hx : (dg b).getD ((dg b).length - 1) 0 = x at *
  simp only [XA, XB, i64_pred _ (show 1 ≤ (dg b).length by omega) (by omega)]
  refine ⟨by omega, by omega, ld_mem (loads_cell shapeT_123 (hc1 _)) ?_⟩
  simp only [XA]
  refine call_go (by kernel_rfl) rfl (lz_c _ x hd1 (by omega)) fun v4 V4 hV4 h4 => ?_
  obtain ⟨l, rfl, hl31, hl1, hl2⟩ := h4
  simp only [XA, XB, u64_small l (by omega)]
  refine hK _ ?_
  refine Gx.a (by kernel_rfl) fun K hK => ?_
  simp only [XA]
  refine call_own (by kernel_rfl) rfl (shifted_o _ _ _ l (h1.mono hV4) hl31 (by omega)) fun v5 V5 o5 hV5 hs5 h5 => ?_
  obtain ⟨gu, us, rfl, rfl, hul, hud, hun⟩ := h5
  simp only [XA, addRow]
  refine call_own (by kernel_rfl) rfl (shifted_o _ _ _ l ((h2.mono hV4).mono hV5) hl31 (by omega)) fun v6 V6 o6 hV6 hs6 h6 => ?_
  obtain ⟨gv, vs0, rfl, rfl, hvl, hvd, hvn⟩ := h6
  have hne : gu ≠ gv := fun e => by have := (hs6 gv _ rfl).1; simp [upd, e] at this
  simp only [XA, addRow]
  refine call_pub gv ⟨123, u32s vs0, (dg b).length + 1⟩ (upd_at _ _ _) (fun o ho hle' => ?_) (by kernel_rfl) rfl
  refine call_go (by kernel_rfl) rfl (trim_any _ _ vs0 (NatAt.pub ho hvd hvl (Nat.le_refl _) (by omega))) fun v7 V7 hV7 h7 => ?_
  rw [nv_dg] at hun hvn
  rw [hvn] at h7
  obtain ⟨A7, c7, rfl, hc7, hm7⟩ := NatAt.form h7
  obtain ⟨hsz7, hpw⟩ := shift_sz hb0 hx.symm hl2 hl31
  unfold sz at hsz7 hpw
  generalize hvs : dg (b * 2 ^ l) = vs at *
  have hvsd : Dig vs := hvs ▸ Dig_dg _
  have hvsn : nv vs = b * 2 ^ l := by rw [← hvs, nv_dg]
  have h7 : NatAt V7 (.slice A7 vs.length c7) vs := by unfold NatC at h7; rw [hvs] at h7; exact h7
  simp only [XA]
  refine hK _ ?_
  refine Gx.a (by kernel_rfl) fun K hK => ?_
  simp only [XA, XB]
  refine hK _ ?_
  refine Gx.a (by kernel_rfl) fun K hK => ?_
  have hn2 : 2 ≤ vs.length := by omega
  simp only [XA, XB, i64_sub ((dg a).length + 1) vs.length (by omega) (by omega)]
  obtain ⟨M, hM⟩ : ∃ M, M = (dg a).length + 1 - vs.length := ⟨_, rfl⟩
  rw [← hM]
  refine mk_go rfl rfl elemT_47 zeroT_123 (by omega) (by omega) (by omega) (by omega) rfl (by omega) fun gq hq1 hq2 => ?_
  have hne2 : gq ≠ gu := fun e => by subst e; simp [upd, hne] at hq1
  have hne3 : gu ≠ gq := fun e => hne2 e.symm
  simp only [XA, u32s_replicate]
  refine hK _ ?_
  clear hK
  have hfl := first_lt (us := us) hb0 (sz_mono hle) (by unfold sz; omega) hun
  have hvlen : vs.length = sz b := by unfold sz; omega
  have hMs : sz a + 1 - sz b = M := by unfold sz; omega
  rw [hMs, ← hvsn] at hfl
  clear hx hd1 hx0 hc1 hs5 hs6 hl1 hl2
  have hv0 : 0 < nv vs := by omega
  have hgv7 : True := trivial
  clear hV4 hV5 hV6
  obtain ⟨m, hm2⟩ : ∃ m, vs.length = m + 2 := ⟨vs.length - 2, by omega⟩
  have hl0 : (0 : Int) ≤ (l : Int) := by omega
  have hvtop : vs.getD (vs.length - 1) 0 ≠ 0 := by
   have := dg_last (b * 2 ^ l)
   rw [hvs] at this
   exact this _ (by rw [List.getLast?_eq_getElem?, ← getD_get (by omega), List.getElem?_eq_getElem])
  refine XWP.cut (fun s => ∃ (H5 : Heap) (us1 qs : List Nat), StIs (fun Z => [.v (.slice A (dg a).length c), .v (.slice (some ⟨q1, o1, none⟩) (dg b).length c'), Z 2,Z 3,Z 4,Z 5,Z 6,Z 7,Z 8, .v (.int .u64 (l : Int)), .v (.slice (some ⟨gu, 0, none⟩) ((dg a).length + 1) ((dg a).length + 1)), .v (.slice A7 vs.length c7), .v (.int .i64 (vs.length : Int)), .v (.slice (some ⟨gq, 0, none⟩) M M), Z 14,Z 15,Z 16,Z 17,Z 18,Z 19,Z 20,Z 21,Z 22,Z 23,Z 24,Z 25,Z 26,Z 27,Z 28,Z 29,Z 30,Z 31,Z 32,Z 33,Z 34,Z 35,Z 36,Z 37,Z 38,Z 39,Z 40,Z 41,Z 42,Z 43,Z 44,Z 45,Z 46,Z 47,Z 48,Z 49,Z 50,Z 51,Z 52,Z 53,Z 54,Z 55,Z 56,Z 57,Z 58,Z 59,Z 60,Z 61,Z 62,Z 63,Z 64,Z 65,Z 66,Z 67,Z 68,Z 69,Z 70,Z 71,Z 72,Z 73,Z 74,Z 75,Z 76,Z 77,Z 78,Z 79,Z 80,Z 81,Z 82,Z 83,Z 84,Z 85,Z 86,Z 87,Z 88,Z 89,Z 90,Z 91,Z 92,Z 93,Z 94,Z 95,Z 96,Z 97,Z 98,Z 99,Z 100,Z 101,Z 102,Z 103,Z 104,Z 105,Z 106,Z 107,Z 108,Z 109,Z 110,Z 111,Z 112,Z 113,Z 114,Z 115,Z 116,Z 117,Z 118,Z 119,Z 120,Z 121,Z 122,Z 123,Z 124,Z 125,Z 126,Z 127,Z 128,Z 129,Z 130,Z 131,Z 132,Z 133,Z 134,Z 135,Z 136,Z 137,Z 138,Z 139,Z 140,Z 141,Z 142,Z 143,Z 144,Z 145,Z 146,Z 147,Z 148,Z 149,Z 150,Z 151,Z 152,Z 153,Z 154,Z 155,Z 156,Z 157,Z 158,Z 159,Z 160,Z 161,Z 162,Z 163,Z 164,Z 165,Z 166,Z 167,Z 168,Z 169,Z 170,Z 171,Z 172,Z 173,Z 174,Z 175,Z 176,Z 177,Z 178,Z 179,Z 180,Z 181,Z 182,Z 183,Z 184,Z 185,Z 186,Z 187,Z 188,Z 189,Z 190,Z 191,Z 192,Z 193,Z 194,Z 195,Z 196,Z 197,Z 198,Z 199,Z 200,Z 201,Z 202,Z 203,Z 204,Z 205,Z 206,Z 207,Z 208,Z 209,Z 210,Z 211,Z 212,Z 213,Z 214,Z 215,Z 216,Z 217,Z 218,Z 219,Z 220,Z 221,Z 222,Z 223,Z 224,Z 225,Z 226,Z 227,Z 228,Z 229,Z 230,Z 231,Z 232,Z 233,Z 234,Z 235,Z 236,Z 237,Z 238,Z 239,Z 240,Z 241,Z 242,Z 243,Z 244,Z 245,Z 246,Z 247,Z 248,Z 249,Z 250,Z 251,Z 252,Z 253,Z 254,Z 255,Z 256,Z 257,Z 258,Z 259,Z 260,Z 261,Z 262,Z 263,Z 264,Z 265,Z 266,Z 267,Z 268,Z 269,Z 270,Z 271,Z 272,Z 273,Z 274,Z 275,Z 276,Z 277,Z 278,Z 279,Z 280,Z 281,Z 282,Z 283,Z 284,Z 285,Z 286,Z 287,Z 288,Z 289,Z 290,Z 291,Z 292,Z 293,Z 294,Z 295,Z 296,Z 297,Z 298,Z 299,Z 300,Z 301,Z 302,Z 303,Z 304,Z 305,Z 306,Z 307,Z 308,Z 309,Z 310,Z 311,Z 312,Z 313,Z 314]) [] H5 V7 s ∧ H5 gu = some ⟨123, u32s us1, (dg a).length + 1⟩ ∧ H5 gq = some ⟨123, u32s qs, M⟩ ∧ us1.length = (dg a).length + 1 ∧ qs.length = M ∧ Dig us1 ∧ Dig qs ∧ nv us1 < nv vs ∧ a * 2 ^ l = nv qs * nv vs + nv us1) ?_ ?_
  ·
   refine Gx.a (by kernel_rfl) fun K hK => ?_
   have w0 : IntKind.i64.wrap ((M : Int) - 1) = (M : Int) - 1 := wrap_id (by omega) (by omega)
   simp only [XA, XB, i64_sub ((dg a).length + 1) vs.length (by omega) (by omega), ← hM, w0]
   refine hK _ ?_
   clear hK
   refine XWP.block ?_
   refine XWP.loop (fun k s => ∃ (H5 : Heap) (us1 qs : List Nat), StIs (fun Z => [.v (.slice A (dg a).length c), .v (.slice (some ⟨q1, o1, none⟩) (dg b).length c'), Z 2,Z 3,Z 4,Z 5,Z 6,Z 7,Z 8, .v (.int .u64 (l : Int)), .v (.slice (some ⟨gu, 0, none⟩) ((dg a).length + 1) ((dg a).length + 1)), .v (.slice A7 vs.length c7), .v (.int .i64 (vs.length : Int)), .v (.slice (some ⟨gq, 0, none⟩) M M), .v (.int .i64 ((k : Int) - 1)), Z 15,Z 16,Z 17,Z 18,Z 19,Z 20,Z 21,Z 22,Z 23,Z 24,Z 25,Z 26,Z 27,Z 28,Z 29,Z 30,Z 31,Z 32,Z 33,Z 34,Z 35,Z 36,Z 37,Z 38,Z 39,Z 40,Z 41,Z 42,Z 43,Z 44,Z 45,Z 46,Z 47,Z 48,Z 49,Z 50,Z 51,Z 52,Z 53,Z 54,Z 55,Z 56,Z 57,Z 58,Z 59,Z 60,Z 61,Z 62,Z 63,Z 64,Z 65,Z 66,Z 67,Z 68,Z 69,Z 70,Z 71,Z 72,Z 73,Z 74,Z 75,Z 76,Z 77,Z 78,Z 79,Z 80,Z 81,Z 82,Z 83,Z 84,Z 85,Z 86,Z 87,Z 88,Z 89,Z 90,Z 91,Z 92,Z 93,Z 94,Z 95,Z 96,Z 97,Z 98,Z 99,Z 100,Z 101,Z 102,Z 103,Z 104,Z 105,Z 106,Z 107,Z 108,Z 109,Z 110,Z 111,Z 112,Z 113,Z 114,Z 115,Z 116,Z 117,Z 118,Z 119,Z 120,Z 121,Z 122,Z 123,Z 124,Z 125,Z 126,Z 127,Z 128,Z 129,Z 130,Z 131,Z 132,Z 133,Z 134,Z 135,Z 136,Z 137,Z 138,Z 139,Z 140,Z 141,Z 142,Z 143,Z 144,Z 145,Z 146,Z 147,Z 148,Z 149,Z 150,Z 151,Z 152,Z 153,Z 154,Z 155,Z 156,Z 157,Z 158,Z 159,Z 160,Z 161,Z 162,Z 163,Z 164,Z 165,Z 166,Z 167,Z 168,Z 169,Z 170,Z 171,Z 172,Z 173,Z 174,Z 175,Z 176,Z 177,Z 178,Z 179,Z 180,Z 181,Z 182,Z 183,Z 184,Z 185,Z 186,Z 187,Z 188,Z 189,Z 190,Z 191,Z 192,Z 193,Z 194,Z 195,Z 196,Z 197,Z 198,Z 199,Z 200,Z 201,Z 202,Z 203,Z 204,Z 205,Z 206,Z 207,Z 208,Z 209,Z 210,Z 211,Z 212,Z 213,Z 214,Z 215,Z 216,Z 217,Z 218,Z 219,Z 220,Z 221,Z 222,Z 223,Z 224,Z 225,Z 226,Z 227,Z 228,Z 229,Z 230,Z 231,Z 232,Z 233,Z 234,Z 235,Z 236,Z 237,Z 238,Z 239,Z 240,Z 241,Z 242,Z 243,Z 244,Z 245,Z 246,Z 247,Z 248,Z 249,Z 250,Z 251,Z 252,Z 253,Z 254,Z 255,Z 256,Z 257,Z 258,Z 259,Z 260,Z 261,Z 262,Z 263,Z 264,Z 265,Z 266,Z 267,Z 268,Z 269,Z 270,Z 271,Z 272,Z 273,Z 274,Z 275,Z 276,Z 277,Z 278,Z 279,Z 280,Z 281,Z 282,Z 283,Z 284,Z 285,Z 286,Z 287,Z 288,Z 289,Z 290,Z 291,Z 292,Z 293,Z 294,Z 295,Z 296,Z 297,Z 298,Z 299,Z 300,Z 301,Z 302,Z 303,Z 304,Z 305,Z 306,Z 307,Z 308,Z 309,Z 310,Z 311,Z 312,Z 313,Z 314]) [] H5 V7 s ∧ k ≤ M ∧ H5 gu = some ⟨123, u32s us1, (dg a).length + 1⟩ ∧ H5 gq = some ⟨123, u32s qs, M⟩ ∧ us1.length = (dg a).length + 1 ∧ qs.length = M ∧ Dig us1 ∧ Dig qs ∧ nv (us1.drop k) < nv vs ∧ a * 2 ^ l = BB ^ k * nv (qs.drop k) * nv vs + nv us1) M ⟨_, us, List.replicate M 0, StIs.of (by exact rfl), Nat.le_refl _, ?_, ?_, hul, by simp, hud, Dig_replicate _, hfl, ?_⟩ ?_
   ·simp only [upd, hne3, hne, if_false, if_true]
   ·simp only [upd, if_true, Nat.mul_one]
   ·have : (List.replicate M 0).drop M = [] := by simp
    rw [this, hun]; simp [nv]
   rintro k s ⟨H5, us1, qs, hs, hk, hHu, hHq, hul1, hql, hud1, hqd, hlt, htot⟩
   obtain ⟨u, rfl⟩ := hs.out
   dsimp only
   refine Gx.b (by kernel_rfl) fun K hK => ?_
   by_cases hk0 : k = 0
   ·subst hk0
    have b2 : decide ((0 : Int) ≤ ((0 : Nat) : Int) - 1) = false := decide_eq_false (by omega)
    simp only [XA, XB, b2]
    refine hK _ ?_
    refine Gx.f rfl ?_
    refine XWP.exit ?_
    exact ⟨H5, us1, qs, StIs.of (by exact rfl), hHu, hHq, hul1, hql, hud1, hqd, by simpa using hlt, by simpa using htot⟩
   obtain ⟨j, rfl⟩ : ∃ j, k = j + 1 := ⟨k - 1, by omega⟩
   have ej : (((j + 1 : Nat) : Int) - 1) = (j : Int) := by omega
   have b2 : decide ((0 : Int) ≤ (j : Int)) = true := decide_eq_true (by omega)
   simp only [XA, XB, ej, b2]
   refine hK _ ?_
   refine Gx.t rfl ?_
   refine XWP.skip ?_
   refine XWP.seq ?_
   refine XWP.block ?_
   have hM2 : M + vs.length = (dg a).length + 1 := by omega
   have hcu0 := row_cell (V := V7) hHu (k := j + vs.length) (by omega)
   have hcu1 := row_cell (V := V7) hHu (k := j + vs.length - 1) (by omega)
   have hcu2 := row_cell (V := V7) hHu (k := j + vs.length - 2) (by omega)
   obtain ⟨p7, o7, rfl⟩ := NatAt.addr h7 (by omega)
   have hcv1 := NatAt.cells h7 (vs.length - 1) (by omega)
   have hcv2 := NatAt.cells h7 (vs.length - 2) (by omega)
   rw [getD_get] at hcv1 hcv2
   generalize hu0 : us1.getD (j + vs.length) 0 = u0 at *
   generalize hu1 : us1.getD (j + vs.length - 1) 0 = u1 at *
   generalize hu2 : us1.getD (j + vs.length - 2) 0 = u2 at *
   generalize hv1 : vs.getD (vs.length - 1) 0 = v1 at *
   generalize hv2 : vs.getD (vs.length - 2) 0 = v2 at *
   obtain ⟨kq, kB, ku, kdec, kend, kv1, kv2, kU0, kU1, kU2⟩ := knuth (v1 := v1) (v2 := v2) (u0 := u0) (u1 := u1) (u2 := u2) (q := nv (us1.drop j) / nv vs) hm2 (by omega) hud1 hvsd (by rw [← hv1]; show _ = vs.getD (m + 1) 0; congr 1; omega) (by rw [← hv2]; show _ = vs.getD m 0; congr 1; omega) (by rw [← hu0]; show _ = us1.getD (j + (m + 2)) 0; congr 1; omega) (by rw [← hu1]; show _ = us1.getD (j + (m + 1)) 0; congr 1; omega) (by rw [← hu2]; show _ = us1.getD (j + m) 0; congr 1; omega) (by omega) hlt rfl
   generalize hq : nv (us1.drop j) / nv vs = q at *
   have hdiv : v1 ≠ 0 := hvtop
   have htop : u0 * BB + u1 < 18446744073709551616 := by unfold BB at *; omega
   (refine XWP.drw [0, 1, 2, 3, 4, 5, 6, 7, 8, 9, 10, 11, 12, 13, 14, 15, 16, 17] (by kernel_rfl) (by kernel_rfl) (by kernel_rfl) fun K hK => ?_) <;> dsimp only [pickOps, List.getElem?_cons_zero, List.getElem?_cons_succ]
   simp only [XA, XB, i64_add j vs.length (by omega)]
   refine ⟨by omega, by omega, ld_mem (loads_cell shapeT_123 hcu0) ?_⟩
   simp only [XA, XB, Int.reduceToNat, Int.reduceLE, i64_add j vs.length (by omega), i64_pred (j + vs.length) (by omega) (by omega)]
   refine ⟨by omega, by omega, ld_mem (loads_cell shapeT_123 hcu1) ?_⟩
   simp only [XA, XB, u64_of_u32 _ kU0, u64_of_u32 _ kU1, shl32 _ kU0, or_add _ _ kU0 kU1]
   refine hK _ ?_
   clear hK
   (refine XWP.drw [0, 1, 2, 3, 4, 5, 6, 7, 8, 9, 10, 11, 12, 13, 14, 15, 16, 17] (by kernel_rfl) (by kernel_rfl) (by kernel_rfl) fun K hK => ?_) <;> dsimp only [pickOps, List.getElem?_cons_zero, List.getElem?_cons_succ]
   have hdi : ((v1 : Nat) : Int) ≠ 0 := by omega
   simp only [XA, XB, i64_pred vs.length (by omega) (by omega)]
   refine ⟨by omega, by omega, ld_mem (loads_cell shapeT_123 (hcv1 _)) ?_⟩
   simp only [XA, XB, i64_pred vs.length (by omega) (by omega), u64_of_u32 _ kv1, bin_quo _ _ _ _ hdi]
   refine ⟨by omega, by omega, ld_mem (loads_cell shapeT_123 (hcv1 _)) ?_⟩
   simp only [XA, XB, u64_of_u32 _ kv1, bin_rem _ _ _ _ hdi, int_tmod, u64_div _ _ htop]
   refine hK _ ?_
   clear hK
   refine XWP.cut (fun s => ∃ g : Nat, StIs (fun Z => [.v (.slice A (dg a).length c), .v (.slice (some ⟨q1, o1, none⟩) (dg b).length c'), Z 2,Z 3,Z 4,Z 5,Z 6,Z 7,Z 8, .v (.int .u64 (l : Int)), .v (.slice (some ⟨gu, 0, none⟩) ((dg a).length + 1) ((dg a).length + 1)), .v (.slice (some ⟨p7, o7, none⟩) vs.length c7), .v (.int .i64 (vs.length : Int)), .v (.slice (some ⟨gq, 0, none⟩) M M), .v (.int .i64 (j : Int)), Z 15, .v (.int .u64 (g : Int)), Z 17,Z 18,Z 19,Z 20,Z 21,Z 22,Z 23,Z 24,Z 25,Z 26,Z 27,Z 28,Z 29,Z 30,Z 31,Z 32,Z 33,Z 34,Z 35,Z 36,Z 37,Z 38,Z 39,Z 40,Z 41,Z 42,Z 43,Z 44,Z 45,Z 46,Z 47,Z 48,Z 49,Z 50,Z 51,Z 52,Z 53,Z 54,Z 55,Z 56,Z 57,Z 58,Z 59,Z 60,Z 61,Z 62,Z 63,Z 64,Z 65,Z 66,Z 67,Z 68,Z 69,Z 70,Z 71,Z 72,Z 73,Z 74,Z 75,Z 76,Z 77,Z 78,Z 79,Z 80,Z 81,Z 82,Z 83,Z 84,Z 85,Z 86,Z 87,Z 88,Z 89,Z 90,Z 91,Z 92,Z 93,Z 94,Z 95,Z 96,Z 97,Z 98,Z 99,Z 100,Z 101,Z 102,Z 103,Z 104,Z 105,Z 106,Z 107,Z 108,Z 109,Z 110,Z 111,Z 112,Z 113,Z 114,Z 115,Z 116,Z 117,Z 118,Z 119,Z 120,Z 121,Z 122,Z 123,Z 124,Z 125,Z 126,Z 127,Z 128,Z 129,Z 130,Z 131,Z 132,Z 133,Z 134,Z 135,Z 136,Z 137,Z 138,Z 139,Z 140,Z 141,Z 142,Z 143,Z 144,Z 145,Z 146,Z 147,Z 148,Z 149,Z 150,Z 151,Z 152,Z 153,Z 154,Z 155,Z 156,Z 157,Z 158,Z 159,Z 160,Z 161,Z 162,Z 163,Z 164,Z 165,Z 166,Z 167,Z 168,Z 169,Z 170,Z 171,Z 172,Z 173,Z 174,Z 175,Z 176,Z 177,Z 178,Z 179,Z 180,Z 181,Z 182,Z 183,Z 184,Z 185,Z 186,Z 187,Z 188,Z 189,Z 190,Z 191,Z 192,Z 193,Z 194,Z 195,Z 196,Z 197,Z 198,Z 199,Z 200,Z 201,Z 202,Z 203,Z 204,Z 205,Z 206,Z 207,Z 208,Z 209,Z 210,Z 211,Z 212,Z 213,Z 214,Z 215,Z 216,Z 217,Z 218,Z 219,Z 220,Z 221,Z 222,Z 223,Z 224,Z 225,Z 226,Z 227,Z 228,Z 229,Z 230,Z 231,Z 232,Z 233,Z 234,Z 235,Z 236,Z 237,Z 238,Z 239,Z 240,Z 241,Z 242,Z 243,Z 244,Z 245,Z 246,Z 247,Z 248,Z 249,Z 250,Z 251,Z 252,Z 253,Z 254,Z 255,Z 256,Z 257,Z 258,Z 259,Z 260,Z 261,Z 262,Z 263,Z 264,Z 265,Z 266,Z 267,Z 268,Z 269,Z 270,Z 271,Z 272,Z 273,Z 274,Z 275,Z 276,Z 277,Z 278,Z 279,Z 280,Z 281,Z 282,Z 283,Z 284,Z 285,Z 286,Z 287,Z 288,Z 289,Z 290,Z 291,Z 292,Z 293,Z 294,Z 295,Z 296,Z 297,Z 298,Z 299,Z 300,Z 301,Z 302,Z 303,Z 304,Z 305,Z 306,Z 307,Z 308,Z 309,Z 310,Z 311,Z 312,Z 313,Z 314]) [] H5 V7 s ∧ q ≤ g ∧ g ≤ q + 1 ∧ g < BB) ?_ ?_
   ·
    refine XWP.block ?_
    refine XWP.loop (fun g s => ∃ rest : Nat, StIs (fun Z => [.v (.slice A (dg a).length c), .v (.slice (some ⟨q1, o1, none⟩) (dg b).length c'), Z 2,Z 3,Z 4,Z 5,Z 6,Z 7,Z 8, .v (.int .u64 (l : Int)), .v (.slice (some ⟨gu, 0, none⟩) ((dg a).length + 1) ((dg a).length + 1)), .v (.slice (some ⟨p7, o7, none⟩) vs.length c7), .v (.int .i64 (vs.length : Int)), .v (.slice (some ⟨gq, 0, none⟩) M M), .v (.int .i64 (j : Int)), Z 15, .v (.int .u64 (g : Int)), .v (.int .u64 (rest : Int)), Z 18,Z 19,Z 20,Z 21,Z 22,Z 23,Z 24,Z 25,Z 26,Z 27,Z 28,Z 29,Z 30,Z 31,Z 32,Z 33,Z 34,Z 35,Z 36,Z 37,Z 38,Z 39,Z 40,Z 41,Z 42,Z 43,Z 44,Z 45,Z 46,Z 47,Z 48,Z 49,Z 50,Z 51,Z 52,Z 53,Z 54,Z 55,Z 56,Z 57,Z 58,Z 59,Z 60,Z 61,Z 62,Z 63,Z 64,Z 65,Z 66,Z 67,Z 68,Z 69,Z 70,Z 71,Z 72,Z 73,Z 74,Z 75,Z 76,Z 77,Z 78,Z 79,Z 80,Z 81,Z 82,Z 83,Z 84,Z 85,Z 86,Z 87,Z 88,Z 89,Z 90,Z 91,Z 92,Z 93,Z 94,Z 95,Z 96,Z 97,Z 98,Z 99,Z 100,Z 101,Z 102,Z 103,Z 104,Z 105,Z 106,Z 107,Z 108,Z 109,Z 110,Z 111,Z 112,Z 113,Z 114,Z 115,Z 116,Z 117,Z 118,Z 119,Z 120,Z 121,Z 122,Z 123,Z 124,Z 125,Z 126,Z 127,Z 128,Z 129,Z 130,Z 131,Z 132,Z 133,Z 134,Z 135,Z 136,Z 137,Z 138,Z 139,Z 140,Z 141,Z 142,Z 143,Z 144,Z 145,Z 146,Z 147,Z 148,Z 149,Z 150,Z 151,Z 152,Z 153,Z 154,Z 155,Z 156,Z 157,Z 158,Z 159,Z 160,Z 161,Z 162,Z 163,Z 164,Z 165,Z 166,Z 167,Z 168,Z 169,Z 170,Z 171,Z 172,Z 173,Z 174,Z 175,Z 176,Z 177,Z 178,Z 179,Z 180,Z 181,Z 182,Z 183,Z 184,Z 185,Z 186,Z 187,Z 188,Z 189,Z 190,Z 191,Z 192,Z 193,Z 194,Z 195,Z 196,Z 197,Z 198,Z 199,Z 200,Z 201,Z 202,Z 203,Z 204,Z 205,Z 206,Z 207,Z 208,Z 209,Z 210,Z 211,Z 212,Z 213,Z 214,Z 215,Z 216,Z 217,Z 218,Z 219,Z 220,Z 221,Z 222,Z 223,Z 224,Z 225,Z 226,Z 227,Z 228,Z 229,Z 230,Z 231,Z 232,Z 233,Z 234,Z 235,Z 236,Z 237,Z 238,Z 239,Z 240,Z 241,Z 242,Z 243,Z 244,Z 245,Z 246,Z 247,Z 248,Z 249,Z 250,Z 251,Z 252,Z 253,Z 254,Z 255,Z 256,Z 257,Z 258,Z 259,Z 260,Z 261,Z 262,Z 263,Z 264,Z 265,Z 266,Z 267,Z 268,Z 269,Z 270,Z 271,Z 272,Z 273,Z 274,Z 275,Z 276,Z 277,Z 278,Z 279,Z 280,Z 281,Z 282,Z 283,Z 284,Z 285,Z 286,Z 287,Z 288,Z 289,Z 290,Z 291,Z 292,Z 293,Z 294,Z 295,Z 296,Z 297,Z 298,Z 299,Z 300,Z 301,Z 302,Z 303,Z 304,Z 305,Z 306,Z 307,Z 308,Z 309,Z 310,Z 311,Z 312,Z 313,Z 314]) [] H5 V7 s ∧ q ≤ g ∧ g < 18446744073709551616 ∧ rest < BB ∧ g * v1 + rest = u0 * BB + u1) ((u0 * BB + u1) / v1) ⟨(u0 * BB + u1) % v1, StIs.of (by exact rfl), kq, Nat.lt_of_le_of_lt (Nat.div_le_self _ _) htop, Nat.lt_trans (Nat.mod_lt _ (by omega)) kv1, by rw [Nat.mul_comm]; exact Nat.div_add_mod _ _⟩ ?_
    rintro g s ⟨rest, hs, hg1, hg2, hrest, hgr⟩
    obtain ⟨u, rfl⟩ := hs.out
    dsimp only
    refine XWP.cut (fun s => StIs (fun Z => [.v (.slice A (dg a).length c), .v (.slice (some ⟨q1, o1, none⟩) (dg b).length c'), Z 2,Z 3,Z 4,Z 5,Z 6,Z 7,Z 8, .v (.int .u64 (l : Int)), .v (.slice (some ⟨gu, 0, none⟩) ((dg a).length + 1) ((dg a).length + 1)), .v (.slice (some ⟨p7, o7, none⟩) vs.length c7), .v (.int .i64 (vs.length : Int)), .v (.slice (some ⟨gq, 0, none⟩) M M), .v (.int .i64 (j : Int)), Z 15, .v (.int .u64 (g : Int)), .v (.int .u64 (rest : Int)), Z 18,Z 19,Z 20,Z 21,Z 22,Z 23,Z 24,Z 25,Z 26,Z 27,Z 28,Z 29,Z 30,Z 31,Z 32,Z 33,Z 34,Z 35,Z 36,Z 37,Z 38,Z 39,Z 40,Z 41,Z 42,Z 43,Z 44,Z 45,Z 46,Z 47,Z 48,Z 49,Z 50,Z 51,Z 52,Z 53,Z 54,Z 55,Z 56,Z 57,Z 58,Z 59,Z 60,Z 61,Z 62,Z 63,Z 64,Z 65,Z 66,Z 67,Z 68,Z 69,Z 70,Z 71,Z 72,Z 73,Z 74,Z 75,Z 76,Z 77,Z 78,Z 79,Z 80,Z 81,Z 82,Z 83,Z 84,Z 85,Z 86,Z 87,Z 88,Z 89,Z 90,Z 91,Z 92,Z 93,Z 94,Z 95,Z 96,Z 97,Z 98,Z 99,Z 100,Z 101,Z 102,Z 103,Z 104,Z 105,Z 106,Z 107,Z 108,Z 109,Z 110,Z 111,Z 112,Z 113,Z 114,Z 115,Z 116,Z 117,Z 118,Z 119,Z 120,Z 121,Z 122,Z 123,Z 124,Z 125,Z 126,Z 127,Z 128,Z 129,Z 130,Z 131,Z 132,Z 133,Z 134,Z 135,Z 136,Z 137,Z 138,Z 139,Z 140,Z 141,Z 142,Z 143,Z 144,Z 145,Z 146,Z 147,Z 148,Z 149,Z 150,Z 151,Z 152,Z 153,Z 154,Z 155,Z 156,Z 157,Z 158,Z 159,Z 160,Z 161,Z 162,Z 163,Z 164,Z 165,Z 166,Z 167,Z 168,Z 169,Z 170,Z 171,Z 172,Z 173,Z 174,Z 175,Z 176,Z 177,Z 178,Z 179,Z 180,Z 181,Z 182,Z 183,Z 184,Z 185,Z 186,Z 187,Z 188,Z 189,Z 190,Z 191,Z 192,Z 193,Z 194,Z 195,Z 196,Z 197,Z 198,Z 199,Z 200,Z 201,Z 202,Z 203,Z 204,Z 205,Z 206,Z 207,Z 208,Z 209,Z 210,Z 211,Z 212,Z 213,Z 214,Z 215,Z 216,Z 217,Z 218,Z 219,Z 220,Z 221,Z 222,Z 223,Z 224,Z 225,Z 226,Z 227,Z 228,Z 229,Z 230,Z 231,Z 232,Z 233,Z 234,Z 235,Z 236,Z 237,Z 238,Z 239,Z 240,Z 241,Z 242,Z 243,Z 244,Z 245,Z 246,Z 247,Z 248,Z 249,Z 250,Z 251,Z 252,Z 253,Z 254,Z 255,Z 256,Z 257,Z 258,Z 259,Z 260,Z 261,Z 262,Z 263,Z 264,Z 265,Z 266,Z 267,Z 268,Z 269,Z 270,Z 271,Z 272,Z 273,Z 274,Z 275,Z 276,Z 277,Z 278,Z 279,Z 280,Z 281,Z 282,Z 283,Z 284,Z 285,Z 286,Z 287,Z 288,Z 289,Z 290,Z 291,Z 292,Z 293,Z 294,Z 295,Z 296,Z 297,Z 298,Z 299,Z 300,Z 301,Z 302,Z 303,Z 304,Z 305,Z 306,Z 307,Z 308,Z 309,Z 310,Z 311,Z 312,Z 313,Z 314]) [] H5 V7 s ∧ q + 1 ≤ g) ?_ ?_
    ·by_cases hgB : BB ≤ g
     ·have b3 : decide ((4294967296 : Int) ≤ (g : Int)) = true := decide_eq_true (by unfold BB at hgB; omega)
      (refine XWP.drw [0, 1, 2, 3, 4, 5, 6, 7, 8, 9, 10, 11, 12, 13, 14, 15, 16, 17, 18, 19, 20, 21, 22, 23] (by kernel_rfl) (by kernel_rfl) (by kernel_rfl) fun K hK => ?_) <;> dsimp only [pickOps, List.getElem?_cons_zero, List.getElem?_cons_succ]
      simp only [XA, XB, gateX, ↓reduceIte, b3]
      refine hK _ ?_
      clear hK
      refine Gx.t rfl ?_
      refine XWP.skip ?_
      exact ⟨StIs.of (by exact rfl), by omega⟩
     ·have b3 : decide ((4294967296 : Int) ≤ (g : Int)) = false := decide_eq_false (by unfold BB at hgB; omega)
      (refine XWP.drw [0, 1, 2, 3, 4, 5, 6, 7, 8, 9, 10, 11, 12, 13, 14, 15, 16, 17, 18, 19, 20, 21, 22, 23] (by kernel_rfl) (by kernel_rfl) (by kernel_rfl) fun K hK => ?_) <;> dsimp only [pickOps, List.getElem?_cons_zero, List.getElem?_cons_succ]
      simp only [XA, XB, gateX, ↓reduceIte, beq_self_eq_true, b3, i64_sub2 vs.length (by omega) (by omega), i64_add j vs.length (by omega), i64_sub2 (j + vs.length) (by omega) (by omega)]
      refine ⟨by omega, by omega, ld_mem (loads_cell shapeT_123 (hcv2 _)) ?_⟩
      simp only [XA, XB, gateX, ↓reduceIte, Int.reduceToNat, Int.reduceLE, beq_self_eq_true, i64_sub2 vs.length (by omega) (by omega), i64_add j vs.length (by omega), i64_sub2 (j + vs.length) (by omega) (by omega)]
      refine ⟨by omega, by omega, ld_mem (loads_cell shapeT_123 hcu2) ?_⟩
      simp only [XA, XB, gateX, ↓reduceIte, beq_self_eq_true, u64_of_u32 _ kv2, u64_of_u32 _ kU2, shl32 _ hrest, or_add _ _ hrest kU2, u64_mul _ _ (dig_mul (show g < BB by omega) kv2)]
      by_cases ht : rest * BB + u2 < g * v2
      ·have b4 : decide (((rest * BB + u2 : Nat) : Int) < ((g * v2 : Nat) : Int)) = true := decide_eq_true (by omega)
       simp only [b4]
       refine hK _ ?_
       clear hK
       refine Gx.t rfl ?_
       refine XWP.skip ?_
       exact ⟨StIs.of (by exact rfl), kdec g rest hg1 hgr ht⟩
      ·have b4 : decide (((rest * BB + u2 : Nat) : Int) < ((g * v2 : Nat) : Int)) = false := decide_eq_false (by omega)
       simp only [b4]
       refine hK _ ?_
       clear hK
       refine Gx.f rfl ?_
       refine XWP.exit ?_
       exact ⟨g, StIs.of (by exact rfl), hg1, kend g rest (by omega) hgr (by omega), by omega⟩
    ·rintro s ⟨hs, hgq⟩
     obtain ⟨u, rfl⟩ := hs.out
     dsimp only
     refine XWP.block ?_
     refine Gx.a (by kernel_rfl) fun K hK => ?_
     have w1 : IntKind.u64.wrap ((g : Int) - 1) = ((g - 1 : Nat) : Int) := u64_sub g 1 (by omega) (by omega)
     simp only [XA, XB, w1]
     refine hK _ ?_
     refine Gx.a (by kernel_rfl) fun K hK => ?_
     simp only [XA, XB, i64_pred vs.length (by omega) (by omega)]
     refine ⟨by omega, by omega, ld_mem (loads_cell shapeT_123 (hcv1 _)) ?_⟩
     simp only [XA, XB, u64_of_u32 _ kv1, u64_add rest v1 (by unfold BB at *; omega)]
     refine hK _ ?_
     refine Gx.a (by kernel_rfl) fun K hK => ?_
     have e5 : (g - 1) * v1 + (rest + v1) = u0 * BB + u1 := by
      obtain ⟨g', rfl⟩ : ∃ g', g = g' + 1 := ⟨g - 1, by omega⟩
      rw [Nat.add_mul] at hgr
      rw [Nat.add_sub_cancel]; omega
     by_cases hrB : BB ≤ rest + v1
     ·have b5 : decide ((4294967296 : Int) ≤ ((rest + v1 : Nat) : Int)) = true := decide_eq_true (by unfold BB at hrB; omega)
      simp only [XA, XB, b5]
      refine hK _ ?_
      clear hK
      refine Gx.t rfl ?_
      refine XWP.exit ?_
      obtain ⟨g1, g2⟩ := guess_big kv1 kv2 rfl ku kU1 e5 hrB
      exact ⟨g - 1, StIs.of (by exact rfl), by omega, kend (g - 1) (rest + v1) g1 e5 (by omega), g1⟩
     ·have b5 : decide ((4294967296 : Int) ≤ ((rest + v1 : Nat) : Int)) = false := decide_eq_false (by unfold BB at hrB; omega)
      simp only [XA, XB, b5]
      refine hK _ ?_
      clear hK
      refine Gx.f rfl ?_
      refine XWP.skip ?_
      exact ⟨g - 1, by omega, rest + v1, StIs.of (by exact rfl), by omega, by omega, by omega, e5⟩
   ·rintro s ⟨g, hs, hg1, hg2, hgB⟩
    obtain ⟨u, rfl⟩ := hs.out
    dsimp only
    clear kdec kend
    refine Gx.a (by kernel_rfl) fun K hK => ?_
    simp only [XA]
    refine hK _ ?_
    clear hK
    have hz0 : nv (us1.drop (j + vs.length + 1)) = 0 := above_zero hud1 hvsd hlt
    refine XWP.cut (fun s => ∃ (H6 : Heap) (us2 : List Nat) (cc bo : Nat), StIs (fun Z => [.v (.slice A (dg a).length c), .v (.slice (some ⟨q1, o1, none⟩) (dg b).length c'), Z 2,Z 3,Z 4,Z 5,Z 6,Z 7,Z 8, .v (.int .u64 (l : Int)), .v (.slice (some ⟨gu, 0, none⟩) ((dg a).length + 1) ((dg a).length + 1)), .v (.slice (some ⟨p7, o7, none⟩) vs.length c7), .v (.int .i64 (vs.length : Int)), .v (.slice (some ⟨gq, 0, none⟩) M M), .v (.int .i64 (j : Int)), Z 15, .v (.int .u64 (g : Int)), Z 17, .v (.int .u64 (bo : Int)), .v (.int .u64 (cc : Int)), Z 20,Z 21,Z 22,Z 23,Z 24,Z 25,Z 26,Z 27,Z 28,Z 29,Z 30,Z 31,Z 32,Z 33,Z 34,Z 35,Z 36,Z 37,Z 38,Z 39,Z 40,Z 41,Z 42,Z 43,Z 44,Z 45,Z 46,Z 47,Z 48,Z 49,Z 50,Z 51,Z 52,Z 53,Z 54,Z 55,Z 56,Z 57,Z 58,Z 59,Z 60,Z 61,Z 62,Z 63,Z 64,Z 65,Z 66,Z 67,Z 68,Z 69,Z 70,Z 71,Z 72,Z 73,Z 74,Z 75,Z 76,Z 77,Z 78,Z 79,Z 80,Z 81,Z 82,Z 83,Z 84,Z 85,Z 86,Z 87,Z 88,Z 89,Z 90,Z 91,Z 92,Z 93,Z 94,Z 95,Z 96,Z 97,Z 98,Z 99,Z 100,Z 101,Z 102,Z 103,Z 104,Z 105,Z 106,Z 107,Z 108,Z 109,Z 110,Z 111,Z 112,Z 113,Z 114,Z 115,Z 116,Z 117,Z 118,Z 119,Z 120,Z 121,Z 122,Z 123,Z 124,Z 125,Z 126,Z 127,Z 128,Z 129,Z 130,Z 131,Z 132,Z 133,Z 134,Z 135,Z 136,Z 137,Z 138,Z 139,Z 140,Z 141,Z 142,Z 143,Z 144,Z 145,Z 146,Z 147,Z 148,Z 149,Z 150,Z 151,Z 152,Z 153,Z 154,Z 155,Z 156,Z 157,Z 158,Z 159,Z 160,Z 161,Z 162,Z 163,Z 164,Z 165,Z 166,Z 167,Z 168,Z 169,Z 170,Z 171,Z 172,Z 173,Z 174,Z 175,Z 176,Z 177,Z 178,Z 179,Z 180,Z 181,Z 182,Z 183,Z 184,Z 185,Z 186,Z 187,Z 188,Z 189,Z 190,Z 191,Z 192,Z 193,Z 194,Z 195,Z 196,Z 197,Z 198,Z 199,Z 200,Z 201,Z 202,Z 203,Z 204,Z 205,Z 206,Z 207,Z 208,Z 209,Z 210,Z 211,Z 212,Z 213,Z 214,Z 215,Z 216,Z 217,Z 218,Z 219,Z 220,Z 221,Z 222,Z 223,Z 224,Z 225,Z 226,Z 227,Z 228,Z 229,Z 230,Z 231,Z 232,Z 233,Z 234,Z 235,Z 236,Z 237,Z 238,Z 239,Z 240,Z 241,Z 242,Z 243,Z 244,Z 245,Z 246,Z 247,Z 248,Z 249,Z 250,Z 251,Z 252,Z 253,Z 254,Z 255,Z 256,Z 257,Z 258,Z 259,Z 260,Z 261,Z 262,Z 263,Z 264,Z 265,Z 266,Z 267,Z 268,Z 269,Z 270,Z 271,Z 272,Z 273,Z 274,Z 275,Z 276,Z 277,Z 278,Z 279,Z 280,Z 281,Z 282,Z 283,Z 284,Z 285,Z 286,Z 287,Z 288,Z 289,Z 290,Z 291,Z 292,Z 293,Z 294,Z 295,Z 296,Z 297,Z 298,Z 299,Z 300,Z 301,Z 302,Z 303,Z 304,Z 305,Z 306,Z 307,Z 308,Z 309,Z 310,Z 311,Z 312,Z 313,Z 314]) [] H6 V7 s ∧ H6 gu = some ⟨123, u32s us2, (dg a).length + 1⟩ ∧ H6 gq = some ⟨123, u32s qs, M⟩ ∧ us2.length = (dg a).length + 1 ∧ Dig us2 ∧ cc < BB ∧ bo ≤ 1 ∧ us2.take j = us1.take j ∧ us2.drop (j + vs.length) = us1.drop (j + vs.length) ∧ nv us2 + BB ^ j * (g * nv vs) = nv us1 + BB ^ (j + vs.length) * (cc + bo)) ?_ ?_
    ·
     refine Gx.a (by kernel_rfl) fun K hK => ?_
     simp only [XA]
     refine hK _ ?_
     clear hK
     refine XWP.block ?_
     refine XWP.loop (fun n s => ∃ (k : Nat) (H6 : Heap) (us2 : List Nat) (cc bo : Nat), StIs (fun Z => [.v (.slice A (dg a).length c), .v (.slice (some ⟨q1, o1, none⟩) (dg b).length c'), Z 2,Z 3,Z 4,Z 5,Z 6,Z 7,Z 8, .v (.int .u64 (l : Int)), .v (.slice (some ⟨gu, 0, none⟩) ((dg a).length + 1) ((dg a).length + 1)), .v (.slice (some ⟨p7, o7, none⟩) vs.length c7), .v (.int .i64 (vs.length : Int)), .v (.slice (some ⟨gq, 0, none⟩) M M), .v (.int .i64 (j : Int)), Z 15, .v (.int .u64 (g : Int)), Z 17, .v (.int .u64 (bo : Int)), .v (.int .u64 (cc : Int)), Z 20,Z 21,Z 22,Z 23,Z 24,Z 25,Z 26,Z 27,Z 28,Z 29,Z 30,Z 31,Z 32,Z 33,Z 34,Z 35,Z 36,Z 37,Z 38,Z 39,Z 40,Z 41,Z 42,Z 43,Z 44,Z 45,Z 46,Z 47,Z 48,Z 49,Z 50,Z 51,Z 52,Z 53,Z 54,Z 55,Z 56,Z 57,Z 58,Z 59,Z 60,Z 61,Z 62,Z 63,Z 64,Z 65,Z 66,Z 67,Z 68,Z 69,Z 70,Z 71,Z 72,Z 73,Z 74,Z 75,Z 76,Z 77,Z 78,Z 79,Z 80,Z 81,Z 82,Z 83,Z 84,Z 85,Z 86,Z 87,Z 88,Z 89,Z 90,Z 91,Z 92,Z 93,Z 94,Z 95,Z 96,Z 97,Z 98,Z 99,Z 100,Z 101,Z 102,Z 103,Z 104,Z 105,Z 106,Z 107,Z 108,Z 109,Z 110,Z 111,Z 112,Z 113,Z 114,Z 115,Z 116,Z 117,Z 118,Z 119,Z 120,Z 121,Z 122,Z 123,Z 124,Z 125,Z 126,Z 127,Z 128,Z 129,Z 130,Z 131,Z 132,Z 133,Z 134,Z 135,Z 136,Z 137,Z 138,Z 139,Z 140,Z 141,Z 142,Z 143,Z 144,Z 145,Z 146,Z 147,Z 148,Z 149,Z 150,Z 151,Z 152,Z 153,Z 154,Z 155,Z 156,Z 157, .v (.int .i64 (vs.length : Int)), .v (.int .i64 (k : Int)), Z 160,Z 161,Z 162,Z 163,Z 164,Z 165,Z 166,Z 167,Z 168,Z 169,Z 170,Z 171,Z 172,Z 173,Z 174,Z 175,Z 176,Z 177,Z 178,Z 179,Z 180,Z 181,Z 182,Z 183,Z 184,Z 185,Z 186,Z 187,Z 188,Z 189,Z 190,Z 191,Z 192,Z 193,Z 194,Z 195,Z 196,Z 197,Z 198,Z 199,Z 200,Z 201,Z 202,Z 203,Z 204,Z 205,Z 206,Z 207,Z 208,Z 209,Z 210,Z 211,Z 212,Z 213,Z 214,Z 215,Z 216,Z 217,Z 218,Z 219,Z 220,Z 221,Z 222,Z 223,Z 224,Z 225,Z 226,Z 227,Z 228,Z 229,Z 230,Z 231,Z 232,Z 233,Z 234,Z 235,Z 236,Z 237,Z 238,Z 239,Z 240,Z 241,Z 242,Z 243,Z 244,Z 245,Z 246,Z 247,Z 248,Z 249,Z 250,Z 251,Z 252,Z 253,Z 254,Z 255,Z 256,Z 257,Z 258,Z 259,Z 260,Z 261,Z 262,Z 263,Z 264,Z 265,Z 266,Z 267,Z 268,Z 269,Z 270,Z 271,Z 272,Z 273,Z 274,Z 275,Z 276,Z 277,Z 278,Z 279,Z 280,Z 281,Z 282,Z 283,Z 284,Z 285,Z 286,Z 287,Z 288,Z 289,Z 290,Z 291,Z 292,Z 293,Z 294,Z 295,Z 296,Z 297,Z 298,Z 299,Z 300,Z 301,Z 302,Z 303,Z 304,Z 305,Z 306,Z 307,Z 308,Z 309,Z 310,Z 311,Z 312,Z 313,Z 314]) [] H6 V7 s ∧ n + k = vs.length ∧ H6 gu = some ⟨123, u32s us2, (dg a).length + 1⟩ ∧ H6 gq = some ⟨123, u32s qs, M⟩ ∧ us2.length = (dg a).length + 1 ∧ Dig us2 ∧ cc < BB ∧ bo ≤ 1 ∧ us2.take j = us1.take j ∧ us2.drop (j + vs.length) = us1.drop (j + vs.length) ∧ nv us2 + BB ^ j * (g * nv (vs.take k)) = nv us1 + BB ^ (j + k) * (cc + bo)) vs.length ⟨0, H5, us1, 0, 0, StIs.of (by exact rfl), rfl, hHu, hHq, hul1, hud1, BB_pos, Nat.zero_le _, rfl, rfl, by simp [nv]⟩ ?_
     rintro n s ⟨k, H6, us2, cc, bo, hs, hn, hHu2, hHq2, hul2, hud2, hcc, hbo, ht2, hd2, hnv2⟩
     obtain ⟨z, rfl⟩ := hs.out
     dsimp only
     refine Gx.a (by kernel_rfl) fun K hK => ?_
     by_cases hkn : k < vs.length
     ·have b3 : decide ((k : Int) < (vs.length : Int)) = true := decide_eq_true (by omega)
      simp only [XA, XB, b3]
      refine hK _ ?_
      refine XWP.seq (Gx.t rfl ?_)
      refine XWP.skip ?_
      refine XWP.seq ?_
      refine XWP.block ?_
      have hcv := NatAt.cells h7 k hkn
      have hdv := Dig_get hvsd k hkn
      rw [getD_get] at hcv hdv
      have hcu := row_cell (V := V7) hHu2 (k := k + j) (by omega)
      have hdu : us2.getD (k + j) 0 < BB := gd_lt hud2 _
      have hst := mulsub_step (l := us2) (vs := vs) (U0 := nv us1) (j := j) (i := k) (g := g) (c := cc) (bo := bo) (by omega) hud2 hbo hnv2
      have ev : gd vs k = vs.getD k 0 := rfl
      rw [ev] at hst
      generalize hv : vs.getD k 0 = vk at *
      generalize hx : us2.getD (k + j) 0 = x at *
      obtain ⟨mc1, mc2⟩ := dig_mulc hcc hgB hdv
      have mm := Nat.mod_lt (cc + g * vk) BB_pos
      generalize hy : (cc + g * vk) % BB + bo = y at *
      have hyB : y ≤ BB := by omega
      obtain ⟨sd1, sd2, sd3⟩ := subD_eq hdu hyB
      refine Gx.a (by kernel_rfl) fun K hK => ?_
      simp only [XA]
      refine hK _ ?_
      refine Gx.a (by kernel_rfl) fun K hK => ?_
      simp only [XA, XB]
      refine ⟨by omega, by omega, ld_mem (loads_cell shapeT_123 (hcv _)) ?_⟩
      simp only [XA, XB, u64_of_u32 _ hdv, u64_mul _ _ (dig_mul hgB hdv), u64_add _ _ mc1]
      refine hK _ ?_
      refine Gx.a (by kernel_rfl) fun K hK => ?_
      simp only [XA, XB, and_mask _ mc1, u64_add ((cc + g * vk) % BB) bo (by unfold BB at *; omega), hy]
      refine hK _ ?_
      refine Gx.a (by kernel_rfl) fun K hK => ?_
      simp only [XA]
      refine hK _ ?_
      clear hK
      refine XWP.cut (fun s => StIs (fun Z => [.v (.slice A (dg a).length c), .v (.slice (some ⟨q1, o1, none⟩) (dg b).length c'), Z 2,Z 3,Z 4,Z 5,Z 6,Z 7,Z 8, .v (.int .u64 (l : Int)), .v (.slice (some ⟨gu, 0, none⟩) ((dg a).length + 1) ((dg a).length + 1)), .v (.slice (some ⟨p7, o7, none⟩) vs.length c7), .v (.int .i64 (vs.length : Int)), .v (.slice (some ⟨gq, 0, none⟩) M M), .v (.int .i64 (j : Int)), Z 15, .v (.int .u64 (g : Int)), Z 17, .v (.int .u64 ((subB x y : Nat) : Int)), .v (.int .u64 ((cc + g * vk : Nat) : Int)), .v (.int .i64 (k : Int)), .v (.int .u64 (y : Int)), Z 22,Z 23,Z 24,Z 25,Z 26,Z 27,Z 28,Z 29,Z 30,Z 31,Z 32,Z 33,Z 34,Z 35,Z 36,Z 37,Z 38,Z 39,Z 40,Z 41,Z 42,Z 43,Z 44,Z 45,Z 46,Z 47,Z 48,Z 49,Z 50,Z 51,Z 52,Z 53,Z 54,Z 55,Z 56,Z 57,Z 58,Z 59,Z 60,Z 61,Z 62,Z 63,Z 64,Z 65,Z 66,Z 67,Z 68,Z 69,Z 70,Z 71,Z 72,Z 73,Z 74,Z 75,Z 76,Z 77,Z 78,Z 79,Z 80,Z 81,Z 82,Z 83,Z 84,Z 85,Z 86,Z 87,Z 88,Z 89,Z 90,Z 91,Z 92,Z 93,Z 94,Z 95,Z 96,Z 97,Z 98,Z 99,Z 100,Z 101,Z 102,Z 103,Z 104,Z 105,Z 106,Z 107,Z 108,Z 109,Z 110,Z 111,Z 112,Z 113,Z 114,Z 115,Z 116,Z 117,Z 118,Z 119,Z 120,Z 121,Z 122,Z 123,Z 124,Z 125,Z 126,Z 127,Z 128,Z 129,Z 130,Z 131,Z 132,Z 133,Z 134,Z 135,Z 136,Z 137,Z 138,Z 139,Z 140,Z 141,Z 142,Z 143,Z 144,Z 145,Z 146,Z 147,Z 148,Z 149,Z 150,Z 151,Z 152,Z 153,Z 154,Z 155,Z 156,Z 157, .v (.int .i64 (vs.length : Int)), .v (.int .i64 (k : Int)), Z 160,Z 161,Z 162,Z 163,Z 164,Z 165,Z 166,Z 167,Z 168,Z 169,Z 170,Z 171,Z 172,Z 173,Z 174,Z 175,Z 176,Z 177,Z 178,Z 179,Z 180,Z 181,Z 182,Z 183,Z 184,Z 185,Z 186,Z 187,Z 188,Z 189,Z 190,Z 191,Z 192,Z 193,Z 194,Z 195,Z 196,Z 197,Z 198,Z 199,Z 200,Z 201,Z 202,Z 203,Z 204,Z 205,Z 206,Z 207,Z 208,Z 209,Z 210,Z 211,Z 212,Z 213,Z 214,Z 215,Z 216,Z 217,Z 218,Z 219,Z 220,Z 221,Z 222,Z 223,Z 224,Z 225,Z 226,Z 227,Z 228,Z 229,Z 230,Z 231,Z 232,Z 233,Z 234,Z 235,Z 236,Z 237,Z 238,Z 239,Z 240,Z 241,Z 242,Z 243,Z 244,Z 245,Z 246,Z 247,Z 248,Z 249,Z 250,Z 251,Z 252,Z 253,Z 254,Z 255,Z 256,Z 257,Z 258,Z 259,Z 260,Z 261,Z 262,Z 263,Z 264,Z 265,Z 266,Z 267,Z 268,Z 269,Z 270,Z 271,Z 272,Z 273,Z 274,Z 275,Z 276,Z 277,Z 278,Z 279,Z 280,Z 281,Z 282,Z 283,Z 284,Z 285,Z 286,Z 287,Z 288,Z 289,Z 290,Z 291,Z 292,Z 293,Z 294,Z 295,Z 296,Z 297,Z 298,Z 299,Z 300,Z 301,Z 302,Z 303,Z 304,Z 305,Z 306,Z 307,Z 308,Z 309,Z 310,Z 311,Z 312,Z 313,Z 314]) [] H6 V7 s) ?_ ?_
      ·refine Gx.a (by kernel_rfl) fun K hK => ?_
       simp only [XA, XB, i64_add k j (by omega)]
       refine ⟨by omega, by omega, ld_mem (loads_cell shapeT_123 hcu) ?_⟩
       by_cases hxy : x < y
       ·have b4 : decide ((x : Int) < (y : Int)) = true := decide_eq_true (by omega)
        simp only [XA, XB, u64_of_u32 _ hdu, b4]
        refine hK _ ?_
        refine Gx.t rfl ?_
        refine Gx.c (by kernel_rfl) fun K hK => ?_
        simp only [XA]
        refine hK _ ?_
        try rw [thenX_normal]
        refine StIs.of ?_
        unfold subB
        rw [if_pos hxy]; rfl
       ·have b4 : decide ((x : Int) < (y : Int)) = false := decide_eq_false (by omega)
        simp only [XA, XB, u64_of_u32 _ hdu, b4]
        refine hK _ ?_
        refine Gx.f rfl ?_
        refine XWP.skip ?_
        try rw [thenX_normal]
        refine StIs.of ?_
        unfold subB
        rw [if_neg hxy]; rfl
      ·rintro s hs
       obtain ⟨z2, rfl⟩ := hs.out
       dsimp only
       refine Gx.a (by kernel_rfl) fun K hK => ?_
       simp only [XA, XB, i64_add k j (by omega)]
       refine ⟨by omega, by omega, ld_mem (loads_cell shapeT_123 hcu) ?_⟩
       simp only [XA, XB, Int.reduceToNat, Int.reduceLE, u64_of_u32 _ hdu, shl32_01 _ sd3]
       rw [sub_mid _ _ hdu hyB]
       refine ⟨by omega, by omega, ?_⟩
       refine st_row shapeT_123 rfl rfl hHu2 (by rw [u32s_length]; omega) ?_
       simp only [XA, u32s_set]
       refine hK _ ?_
       refine Gx.c (by kernel_rfl) fun K hK => ?_
       simp only [XA, XB, Int.reduceToNat, Int.reduceLE, shr32]
       refine hK _ ?_
       refine Gx.c (by kernel_rfl) fun K hK => ?_
       simp only [XA, XB, i64_succ k (by omega)]
       refine hK _ ⟨n - 1, by omega, k + 1, _, us2.set (k + j) (subD x y), (cc + g * vk) / BB, subB x y, StIs.of (by exact rfl), by omega, upd_at _ _ _, ?_, by simp [hul2], Dig_set hud2 _ sd2, mc2, sd3, ?_, ?_, hst⟩
       ·simp only [upd, hne2, if_false]; exact hHq2
       ·rw [set_take _ _ (by omega)]; exact ht2
       ·rw [set_drop _ _ (by omega)]; exact hd2
     ·have b3 : decide ((k : Int) < (vs.length : Int)) = false := decide_eq_false (by omega)
      obtain rfl : k = vs.length := by omega
      simp only [XA, XB, b3]
      refine hK _ ?_
      refine XWP.seq (Gx.f rfl ?_)
      refine XWP.exit ?_
      exact ⟨H6, us2, cc, bo, StIs.of (by exact rfl), hHu2, hHq2, hul2, hud2, hcc, hbo, ht2, hd2, by rw [List.take_length] at hnv2; exact hnv2⟩
    ·rintro s ⟨H6, us2, cc, bo, hs, hHu2, hHq2, hul2, hud2, hcc, hbo, ht2, hd2, hnv2⟩
     obtain ⟨z, rfl⟩ := hs.out
     dsimp only
     have hcu := row_cell (V := V7) hHu2 (k := j + vs.length) (by omega)
     have hdu : us2.getD (j + vs.length) 0 < BB := gd_lt hud2 _
     have hyB : cc + bo ≤ BB := by omega
     have hml := mulsub_last (l := us2) (j := j) (n := vs.length) (by omega) hud2 hyB hnv2
     generalize hy : cc + bo = y at *
     generalize hx : us2.getD (j + vs.length) 0 = x at *
     obtain ⟨sd1, sd2, sd3⟩ := subD_eq hdu hyB
     have hd3 : (us2.set (j + vs.length) (subD x y)).drop (j + vs.length + 1) = us1.drop (j + vs.length + 1) := by
      rw [set_drop _ _ (by omega)]; exact drop_more hd2 (by omega)
     have ht3 : (us2.set (j + vs.length) (subD x y)).take j = us1.take j := by rw [set_take _ _ (by omega)]; exact ht2
     refine Gx.a (by kernel_rfl) fun K hK => ?_
     simp only [XA, XB, u64_add cc bo (by unfold BB at *; omega), hy]
     refine hK _ ?_
     refine Gx.a (by kernel_rfl) fun K hK => ?_
     simp only [XA, XB, i64_add j vs.length (by omega)]
     refine ⟨by omega, by omega, ld_mem (loads_cell shapeT_123 hcu) ?_⟩
     simp only [XA, XB, u64_of_u32 _ hdu]
     refine hK _ ?_
     refine Gx.a (by kernel_rfl) fun K hK => ?_
     simp only [XA, XB, i64_add j vs.length (by omega)]
     refine ⟨by omega, by omega, ld_mem (loads_cell shapeT_123 hcu) ?_⟩
     simp only [XA, XB, u64_of_u32 _ hdu, sub_last _ _ hdu hyB]
     refine ⟨by omega, by omega, ?_⟩
     refine st_row shapeT_123 rfl rfl hHu2 (by rw [u32s_length]; omega) ?_
     simp only [XA, u32s_set]
     refine hK _ ?_
     clear hK
     generalize hus3 : us2.set (j + vs.length) (subD x y) = us3 at *
     have hul3 : us3.length = (dg a).length + 1 := by rw [← hus3]; simp [hul2]
     have hud3 : Dig us3 := hus3 ▸ Dig_set hud2 _ sd2
     refine XWP.cut (fun s => ∃ (H7 : Heap) (us4 : List Nat), StIs (fun Z => [.v (.slice A (dg a).length c), .v (.slice (some ⟨q1, o1, none⟩) (dg b).length c'), Z 2,Z 3,Z 4,Z 5,Z 6,Z 7,Z 8, .v (.int .u64 (l : Int)), .v (.slice (some ⟨gu, 0, none⟩) ((dg a).length + 1) ((dg a).length + 1)), .v (.slice (some ⟨p7, o7, none⟩) vs.length c7), .v (.int .i64 (vs.length : Int)), .v (.slice (some ⟨gq, 0, none⟩) M M), .v (.int .i64 (j : Int)), Z 15, .v (.int .u64 (q : Int)), Z 17,Z 18,Z 19,Z 20,Z 21,Z 22,Z 23,Z 24,Z 25,Z 26,Z 27,Z 28,Z 29,Z 30,Z 31,Z 32,Z 33,Z 34,Z 35,Z 36,Z 37,Z 38,Z 39,Z 40,Z 41,Z 42,Z 43,Z 44,Z 45,Z 46,Z 47,Z 48,Z 49,Z 50,Z 51,Z 52,Z 53,Z 54,Z 55,Z 56,Z 57,Z 58,Z 59,Z 60,Z 61,Z 62,Z 63,Z 64,Z 65,Z 66,Z 67,Z 68,Z 69,Z 70,Z 71,Z 72,Z 73,Z 74,Z 75,Z 76,Z 77,Z 78,Z 79,Z 80,Z 81,Z 82,Z 83,Z 84,Z 85,Z 86,Z 87,Z 88,Z 89,Z 90,Z 91,Z 92,Z 93,Z 94,Z 95,Z 96,Z 97,Z 98,Z 99,Z 100,Z 101,Z 102,Z 103,Z 104,Z 105,Z 106,Z 107,Z 108,Z 109,Z 110,Z 111,Z 112,Z 113,Z 114,Z 115,Z 116,Z 117,Z 118,Z 119,Z 120,Z 121,Z 122,Z 123,Z 124,Z 125,Z 126,Z 127,Z 128,Z 129,Z 130,Z 131,Z 132,Z 133,Z 134,Z 135,Z 136,Z 137,Z 138,Z 139,Z 140,Z 141,Z 142,Z 143,Z 144,Z 145,Z 146,Z 147,Z 148,Z 149,Z 150,Z 151,Z 152,Z 153,Z 154,Z 155,Z 156,Z 157,Z 158,Z 159,Z 160,Z 161,Z 162,Z 163,Z 164,Z 165,Z 166,Z 167,Z 168,Z 169,Z 170,Z 171,Z 172,Z 173,Z 174,Z 175,Z 176,Z 177,Z 178,Z 179,Z 180,Z 181,Z 182,Z 183,Z 184,Z 185,Z 186,Z 187,Z 188,Z 189,Z 190,Z 191,Z 192,Z 193,Z 194,Z 195,Z 196,Z 197,Z 198,Z 199,Z 200,Z 201,Z 202,Z 203,Z 204,Z 205,Z 206,Z 207,Z 208,Z 209,Z 210,Z 211,Z 212,Z 213,Z 214,Z 215,Z 216,Z 217,Z 218,Z 219,Z 220,Z 221,Z 222,Z 223,Z 224,Z 225,Z 226,Z 227,Z 228,Z 229,Z 230,Z 231,Z 232,Z 233,Z 234,Z 235,Z 236,Z 237,Z 238,Z 239,Z 240,Z 241,Z 242,Z 243,Z 244,Z 245,Z 246,Z 247,Z 248,Z 249,Z 250,Z 251,Z 252,Z 253,Z 254,Z 255,Z 256,Z 257,Z 258,Z 259,Z 260,Z 261,Z 262,Z 263,Z 264,Z 265,Z 266,Z 267,Z 268,Z 269,Z 270,Z 271,Z 272,Z 273,Z 274,Z 275,Z 276,Z 277,Z 278,Z 279,Z 280,Z 281,Z 282,Z 283,Z 284,Z 285,Z 286,Z 287,Z 288,Z 289,Z 290,Z 291,Z 292,Z 293,Z 294,Z 295,Z 296,Z 297,Z 298,Z 299,Z 300,Z 301,Z 302,Z 303,Z 304,Z 305,Z 306,Z 307,Z 308,Z 309,Z 310,Z 311,Z 312,Z 313,Z 314]) [] H7 V7 s ∧ H7 gu = some ⟨123, u32s us4, (dg a).length + 1⟩ ∧ H7 gq = some ⟨123, u32s qs, M⟩ ∧ us4.length = (dg a).length + 1 ∧ Dig us4 ∧ us4.take j = us1.take j ∧ nv (us4.drop j) = nv (us1.drop j) % nv vs) ?_ ?_
     ·
      refine Gx.a (by kernel_rfl) fun K hK => ?_
      by_cases hxy : x < y
      ·have b4 : decide ((x : Int) < (y : Int)) = true := decide_eq_true (by omega)
       have hsb1 : subB x y = 1 := if_pos hxy
       rw [hsb1, Nat.mul_one] at hml
       have hg0 : 1 ≤ g := by
        rcases Nat.eq_zero_or_pos g with h | h
        ·subst h
         have := nv_below (l := us3) (k := j + vs.length + 1) hud3 (by omega) (by rw [hd3]; exact hz0)
         rw [Nat.zero_mul, Nat.mul_zero] at hml
         omega
        ·exact h
       simp only [XA, b4]
       refine hK _ ?_
       refine Gx.t rfl ?_
       refine Gx.a (by kernel_rfl) fun K hK => ?_
       have w1 : IntKind.u64.wrap ((g : Int) - 1) = ((g - 1 : Nat) : Int) := u64_sub g 1 (by omega) (by unfold BB at hgB; omega)
       simp only [XA, XB, w1]
       refine hK _ ?_
       refine Gx.a (by kernel_rfl) fun K hK => ?_
       simp only [XA]
       refine hK _ ?_
       clear hK
       have hHu3 : upd H6 gu (some ⟨123, u32s us3, (dg a).length + 1⟩) gu = some ⟨123, u32s us3, (dg a).length + 1⟩ := upd_at _ _ _
       have hHq3 : upd H6 gu (some ⟨123, u32s us3, (dg a).length + 1⟩) gq = some ⟨123, u32s qs, M⟩ := by simp only [upd, hne2, if_false]; exact hHq2
       refine XWP.cut (fun s => ∃ (H8 : Heap) (us4 : List Nat) (cc : Nat), StIs (fun Z => [.v (.slice A (dg a).length c), .v (.slice (some ⟨q1, o1, none⟩) (dg b).length c'), Z 2,Z 3,Z 4,Z 5,Z 6,Z 7,Z 8, .v (.int .u64 (l : Int)), .v (.slice (some ⟨gu, 0, none⟩) ((dg a).length + 1) ((dg a).length + 1)), .v (.slice (some ⟨p7, o7, none⟩) vs.length c7), .v (.int .i64 (vs.length : Int)), .v (.slice (some ⟨gq, 0, none⟩) M M), .v (.int .i64 (j : Int)), Z 15, .v (.int .u64 ((g - 1 : Nat) : Int)), Z 17, Z 18, .v (.int .u64 (cc : Int)), Z 20,Z 21,Z 22,Z 23,Z 24,Z 25,Z 26,Z 27,Z 28,Z 29,Z 30,Z 31,Z 32,Z 33,Z 34,Z 35,Z 36,Z 37,Z 38,Z 39,Z 40,Z 41,Z 42,Z 43,Z 44,Z 45,Z 46,Z 47,Z 48,Z 49,Z 50,Z 51,Z 52,Z 53,Z 54,Z 55,Z 56,Z 57,Z 58,Z 59,Z 60,Z 61,Z 62,Z 63,Z 64,Z 65,Z 66,Z 67,Z 68,Z 69,Z 70,Z 71,Z 72,Z 73,Z 74,Z 75,Z 76,Z 77,Z 78,Z 79,Z 80,Z 81,Z 82,Z 83,Z 84,Z 85,Z 86,Z 87,Z 88,Z 89,Z 90,Z 91,Z 92,Z 93,Z 94,Z 95,Z 96,Z 97,Z 98,Z 99,Z 100,Z 101,Z 102,Z 103,Z 104,Z 105,Z 106,Z 107,Z 108,Z 109,Z 110,Z 111,Z 112,Z 113,Z 114,Z 115,Z 116,Z 117,Z 118,Z 119,Z 120,Z 121,Z 122,Z 123,Z 124,Z 125,Z 126,Z 127,Z 128,Z 129,Z 130,Z 131,Z 132,Z 133,Z 134,Z 135,Z 136,Z 137,Z 138,Z 139,Z 140,Z 141,Z 142,Z 143,Z 144,Z 145,Z 146,Z 147,Z 148,Z 149,Z 150,Z 151,Z 152,Z 153,Z 154,Z 155,Z 156,Z 157,Z 158,Z 159,Z 160,Z 161,Z 162,Z 163,Z 164,Z 165,Z 166,Z 167,Z 168,Z 169,Z 170,Z 171,Z 172,Z 173,Z 174,Z 175,Z 176,Z 177,Z 178,Z 179,Z 180,Z 181,Z 182,Z 183,Z 184,Z 185,Z 186,Z 187,Z 188,Z 189,Z 190,Z 191,Z 192,Z 193,Z 194,Z 195,Z 196,Z 197,Z 198,Z 199,Z 200,Z 201,Z 202,Z 203,Z 204,Z 205,Z 206,Z 207,Z 208,Z 209,Z 210,Z 211,Z 212,Z 213,Z 214,Z 215,Z 216,Z 217,Z 218,Z 219,Z 220,Z 221,Z 222,Z 223,Z 224,Z 225,Z 226,Z 227,Z 228,Z 229,Z 230,Z 231,Z 232,Z 233,Z 234,Z 235,Z 236,Z 237,Z 238,Z 239,Z 240,Z 241,Z 242,Z 243,Z 244,Z 245,Z 246,Z 247,Z 248,Z 249,Z 250,Z 251,Z 252,Z 253,Z 254,Z 255,Z 256,Z 257,Z 258,Z 259,Z 260,Z 261,Z 262,Z 263,Z 264,Z 265,Z 266,Z 267,Z 268,Z 269,Z 270,Z 271,Z 272,Z 273,Z 274,Z 275,Z 276,Z 277,Z 278,Z 279,Z 280,Z 281,Z 282,Z 283,Z 284,Z 285,Z 286,Z 287,Z 288,Z 289,Z 290,Z 291,Z 292,Z 293,Z 294,Z 295,Z 296,Z 297,Z 298,Z 299,Z 300,Z 301,Z 302,Z 303,Z 304,Z 305,Z 306,Z 307,Z 308,Z 309,Z 310,Z 311,Z 312,Z 313,Z 314]) [] H8 V7 s ∧ H8 gu = some ⟨123, u32s us4, (dg a).length + 1⟩ ∧ H8 gq = some ⟨123, u32s qs, M⟩ ∧ us4.length = (dg a).length + 1 ∧ Dig us4 ∧ cc < BB ∧ us4.take j = us1.take j ∧ us4.drop (j + vs.length) = us3.drop (j + vs.length) ∧ nv us4 + BB ^ (j + vs.length) * cc = nv us3 + BB ^ j * nv vs) ?_ ?_
       ·refine Gx.a (by kernel_rfl) fun K hK => ?_
        simp only [XA]
        refine hK _ ?_
        clear hK
        refine XWP.block ?_
        refine XWP.loop (fun n s => ∃ (k : Nat) (H8 : Heap) (us4 : List Nat) (cc : Nat), StIs (fun Z => [.v (.slice A (dg a).length c), .v (.slice (some ⟨q1, o1, none⟩) (dg b).length c'), Z 2,Z 3,Z 4,Z 5,Z 6,Z 7,Z 8, .v (.int .u64 (l : Int)), .v (.slice (some ⟨gu, 0, none⟩) ((dg a).length + 1) ((dg a).length + 1)), .v (.slice (some ⟨p7, o7, none⟩) vs.length c7), .v (.int .i64 (vs.length : Int)), .v (.slice (some ⟨gq, 0, none⟩) M M), .v (.int .i64 (j : Int)), Z 15, .v (.int .u64 ((g - 1 : Nat) : Int)), Z 17, Z 18, .v (.int .u64 (cc : Int)), Z 20,Z 21,Z 22,Z 23,Z 24,Z 25,Z 26,Z 27,Z 28,Z 29,Z 30,Z 31,Z 32,Z 33,Z 34,Z 35,Z 36,Z 37,Z 38,Z 39,Z 40,Z 41,Z 42,Z 43,Z 44,Z 45,Z 46,Z 47,Z 48,Z 49,Z 50,Z 51,Z 52,Z 53,Z 54,Z 55,Z 56,Z 57,Z 58,Z 59,Z 60,Z 61,Z 62,Z 63,Z 64,Z 65,Z 66,Z 67,Z 68,Z 69,Z 70,Z 71,Z 72,Z 73,Z 74,Z 75,Z 76,Z 77,Z 78,Z 79,Z 80,Z 81,Z 82,Z 83,Z 84,Z 85,Z 86,Z 87,Z 88,Z 89,Z 90,Z 91,Z 92,Z 93,Z 94,Z 95,Z 96,Z 97,Z 98,Z 99,Z 100,Z 101,Z 102,Z 103,Z 104,Z 105,Z 106,Z 107,Z 108,Z 109,Z 110,Z 111,Z 112,Z 113,Z 114,Z 115,Z 116,Z 117,Z 118,Z 119,Z 120,Z 121,Z 122,Z 123,Z 124,Z 125,Z 126,Z 127,Z 128,Z 129,Z 130,Z 131,Z 132,Z 133,Z 134,Z 135,Z 136,Z 137,Z 138,Z 139,Z 140,Z 141,Z 142,Z 143,Z 144,Z 145,Z 146,Z 147,Z 148,Z 149,Z 150,Z 151,Z 152,Z 153,Z 154,Z 155,Z 156,Z 157,Z 158,Z 159,Z 160,Z 161,Z 162,Z 163,Z 164,Z 165,Z 166,Z 167,Z 168,Z 169,Z 170,Z 171,Z 172,Z 173,Z 174,Z 175,Z 176,Z 177,Z 178,Z 179,Z 180,Z 181,Z 182,Z 183,Z 184,Z 185,Z 186,Z 187,Z 188,Z 189,Z 190,Z 191,Z 192,Z 193,Z 194,Z 195,Z 196,Z 197,Z 198,Z 199,Z 200,Z 201,Z 202,Z 203,Z 204,Z 205,Z 206,Z 207,Z 208,Z 209,Z 210,Z 211,Z 212,Z 213,Z 214,Z 215,Z 216,Z 217,Z 218,Z 219,Z 220,Z 221,Z 222,Z 223,Z 224,Z 225,Z 226,Z 227,Z 228,Z 229,Z 230,Z 231,Z 232,Z 233,Z 234, .v (.int .i64 (vs.length : Int)), .v (.int .i64 (k : Int)), Z 237,Z 238,Z 239,Z 240,Z 241,Z 242,Z 243,Z 244,Z 245,Z 246,Z 247,Z 248,Z 249,Z 250,Z 251,Z 252,Z 253,Z 254,Z 255,Z 256,Z 257,Z 258,Z 259,Z 260,Z 261,Z 262,Z 263,Z 264,Z 265,Z 266,Z 267,Z 268,Z 269,Z 270,Z 271,Z 272,Z 273,Z 274,Z 275,Z 276,Z 277,Z 278,Z 279,Z 280,Z 281,Z 282,Z 283,Z 284,Z 285,Z 286,Z 287,Z 288,Z 289,Z 290,Z 291,Z 292,Z 293,Z 294,Z 295,Z 296,Z 297,Z 298,Z 299,Z 300,Z 301,Z 302,Z 303,Z 304,Z 305,Z 306,Z 307,Z 308,Z 309,Z 310,Z 311,Z 312,Z 313,Z 314]) [] H8 V7 s ∧ n + k = vs.length ∧ H8 gu = some ⟨123, u32s us4, (dg a).length + 1⟩ ∧ H8 gq = some ⟨123, u32s qs, M⟩ ∧ us4.length = (dg a).length + 1 ∧ Dig us4 ∧ cc < BB ∧ us4.take j = us1.take j ∧ us4.drop (j + vs.length) = us3.drop (j + vs.length) ∧ nv us4 + BB ^ (j + k) * cc = nv us3 + BB ^ j * nv (vs.take k)) vs.length ⟨0, _, us3, 0, StIs.of (by exact rfl), rfl, hHu3, hHq3, hul3, hud3, BB_pos, ht3, rfl, by simp [nv]⟩ ?_
        rintro n s ⟨k, H8, us4, cc, hs, hn, hHu4, hHq4, hul4, hud4, hcc4, ht4, hd4, hnv4⟩
        obtain ⟨z, rfl⟩ := hs.out
        dsimp only
        refine Gx.a (by kernel_rfl) fun K hK => ?_
        by_cases hkn : k < vs.length
        ·have b3 : decide ((k : Int) < (vs.length : Int)) = true := decide_eq_true (by omega)
         simp only [XA, XB, b3]
         refine hK _ ?_
         refine XWP.seq (Gx.t rfl ?_)
         refine XWP.skip ?_
         refine XWP.seq ?_
         refine XWP.block ?_
         have hcv := NatAt.cells h7 k hkn
         have hdv := Dig_get hvsd k hkn
         rw [getD_get] at hcv hdv
         have hcu4 := row_cell (V := V7) hHu4 (k := k + j) (by omega)
         have hdu4 : us4.getD (k + j) 0 < BB := gd_lt hud4 _
         have hst := addback_step (l := us4) (vs := vs) (U0 := nv us3) (j := j) (i := k) (c := cc) (by omega) hnv4
         have ev : gd vs k = vs.getD k 0 := rfl
         rw [ev] at hst
         generalize hv : vs.getD k 0 = vk at *
         generalize hx4 : us4.getD (k + j) 0 = w at *
         have r1 : w + vk < 18446744073709551616 := by unfold BB at *; omega
         have r2 : cc + (w + vk) < 18446744073709551616 := by unfold BB at *; omega
         have r3 : (cc + (w + vk)) / BB < BB := by unfold BB at *; omega
         refine Gx.a (by kernel_rfl) fun K hK => ?_
         simp only [XA]
         refine hK _ ?_
         clear hK
         (refine XWP.drw [0, 1, 2, 3, 4, 5, 6, 7, 8, 9, 10, 11, 12, 13, 14, 15] (by kernel_rfl) (by kernel_rfl) (by kernel_rfl) fun K hK => ?_) <;> dsimp only [pickOps, List.getElem?_cons_zero, List.getElem?_cons_succ]
         simp only [XA, XB, i64_add k j (by omega)]
         refine ⟨by omega, by omega, ld_mem (loads_cell shapeT_123 hcu4) ?_⟩
         simp only [XA, XB]
         refine ⟨by omega, by omega, ld_mem (loads_cell shapeT_123 (hcv _)) ?_⟩
         simp only [XA, XB, u64_of_u32 _ hdv, u64_of_u32 _ hdu4, u64_add _ _ r1, u64_add _ _ r2]
         refine hK _ ?_
         refine Gx.a (by kernel_rfl) fun K hK => ?_
         simp only [XA, XB, i64_add k j (by omega), w32_mod]
         refine ⟨by omega, by omega, ?_⟩
         refine st_row shapeT_123 rfl rfl hHu4 (by rw [u32s_length]; omega) ?_
         simp only [XA, u32s_set]
         refine hK _ ?_
         refine Gx.c (by kernel_rfl) fun K hK => ?_
         simp only [XA, XB, Int.reduceToNat, Int.reduceLE, shr32]
         refine hK _ ?_
         refine Gx.c (by kernel_rfl) fun K hK => ?_
         simp only [XA, XB, i64_succ k (by omega)]
         refine hK _ ⟨n - 1, by omega, k + 1, _, us4.set (k + j) ((cc + (w + vk)) % BB), (cc + (w + vk)) / BB, StIs.of (by exact rfl), by omega, upd_at _ _ _, ?_, by simp [hul4], Dig_set hud4 _ (Nat.mod_lt _ BB_pos), r3, ?_, ?_, hst⟩
         ·simp only [upd, hne2, if_false]; exact hHq4
         ·rw [set_take _ _ (by omega)]; exact ht4
         ·rw [set_drop _ _ (by omega)]; exact hd4
        ·have b3 : decide ((k : Int) < (vs.length : Int)) = false := decide_eq_false (by omega)
         obtain rfl : k = vs.length := by omega
         simp only [XA, XB, b3]
         refine hK _ ?_
         refine XWP.seq (Gx.f rfl ?_)
         refine XWP.exit ?_
         exact ⟨H8, us4, cc, StIs.of (by exact rfl), hHu4, hHq4, hul4, hud4, hcc4, ht4, hd4, by rw [List.take_length] at hnv4; exact hnv4⟩
       ·rintro s ⟨H8, us4, cc, hs, hHu4, hHq4, hul4, hud4, hcc4, ht4, hd4, hnv4⟩
        obtain ⟨z, rfl⟩ := hs.out
        dsimp only
        have hcu4 := row_cell (V := V7) hHu4 (k := j + vs.length) (by omega)
        have hdu4 : us4.getD (j + vs.length) 0 < BB := gd_lt hud4 _
        have hal := addback_last (l := us4) (j := j) (n := vs.length) (by omega) hnv4
        generalize hx4 : us4.getD (j + vs.length) 0 = w at *
        have e1 : cc % BB = cc := Nat.mod_eq_of_lt hcc4
        have w2 : IntKind.u32.wrap ((w : Int) + (cc : Int)) = (((w + cc) % BB : Nat) : Int) := by rw [← Int.natCast_add, w32_mod]
        have ho : (w + cc) / BB ≤ 1 := by unfold BB at *; omega
        have ht5 : (us4.set (j + vs.length) ((w + cc) % BB)).take j = us1.take j := by rw [set_take _ _ (by omega)]; exact ht4
        have hd5 : (us4.set (j + vs.length) ((w + cc) % BB)).drop (j + vs.length + 1) = us1.drop (j + vs.length + 1) := by
         rw [set_drop _ _ (by omega), drop_more hd4 (by omega)]; exact hd3
        obtain ⟨e6, e7⟩ := div_under1 (l0 := us1) (l1 := us3) (l2 := us4.set (j + vs.length) ((w + cc) % BB)) (g := g) (by omega) hud3 (Dig_set hud4 _ (Nat.mod_lt _ BB_pos)) (by omega) (by rw [List.length_set]; omega) ht5 (by rw [hd3]; exact hz0) (by rw [hd5]; exact hz0) hq.symm hg2 hv0 ho hml hal
        subst e6
        refine Gx.c (by kernel_rfl) fun K hK => ?_
        simp only [XA, XB, i64_add j vs.length (by omega)]
        refine ⟨by omega, by omega, ld_mem (loads_cell shapeT_123 hcu4) ?_⟩
        simp only [XA, XB, w32_mod, e1, w2]
        refine ⟨by omega, by omega, ?_⟩
        refine st_row shapeT_123 rfl rfl hHu4 (by rw [u32s_length]; omega) ?_
        simp only [XA, u32s_set]
        refine hK _ ?_
        exact ⟨_, us4.set (j + vs.length) ((w + cc) % BB), StIs.of (by exact rfl), upd_at _ _ _, (by simp only [upd, hne2, if_false]; exact hHq4), (by rw [List.length_set]; exact hul4), Dig_set hud4 _ (Nat.mod_lt _ BB_pos), ht5, e7⟩
      ·have b4 : decide ((x : Int) < (y : Int)) = false := decide_eq_false (by omega)
       have hsb1 : subB x y = 0 := if_neg hxy
       rw [hsb1, Nat.mul_zero, Nat.add_zero] at hml
       obtain ⟨e6, e7⟩ := div_under0 (l0 := us1) (l1 := us3) (by omega) (by omega) ht3 hq.symm hg1 hv0 hml
       subst e6
       simp only [XA, b4]
       refine hK _ ?_
       clear hK
       refine Gx.f rfl ?_
       refine XWP.skip ?_
       exact ⟨_, us3, StIs.of (by exact rfl), upd_at _ _ _, by (simp only [upd, hne2, if_false]; exact hHq2), hul3, hud3, ht3, e7⟩
     ·rintro s ⟨H7, us4, hs, hHu4, hHq4, hul4, hud4, ht4, hnv4⟩
      obtain ⟨z, rfl⟩ := hs.out
      dsimp only
      have e1 : q % BB = q := Nat.mod_eq_of_lt kB
      have w1 : IntKind.i64.wrap ((j : Int) - 1) = (j : Int) - 1 := wrap_id (by omega) (by omega)
      have htt := div_total (l0 := us1) (l2 := us4) (qs := qs) (vs := vs) (j := j) (N := a * 2 ^ l) (by omega) (by omega) (by omega) ht4 hnv4 htot
      rw [hq] at htt
      refine Gx.c (by kernel_rfl) fun K hK => ?_
      simp only [XA, XB, w32_mod, e1]
      refine ⟨by omega, by omega, ?_⟩
      refine st_row shapeT_123 rfl rfl hHq4 (by rw [u32s_length]; omega) ?_
      simp only [XA, u32s_set]
      refine hK _ ?_
      refine Gx.c (by kernel_rfl) fun K hK => ?_
      simp only [XA, XB, w1]
      refine hK _ ⟨j, by omega, _, us4, qs.set j q, StIs.of (by exact rfl), by omega, ?_, upd_at _ _ _, hul4, by simp [hql], hud4, Dig_set hqd _ kB, ?_, htt⟩
      ·simp only [upd, hne3, if_false]; exact hHu4
      ·rw [hnv4]; exact Nat.mod_lt _ hv0
  ·rintro s ⟨H5, us1, qs, hs, hHu, hHq, hul1, hql, hud1, hqd, hlt, htot⟩
   obtain ⟨u, rfl⟩ := hs.out
   dsimp only
   rw [hvsn] at hlt htot
   obtain ⟨eq1, er1⟩ := div_end (Nat.two_pow_pos l) (by omega) htot hlt
   have hzn : nv (us1.drop vs.length) = 0 := by
    have h1 := nv_split us1 vs.length (by omega)
    have h2 := nv_lt hvsd
    rcases Nat.eq_zero_or_pos (nv (us1.drop vs.length)) with h | h
    ·exact h
    ·have : BB ^ vs.length * 1 ≤ BB ^ vs.length * nv (us1.drop vs.length) := Nat.mul_le_mul_left _ h
     omega
   refine Gx.a (by kernel_rfl) fun K hK => ?_
   simp only [XA]
   refine mk_go rfl rfl elemT_47 zeroT_123 (by omega) (by omega) (by omega) (by omega) rfl (by omega) fun gr hr1 hr2 => ?_
   have hru : gr ≠ gu := fun e => by subst e; simp [hHu] at hr1
   have hrq : gr ≠ gq := fun e => by subst e; simp [hHq] at hr1
   have hur : gu ≠ gr := fun e => hru e.symm
   have hqr : gq ≠ gr := fun e => hrq e.symm
   simp only [XA, u32s_replicate]
   refine hK _ ?_
   clear hK
   refine XWP.cut (fun s => ∃ (H6 : Heap) (rs : List Nat), StIs (fun Z => [.v (.slice A (dg a).length c), .v (.slice (some ⟨q1, o1, none⟩) (dg b).length c'), Z 2,Z 3,Z 4,Z 5,Z 6,Z 7,Z 8, .v (.int .u64 (l : Int)), .v (.slice (some ⟨gu, 0, none⟩) ((dg a).length + 1) ((dg a).length + 1)), .v (.slice A7 vs.length c7), .v (.int .i64 (vs.length : Int)), .v (.slice (some ⟨gq, 0, none⟩) M M), Z 14,Z 15,Z 16,Z 17,Z 18,Z 19,Z 20,Z 21,Z 22,Z 23,Z 24, .v (.slice (some ⟨gr, 0, none⟩) vs.length vs.length), Z 26,Z 27,Z 28,Z 29,Z 30,Z 31,Z 32,Z 33,Z 34,Z 35,Z 36,Z 37,Z 38,Z 39,Z 40,Z 41,Z 42,Z 43,Z 44,Z 45,Z 46,Z 47,Z 48,Z 49,Z 50,Z 51,Z 52,Z 53,Z 54,Z 55,Z 56,Z 57,Z 58,Z 59,Z 60,Z 61,Z 62,Z 63,Z 64,Z 65,Z 66,Z 67,Z 68,Z 69,Z 70,Z 71,Z 72,Z 73,Z 74,Z 75,Z 76,Z 77,Z 78,Z 79,Z 80,Z 81,Z 82,Z 83,Z 84,Z 85,Z 86,Z 87,Z 88,Z 89,Z 90,Z 91,Z 92,Z 93,Z 94,Z 95,Z 96,Z 97,Z 98,Z 99,Z 100,Z 101,Z 102,Z 103,Z 104,Z 105,Z 106,Z 107,Z 108,Z 109,Z 110,Z 111,Z 112,Z 113,Z 114,Z 115,Z 116,Z 117,Z 118,Z 119,Z 120,Z 121,Z 122,Z 123,Z 124,Z 125,Z 126,Z 127,Z 128,Z 129,Z 130,Z 131,Z 132,Z 133,Z 134,Z 135,Z 136,Z 137,Z 138,Z 139,Z 140,Z 141,Z 142,Z 143,Z 144,Z 145,Z 146,Z 147,Z 148,Z 149,Z 150,Z 151,Z 152,Z 153,Z 154,Z 155,Z 156,Z 157,Z 158,Z 159,Z 160,Z 161,Z 162,Z 163,Z 164,Z 165,Z 166,Z 167,Z 168,Z 169,Z 170,Z 171,Z 172,Z 173,Z 174,Z 175,Z 176,Z 177,Z 178,Z 179,Z 180,Z 181,Z 182,Z 183,Z 184,Z 185,Z 186,Z 187,Z 188,Z 189,Z 190,Z 191,Z 192,Z 193,Z 194,Z 195,Z 196,Z 197,Z 198,Z 199,Z 200,Z 201,Z 202,Z 203,Z 204,Z 205,Z 206,Z 207,Z 208,Z 209,Z 210,Z 211,Z 212,Z 213,Z 214,Z 215,Z 216,Z 217,Z 218,Z 219,Z 220,Z 221,Z 222,Z 223,Z 224,Z 225,Z 226,Z 227,Z 228,Z 229,Z 230,Z 231,Z 232,Z 233,Z 234,Z 235,Z 236,Z 237,Z 238,Z 239,Z 240,Z 241,Z 242,Z 243,Z 244,Z 245,Z 246,Z 247,Z 248,Z 249,Z 250,Z 251,Z 252,Z 253,Z 254,Z 255,Z 256,Z 257,Z 258,Z 259,Z 260,Z 261,Z 262,Z 263,Z 264,Z 265,Z 266,Z 267,Z 268,Z 269,Z 270,Z 271,Z 272,Z 273,Z 274,Z 275,Z 276,Z 277,Z 278,Z 279,Z 280,Z 281,Z 282,Z 283,Z 284,Z 285,Z 286,Z 287,Z 288,Z 289,Z 290,Z 291,Z 292,Z 293,Z 294,Z 295,Z 296,Z 297,Z 298,Z 299,Z 300,Z 301,Z 302,Z 303,Z 304,Z 305,Z 306,Z 307,Z 308,Z 309,Z 310,Z 311,Z 312,Z 313,Z 314]) [] H6 V7 s ∧ H6 gu = some ⟨123, u32s us1, (dg a).length + 1⟩ ∧ H6 gq = some ⟨123, u32s qs, M⟩ ∧ H6 gr = some ⟨123, u32s rs, vs.length⟩ ∧ rs.length = vs.length ∧ Dig rs ∧ nv rs = a % b) ?_ ?_
   ·refine Gx.a (by kernel_rfl) fun K hK => ?_
    simp only [XA]
    refine hK _ ?_
    clear hK
    refine XWP.block ?_
    refine XWP.loop (fun n s => ∃ (k : Nat) (H6 : Heap) (rs : List Nat), StIs (fun Z => [.v (.slice A (dg a).length c), .v (.slice (some ⟨q1, o1, none⟩) (dg b).length c'), Z 2,Z 3,Z 4,Z 5,Z 6,Z 7,Z 8, .v (.int .u64 (l : Int)), .v (.slice (some ⟨gu, 0, none⟩) ((dg a).length + 1) ((dg a).length + 1)), .v (.slice A7 vs.length c7), .v (.int .i64 (vs.length : Int)), .v (.slice (some ⟨gq, 0, none⟩) M M), Z 14,Z 15,Z 16,Z 17,Z 18,Z 19,Z 20,Z 21,Z 22,Z 23,Z 24, .v (.slice (some ⟨gr, 0, none⟩) vs.length vs.length), Z 26,Z 27,Z 28,Z 29,Z 30,Z 31,Z 32,Z 33,Z 34,Z 35,Z 36,Z 37,Z 38,Z 39,Z 40,Z 41,Z 42,Z 43,Z 44,Z 45,Z 46,Z 47,Z 48,Z 49,Z 50,Z 51,Z 52,Z 53,Z 54,Z 55,Z 56,Z 57,Z 58,Z 59,Z 60,Z 61,Z 62,Z 63,Z 64,Z 65,Z 66,Z 67,Z 68,Z 69,Z 70,Z 71,Z 72,Z 73,Z 74,Z 75,Z 76,Z 77,Z 78,Z 79,Z 80,Z 81,Z 82,Z 83,Z 84,Z 85,Z 86,Z 87,Z 88,Z 89,Z 90,Z 91,Z 92,Z 93,Z 94,Z 95,Z 96,Z 97,Z 98,Z 99,Z 100,Z 101,Z 102,Z 103,Z 104,Z 105,Z 106,Z 107,Z 108,Z 109,Z 110,Z 111,Z 112,Z 113,Z 114,Z 115,Z 116,Z 117,Z 118,Z 119,Z 120,Z 121,Z 122,Z 123,Z 124,Z 125,Z 126,Z 127,Z 128,Z 129,Z 130,Z 131,Z 132,Z 133,Z 134,Z 135,Z 136,Z 137,Z 138,Z 139,Z 140,Z 141,Z 142,Z 143,Z 144,Z 145,Z 146,Z 147,Z 148,Z 149,Z 150,Z 151,Z 152,Z 153,Z 154,Z 155,Z 156,Z 157,Z 158,Z 159,Z 160,Z 161,Z 162,Z 163,Z 164,Z 165,Z 166,Z 167,Z 168,Z 169,Z 170,Z 171,Z 172,Z 173,Z 174,Z 175,Z 176,Z 177,Z 178,Z 179,Z 180,Z 181,Z 182,Z 183,Z 184,Z 185,Z 186,Z 187,Z 188,Z 189,Z 190,Z 191,Z 192,Z 193,Z 194,Z 195,Z 196,Z 197,Z 198,Z 199,Z 200,Z 201,Z 202,Z 203,Z 204,Z 205,Z 206,Z 207,Z 208,Z 209,Z 210,Z 211,Z 212,Z 213,Z 214,Z 215,Z 216,Z 217,Z 218,Z 219,Z 220,Z 221,Z 222,Z 223,Z 224,Z 225,Z 226,Z 227,Z 228,Z 229,Z 230,Z 231,Z 232,Z 233,Z 234,Z 235,Z 236,Z 237,Z 238,Z 239,Z 240,Z 241,Z 242,Z 243,Z 244,Z 245,Z 246,Z 247,Z 248,Z 249,Z 250,Z 251,Z 252,Z 253,Z 254,Z 255,Z 256,Z 257,Z 258,Z 259,Z 260,Z 261,Z 262,Z 263,Z 264,Z 265,Z 266,Z 267,Z 268,Z 269,Z 270,Z 271,Z 272,Z 273,Z 274,Z 275,Z 276,Z 277,Z 278,Z 279,Z 280, .v (.int .i64 (vs.length : Int)), .v (.int .i64 (k : Int)), Z 283,Z 284,Z 285,Z 286,Z 287,Z 288,Z 289,Z 290,Z 291,Z 292,Z 293,Z 294,Z 295,Z 296,Z 297,Z 298,Z 299,Z 300,Z 301,Z 302,Z 303,Z 304,Z 305,Z 306,Z 307,Z 308,Z 309,Z 310,Z 311,Z 312,Z 313,Z 314]) [] H6 V7 s ∧ n + k = vs.length ∧ H6 gu = some ⟨123, u32s us1, (dg a).length + 1⟩ ∧ H6 gq = some ⟨123, u32s qs, M⟩ ∧ H6 gr = some ⟨123, u32s rs, vs.length⟩ ∧ rs.length = vs.length ∧ Dig rs ∧ 2 ^ l * nv (rs.take k) + gd us1 0 % 2 ^ l = nv (us1.take k) + BB ^ k * (gd us1 k % 2 ^ l)) vs.length ⟨0, _, List.replicate vs.length 0, StIs.of (by exact rfl), rfl, by (simp only [upd, hur, if_false]; exact hHu), by (simp only [upd, hqr, if_false]; exact hHq), by simp only [upd_at, Nat.mul_one], by simp, Dig_replicate _, by simp [nv]⟩ ?_
    rintro n s ⟨k, H6, rs, hs, hn, hHu6, hHq6, hHr, hrl, hrd, hnv⟩
    obtain ⟨z, rfl⟩ := hs.out
    dsimp only
    refine Gx.a (by kernel_rfl) fun K hK => ?_
    by_cases hkn : k < vs.length
    ·have b3 : decide ((k : Int) < (vs.length : Int)) = true := decide_eq_true (by omega)
     simp only [XA, XB, b3]
     refine hK _ ?_
     refine XWP.seq (Gx.t rfl ?_)
     refine XWP.skip ?_
     refine XWP.seq ?_
     refine XWP.block ?_
     have hcx := row_cell (V := V7) hHu6 (k := k) (by omega)
     have hcy := row_cell (V := V7) hHu6 (k := k + 1) (by omega)
     have hdx : us1.getD k 0 < BB := gd_lt hud1 _
     have hdy : us1.getD (k + 1) 0 < BB := gd_lt hud1 _
     have hst := rs_step (us := us1) (rs := rs) (i := k) (s := l) (c := gd us1 0 % 2 ^ l) (by omega) hdx hdy hl31 hnv
     have ex : gd us1 k = us1.getD k 0 := rfl
     have ey : gd us1 (k + 1) = us1.getD (k + 1) 0 := rfl
     rw [ex, ey] at hst
     generalize hx : us1.getD k 0 = x at *
     generalize hy : us1.getD (k + 1) 0 = y at *
     obtain ⟨_, rd2⟩ := rsD_eq (y := y) hdx hdy hl31
     have hxs : x / 2 ^ l < BB := Nat.lt_of_le_of_lt (Nat.div_le_self _ _) hdx
     refine Gx.a (by kernel_rfl) fun K hK => ?_
     simp only [XA]
     refine hK _ ?_
     refine Gx.a (by kernel_rfl) fun K hK => ?_
     simp only [XA, XB]
     refine ⟨by omega, by omega, ld_mem (loads_cell shapeT_123 hcx) ?_⟩
     simp only [XA, XB, bin_shr _ _ _ _ _ hl0, shrN _ _ (show l ≤ 32 by omega)]
     refine ⟨by omega, by omega, ?_⟩
     refine st_row shapeT_123 rfl rfl hHr (by rw [u32s_length]; omega) ?_
     simp only [XA, u32s_set]
     refine hK _ ?_
     refine Gx.a (by kernel_rfl) fun K hK => ?_
     by_cases hl00 : l = 0
     ·have b4 : decide ((0 : Int) < (l : Int)) = false := decide_eq_false (by omega)
      simp only [XA, b4]
      refine hK _ ?_
      refine Gx.f rfl ?_
      refine XWP.skip ?_
      have erd : rsD x y l = x / 2 ^ l := by unfold rsD; rw [if_pos hl00, Nat.add_zero]
      rw [erd] at hst
      refine Gx.c (by kernel_rfl) fun K hK => ?_
      simp only [XA, XB, i64_succ k (by omega)]
      refine hK _ ⟨n - 1, by omega, k + 1, _, rs.set k (x / 2 ^ l), StIs.of (by exact rfl), by omega, by (simp only [upd, hur, if_false]; exact hHu6), by (simp only [upd, hqr, if_false]; exact hHq6), upd_at _ _ _, by simp [hrl], Dig_set hrd _ hxs, by rw [show gd us1 (k + 1) = y from hy]; exact hst⟩
     ·have b4 : decide ((0 : Int) < (l : Int)) = true := decide_eq_true (by omega)
      have hHr2 : upd H6 gr (some ⟨123, u32s (rs.set k (x / 2 ^ l)), vs.length⟩) gr = some ⟨123, u32s (rs.set k (x / 2 ^ l)), vs.length⟩ := upd_at _ _ _
      have hcz := row_cell (V := V7) hHr2 (k := k) (by rw [List.length_set]; omega)
      have hz1 : (rs.set k (x / 2 ^ l)).getD k 0 = x / 2 ^ l := by simp [hrl, hkn]
      rw [hz1] at hcz
      have hcy2 : CellAt (upd H6 gr (some ⟨123, u32s (rs.set k (x / 2 ^ l)), vs.length⟩)) V7 gu (k + 1) (.int .u32 ((y : Nat) : Int)) := by
       have : upd H6 gr (some ⟨123, u32s (rs.set k (x / 2 ^ l)), vs.length⟩) gu = some ⟨123, u32s us1, (dg a).length + 1⟩ := by simp only [upd, hur, if_false]; exact hHu6
       have := row_cell (V := V7) this (k := k + 1) (by omega)
       rw [hy] at this; exact this
      have h32 : IntKind.u64.wrap (32 - (l : Int)) = ((32 - l : Nat) : Int) := by
       have := u64_sub 32 l (by omega) (by omega)
       simpa using this
      have h320 : (0 : Int) ≤ ((32 - l : Nat) : Int) := by omega
      have hlow := rsD_low hdx hl31
      have hmo : (y * 2 ^ (32 - l) % BB) % 2 ^ (32 - l) = 0 := by
       rw [(two_split hl31).2, Nat.mod_mul_right_mod, Nat.mul_mod_left]
      have erd : rsD x y l = x / 2 ^ l + y * 2 ^ (32 - l) % BB := by unfold rsD; rw [if_neg hl00]
      rw [erd] at hst rd2
      simp only [XA, b4]
      refine hK _ ?_
      refine Gx.t rfl ?_
      clear hK
      (refine XWP.drw1 [0, 1, 2, 3, 4, 5, 6, 7, 8, 9, 10, 11, 12, 13, 14] (by kernel_rfl) (by kernel_rfl) (by kernel_rfl) fun K hK => ?_) <;> dsimp only [pickOps, List.getElem?_cons_zero, List.getElem?_cons_succ]
      simp only [XA, XB]
      refine ⟨by omega, by omega, ld_mem (loads_cell shapeT_123 hcz) ?_⟩
      simp only [XA, XB, i64_succ k (by omega)]
      refine ⟨by omega, by omega, ld_mem (loads_cell shapeT_123 hcy2) ?_⟩
      simp only [XA, XB, h32, bin_shl _ _ _ _ _ h320, u32_shl _ _ (show 32 - l ≤ 31 by omega), or32 _ _ _ hlow hmo rd2]
      refine ⟨by omega, by omega, ?_⟩
      refine st_row shapeT_123 rfl rfl hHr2 (by rw [u32s_length, List.length_set]; omega) ?_
      simp only [XA, u32s_set, List.set_set]
      refine hK _ ?_
      clear hK
      refine Gx.c (by kernel_rfl) fun K hK => ?_
      simp only [XA, XB, i64_succ k (by omega)]
      refine hK _ ⟨n - 1, by omega, k + 1, _, rs.set k (x / 2 ^ l + y * 2 ^ (32 - l) % BB), StIs.of (by exact rfl), by omega, by (simp only [upd, hur, if_false]; exact hHu6), by (simp only [upd, hqr, if_false]; exact hHq6), upd_at _ _ _, by simp [hrl], Dig_set hrd _ rd2, by rw [show gd us1 (k + 1) = y from hy]; exact hst⟩
    ·have b3 : decide ((k : Int) < (vs.length : Int)) = false := decide_eq_false (by omega)
     obtain rfl : k = vs.length := by omega
     simp only [XA, XB, b3]
     refine hK _ ?_
     refine XWP.seq (Gx.f rfl ?_)
     refine XWP.exit ?_
     exact ⟨H6, rs, StIs.of (by exact rfl), hHu6, hHq6, hHr, hrl, hrd, rs_end hl31 (Nat.mod_lt _ (Nat.two_pow_pos l)) hrl (by omega) hzn er1 hnv⟩
   ·rintro s ⟨H6, rs, hs, hHu6, hHq6, hHr, hrl, hrd, hrn⟩
    obtain ⟨z, rfl⟩ := hs.out
    dsimp only
    refine Gx.a (by kernel_rfl) fun K hK => ?_
    simp only [XA]
    refine call_pub gq _ hHq6 (fun o ho hle' => ?_) (by kernel_rfl) rfl
    refine call_go (by kernel_rfl) rfl (trim_any _ _ qs (NatAt.pub ho hqd hql (Nat.le_refl _) (by omega))) fun v8 V8 hV8 h8 => ?_
    simp only [XA]
    refine call_pub gr _ (by simp only [upd, hrq, if_false]; exact hHr) (fun o2 ho2 hle2 => ?_) (by kernel_rfl) rfl
    refine call_go (by kernel_rfl) rfl (trim_any _ _ rs (NatAt.pub ho2 hrd hrl (Nat.le_refl _) (by omega))) fun v9 V9 hV9 h9 => ?_
    simp only [XA]
    refine hK _ (XWP.ret ?_)
    try simp only [thenX_ret, inBlockX_ret]
    refine ret_go _ rfl ?_
    refine ⟨fun h => absurd h hb0, fun _ => ⟨v8, v9, rfl, ?_, ?_⟩⟩
    ·rw [← eq1]; exact (h8.mono hle2).mono hV9
    ·rw [← hrn]; exact h9
theorem Fit.mono {a b : Nat} (h : Fit b) (hl : a ≤ b) : Fit a := Nat.le_trans (sz_mono hl) h
theorem gcd_step (x y : Nat) : Nat.gcd y (x % y) = Nat.gcd x y := by rw [Nat.gcd_comm x y, Nat.gcd_rec y x, Nat.gcd_comm]
theorem gcd_c (V : View) (v u : Value) (a b : Nat) (hv : NatC V v a) (hu : NatC V u b) (fa : Fit a) (fb : Fit b) : Spec Tryz.prog 94 [v, u] V fun v' V' => NatC V' v' (Nat.gcd a b) := by
 obtain ⟨A0, c0, rfl, hc0, hm0⟩ := NatAt.form hv
 obtain ⟨A1, c1, rfl, hc1, hm1⟩ := NatAt.form hu
 refine (Spec.enter Tryz.func94 rfl fun Γ => ?_)
 simp only [Tryz.ntmps94, List.map_cons, List.map_nil, List.length_cons, List.length_nil, Nat.reduceAdd, Nat.reduceSub, List.replicate_succ, List.replicate_zero, List.cons_append, List.nil_append]
 refine Gx.a (by kernel_rfl) fun K hK => ?_
 simp only [XA]
 refine hK _ ?_
 refine Gx.a (by kernel_rfl) fun K hK => ?_
 simp only [XA]
 refine call_go (by kernel_rfl) rfl (trim_c _ _ _ hv) fun v1 V1 hV1 h1 => ?_
 simp only [XA]
 refine call_go (by kernel_rfl) rfl (trim_c _ _ _ (hu.mono hV1)) fun v2 V2 hV2 h2 => ?_
 have h1 := h1.mono hV2
 simp only [XA]
 refine hK _ ?_
 clear hK hc0 hc1 hm0 hm1
 refine XWP.cut (fun s => ∃ (V3 : View) (w : Value), StIs (fun Z => [.v w, Z 1,Z 2,Z 3,Z 4,Z 5,Z 6,Z 7,Z 8,Z 9,Z 10,Z 11,Z 12,Z 13,Z 14,Z 15,Z 16,Z 17,Z 18,Z 19,Z 20,Z 21,Z 22,Z 23,Z 24,Z 25]) [] (fun _ => none) V3 s ∧ NatC V3 w (Nat.gcd a b) ∧ Fit (Nat.gcd a b)) ?_ ?_
 ·refine XWP.block ?_
  refine XWP.loop (fun n s => ∃ (V3 : View) (w z : Value) (x : Nat), StIs (fun Z => [.v w, .v z, Z 2,Z 3,Z 4,Z 5,Z 6,Z 7,Z 8,Z 9,Z 10,Z 11,Z 12,Z 13,Z 14,Z 15,Z 16,Z 17,Z 18,Z 19,Z 20,Z 21,Z 22,Z 23,Z 24,Z 25]) [] (fun _ => none) V3 s ∧ NatC V3 w x ∧ NatC V3 z n ∧ Fit x ∧ Fit n ∧ Nat.gcd x n = Nat.gcd a b) b ⟨_, _, _, a, StIs.of (by exact rfl), h1, h2, fa, fb, rfl⟩ ?_
  rintro n s ⟨V3, w, z, x, hs, hw, hz, fx, fn, hg⟩
  obtain ⟨u, rfl⟩ := hs.out
  try dsimp only
  obtain ⟨A, c, rfl, hc, hm⟩ := NatAt.form hz
  refine Gx.b (by kernel_rfl) fun K hK => ?_
  by_cases hn : n = 0
  ·subst hn
   have b0 : decide ((0 : Int) < ((dg 0).length : Int)) = false := decide_eq_false (by rw [dg_zero]; simp)
   simp only [XA, XB, b0]
   refine hK _ ?_
   refine Gx.f rfl ?_
   refine XWP.exit ?_
   rw [Nat.gcd_zero_right] at hg
   exact ⟨V3, _, StIs.of (by exact rfl), hg ▸ hw, hg ▸ fx⟩
  ·have hsz := sz_pos hn
   unfold sz at hsz
   have b0 : decide ((0 : Int) < ((dg n).length : Int)) = true := decide_eq_true (by omega)
   simp only [XA, XB, b0]
   refine hK _ ?_
   refine Gx.t rfl ?_
   refine XWP.skip ?_
   refine XWP.block ?_
   refine Gx.a (by kernel_rfl) fun K hK => ?_
   simp only [XA]
   refine call_go (by kernel_rfl) rfl (div_c _ _ _ _ _ hw hz fx fn) fun v4 V4 hV4 h4 => ?_
   obtain ⟨q, r, rfl, hq, hr⟩ := h4.2 hn
   simp only [XA]
   refine hK _ ?_
   refine Gx.c (by kernel_rfl) fun K hK => ?_
   simp only [XA]
   have hlt := Nat.mod_lt x (Nat.pos_of_ne_zero hn)
   exact hK _ ⟨x % n, hlt, _, _, _, n, StIs.of (by exact rfl), hz.mono hV4, hr, fn, fn.mono (Nat.le_of_lt hlt), by rw [gcd_step, hg]⟩
 ·rintro s ⟨V3, w, hs, hw, fg⟩
  obtain ⟨u, rfl⟩ := hs.out
  try dsimp only
  have := fg.len
  refine Gx.a (by kernel_rfl) fun K hK => ?_
  simp only [XA]
  refine call_go (by kernel_rfl) rfl (clone_at _ _ _ hw (by omega)) fun v4 V4 hV4 h4 => ?_
  simp only [XA]
  refine hK _ (XWP.ret ?_)
  try simp only [thenX_ret, inBlockX_ret]
  refine ret_go _ rfl ?_
  exact h4
theorem rtrim_at (V : View) (v : Value) (ds : List Nat) (h : NatAt V v ds) (hl : ds.length ≤ 8796093022208) : Spec Tryz.prog 118 [v] V fun v' V' => NatAt V' v' (trimL ds) := by
 obtain ⟨A, c, rfl, hc, hm⟩ := h.form
 refine (Spec.enter Tryz.func118 rfl fun Γ => ?_)
 simp only [Tryz.ntmps118, List.map_cons, List.map_nil, List.length_cons, List.length_nil, Nat.reduceAdd, Nat.reduceSub, List.replicate_succ, List.replicate_zero, List.cons_append, List.nil_append]
 refine Gx.a (by kernel_rfl) fun K hK => ?_
 simp only [XA]
 refine hK _ ?_
 refine Gx.a (by kernel_rfl) fun K hK => ?_
 simp only [XA, XB]
 refine hK _ ?_
 clear hK
 refine XWP.cut (fun s => ∃ k : Nat, StIs (fun Z => [.v (.slice A ds.length c), Z 1, .v (.slice none 0 0), .v (.int .i64 (k : Int)), Z 4,Z 5,Z 6,Z 7,Z 8,Z 9,Z 10,Z 11,Z 12,Z 13,Z 14,Z 15,Z 16,Z 17,Z 18,Z 19,Z 20,Z 21]) [] (fun _ => none) V s ∧ k ≤ ds.length ∧ ds.take k = trimL ds) ?_ ?_
 ·refine XWP.block ?_
  refine XWP.loop (fun k s => StIs (fun Z => [.v (.slice A ds.length c), Z 1, .v (.slice none 0 0), .v (.int .i64 (k : Int)), Z 4,Z 5,Z 6,Z 7,Z 8,Z 9,Z 10,Z 11,Z 12,Z 13,Z 14,Z 15,Z 16,Z 17,Z 18,Z 19,Z 20,Z 21]) [] (fun _ => none) V s ∧ k ≤ ds.length ∧ trimL (ds.take k) = trimL ds) ds.length ⟨StIs.of (by exact rfl), Nat.le_refl _, by simp⟩ ?_
  rintro k s ⟨hs, hk, ht⟩
  obtain ⟨u, rfl⟩ := hs.out
  try dsimp only
  refine Gx.b (by kernel_rfl) fun K hK => ?_
  by_cases h0 : 0 < k
  ·have e1 : decide ((0 : Int) < (k : Int)) = true := decide_eq_true (by omega)
   obtain ⟨b, o, rfl, hcell⟩ := h.cell (k := k - 1) (by omega)
   simp only [XA, XB, gateX, ↓reduceIte, beq_self_eq_true, e1, i64_pred k h0 (by omega)]
   refine ⟨by omega, by omega, ld_mem (loads_cell shapeT_123 (hcell _)) ?_⟩
   simp only [XA, XB, gateX, ↓reduceIte, beq_self_eq_true]
   have ek : ds.take k = ds.take (k - 1) ++ [ds[k - 1]] := by rw [← take_snoc _ _ (by omega)]; congr 1; omega
   by_cases hz : ds[k - 1] = 0
   ·have e3 : decide ((ds[k - 1] : Int) = 0) = true := decide_eq_true (by omega)
    simp only [e3]
    refine hK _ ?_
    refine Gx.t rfl ?_
    refine XWP.skip ?_
    refine XWP.block ?_
    refine Gx.c (by kernel_rfl) fun K hK => ?_
    simp only [XA, XB, i64_pred k h0 (by omega)]
    exact hK _ ⟨k - 1, by omega, StIs.of (by exact rfl), by omega, by rw [← ht, ek, hz, trimL_snoc_zero]⟩
   ·have e3 : decide ((ds[k - 1] : Int) = 0) = false := decide_eq_false (by omega)
    simp only [e3]
    refine hK _ ?_
    refine Gx.f rfl ?_
    refine XWP.exit ?_
    exact ⟨k, StIs.of (by exact rfl), hk, by rw [← ht, ek, trimL_snoc _ _ hz]⟩
  ·have e1 : decide ((0 : Int) < (k : Int)) = false := decide_eq_false (by omega)
   obtain rfl : k = 0 := by omega
   simp only [XA, XB, gateX, ↓reduceIte, e1]
   refine hK _ ?_
   refine Gx.f rfl ?_
   refine XWP.exit ?_
   exact ⟨0, StIs.of (by exact rfl), hk, by rw [← ht]; rfl⟩
 ·rintro s ⟨k, hs, hk, ht⟩
  obtain ⟨u, rfl⟩ := hs.out
  try dsimp only
  have h' := h.take hk
  have hlen : (ds.take k).length = k := by simp [Nat.min_eq_left hk]
  refine Gx.a (by kernel_rfl) fun K hK => ?_
  simp only [XA, XB]
  refine ⟨by omega, by omega, by omega, ?_⟩
  refine ap_go elemT_47 (by kernel_rfl) zeroT_123 rfl (by omega) (n := 0) (xs := []) ⟨rfl, .inl ⟨rfl, rfl⟩⟩ (src_nat h' _) (by omega) (by omega) fun v' H' hres => ?_
  simp only [XA]
  refine hK _ (XWP.ret ?_)
  obtain ⟨hown, _, _⟩ := hres
  simp only [List.nil_append, Nat.zero_add] at hown
  rw [← ht]
  rcases own_parts hown with ⟨rfl, hn, _⟩ | ⟨g, cap, rfl, hg, hle, hcap, _⟩
  ·refine ret_go _ rfl ?_
   have hn : k = 0 := hn
   subst hn
   rw [List.take_zero]; exact NatAt.nil V
  ·refine ret_pub g _ hg fun o ho hle' => ret_go _ rfl ?_
   exact NatAt.pub ho h'.dig hlen hle (by unfold maxLen at hcap; omega)
theorem rtrim_any (V : View) (v : Value) (ds : List Nat) (h : NatAt V v ds) (hl : ds.length ≤ 8796093022208) : Spec Tryz.prog 118 [v] V fun v' V' => NatC V' v' (nv ds) :=
 (rtrim_at V v ds h hl).mono fun v' V' _ h' => by unfold NatC; rw [← trimL_eq _ h.dig]; exact h'
theorem rtrim_c (V : View) (v : Value) (n : Nat) (h : NatC V v n) (f : Fit n) : Spec Tryz.prog 118 [v] V fun v' V' => NatC V' v' n :=
 (rtrim_any V v _ h (by have := f.len; omega)).mono fun v' V' _ h' => by rwa [nv_dg] at h'
theorem rright_any (V : View) (v : Value) (ds : List Nat) (h : NatAt V v ds) : Spec Tryz.prog 79 [v] V fun v' V' => v' = .bool (rightB ds) := by
 obtain ⟨A, c, rfl, hc, hm⟩ := h.form
 refine (Spec.enter Tryz.func79 rfl fun Γ => ?_)
 simp only [Tryz.ntmps79, List.map_cons, List.map_nil, List.length_cons, List.length_nil, Nat.reduceAdd, Nat.reduceSub, List.replicate_succ, List.replicate_zero, List.cons_append, List.nil_append]
 refine Gx.a (by kernel_rfl) fun K hK => ?_
 simp only [XA]
 refine hK _ ?_
 refine Gx.a (by kernel_rfl) fun K hK => ?_
 by_cases h0 : ds.length = 0
 ·have e1 : decide ((ds.length : Int) = 0) = true := decide_eq_true (by omega)
  simp only [XA, XB, gateX, ↓reduceIte, e1]
  refine hK _ (XWP.ret ?_)
  try simp only [thenX_ret, inBlockX_ret]
  refine ret_go _ rfl ?_
  have : ds = [] := List.length_eq_zero_iff.1 h0
  subst this; rfl
 ·have e1 : decide ((ds.length : Int) = 0) = false := decide_eq_false (by omega)
  obtain ⟨b, o, rfl, hcell⟩ := h.cell (k := ds.length - 1) (by omega)
  simp only [XA, XB, gateX, ↓reduceIte, beq_self_eq_true, e1, i64_pred ds.length (by omega) (by omega)]
  refine ⟨by omega, by omega, ld_mem (loads_cell shapeT_123 (hcell _)) ?_⟩
  simp only [XA, XB, gateX, ↓reduceIte, beq_self_eq_true]
  refine hK _ (XWP.ret ?_)
  try simp only [thenX_ret, inBlockX_ret]
  refine ret_go _ rfl ?_
  have e4 : ds.getLast? = some ds[ds.length - 1] := by rw [List.getLast?_eq_getElem?, List.getElem?_eq_getElem (by omega)]
  show Value.bool _ = _
  unfold rightB
  rw [e4]
  congr 1
  simp [bne]
  rw [Bool.eq_iff_iff]; simp
theorem rof_c (V : View) (n : Nat) (hn : n < 18446744073709551616) : Spec Tryz.prog 81 [.int .u64 (n : Int)] V fun v' V' => NatC V' v' n := by
 obtain ⟨hdig, hnv⟩ := of_digits n hn
 have hq : n / BB < BB := by unfold BB; omega
 have e2 : ((n / BB : Nat) : Int) = ((n / BB % BB : Nat) : Int) := by rw [Nat.mod_eq_of_lt hq]
 refine (Spec.enter Tryz.func81 rfl fun Γ => ?_)
 simp only [Tryz.ntmps81, List.map_cons, List.map_nil, List.length_cons, List.length_nil, Nat.reduceAdd, Nat.reduceSub, List.replicate_succ, List.replicate_zero, List.cons_append, List.nil_append]
 refine Gx.a (by kernel_rfl) fun K hK => ?_
 simp only [XA]
 refine hK _ ?_
 refine Gx.a (by kernel_rfl) fun K hK => ?_
 simp only [XA, XB, Int.reduceToNat, Int.reduceLE, w32_mod, shr32, ← e2]
 refine bs_go (by kernel_rfl) #[(0, .int .u32 ((n % BB : Nat) : Int)), (1, .int .u32 ((n / BB : Nat) : Int))] (by simp [ev_tmp, SV.val]) (bs_two elemT_47 zeroT_123 rfl rfl) fun b hb1 hb2 => ?_
 simp only [XA, Nat.reduceAdd]
 refine call_pub b ⟨123, u32s [n % BB, n / BB], 2⟩ (by simp [upd, u32s]) (fun o ho hle => ?_) (by kernel_rfl) rfl
 refine call_go (by kernel_rfl) rfl (rtrim_any _ _ [n % BB, n / BB] (NatAt.pub ho hdig rfl (Nat.le_refl _) (by omega)) (by simp)) fun v1 V1 hV1 h1 => ?_
 simp only [XA]
 rw [hnv] at h1
 refine hK _ (XWP.ret ?_)
 try simp only [thenX_ret, inBlockX_ret]
 refine ret_go _ rfl ?_
 exact h1
theorem rat_c (V : View) (v : Value) (ds : List Nat) (i : Nat) (h : NatAt V v ds) (hi : i ≤ 9223372036854775807) : Spec Tryz.prog 123 [v, .int .i64 (i : Int)] V fun v' V' => v' = .int .u64 ((gd ds i : Nat) : Int) := by
 obtain ⟨A, c, rfl, hc, hm⟩ := h.form
 refine (Spec.enter Tryz.func123 rfl fun Γ => ?_)
 simp only [Tryz.ntmps123, List.map_cons, List.map_nil, List.length_cons, List.length_nil, Nat.reduceAdd, Nat.reduceSub, List.replicate_succ, List.replicate_zero, List.cons_append, List.nil_append]
 refine Gx.a (by kernel_rfl) fun K hK => ?_
 simp only [XA]
 refine hK _ ?_
 refine Gx.b (by kernel_rfl) fun K hK => ?_
 by_cases hlt : i < ds.length
 ·have e1 : decide ((i : Int) < (ds.length : Int)) = true := decide_eq_true (by omega)
  obtain ⟨b, o, rfl, hcell⟩ := h.cell (k := i) hlt
  have hd := Dig_get h.dig i hlt
  rw [getD_get] at hcell hd
  simp only [XA, XB, e1]
  refine hK _ ?_
  refine Gx.t rfl ?_
  refine Gx.a (by kernel_rfl) fun K hK => ?_
  simp only [XA, XB]
  refine ⟨by omega, by omega, ld_mem (loads_cell shapeT_123 (hcell _)) ?_⟩
  simp only [XA, XB, u64_of_u32 _ hd]
  refine hK _ (XWP.ret ?_)
  try simp only [thenX_ret, inBlockX_ret]
  refine ret_go _ rfl ?_
  rfl
 ·have e1 : decide ((i : Int) < (ds.length : Int)) = false := decide_eq_false (by omega)
  simp only [XA, XB, e1]
  refine hK _ ?_
  refine Gx.f rfl ?_
  refine XWP.skip ?_
  refine Gx.a (by kernel_rfl) fun K hK => ?_
  simp only [XA]
  refine hK _ (XWP.ret ?_)
  try simp only [thenX_ret, inBlockX_ret]
  refine ret_go _ rfl ?_
  rw [gd_none (by omega)]; rfl
theorem rsmall_c (V : View) (v : Value) (n : Nat) (h : NatC V v n) (f : Fit n) : Spec Tryz.prog 119 [v] V fun v' V' => v' = if n < 18446744073709551616 then .tuple #[.int .u64 (n : Int), .bool true] else .tuple #[.int .u64 0, .bool false] := by
 obtain ⟨A0, c0, rfl, hc0, hm0⟩ := NatAt.form h
 refine (Spec.enter Tryz.func119 rfl fun Γ => ?_)
 simp only [Tryz.ntmps119, List.map_cons, List.map_nil, List.length_cons, List.length_nil, Nat.reduceAdd, Nat.reduceSub, List.replicate_succ, List.replicate_zero, List.cons_append, List.nil_append]
 refine Gx.a (by kernel_rfl) fun K hK => ?_
 simp only [XA]
 refine hK _ ?_
 refine Gx.a (by kernel_rfl) fun K hK => ?_
 simp only [XA]
 refine call_go (by kernel_rfl) rfl (rtrim_c _ _ _ h f) fun v1 V1 hV1 h1 => ?_
 obtain ⟨A, c, rfl, hc, hm⟩ := NatAt.form h1
 simp only [XA]
 refine hK _ ?_
 refine Gx.b (by kernel_rfl) fun K hK => ?_
 simp only [XA, XB]
 refine hK _ ?_
 refine XWP.block ?_
 refine Gx.a (by kernel_rfl) fun K hK => ?_
 by_cases e0 : (dg n).length = 0
 ·have b0 : decide (((dg n).length : Int) = 0) = true := decide_eq_true (by omega)
  simp only [XA, XB, b0]
  refine hK _ ?_
  refine Gx.t rfl ?_
  refine Gx.a (by kernel_rfl) fun K hK => ?_
  simp only [XA]
  refine hK _ (XWP.ret ?_)
  try simp only [thenX_ret, inBlockX_ret]
  refine ret_go _ rfl ?_
  have := small_zero (n := n) e0
  subst this; rfl
 ·have b0 : decide (((dg n).length : Int) = 0) = false := decide_eq_false (by omega)
  simp only [XA, XB, b0]
  refine hK _ ?_
  refine Gx.f rfl ?_
  refine Gx.a (by kernel_rfl) fun K hK => ?_
  by_cases e1 : (dg n).length = 1
  ·have b1 : decide (((dg n).length : Int) = 1) = true := decide_eq_true (by omega)
   simp only [XA, XB, b1]
   refine hK _ ?_
   refine Gx.t rfl ?_
   refine Gx.a (by kernel_rfl) fun K hK => ?_
   obtain ⟨b, o, rfl⟩ := NatAt.addr h1 (by omega)
   have hcell := NatAt.cells h1 0 (by omega)
   have hd0 := Dig_get (Dig_dg n) 0 (by omega)
   simp only [XA, XB, Int.reduceLE, u64_of_u32 _ hd0]
   refine ⟨by omega, ld_mem (loads_cell shapeT_123 (hcell _)) ?_⟩
   simp only [XA, XB, u64_of_u32 _ hd0]
   refine hK _ (XWP.ret ?_)
   try simp only [thenX_ret, inBlockX_ret]
   refine ret_go _ rfl ?_
   have hs := small_one e1
   rw [if_pos (small_lt (by omega)), getD_get (by omega), hs]; rfl
  ·have b1 : decide (((dg n).length : Int) = 1) = false := decide_eq_false (by omega)
   simp only [XA, XB, b1]
   refine hK _ ?_
   refine Gx.f rfl ?_
   refine Gx.a (by kernel_rfl) fun K hK => ?_
   by_cases e2 : (dg n).length = 2
   ·have b2 : decide (((dg n).length : Int) = 2) = true := decide_eq_true (by omega)
    simp only [XA, XB, b2]
    refine hK _ ?_
    refine Gx.t rfl ?_
    (refine XWP.drw [0, 1, 2, 3, 4, 5, 6, 7, 8, 9, 10, 11] (by kernel_rfl) (by kernel_rfl) (by kernel_rfl) fun K hK => ?_) <;> dsimp only [pickOps, List.getElem?_cons_zero, List.getElem?_cons_succ]
    obtain ⟨b, o, rfl⟩ := NatAt.addr h1 (by omega)
    have hcell0 := NatAt.cells h1 0 (by omega)
    have hcell1 := NatAt.cells h1 1 (by omega)
    have hd0 := Dig_get (Dig_dg n) 0 (by omega)
    have hd1 := Dig_get (Dig_dg n) 1 (by omega)
    simp only [XA, XB, Int.reduceToNat, Int.reduceLE]
    refine ⟨by omega, ld_mem (loads_cell shapeT_123 (hcell1 _)) ?_⟩
    simp only [XA, XB, Int.reduceToNat, Int.reduceLE, u64_of_u32 _ hd1]
    refine ⟨by omega, ld_mem (loads_cell shapeT_123 (hcell0 _)) ?_⟩
    simp only [XA, XB, u64_of_u32 _ hd0, u64_of_u32 _ hd1, shl32 _ hd1, or_add _ _ hd1 hd0]
    refine hK _ (XWP.ret ?_)
    try simp only [thenX_ret, inBlockX_ret]
    refine ret_go _ rfl ?_
    have hs := small_two e2
    rw [if_pos (small_lt (by omega)), getD_get (i := 0) (by omega), getD_get (i := 1) (by omega), Nat.mul_comm, Nat.add_comm, hs]; rfl
   ·have b2 : decide (((dg n).length : Int) = 2) = false := decide_eq_false (by omega)
    simp only [XA, XB, b2]
    refine hK _ ?_
    refine Gx.f rfl ?_
    refine XWP.skip ?_
    refine Gx.a (by kernel_rfl) fun K hK => ?_
    simp only [XA]
    refine hK _ (XWP.ret ?_)
    try simp only [thenX_ret, inBlockX_ret]
    refine ret_go _ rfl ?_
    have := small_more (n := n) (by omega)
    rw [if_neg (by omega)]; rfl
theorem rcompare_c (V : View) (v u : Value) (a b : Nat) (hv : NatC V v a) (hu : NatC V u b) (fa : Fit a) (fb : Fit b) : Spec Tryz.prog 80 [v, u] V fun v' V' => v' = .int .i64 (cmpI a b) := by
 obtain ⟨A0, c0, rfl, hc0, hm0⟩ := NatAt.form hv
 obtain ⟨A1, c1, rfl, hc1, hm1⟩ := NatAt.form hu
 refine (Spec.enter Tryz.func80 rfl fun Γ => ?_)
 simp only [Tryz.ntmps80, List.map_cons, List.map_nil, List.length_cons, List.length_nil, Nat.reduceAdd, Nat.reduceSub, List.replicate_succ, List.replicate_zero, List.cons_append, List.nil_append]
 refine Gx.a (by kernel_rfl) fun K hK => ?_
 simp only [XA]
 refine hK _ ?_
 refine Gx.a (by kernel_rfl) fun K hK => ?_
 simp only [XA]
 refine call_go (by kernel_rfl) rfl (rtrim_c _ _ _ hv fa) fun v1 V1 hV1 h1 => ?_
 obtain ⟨A, c, rfl, hc, hm⟩ := NatAt.form h1
 simp only [XA]
 refine call_go (by kernel_rfl) rfl (rtrim_c _ _ _ (hu.mono hV1) fb) fun v2 V2 hV2 h2 => ?_
 obtain ⟨A', c', rfl, hc', hm'⟩ := NatAt.form h2
 have h1 := h1.mono hV2
 simp only [XA]
 refine hK _ ?_
 clear hK
 refine XWP.cut (fun s => (dg a).length = (dg b).length ∧ StIs (fun Z => [.v (.slice A (dg a).length c), .v (.slice A' (dg b).length c'), Z 2,Z 3,Z 4,Z 5,Z 6,Z 7,Z 8,Z 9,Z 10,Z 11,Z 12,Z 13,Z 14,Z 15,Z 16,Z 17,Z 18,Z 19,Z 20,Z 21,Z 22,Z 23,Z 24,Z 25,Z 26,Z 27,Z 28,Z 29,Z 30,Z 31,Z 32,Z 33,Z 34,Z 35,Z 36,Z 37,Z 38,Z 39,Z 40,Z 41,Z 42,Z 43,Z 44]) [] (fun _ => none) V2 s) ?_ ?_
 ·refine Gx.a (by kernel_rfl) fun K hK => ?_
  by_cases hl : (dg a).length = (dg b).length
  ·have b0 : (!decide (((dg a).length : Int) = ((dg b).length : Int))) = false := by rw [decide_eq_true (by omega)]; rfl
   simp only [XA, XB, b0]
   refine hK _ ?_
   refine Gx.f rfl ?_
   refine XWP.skip ?_
   exact ⟨hl, StIs.of (by exact rfl)⟩
  ·have b0 : (!decide (((dg a).length : Int) = ((dg b).length : Int))) = true := by rw [decide_eq_false (by omega)]; rfl
   simp only [XA, XB, b0]
   refine hK _ ?_
   refine Gx.t rfl ?_
   refine Gx.b (by kernel_rfl) fun K hK => ?_
   by_cases e0 : sz a < sz b
   ·have b1 : decide (((dg a).length : Int) < (dg b).length) = true := decide_eq_true (by unfold sz at e0; omega)
    simp only [XA, XB, b1]
    refine hK _ ?_
    refine Gx.t rfl ?_
    refine Gx.a (by kernel_rfl) fun K hK => ?_
    simp only [XA]
    refine hK _ (XWP.ret ?_)
    try simp only [thenX_ret, inBlockX_ret]
    refine ret_go _ rfl ?_
    rw [cmpI_lt (lt_of_sz_lt e0)]; rfl
   ·have b1 : decide (((dg a).length : Int) < (dg b).length) = false := decide_eq_false (by unfold sz at e0; omega)
    simp only [XA, XB, b1]
    refine hK _ ?_
    refine Gx.f rfl ?_
    refine XWP.skip ?_
    refine Gx.a (by kernel_rfl) fun K hK => ?_
    simp only [XA]
    refine hK _ (XWP.ret ?_)
    try simp only [thenX_ret, inBlockX_ret]
    refine ret_go _ rfl ?_
    rw [cmpI_gt (lt_of_sz_lt (by unfold sz at *; omega))]; rfl
 ·rintro s ⟨hl, hs⟩
  obtain ⟨u, rfl⟩ := hs.out
  try dsimp only
  refine Gx.b (by kernel_rfl) fun K hK => ?_
  have w0 : IntKind.i64.wrap (((dg a).length : Int) - 1) = ((dg a).length : Int) - 1 := wrap_id (by omega) (by omega)
  simp only [XA, XB, w0]
  refine hK _ ?_
  clear hK
  refine XWP.block ?_
  refine XWP.loop (fun k s => StIs (fun Z => [.v (.slice A (dg a).length c), .v (.slice A' (dg b).length c'), Z 2,Z 3,Z 4, .v (.int .i64 ((k : Int) - 1)), Z 6,Z 7,Z 8,Z 9,Z 10,Z 11,Z 12,Z 13,Z 14,Z 15,Z 16,Z 17,Z 18,Z 19,Z 20,Z 21,Z 22,Z 23,Z 24,Z 25,Z 26,Z 27,Z 28,Z 29,Z 30,Z 31,Z 32,Z 33,Z 34,Z 35,Z 36,Z 37,Z 38,Z 39,Z 40,Z 41,Z 42,Z 43,Z 44]) [] (fun _ => none) V2 s ∧ k ≤ (dg a).length ∧ (dg a).drop k = (dg b).drop k) (dg a).length ⟨StIs.of (by exact rfl), Nat.le_refl _, by rw [List.drop_length, hl, List.drop_length]⟩ ?_
  rintro k s ⟨hs, hk, hd⟩
  obtain ⟨z, rfl⟩ := hs.out
  try dsimp only
  refine Gx.b (by kernel_rfl) fun K hK => ?_
  by_cases hk0 : k = 0
  ·subst hk0
   have b2 : decide ((0 : Int) ≤ ((0 : Nat) : Int) - 1) = false := decide_eq_false (by omega)
   simp only [XA, XB, b2]
   refine hK _ ?_
   refine Gx.f rfl ?_
   refine XWP.exit ?_
   refine Gx.a (by kernel_rfl) fun K hK => ?_
   simp only [XA]
   refine hK _ (XWP.ret ?_)
   try simp only [thenX_ret, inBlockX_ret]
   refine ret_go _ rfl ?_
   have : dg a = dg b := hd
   have : a = b := by rw [← nv_dg a, this, nv_dg]
   subst this
   rw [cmpI_eq]; rfl
  ·obtain ⟨j, rfl⟩ : ∃ j, k = j + 1 := ⟨k - 1, by omega⟩
   have ej : (((j + 1 : Nat) : Int) - 1) = (j : Int) := by omega
   have b2 : decide ((0 : Int) ≤ (j : Int)) = true := decide_eq_true (by omega)
   have w1 : IntKind.i64.wrap ((j : Int) - 1) = (j : Int) - 1 := wrap_id (by omega) (by omega)
   simp only [XA, XB, ej, b2]
   refine hK _ ?_
   refine Gx.t rfl ?_
   refine XWP.skip ?_
   refine XWP.seq (XWP.block ?_)
   (refine XWP.drw [0, 1, 2, 3, 4, 5, 6, 7, 8] (by kernel_rfl) (by kernel_rfl) (by kernel_rfl) fun K hK => ?_) <;> dsimp only [pickOps, List.getElem?_cons_zero, List.getElem?_cons_succ]
   obtain ⟨q1, o1, rfl⟩ := NatAt.addr h1 (by omega)
   obtain ⟨q2, o2, rfl⟩ := NatAt.addr h2 (by omega)
   have hc1 := NatAt.cells h1 j (by omega)
   have hc2 := NatAt.cells h2 j (by omega)
   rw [getD_get] at hc1 hc2
   obtain ⟨p1, p2, p3⟩ := cmp_i _ _ j (Dig_dg a) (Dig_dg b) hl (by omega) hd
   rw [nv_dg, nv_dg] at p1 p2
   simp only [XA, XB]
   refine ⟨by omega, by omega, ld_mem (loads_cell shapeT_123 (hc1 _)) ?_⟩
   simp only [XA, XB]
   refine ⟨by omega, by omega, ld_mem (loads_cell shapeT_123 (hc2 _)) ?_⟩
   simp only [XA, XB]
   by_cases hne : (dg a).getD j 0 = (dg b).getD j 0
   ·have b3 : (!decide ((((dg a).getD j 0 : Nat) : Int) = ((dg b).getD j 0 : Nat))) = false := by rw [decide_eq_true (by omega)]; rfl
    simp only [b3]
    refine hK _ ?_
    refine Gx.f rfl ?_
    refine XWP.skip ?_
    refine Gx.c (by kernel_rfl) fun K hK => ?_
    simp only [XA, XB, w1]
    exact hK _ ⟨j, by omega, StIs.of (by exact rfl), by omega, p3 hne⟩
   ·have b3 : (!decide ((((dg a).getD j 0 : Nat) : Int) = ((dg b).getD j 0 : Nat))) = true := by rw [decide_eq_false (by omega)]; rfl
    simp only [b3]
    refine hK _ ?_
    refine Gx.t rfl ?_
    (refine XWP.seq (XWP.drw [0, 1, 2, 3, 4, 5, 6, 7, 8] (by kernel_rfl) (by kernel_rfl) (by kernel_rfl) fun K hK => ?_)) <;> dsimp only [pickOps, List.getElem?_cons_zero, List.getElem?_cons_succ]
    simp only [XA, XB]
    refine ⟨by omega, by omega, ld_mem (loads_cell shapeT_123 (hc1 _)) ?_⟩
    simp only [XA, XB]
    refine ⟨by omega, by omega, ld_mem (loads_cell shapeT_123 (hc2 _)) ?_⟩
    simp only [XA, XB]
    by_cases hlt : (dg a).getD j 0 < (dg b).getD j 0
    ·have b4 : decide ((((dg a).getD j 0 : Nat) : Int) < ((dg b).getD j 0 : Nat)) = true := decide_eq_true (by omega)
     simp only [b4]
     refine hK _ ?_
     refine Gx.t rfl ?_
     refine Gx.a (by kernel_rfl) fun K hK => ?_
     simp only [XA]
     refine hK _ (XWP.ret ?_)
     try simp only [thenX_ret, inBlockX_ret]
     refine ret_go _ rfl ?_
     rw [cmpI_lt (p1 hlt)]; rfl
    ·have b4 : decide ((((dg a).getD j 0 : Nat) : Int) < ((dg b).getD j 0 : Nat)) = false := decide_eq_false (by omega)
     simp only [b4]
     refine hK _ ?_
     refine Gx.f rfl ?_
     refine XWP.skip ?_
     refine Gx.a (by kernel_rfl) fun K hK => ?_
     simp only [XA]
     refine hK _ (XWP.ret ?_)
     try simp only [thenX_ret, inBlockX_ret]
     refine ret_go _ rfl ?_
     rw [cmpI_gt (p2 (by omega))]; rfl
theorem rem_BB (n : Nat) : Int.tmod (n : Int) 4294967296 = ((n % BB : Nat) : Int) := int_tmod n 4294967296
theorem quo_BB (n : Nat) (h : n < 18446744073709551616) : IntKind.u64.wrap (Int.tdiv (n : Int) 4294967296) = ((n / BB : Nat) : Int) := u64_div n 4294967296 h
theorem BB_ne : (4294967296 : Int) ≠ 0 := by omega
theorem radd_c (V : View) (v u : Value) (a b : Nat) (hv : NatC V v a) (hu : NatC V u b) (fa : Fit a) (fb : Fit b) : Spec Tryz.prog 86 [v, u] V fun v' V' => NatC V' v' (a + b) := by
 obtain ⟨A, c, rfl, hc, hm⟩ := NatAt.form hv
 obtain ⟨A', c', rfl, hc', hm'⟩ := NatAt.form hu
 have la := fa.len
 have lb := fb.len
 obtain ⟨M, hM⟩ : ∃ M, M = max (dg a).length (dg b).length + 1 := ⟨_, rfl⟩
 refine (Spec.enter Tryz.func86 rfl fun Γ => ?_)
 simp only [Tryz.ntmps86, List.map_cons, List.map_nil, List.length_cons, List.length_nil, Nat.reduceAdd, Nat.reduceSub, List.replicate_succ, List.replicate_zero, List.cons_append, List.nil_append]
 refine Gx.a (by kernel_rfl) fun K hK => ?_
 simp only [XA]
 refine hK _ ?_
 refine Gx.a (by kernel_rfl) fun K hK => ?_
 simp only [XA]
 refine hK _ ?_
 refine Gx.a (by kernel_rfl) fun K hK => ?_
 simp only [XA]
 refine hK _ ?_
 clear hK
 refine XWP.cut (fun s => ∃ (k : Nat) (V2 : View) (w : Value) (H5 : Heap) (out : List Nat), StIs (fun Z => [.v (.slice A (dg a).length c), .v (.slice A' (dg b).length c'), Z 2,Z 3,Z 4, .v w, Z 6,Z 7,Z 8,Z 9,Z 10,Z 11,Z 12,Z 13,Z 14,Z 15,Z 16,Z 17,Z 18,Z 19,Z 20,Z 21,Z 22,Z 23,Z 24,Z 25,Z 26,Z 27,Z 28,Z 29,Z 30,Z 31,Z 32,Z 33,Z 34,Z 35,Z 36,Z 37,Z 38,Z 39,Z 40,Z 41,Z 42,Z 43]) [] H5 V2 s ∧ V.le V2 ∧ k ≤ M ∧ out.length = k ∧ Dig out ∧ Own H5 123 1 w k (u32s out) ∧ nv out = a + b) ?_ ?_
 ·refine Gx.a (by kernel_rfl) fun K hK => ?_
  simp only [XA]
  refine hK _ ?_
  clear hK
  refine XWP.block ?_
  refine XWP.loop (fun n s => ∃ (k : Nat) (V2 : View) (w : Value) (H5 : Heap) (out : List Nat) (cc : Nat), StIs (fun Z => [.v (.slice A (dg a).length c), .v (.slice A' (dg b).length c'), Z 2,Z 3,Z 4, .v w, .v (.int .u64 (cc : Int)), .v (.int .i64 (k : Int)), Z 8,Z 9,Z 10,Z 11,Z 12,Z 13,Z 14,Z 15,Z 16,Z 17,Z 18,Z 19,Z 20,Z 21,Z 22,Z 23,Z 24,Z 25,Z 26,Z 27,Z 28,Z 29,Z 30,Z 31,Z 32,Z 33,Z 34,Z 35,Z 36,Z 37,Z 38,Z 39,Z 40,Z 41,Z 42,Z 43]) [] H5 V2 s ∧ V.le V2 ∧ n + k = M ∧ out.length = k ∧ Dig out ∧ cc ≤ 1 ∧ (k = M → cc = 0) ∧ Own H5 123 1 w k (u32s out) ∧ nv out + BB ^ k * cc = nv ((dg a).take k) + nv ((dg b).take k)) M ⟨0, V, _, _, [], 0, StIs.of (by exact rfl), View.le_refl _, rfl, rfl, Dig_nil, by omega, fun _ => rfl, ⟨rfl, .inl ⟨rfl, rfl⟩⟩, by simp [nv]⟩ ?_
  rintro n s ⟨k, V2, w, H5, out, cc, hs, hV2, hn, hol, hod, hcc, hlast, hown, hnv⟩
  obtain ⟨z, rfl⟩ := hs.out
  try dsimp only
  refine XWP.cut (fun s => StIs (fun Z => [.v (.slice A (dg a).length c), .v (.slice A' (dg b).length c'), Z 2,Z 3,Z 4, .v w, .v (.int .u64 (cc : Int)), .v (.int .i64 (k : Int)), Z 8,Z 9,Z 10,Z 11,Z 12,Z 13,Z 14,Z 15,Z 16,Z 17,Z 18,Z 19,Z 20,Z 21,Z 22,Z 23,Z 24,Z 25,Z 26,Z 27,Z 28,Z 29,Z 30,Z 31,Z 32,Z 33,Z 34,Z 35,Z 36,Z 37,Z 38,Z 39,Z 40,Z 41,Z 42,Z 43]) [] H5 V2 s ∧ k < M) ?_ ?_
  ·refine Gx.a (by kernel_rfl) fun K hK => ?_
   by_cases h1 : k < (dg a).length
   ·have b1 : decide ((k : Int) < ((dg a).length : Int)) = true := decide_eq_true (by omega)
    simp only [XA, XB, gateX, ↓reduceIte, b1]
    refine hK _ ?_
    refine Gx.t rfl ?_
    refine XWP.skip ?_
    exact ⟨StIs.of (by exact rfl), by omega⟩
   ·have b1 : decide ((k : Int) < ((dg a).length : Int)) = false := decide_eq_false (by omega)
    by_cases h2 : k < (dg b).length
    ·have b2 : decide ((k : Int) < ((dg b).length : Int)) = true := decide_eq_true (by omega)
     simp only [XA, XB, gateX, ↓reduceIte, beq_self_eq_true, b1, b2]
     refine hK _ ?_
     refine Gx.t rfl ?_
     refine XWP.skip ?_
     exact ⟨StIs.of (by exact rfl), by omega⟩
    ·have b2 : decide ((k : Int) < ((dg b).length : Int)) = false := decide_eq_false (by omega)
     by_cases h3 : 0 < cc
     ·have b3 : decide ((0 : Int) < (cc : Int)) = true := decide_eq_true (by omega)
      simp only [XA, XB, gateX, ↓reduceIte, beq_self_eq_true, b1, b2, b3]
      refine hK _ ?_
      refine Gx.t rfl ?_
      refine XWP.skip ?_
      exact ⟨StIs.of (by exact rfl), by omega⟩
     ·have b3 : decide ((0 : Int) < (cc : Int)) = false := decide_eq_false (by omega)
      simp only [XA, XB, gateX, ↓reduceIte, beq_self_eq_true, b1, b2, b3]
      refine hK _ ?_
      refine Gx.f rfl ?_
      refine XWP.exit ?_
      have : cc = 0 := by omega
      subst this
      rw [List.take_of_length_le (by omega), List.take_of_length_le (by omega), nv_dg, nv_dg] at hnv
      exact ⟨k, V2, w, H5, out, StIs.of (by exact rfl), hV2, by omega, hol, hod, hown, by omega⟩
  ·rintro s ⟨hs, hk⟩
   obtain ⟨z, rfl⟩ := hs.out
   try dsimp only
   have gx := gd_lt (Dig_dg a) k
   have gy := gd_lt (Dig_dg b) k
   have w1 := u64_add (gd (dg a) k) (gd (dg b) k) (by unfold BB at gx gy; omega)
   have w2 := u64_add (gd (dg a) k + gd (dg b) k) cc (by unfold BB at gx gy; omega)
   refine XWP.seq ?_
   refine XWP.block ?_
   refine Gx.a (by kernel_rfl) fun K hK => ?_
   simp only [XA]
   refine call_go (by kernel_rfl) rfl (rat_c _ _ _ k (NatAt.mono hv hV2) (by omega)) fun v1 V3 hV3 h1 => ?_
   subst h1
   simp only [XA]
   refine call_go (by kernel_rfl) rfl (rat_c _ _ _ k (NatAt.mono (NatAt.mono hu hV2) hV3) (by omega)) fun v1 V4 hV4 h1 => ?_
   subst h1
   simp only [XA, XB, w1, w2]
   refine hK _ ?_
   have e0 : gd (dg a) k + gd (dg b) k + cc = cc + gd (dg a) k + gd (dg b) k := by omega
   rw [e0]
   have hst := add_step (a := dg a) (b := dg b) hol hnv
   have hc0 : k + 1 = M → cc + gd (dg a) k + gd (dg b) k ≤ 1 := fun e => by
    rw [gd_none (l := dg a) (by omega), gd_none (l := dg b) (by omega)]; omega
   have hcB : cc + gd (dg a) k + gd (dg b) k < 18446744073709551616 ∧ (cc + gd (dg a) k + gd (dg b) k) / BB ≤ 1 := by unfold BB at gx gy ⊢; omega
   generalize cc + gd (dg a) k + gd (dg b) k = c2 at *
   refine Gx.a (by kernel_rfl) fun K hK => ?_
   simp only [XA, XB, bin_rem _ _ _ _ BB_ne, rem_BB, w32_mod, Nat.mod_mod]
   refine bs_go (by kernel_rfl) #[(0, .int .u32 ((c2 % BB : Nat) : Int))] (by simp [ev_tmp, SV.val]) (bs_one elemT_47 zeroT_123 rfl) fun q3 hq3 hq4 => ?_
   simp only [XA]
   refine ap_go elemT_47 (by kernel_rfl) zeroT_123 rfl (by omega) (own_upd hown hq3) (src_row (ds := [c2 % BB]) (by simp [upd, u32s]; exact ⟨rfl, rfl⟩) rfl) (by omega) (by omega) fun v' H' hres => ?_
   simp only [XA]
   refine hK _ ?_
   refine Gx.c (by kernel_rfl) fun K hK => ?_
   simp only [XA, XB, bin_quo _ _ _ _ BB_ne, quo_BB _ hcB.1]
   refine hK _ ?_
   refine Gx.c (by kernel_rfl) fun K hK => ?_
   simp only [XA, XB, i64_succ k (by omega)]
   refine hK _ ⟨n - 1, by omega, k + 1, _, _, _, out ++ [c2 % BB], c2 / BB, StIs.of (by exact rfl), View.le_trans hV2 (View.le_trans hV3 hV4), by omega, by simp [hol], Dig_append hod (Dig_one (Nat.mod_lt _ BB_pos)), hcB.2, ?_, ?_, hst⟩
   ·intro e; have := hc0 e; unfold BB; omega
   ·rw [u32s_append]; exact hres.1
 ·rintro s ⟨k, V2, w, H5, out, hs, hV2, hkM, hol, hod, hown, hnv⟩
  obtain ⟨z, rfl⟩ := hs.out
  try dsimp only
  refine Gx.a (by kernel_rfl) fun K hK => ?_
  simp only [XA]
  rcases own_parts hown with ⟨rfl, hk0, ho0⟩ | ⟨g, cap, rfl, hg, hle, hcap, hlen⟩
  ·subst hk0
   have : out = [] := List.length_eq_zero_iff.1 hol
   subst this
   refine call_go (by kernel_rfl) rfl (rtrim_any _ _ [] (NatAt.nil _) (by simp)) fun v3 V3 hV3 h3 => ?_
   simp only [XA]
   refine hK _ (XWP.ret ?_)
   try simp only [thenX_ret, inBlockX_ret]
   refine ret_go _ rfl ?_
   rw [hnv] at h3
   exact h3
  ·refine call_pub g _ hg (fun o ho hle' => ?_) (by kernel_rfl) rfl
   refine call_go (by kernel_rfl) rfl (rtrim_any _ _ out (NatAt.pub ho hod hol hle (by unfold maxLen at hcap; omega)) (by omega)) fun v3 V3 hV3 h3 => ?_
   simp only [XA]
   refine hK _ (XWP.ret ?_)
   try simp only [thenX_ret, inBlockX_ret]
   refine ret_go _ rfl ?_
   rw [hnv] at h3
   exact h3
theorem mul_BB (n : Nat) (h : n < BB) : IntKind.u64.wrap ((n : Int) * 4294967296) = ((n * BB : Nat) : Int) := by
 unfold BB at *
 rw [w64_id (by omega) (by omega)]; omega
theorem sub_step' {a b out : List Nat} {c k : Nat} (hl : out.length = k) (hc : c ≤ 1) (h : nv out + nv (b.take k) = nv (a.take k) + BB ^ k * c) (hA : gd a k < BB) (hB : gd b k < BB) :
  nv (out ++ [subD (gd a k) (gd b k + c)]) + nv (b.take (k + 1)) = nv (a.take (k + 1)) + BB ^ (k + 1) * subB (gd a k) (gd b k + c) := by
 obtain ⟨h1, h2⟩ := sub_step hl hc h hA hB
 unfold subD subB
 by_cases e : gd a k < gd b k + c
 ·rw [if_pos e, if_pos e]; exact h2 e
 ·rw [if_neg e, if_neg e]; exact h1 (by omega)
theorem rsub_c (V : View) (v u : Value) (a b : Nat) (hv : NatC V v a) (hu : NatC V u b) (fa : Fit a) (fb : Fit b) : Spec Tryz.prog 87 [v, u] V fun v' V' => (a < b → v' = .tuple #[.slice none 0 0, .int .i64 1]) ∧ (b ≤ a → ∃ r, v' = .tuple #[r, .int .i64 0] ∧ NatC V' r (a - b)) := by
 obtain ⟨A, c, rfl, hc, hm⟩ := NatAt.form hv
 obtain ⟨A', c', rfl, hc', hm'⟩ := NatAt.form hu
 have la := fa.len
 have lb := fb.len
 refine (Spec.enter Tryz.func87 rfl fun Γ => ?_)
 simp only [Tryz.ntmps87, List.map_cons, List.map_nil, List.length_cons, List.length_nil, Nat.reduceAdd, Nat.reduceSub, List.replicate_succ, List.replicate_zero, List.cons_append, List.nil_append]
 refine Gx.a (by kernel_rfl) fun K hK => ?_
 simp only [XA]
 refine hK _ ?_
 clear hK
 refine XWP.cut (fun s => ∃ (V2 : View), StIs (fun Z => [.v (.slice A (dg a).length c), .v (.slice A' (dg b).length c'), Z 2,Z 3,Z 4,Z 5,Z 6,Z 7,Z 8,Z 9,Z 10,Z 11,Z 12,Z 13,Z 14,Z 15,Z 16,Z 17,Z 18,Z 19,Z 20,Z 21,Z 22,Z 23,Z 24,Z 25,Z 26,Z 27,Z 28,Z 29,Z 30,Z 31,Z 32,Z 33,Z 34,Z 35,Z 36,Z 37,Z 38,Z 39,Z 40,Z 41,Z 42,Z 43]) [] (fun _ => none) V2 s ∧ V.le V2 ∧ b ≤ a) ?_ ?_
 ·refine Gx.a (by kernel_rfl) fun K hK => ?_
  simp only [XA]
  refine call_go (by kernel_rfl) rfl (rcompare_c _ _ _ _ _ hv hu fa fb) fun v1 V1 hV1 h1 => ?_
  subst h1
  simp only [XA, XB]
  by_cases hlt : a < b
  ·have b1 : decide (cmpI a b < 0) = true := decide_eq_true (by rw [cmpI_lt hlt]; omega)
   simp only [b1]
   refine hK _ ?_
   refine Gx.t rfl ?_
   refine Gx.a (by kernel_rfl) fun K hK => ?_
   simp only [XA]
   refine hK _ (XWP.ret ?_)
   try simp only [thenX_ret, inBlockX_ret]
   refine ret_go _ rfl ?_
   exact ⟨fun _ => rfl, fun h => by omega⟩
  ·have b1 : decide (cmpI a b < 0) = false := decide_eq_false (by
    rcases Nat.lt_or_ge b a with h | h
    ·rw [cmpI_gt h]; omega
    ·have : a = b := by omega
     rw [this, cmpI_eq]; omega)
   simp only [b1]
   refine hK _ ?_
   refine Gx.f rfl ?_
   refine XWP.skip ?_
   exact ⟨V1, StIs.of (by exact rfl), hV1, by omega⟩
 ·rintro s ⟨V2, hs, hV2, hba⟩
  obtain ⟨u, rfl⟩ := hs.out
  try dsimp only
  have hsz : (dg b).length ≤ (dg a).length := sz_mono hba
  refine Gx.a (by kernel_rfl) fun K hK => ?_
  simp only [XA]
  refine hK _ ?_
  refine Gx.a (by kernel_rfl) fun K hK => ?_
  simp only [XA]
  refine hK _ ?_
  clear hK
  refine XWP.cut (fun s => ∃ (V3 : View) (w : Value) (H5 : Heap) (out : List Nat), StIs (fun Z => [.v (.slice A (dg a).length c), .v (.slice A' (dg b).length c'), Z 2,Z 3,Z 4,Z 5, .v w, Z 7,Z 8,Z 9,Z 10,Z 11,Z 12,Z 13,Z 14,Z 15,Z 16,Z 17,Z 18,Z 19,Z 20,Z 21,Z 22,Z 23,Z 24,Z 25,Z 26,Z 27,Z 28,Z 29,Z 30,Z 31,Z 32,Z 33,Z 34,Z 35,Z 36,Z 37,Z 38,Z 39,Z 40,Z 41,Z 42,Z 43]) [] H5 V3 s ∧ out.length = (dg a).length ∧ Dig out ∧ Own H5 123 1 w (dg a).length (u32s out) ∧ nv out + b = a) ?_ ?_
  ·refine Gx.a (by kernel_rfl) fun K hK => ?_
   simp only [XA]
   refine hK _ ?_
   clear hK
   refine XWP.block ?_
   refine XWP.loop (fun n s => ∃ (k : Nat) (V3 : View) (w : Value) (H5 : Heap) (out : List Nat) (cc : Nat), StIs (fun Z => [.v (.slice A (dg a).length c), .v (.slice A' (dg b).length c'), Z 2,Z 3,Z 4,Z 5, .v w, .v (.int .u64 (cc : Int)), .v (.int .i64 (k : Int)), Z 9,Z 10,Z 11,Z 12,Z 13,Z 14,Z 15,Z 16,Z 17,Z 18,Z 19,Z 20,Z 21,Z 22,Z 23,Z 24,Z 25,Z 26,Z 27,Z 28,Z 29,Z 30,Z 31,Z 32,Z 33,Z 34,Z 35,Z 36,Z 37,Z 38,Z 39,Z 40,Z 41,Z 42,Z 43]) [] H5 V3 s ∧ V.le V3 ∧ n + k = (dg a).length ∧ out.length = k ∧ Dig out ∧ cc ≤ 1 ∧ Own H5 123 1 w k (u32s out) ∧ nv out + nv ((dg b).take k) = nv ((dg a).take k) + BB ^ k * cc) (dg a).length ⟨0, V2, _, _, [], 0, StIs.of (by exact rfl), hV2, rfl, rfl, Dig_nil, by omega, ⟨rfl, .inl ⟨rfl, rfl⟩⟩, by simp [nv]⟩ ?_
   rintro n s ⟨k, V3, w, H5, out, cc, hs, hV3, hn, hol, hod, hcc, hown, hnv⟩
   obtain ⟨z, rfl⟩ := hs.out
   try dsimp only
   refine Gx.b (by kernel_rfl) fun K hK => ?_
   by_cases hk : k < (dg a).length
   ·have b1 : decide ((k : Int) < ((dg a).length : Int)) = true := decide_eq_true (by omega)
    simp only [XA, XB, b1]
    refine hK _ ?_
    refine Gx.t rfl ?_
    refine XWP.skip ?_
    have gx := gd_lt (Dig_dg a) k
    have gy := gd_lt (Dig_dg b) k
    have w1 := u64_add (gd (dg b) k) cc (by unfold BB at gy; omega)
    have hst := sub_step' (a := dg a) (b := dg b) hol hcc hnv gx gy
    obtain ⟨sd1, sd2, sd3⟩ := subD_eq (y := gd (dg b) k + cc) gx (by omega)
    have hyB : gd (dg b) k + cc ≤ BB := by omega
    refine XWP.seq ?_
    refine XWP.block ?_
    refine Gx.a (by kernel_rfl) fun K hK => ?_
    simp only [XA]
    refine call_go (by kernel_rfl) rfl (rat_c _ _ _ k (NatAt.mono hu hV3) (by omega)) fun v1 V4 hV4 h1 => ?_
    subst h1
    simp only [XA, XB, w1]
    refine hK _ ?_
    refine Gx.a (by kernel_rfl) fun K hK => ?_
    simp only [XA]
    refine hK _ ?_
    clear hK
    generalize hx : gd (dg a) k = x at *
    generalize hy : gd (dg b) k + cc = y at *
    refine XWP.cut (fun s => ∃ V5 : View, StIs (fun Z => [.v (.slice A (dg a).length c), .v (.slice A' (dg b).length c'), Z 2,Z 3,Z 4,Z 5, .v w, .v (.int .u64 ((subB x y : Nat) : Int)), .v (.int .i64 (k : Int)), .v (.int .u64 (y : Int)), Z 10,Z 11,Z 12,Z 13,Z 14,Z 15,Z 16,Z 17,Z 18,Z 19,Z 20,Z 21,Z 22,Z 23,Z 24,Z 25,Z 26,Z 27,Z 28,Z 29,Z 30,Z 31,Z 32,Z 33,Z 34,Z 35,Z 36,Z 37,Z 38,Z 39,Z 40,Z 41,Z 42,Z 43]) [] H5 V5 s ∧ V.le V5) ?_ ?_
    ·refine Gx.a (by kernel_rfl) fun K hK => ?_
     simp only [XA]
     refine call_go (by kernel_rfl) rfl (rat_c _ _ _ k (NatAt.mono (NatAt.mono hv hV3) hV4) (by omega)) fun v1 V5 hV5 h1 => ?_
     subst h1
     rw [hx]
     by_cases hxy : x < y
     ·have b2 : decide ((x : Int) < (y : Int)) = true := decide_eq_true (by omega)
      simp only [XA, XB, b2]
      refine hK _ ?_
      refine Gx.t rfl ?_
      refine Gx.c (by kernel_rfl) fun K hK => ?_
      simp only [XA]
      refine hK _ ⟨V5, StIs.of ?_, View.le_trans hV3 (View.le_trans hV4 hV5)⟩
      unfold subB
      rw [if_pos hxy]; rfl
     ·have b2 : decide ((x : Int) < (y : Int)) = false := decide_eq_false (by omega)
      simp only [XA, XB, b2]
      refine hK _ ?_
      refine Gx.f rfl ?_
      refine XWP.skip ?_
      refine ⟨V5, StIs.of ?_, View.le_trans hV3 (View.le_trans hV4 hV5)⟩
      unfold subB
      rw [if_neg hxy]; rfl
    ·rintro s ⟨V5, hs, hV5⟩
     obtain ⟨z2, rfl⟩ := hs.out
     try dsimp only
     refine Gx.c (by kernel_rfl) fun K hK => ?_
     simp only [XA]
     refine call_go (by kernel_rfl) rfl (rat_c _ _ _ k (NatAt.mono hv hV5) (by omega)) fun v1 V6 hV6 h1 => ?_
     subst h1
     rw [hx]
     simp only [XA, XB, mul_BB _ (show subB x y < BB by unfold BB; omega)]
     rw [sub_mid x y gx hyB]
     refine bs_go (by kernel_rfl) #[(0, .int .u32 ((subD x y : Nat) : Int))] (by simp [ev_tmp, SV.val]) (bs_one elemT_47 zeroT_123 rfl) fun q3 hq3 hq4 => ?_
     simp only [XA]
     refine ap_go elemT_47 (by kernel_rfl) zeroT_123 rfl (by omega) (own_upd hown hq3) (src_row (ds := [subD x y]) (by simp [upd, u32s]; exact ⟨rfl, rfl⟩) rfl) (by omega) (by omega) fun v' H' hres => ?_
     simp only [XA]
     refine hK _ ?_
     refine Gx.c (by kernel_rfl) fun K hK => ?_
     simp only [XA, XB, i64_succ k (by omega)]
     refine hK _ ⟨n - 1, by omega, k + 1, _, _, _, out ++ [subD x y], subB x y, StIs.of (by exact rfl), View.le_trans hV5 hV6, by omega, by simp [hol], Dig_append hod (Dig_one sd2), sd3, ?_, hst⟩
     rw [u32s_append]; exact hres.1
   ·have b1 : decide ((k : Int) < ((dg a).length : Int)) = false := decide_eq_false (by omega)
    obtain rfl : k = (dg a).length := by omega
    simp only [XA, XB, b1]
    refine hK _ ?_
    refine Gx.f rfl ?_
    refine XWP.exit ?_
    refine ⟨V3, w, H5, out, StIs.of (by exact rfl), hol, hod, hown, ?_⟩
    rw [List.take_length, List.take_of_length_le (by omega), nv_dg, nv_dg] at hnv
    have hnl := nv_lt hod
    rw [hol] at hnl
    have : cc = 0 := by
     rcases Nat.eq_zero_or_pos cc with h | h
     ·exact h
     ·have : cc = 1 := by omega
      subst this
      omega
    subst this
    omega
  ·rintro s ⟨V3, w, H5, out, hs, hol, hod, hown, hnv⟩
   obtain ⟨z, rfl⟩ := hs.out
   try dsimp only
   refine Gx.a (by kernel_rfl) fun K hK => ?_
   simp only [XA]
   rcases own_parts hown with ⟨rfl, hk0, ho0⟩ | ⟨g, cap, rfl, hg, hle, hcap, hlen⟩
   ·have : out = [] := List.length_eq_zero_iff.1 (by omega)
    subst this
    refine call_go (by kernel_rfl) rfl (rtrim_any _ _ [] (NatAt.nil _) (by simp)) fun v3 V4 hV4 h3 => ?_
    simp only [XA]
    refine hK _ (XWP.ret ?_)
    try simp only [thenX_ret, inBlockX_ret]
    refine ret_go _ rfl ?_
    refine ⟨fun h => by omega, fun _ => ⟨v3, rfl, ?_⟩⟩
    have : a - b = nv [] := by omega
    rw [this]; exact h3
   ·refine call_pub g _ hg (fun o ho hle' => ?_) (by kernel_rfl) rfl
    refine call_go (by kernel_rfl) rfl (rtrim_any _ _ out (NatAt.pub ho hod hol hle (by unfold maxLen at hcap; omega)) (by omega)) fun v3 V4 hV4 h3 => ?_
    simp only [XA]
    refine hK _ (XWP.ret ?_)
    try simp only [thenX_ret, inBlockX_ret]
    refine ret_go _ rfl ?_
    refine ⟨fun h => by omega, fun _ => ⟨v3, rfl, ?_⟩⟩
    have : a - b = nv out := by omega
    rw [this]; exact h3
end Go.Proofs.YtobjjdnfgamgcaaGreat
end
