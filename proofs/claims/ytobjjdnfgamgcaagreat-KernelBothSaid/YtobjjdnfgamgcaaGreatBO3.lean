/- The composition and every mixture of two kernels leave the posterior invariant, at every input. (part 3 of 13) -/
import Derived.OrdersHeld
import Derived.Below
import Derived.Tactics
import Derived.KernelRfl
import Derived.RangeFuncCalls
import Derived.RangeFuncFrom
import Derived.RangeFuncLeaves
import Derived.OrdersIn
import Derived.Laws.AppendOwn
import Derived.Laws.MakeOwn
import Derived.Laws.CopyRow
import Derived.Laws.Cells
import Derived.Laws.World
import Derived.Laws.Alloc2
import Derived.Laws.NewBlocks
import Derived.Maps.AppendAt
import Derived.Test.YtobjjdnfgamgcaaGreatProg
import Init.Data.List.Lemmas
import Init.Omega
import Derived.Test.YtobjjdnfgamgcaaGreatBO2
set_option linter.unusedVariables false
set_option linter.unusedSimpArgs false
section
namespace Go.Proofs.YtobjjdnfgamgcaaGreat
open Go Go.RowKit
attribute [local irreducible] XWP Spec SpecO XPub XCall seqX clX apX stX ldX iaX slX
theorem cmp_i (x y : List Nat) (k : Nat) (hx : Dig x) (hy : Dig y) (hl : x.length = y.length) (hk : k < x.length) (hd : x.drop (k + 1) = y.drop (k + 1)) : (x.getD k 0 < y.getD k 0 → nv x < nv y) ∧ (y.getD k 0 < x.getD k 0 → nv y < nv x) ∧ (x.getD k 0 = y.getD k 0 → x.drop k = y.drop k) := by
 have e1 : x.getD k 0 = x[k] := by simp [hk]
 have e2 : y.getD k 0 = y[k] := by simp [← hl, hk]
 rw [e1, e2]
 refine ⟨cmp_lt hx hy hk (by omega) hd, cmp_lt hy hx (by omega) hk hd.symm, fun h => ?_⟩
 rw [List.drop_eq_getElem_cons hk, List.drop_eq_getElem_cons (by omega : k < y.length), hd, h]
theorem compare_c (V : View) (v u : Value) (a b : Nat) (hv : NatC V v a) (hu : NatC V u b) : Spec Tryz.prog 96 [v, u] V fun v' V' => v' = .int .i64 (cmpI a b) := by
 obtain ⟨A0, c0, rfl, hc0, hm0⟩ := NatAt.form hv
 obtain ⟨A1, c1, rfl, hc1, hm1⟩ := NatAt.form hu
 refine (Spec.enter Tryz.func96 rfl fun Γ => ?_)
 simp only [Tryz.ntmps96, List.map_cons, List.map_nil, List.length_cons, List.length_nil, Nat.reduceAdd, Nat.reduceSub, List.replicate_succ, List.replicate_zero, List.cons_append, List.nil_append]
 refine Gx.a (by kernel_rfl) fun K hK => ?_
 simp only [XA]
 refine hK _ ?_
 refine Gx.a (by kernel_rfl) fun K hK => ?_
 simp only [XA]
 refine call_go (by kernel_rfl) rfl (trim_c _ _ _ hv) fun v1 V1 hV1 h1 => ?_
 obtain ⟨A, c, rfl, hc, hm⟩ := NatAt.form h1
 simp only [XA]
 refine call_go (by kernel_rfl) rfl (trim_c _ _ _ (hu.mono hV1)) fun v2 V2 hV2 h2 => ?_
 obtain ⟨A', c', rfl, hc', hm'⟩ := NatAt.form h2
 have h1 := h1.mono hV2
 simp only [XA]
 refine hK _ ?_
 refine XWP.seq (XWP.block ?_)
 refine Gx.a (by kernel_rfl) fun K hK => ?_
 by_cases e0 : sz a < sz b
 ·have b0 : decide (((dg a).length : Int) < (dg b).length) = true := decide_eq_true (by unfold sz at e0; omega)
  simp only [XA, XB, b0]
  refine hK _ ?_
  refine Gx.t rfl ?_
  refine Gx.a (by kernel_rfl) fun K hK => ?_
  simp only [XA]
  refine hK _ (XWP.ret ?_)
  try simp only [thenX_ret, inBlockX_ret]
  refine ret_go _ rfl ?_
  rw [cmpI_lt (lt_of_sz_lt e0)]; rfl
 ·have b0 : decide (((dg a).length : Int) < (dg b).length) = false := decide_eq_false (by unfold sz at e0; omega)
  simp only [XA, XB, b0]
  refine hK _ ?_
  refine Gx.f rfl ?_
  refine Gx.a (by kernel_rfl) fun K hK => ?_
  by_cases e1 : sz b < sz a
  ·have b1 : decide (((dg b).length : Int) < (dg a).length) = true := decide_eq_true (by unfold sz at e1; omega)
   simp only [XA, XB, b1]
   refine hK _ ?_
   refine Gx.t rfl ?_
   refine Gx.a (by kernel_rfl) fun K hK => ?_
   simp only [XA]
   refine hK _ (XWP.ret ?_)
   try simp only [thenX_ret, inBlockX_ret]
   refine ret_go _ rfl ?_
   rw [cmpI_gt (lt_of_sz_lt e1)]; rfl
  ·have b1 : decide (((dg b).length : Int) < (dg a).length) = false := decide_eq_false (by unfold sz at e1; omega)
   have hl : (dg a).length = (dg b).length := by unfold sz at e0 e1; omega
   simp only [XA, XB, b1]
   refine hK _ ?_
   refine Gx.f rfl ?_
   refine XWP.skip ?_
   refine Gx.b (by kernel_rfl) fun K hK => ?_
   have w0 : IntKind.i64.wrap (((dg a).length : Int) - 1) = ((dg a).length : Int) - 1 := wrap_id (by omega) (by omega)
   simp only [XA, XB, w0]
   refine hK _ ?_
   refine XWP.block ?_
   clear hK
   refine XWP.loop (fun k s => ∃ u4 u25 u26 u27 u28 u29 u30 u31 u32 u33 u34 u35 u36 u37 u38 u39 u40 u41 u42 u43 u44 u45 u46 u47 u48, s = ⟨[.v (.slice A (dg a).length c), .v (.slice A' (dg b).length c'), .v undef, .v undef, u4, .v (.int .i64 ((k : Int) - 1)), .v (.slice A0 (dg a).length c0), .v (.slice A (dg a).length c), .v (.slice A1 (dg b).length c1), .v (.slice A' (dg b).length c'), .v (.bool false), .v (.slice A (dg a).length c), .v (.int .i64 ((dg a).length : Int)), .v (.slice A' (dg b).length c'), .v (.int .i64 ((dg b).length : Int)), .v (.bool false), .v (.bool false), .v (.slice A (dg a).length c), .v (.int .i64 ((dg a).length : Int)), .v (.slice A' (dg b).length c'), .v (.int .i64 ((dg b).length : Int)), .v (.bool false), .v (.slice A (dg a).length c), .v (.int .i64 ((dg a).length : Int)), .v (.int .i64 (((dg a).length : Int) - 1)), u25, u26, u27, u28, u29, u30, u31, u32, u33, u34, u35, u36, u37, u38, u39, u40, u41, u42, u43, u44, u45, u46, u47, u48], [], fun _ => none, V2⟩ ∧ k ≤ (dg a).length ∧ (dg a).drop k = (dg b).drop k) (dg a).length ⟨_, _, _, _, _, _, _, _, _, _, _, _, _, _, _, _, _, _, _, _, _, _, _, _, _, rfl, Nat.le_refl _, by rw [List.drop_length, hl, List.drop_length]⟩ ?_
   rintro k s ⟨u4, u25, u26, u27, u28, u29, u30, u31, u32, u33, u34, u35, u36, u37, u38, u39, u40, u41, u42, u43, u44, u45, u46, u47, u48, rfl, hk, hd⟩
   refine Gx.b (by kernel_rfl) fun K hK => ?_
   by_cases hk0 : k = 0
   ·subst hk0
    have b2 : decide ((0 : Int) ≤ ((0 : Nat) : Int) - 1) = false := decide_eq_false (by omega)
    simp only [XA, XB, b2]
    refine hK _ ?_
    refine Gx.f rfl ?_
    refine XWP.exit ?_
    refine Gx.a (by kernel_rfl) fun K hK => ?_
    simp only [XA]
    refine hK _ (XWP.ret ?_)
    try simp only [thenX_ret, inBlockX_ret]
    refine ret_go _ rfl ?_
    have : dg a = dg b := hd
    have : a = b := by rw [← nv_dg a, this, nv_dg]
    subst this
    rw [cmpI_eq]; rfl
   ·obtain ⟨j, rfl⟩ : ∃ j, k = j + 1 := ⟨k - 1, by omega⟩
    have ej : (((j + 1 : Nat) : Int) - 1) = (j : Int) := by omega
    have b2 : decide ((0 : Int) ≤ (j : Int)) = true := decide_eq_true (by omega)
    simp only [XA, XB, ej, b2]
    refine hK _ ?_
    refine Gx.t rfl ?_
    refine XWP.skip ?_
    refine XWP.seq (XWP.block ?_)
    refine XWP.block ?_
    (refine XWP.drw [0, 1, 2, 3, 4, 5, 6, 7, 8, 9] (by kernel_rfl) (by kernel_rfl) (by kernel_rfl) fun K hK => ?_) <;> dsimp only [pickOps, List.getElem?_cons_zero, List.getElem?_cons_succ]
    obtain ⟨q1, o1, rfl⟩ := NatAt.addr h1 (by omega)
    obtain ⟨q2, o2, rfl⟩ := NatAt.addr h2 (by omega)
    have hc1 := NatAt.cells h1 j (by omega)
    have hc2 := NatAt.cells h2 j (by omega)
    rw [getD_get] at hc1 hc2
    obtain ⟨p1, p2, p3⟩ := cmp_i _ _ j (Dig_dg a) (Dig_dg b) hl (by omega) hd
    rw [nv_dg, nv_dg] at p1 p2
    simp only [XA, XB]
    refine ⟨by omega, by omega, ld_mem (loads_cell shapeT_123 (hc1 _)) ?_⟩
    simp only [XA, XB]
    refine ⟨by omega, by omega, ld_mem (loads_cell shapeT_123 (hc2 _)) ?_⟩
    simp only [XA, XB]
    by_cases hlt : (dg a).getD j 0 < (dg b).getD j 0
    ·have b3 : decide ((((dg a).getD j 0 : Nat) : Int) < ((dg b).getD j 0 : Nat)) = true := decide_eq_true (by omega)
     simp only [b3]
     refine hK _ ?_
     refine Gx.t rfl ?_
     refine Gx.a (by kernel_rfl) fun K hK => ?_
     simp only [XA]
     refine hK _ (XWP.ret ?_)
     try simp only [thenX_ret, inBlockX_ret]
     refine ret_go _ rfl ?_
     rw [cmpI_lt (p1 hlt)]; rfl
    ·have b3 : decide ((((dg a).getD j 0 : Nat) : Int) < ((dg b).getD j 0 : Nat)) = false := decide_eq_false (by omega)
     simp only [b3]
     refine hK _ ?_
     refine Gx.f rfl ?_
     (refine XWP.drw [0, 1, 2, 3, 4, 5, 6, 7, 8, 9] (by kernel_rfl) (by kernel_rfl) (by kernel_rfl) fun K hK => ?_) <;> dsimp only [pickOps, List.getElem?_cons_zero, List.getElem?_cons_succ]
     simp only [XA, XB]
     refine ⟨by omega, by omega, ld_mem (loads_cell shapeT_123 (hc1 _)) ?_⟩
     simp only [XA, XB]
     refine ⟨by omega, by omega, ld_mem (loads_cell shapeT_123 (hc2 _)) ?_⟩
     simp only [XA, XB]
     by_cases hgt : (dg b).getD j 0 < (dg a).getD j 0
     ·have b4 : decide ((((dg b).getD j 0 : Nat) : Int) < ((dg a).getD j 0 : Nat)) = true := decide_eq_true (by omega)
      simp only [b4]
      refine hK _ ?_
      refine Gx.t rfl ?_
      refine Gx.a (by kernel_rfl) fun K hK => ?_
      simp only [XA]
      refine hK _ (XWP.ret ?_)
      try simp only [thenX_ret, inBlockX_ret]
      refine ret_go _ rfl ?_
      rw [cmpI_gt (p2 hgt)]; rfl
     ·have b4 : decide ((((dg b).getD j 0 : Nat) : Int) < ((dg a).getD j 0 : Nat)) = false := decide_eq_false (by omega)
      simp only [b4]
      refine hK _ ?_
      refine Gx.f rfl ?_
      refine XWP.skip ?_
      refine Gx.c (by kernel_rfl) fun K hK => ?_
      have w1 : IntKind.i64.wrap ((j : Int) - 1) = (j : Int) - 1 := wrap_id (by omega) (by omega)
      simp only [XA, XB, w1]
      exact hK _ ⟨j, by omega, _, _, _, _, _, _, _, _, _, _, _, _, _, _, _, _, _, _, _, _, _, _, _, _, _, rfl, by omega, p3 (by omega)⟩
theorem u32s_append (a b : List Nat) : u32s (a ++ b) = u32s a ++ u32s b := by simp [u32s]
theorem u32s_set (a : List Nat) (i d : Nat) : (u32s a).set i (.int .u32 (d : Int)) = u32s (a.set i d) := by simp [u32s, List.map_set]
theorem u32s_length (a : List Nat) : (u32s a).length = a.length := by simp [u32s]
theorem u32s_replicate (n : Nat) : (List.replicate n [Value.int .u32 0]).flatten = u32s (List.replicate n 0) := by
 induction n with
 | zero => rfl
 | succ n ih => rw [List.replicate_succ, List.flatten_cons, ih, List.replicate_succ]; rfl
theorem row_cell {H : Heap} {V : View} {b e tot k : Nat} {ds : List Nat} (hr : H b = some ⟨e, u32s ds, tot⟩) (hk : k < ds.length) : CellAt H V b k (.int .u32 ((ds.getD k 0 : Nat) : Int)) :=
 .inl ⟨_, hr, by simp [u32s, hk]⟩
theorem src_row {H : Heap} {V : View} {b e tot n c : Nat} {ds : List Nat} (hr : H b = some ⟨e, u32s ds, tot⟩) (hn : ds.length = n) : Src H V 1 (.slice (some ⟨b, 0, none⟩) n c) n (u32s ds) :=
 ⟨some ⟨b, 0, none⟩, c, rfl, by rw [u32s_length, hn, Nat.mul_one], fun u hu => by
  simp only [u32s, List.mem_map] at hu
  obtain ⟨d, _, rfl⟩ := hu; rfl, .inr ⟨b, 0, rfl, fun j u hu => .inl ⟨_, hr, by simpa using hu⟩⟩⟩
theorem own_upd {H : Heap} {e sz n b : Nat} {v : Value} {xs : List Value} {r : Option Row} (h : Own H e sz v n xs) (hb : H b = none) : Own (upd H b r) e sz v n xs := by
 refine ⟨h.1, ?_⟩
 rcases h.2 with h1 | ⟨g, cap, rfl, hg, h2⟩
 ·exact .inl h1
 ·refine .inr ⟨g, cap, rfl, ?_, h2⟩
  have : g ≠ b := fun e => by rw [e, hb] at hg; cases hg
  simp [upd, this, hg]
theorem own_new {H : Heap} {b e cap : Nat} {tot : Nat} (ht : tot = cap * 1) (hm : cap ≤ 9223372036854775807) : Own (upd H b (some ⟨e, [], tot⟩)) e 1 (.slice (some ⟨b, 0, none⟩) 0 cap) 0 (u32s []) :=
 ⟨rfl, .inr ⟨b, cap, rfl, by subst ht; simp [upd]; rfl, Nat.zero_le _, by unfold maxLen; omega⟩⟩
theorem own_row {H : Heap} {e n : Nat} {v : Value} {ds : List Nat} (h : Own H e 1 v n (u32s ds)) (hn : 0 < n) : ∃ g cap, v = .slice (some ⟨g, 0, none⟩) n cap ∧ H g = some ⟨e, u32s ds, cap * 1⟩ ∧ n ≤ cap ∧ cap ≤ 9223372036854775807 ∧ ds.length = n := by
 rcases own_parts h with ⟨_, h0, _⟩ | ⟨g, cap, rfl, hg, hle, hcap, hl⟩
 ·omega
 ·exact ⟨g, cap, rfl, hg, hle, by unfold maxLen at hcap; omega, by rw [u32s_length] at hl; omega⟩
theorem u64_add (a b : Nat) (h : a + b < 18446744073709551616) : IntKind.u64.wrap ((a : Int) + (b : Int)) = ((a + b : Nat) : Int) := by rw [w64_id (by omega) (by omega)]; omega
theorem i64_add (a b : Nat) (h : a + b ≤ 9223372036854775807) : IntKind.i64.wrap ((a : Int) + (b : Int)) = ((a + b : Nat) : Int) := by rw [wrap_id (by omega) (by omega)]; omega
theorem i64_succ (a : Nat) (h : a < 9223372036854775807) : IntKind.i64.wrap ((a : Int) + 1) = ((a + 1 : Nat) : Int) := by rw [wrap_id (by omega) (by omega)]; omega
def Fit (n : Nat) : Prop := sz n ≤ 4398046511104
theorem Fit.len {n : Nat} (h : Fit n) : (dg n).length ≤ 4398046511104 := h
theorem add_c (V : View) (v u : Value) (a b : Nat) (hv : NatC V v a) (hu : NatC V u b) (fa : Fit a) (fb : Fit b) : Spec Tryz.prog 109 [v, u] V fun v' V' => NatC V' v' (a + b) := by
 obtain ⟨A0, c0, rfl, hc0, hm0⟩ := NatAt.form hv
 obtain ⟨A1, c1, rfl, hc1, hm1⟩ := NatAt.form hu
 refine (Spec.enter Tryz.func109 rfl fun Γ => ?_)
 simp only [Tryz.ntmps109, List.map_cons, List.map_nil, List.length_cons, List.length_nil, Nat.reduceAdd, Nat.reduceSub, List.replicate_succ, List.replicate_zero, List.cons_append, List.nil_append]
 refine Gx.a (by kernel_rfl) fun K hK => ?_
 simp only [XA]
 refine hK _ ?_
 refine Gx.a (by kernel_rfl) fun K hK => ?_
 simp only [XA]
 refine call_go (by kernel_rfl) rfl (trim_c _ _ _ hv) fun v1 V1 hV1 h1 => ?_
 obtain ⟨A, c, rfl, hc, hm⟩ := NatAt.form h1
 simp only [XA]
 refine call_go (by kernel_rfl) rfl (trim_c _ _ _ (hu.mono hV1)) fun v2 V2 hV2 h2 => ?_
 obtain ⟨A', c', rfl, hc', hm'⟩ := NatAt.form h2
 have h1 := h1.mono hV2
 simp only [XA]
 refine hK _ ?_
 clear hK
 refine XWP.cut (fun s => ∃ x y A c A' c', StIs (fun Z => [.v (.slice A (dg x).length c), .v (.slice A' (dg y).length c'), .v undef, .v undef, .v (.slice none 0 0), .v undef, .v undef, .v undef, .v undef, Z 9,Z 10,Z 11,Z 12,Z 13,Z 14,Z 15,Z 16,Z 17,Z 18,Z 19, .v undef, .v undef, .v undef, .v undef, .v undef, .v undef, .v undef, .v undef, .v undef, .v undef, .v undef, .v undef, .v undef, .v undef, .v undef, .v undef, .v undef, .v undef, .v undef, .v undef, .v undef, .v undef, .v undef, .v undef, .v undef, .v undef, .v undef, .v undef, .v undef, .v undef, .v undef, .v undef, .v undef, .v undef, .v undef, .v undef, .v undef, .v undef, .v undef, .v undef]) [] (fun _ => none) V2 s ∧ NatC V2 (.slice A (dg x).length c) x ∧ NatC V2 (.slice A' (dg y).length c') y ∧ x + y = a + b ∧ sz y ≤ sz x ∧ Fit x ∧ Fit y) ?_ ?_
 ·refine Gx.a (by kernel_rfl) fun K hK => ?_
  by_cases e0 : sz a < sz b
  ·have b0 : decide (((dg a).length : Int) < (dg b).length) = true := decide_eq_true (by unfold sz at e0; omega)
   simp only [XA, XB, b0]
   refine hK _ ?_
   refine Gx.t rfl ?_
   refine Gx.c (by kernel_rfl) fun K hK => ?_
   simp only [XA]
   exact hK _ ⟨b, a, _, _, _, _, StIs.of (by exact rfl), h2, h1, by omega, by omega, fb, fa⟩
  ·have b0 : decide (((dg a).length : Int) < (dg b).length) = false := decide_eq_false (by unfold sz at e0; omega)
   simp only [XA, XB, b0]
   refine hK _ ?_
   refine Gx.f rfl ?_
   refine XWP.skip ?_
   exact ⟨a, b, _, _, _, _, StIs.of (by exact rfl), h1, h2, rfl, by omega, fa, fb⟩
 ·clear hm hm' hc hc' h1 h2 hc0 hc1 hm0 hm1
  rintro s ⟨x, y, A, c, A', c', hs, h1, h2, hxy, hsz, fx, fy⟩
  obtain ⟨u, rfl⟩ := hs.out
  dsimp only
  have lx := fx.len
  have ly := fy.len
  unfold sz at hsz
  have hca := (NatAt.form h1)
  refine Gx.a (by kernel_rfl) fun K hK => ?_
  simp only [XA, XB, i64_succ _ (show (dg x).length < 9223372036854775807 by omega)]
  refine mk_go rfl rfl elemT_47 zeroT_123 (Int.le_refl _) (by omega) (by omega) (by omega) rfl (by omega) fun q hq1 hq2 => ?_
  simp only [XA]
  refine hK _ ?_
  refine Gx.a (by kernel_rfl) fun K hK => ?_
  simp only [XA]
  refine hK _ ?_
  clear hK
  refine XWP.cut (fun s => ∃ w H5 out cc, StIs (fun Z => [.v (.slice A (dg x).length c), .v (.slice A' (dg y).length c'), .v undef, .v undef, .v (.slice none 0 0), .v w, .v (.int .u64 ((cc : Nat) : Int)), Z 7,Z 8,Z 9,Z 10,Z 11,Z 12,Z 13,Z 14,Z 15,Z 16,Z 17,Z 18,Z 19,Z 20,Z 21,Z 22,Z 23,Z 24,Z 25,Z 26,Z 27,Z 28,Z 29,Z 30,Z 31,Z 32,Z 33,Z 34,Z 35,Z 36,Z 37,Z 38,Z 39,Z 40,Z 41,Z 42,Z 43,Z 44,Z 45,Z 46,Z 47,Z 48,Z 49,Z 50,Z 51,Z 52,Z 53, .v undef, .v undef, .v undef, .v undef, .v undef, .v undef]) [] H5 V2 s ∧ out.length = (dg x).length ∧ Dig out ∧ cc ≤ 1 ∧ Own H5 123 1 w (dg x).length (u32s out) ∧ nv out + BB ^ (dg x).length * cc = a + b) ?_ ?_
  ·refine Gx.a (by kernel_rfl) fun K hK => ?_
   simp only [XA, XB]
   refine hK _ ?_
   clear hK
   refine XWP.block ?_
   refine XWP.loop (fun n s => ∃ k w H5 out cc, StIs (fun Z => [.v (.slice A (dg x).length c), .v (.slice A' (dg y).length c'), .v undef, .v undef, .v (.slice none 0 0), .v w, .v (.int .u64 ((cc : Nat) : Int)), Z 7, Z 8, u 9,u 10,u 11,u 12,u 13,u 14,u 15,u 16,u 17,u 18,u 19, .v (.slice A (dg x).length c), .v (.int .i64 ((dg x).length : Int)), .v (.int .i64 (((dg x).length + 1 : Nat) : Int)), .v (.slice (some ⟨q, 0, none⟩) 0 ((dg x).length + 1)), .v (.slice A (dg x).length c), .v (.int .i64 ((dg x).length : Int)), .v (.int .i64 ((k : Nat) : Int)), Z 27,Z 28,Z 29,Z 30,Z 31,Z 32,Z 33,Z 34,Z 35,Z 36,Z 37,Z 38,Z 39,Z 40,Z 41,Z 42,Z 43,Z 44,Z 45,Z 46,Z 47,Z 48,Z 49,Z 50,Z 51,Z 52,Z 53, .v undef, .v undef, .v undef, .v undef, .v undef, .v undef]) [] H5 V2 s ∧ n + k = (dg x).length ∧ out.length = k ∧ Dig out ∧ cc ≤ 1 ∧ Own H5 123 1 w k (u32s out) ∧ nv out + BB ^ k * cc = nv ((dg x).take k) + nv ((dg y).take k)) (dg x).length ⟨0, _, _, [], 0, StIs.of (by exact rfl), rfl, rfl, Dig_nil, by omega, own_new (by simp) (by omega), by simp [nv]⟩ ?_
   rintro n s ⟨k, w, H5, out, cc, hs, hn, hol, hod, hcc, hown, hnv⟩
   obtain ⟨z, rfl⟩ := hs.out
   dsimp only
   refine Gx.a (by kernel_rfl) fun K hK => ?_
   by_cases hk : k < (dg x).length
   ·have b1 : decide ((k : Int) < ((dg x).length : Int)) = true := decide_eq_true (by omega)
    simp only [XA, XB, b1]
    refine hK _ ?_
    refine XWP.seq (Gx.t rfl ?_)
    refine XWP.skip ?_
    refine XWP.seq ?_
    refine XWP.block ?_
    refine Gx.a (by kernel_rfl) fun K hK => ?_
    obtain ⟨q1, o1, rfl⟩ := NatAt.addr h1 (by omega)
    have hc1 := NatAt.cells h1 k hk
    have hd1 := Dig_get (Dig_dg x) k hk
    rw [getD_get] at hc1 hd1
    simp only [XA, XB]
    refine ⟨by omega, by omega, ld_mem (loads_cell shapeT_123 (hc1 _)) ?_⟩
    simp only [XA]
    refine hK _ ?_
    refine Gx.a (by kernel_rfl) fun K hK => ?_
    have w1 := u64_add cc ((dg x).getD k 0) (by unfold BB at hd1; omega)
    simp only [XA, XB, u64_of_u32 _ hd1, w1]
    refine hK _ ?_
    clear hK
    refine XWP.cut (fun s => StIs (fun Z => [.v (.slice (some ⟨q1, o1, none⟩) (dg x).length c), .v (.slice A' (dg y).length c'), .v undef, .v undef, .v (.slice none 0 0), .v w, .v (.int .u64 ((cc + gd (dg x) k + gd (dg y) k : Nat) : Int)), .v (.int .i64 (k : Int)), .v (.int .u32 (((dg x).getD k 0 : Nat) : Int)), u 9,u 10,u 11,u 12,u 13,u 14,u 15,u 16,u 17,u 18,u 19, .v (.slice (some ⟨q1, o1, none⟩) (dg x).length c), .v (.int .i64 ((dg x).length : Int)), .v (.int .i64 (((dg x).length + 1 : Nat) : Int)), .v (.slice (some ⟨q, 0, none⟩) 0 ((dg x).length + 1)), .v (.slice (some ⟨q1, o1, none⟩) (dg x).length c), .v (.int .i64 ((dg x).length : Int)), .v (.int .i64 ((k : Nat) : Int)), Z 27,Z 28,Z 29,Z 30,Z 31,Z 32,Z 33,Z 34,Z 35,Z 36,Z 37,Z 38,Z 39,Z 40,Z 41,Z 42,Z 43,Z 44,Z 45,Z 46,Z 47,Z 48,Z 49,Z 50,Z 51,Z 52,Z 53, .v undef, .v undef, .v undef, .v undef, .v undef, .v undef]) [] H5 V2 s) ?_ ?_
    ·refine Gx.a (by kernel_rfl) fun K hK => ?_
     by_cases hky : k < (dg y).length
     ·have b2 : decide ((k : Int) < ((dg y).length : Int)) = true := decide_eq_true (by omega)
      simp only [XA, XB, b2]
      refine hK _ ?_
      refine Gx.t rfl ?_
      refine Gx.c (by kernel_rfl) fun K hK => ?_
      obtain ⟨q2, o2, rfl⟩ := NatAt.addr h2 (by omega)
      have hc2 := NatAt.cells h2 k hky
      have hd2 := Dig_get (Dig_dg y) k hky
      rw [getD_get] at hc2 hd2
      have w2 := u64_add (cc + (dg x).getD k 0) ((dg y).getD k 0) (by unfold BB at hd1 hd2; omega)
      simp only [XA, XB]
      refine ⟨by omega, by omega, ld_mem (loads_cell shapeT_123 (hc2 _)) ?_⟩
      simp only [XA, XB, u64_of_u32 _ hd2, w2]
      refine hK _ ?_
      try rw [thenX_normal]
      refine StIs.of ?_
      exact rfl
     ·have b2 : decide ((k : Int) < ((dg y).length : Int)) = false := decide_eq_false (by omega)
      simp only [XA, XB, b2]
      refine hK _ ?_
      refine Gx.f rfl ?_
      refine XWP.skip ?_
      have e0 : cc + gd (dg x) k + gd (dg y) k = cc + (dg x).getD k 0 := by rw [gd_none (l := dg y) (by omega)]; rfl
      rw [e0]
      try rw [thenX_normal]
      refine StIs.of ?_
      exact rfl
    ·rintro s hs
     obtain ⟨z, rfl⟩ := hs.out
     dsimp only
     have gx := gd_lt (Dig_dg x) k
     have gy := gd_lt (Dig_dg y) k
     generalize hc' : cc + gd (dg x) k + gd (dg y) k = c2
     refine Gx.a (by kernel_rfl) fun K hK => ?_
     simp only [XA, XB, w32_mod]
     refine bs_go (by kernel_rfl) #[(0, .int .u32 ((c2 % BB : Nat) : Int))] (by simp [ev_tmp, SV.val]) (bs_one elemT_47 zeroT_123 rfl) fun q3 hq3 hq4 => ?_
     simp only [XA]
     refine ap_go elemT_47 (by kernel_rfl) zeroT_123 rfl (by omega) (own_upd hown hq3) (src_row (ds := [c2 % BB]) (by simp [upd, u32s]; exact ⟨rfl, rfl⟩) rfl) (by omega) (by omega) fun v' H' hres => ?_
     simp only [XA]
     refine hK _ ?_
     refine Gx.c (by kernel_rfl) fun K hK => ?_
     simp only [XA, XB, Int.reduceToNat, Int.reduceLE, shr32]
     refine hK _ ?_
     refine Gx.c (by kernel_rfl) fun K hK => ?_
     simp only [XA, XB, i64_succ k (by omega)]
     refine hK _ ⟨n - 1, by omega, k + 1, _, _, out ++ [c2 % BB], c2 / BB, StIs.of (by exact rfl), by omega, by simp [hol], Dig_append hod (Dig_one (Nat.mod_lt _ BB_pos)), ?_, ?_, ?_⟩
     ·unfold BB at gx gy ⊢; omega
     ·rw [u32s_append]; exact hres.1
     ·rw [← hc']; exact add_step hol hnv
   ·have b1 : decide ((k : Int) < ((dg x).length : Int)) = false := decide_eq_false (by omega)
    obtain rfl : k = (dg x).length := by omega
    simp only [XA, XB, b1]
    refine hK _ ?_
    refine XWP.seq (Gx.f rfl ?_)
    refine XWP.exit ?_
    refine ⟨w, H5, out, cc, StIs.of (by exact rfl), hol, hod, hcc, hown, ?_⟩
    rw [hnv, List.take_length, List.take_of_length_le (by omega), nv_dg, nv_dg, hxy]
  ·rintro s ⟨w, H5, out, cc, hs, hol, hod, hcc, hown, hnv⟩
   obtain ⟨z, rfl⟩ := hs.out
   dsimp only
   refine Gx.a (by kernel_rfl) fun K hK => ?_
   have e1 : cc % BB = cc := Nat.mod_eq_of_lt (by unfold BB; omega)
   simp only [XA, XB, w32_mod, e1]
   refine bs_go (by kernel_rfl) #[(0, .int .u32 (cc : Int))] (by simp [ev_tmp, SV.val]) (bs_one elemT_47 zeroT_123 rfl) fun q3 hq3 hq4 => ?_
   simp only [XA]
   refine ap_go elemT_47 (by kernel_rfl) zeroT_123 rfl (by omega) (own_upd hown hq3) (src_row (ds := [cc]) (by simp [upd, u32s]; exact ⟨rfl, rfl⟩) rfl) (by omega) (by omega) fun v' H' hres => ?_
   simp only [XA]
   obtain ⟨hown', _, _⟩ := hres
   rw [← u32s_append] at hown'
   obtain ⟨g, cap, rfl, hg, hle, hcap, hlen⟩ := own_row hown' (by omega)
   have hdig : Dig (out ++ [cc]) := Dig_append hod (Dig_one (by unfold BB; omega))
   refine call_pub g _ hg (fun o ho hle' => ?_) (by kernel_rfl) rfl
   refine call_go (by kernel_rfl) rfl (trim_any _ _ (out ++ [cc]) (NatAt.pub ho hdig hlen hle hcap)) fun v3 V3 hV3 h3 => ?_
   simp only [XA]
   refine hK _ (XWP.ret ?_)
   try simp only [thenX_ret, inBlockX_ret]
   refine ret_go _ rfl ?_
   rw [nv_snoc, hol, hnv] at h3
   exact h3
theorem take_set_succ {l : List Nat} {k d : Nat} (h : k < l.length) : (l.set k d).take (k + 1) = l.take k ++ [d] := by
 rw [List.take_succ_eq_append_getElem (by simpa using h)]
 simp [List.take_set_of_le]
theorem upd_at (H : Heap) (b : Nat) (r : Option Row) : upd H b r b = r := by simp [upd]
theorem shl32_01 (c : Nat) (h : c ≤ 1) : IntKind.u64.wrap ((c : Int) * 2 ^ min 32 IntKind.u64.bits) = ((c * BB : Nat) : Int) := shl32 c (by unfold BB; omega)
theorem sub_digit (x y c : Nat) (hx : x < BB) (hy : y ≤ BB) (hc : c = if x < y then 1 else 0) : IntKind.u32.wrap (IntKind.u64.wrap (IntKind.u64.wrap ((x : Int) + ((c * BB : Nat) : Int)) - (y : Int))) = (((if x < y then x + BB - y else x - y) % BB : Nat) : Int) ∧ (if x < y then x + BB - y else x - y) % BB = (if x < y then x + BB - y else x - y) := by
 unfold BB at *
 rw [w64_id (x := (x : Int) + _) (by omega) (by split at hc <;> omega)]
 split at hc <;> rename_i h
 ·subst hc
  rw [if_pos h, w64_id (by omega) (by omega)]
  have e : (x : Int) + ((1 * 4294967296 : Nat) : Int) - (y : Int) = ((x + 4294967296 - y : Nat) : Int) := by omega
  rw [e, w32_mod]; unfold BB
  exact ⟨rfl, Nat.mod_eq_of_lt (by omega)⟩
 ·subst hc
  rw [if_neg h, w64_id (by omega) (by omega)]
  have e : (x : Int) + ((0 * 4294967296 : Nat) : Int) - (y : Int) = ((x - y : Nat) : Int) := by omega
  rw [e, w32_mod]; unfold BB
  exact ⟨rfl, Nat.mod_eq_of_lt (by omega)⟩
theorem sub_c (V : View) (v u : Value) (a b : Nat) (hv : NatC V v a) (hu : NatC V u b) (fa : Fit a) : Spec Tryz.prog 110 [v, u] V fun v' V' => (a < b → v' = .tuple #[.slice none 0 0, .int .i64 1]) ∧ (b ≤ a → ∃ r, v' = .tuple #[r, .int .i64 0] ∧ NatC V' r (a - b)) := by
 obtain ⟨A0, c0, rfl, hc0, hm0⟩ := NatAt.form hv
 obtain ⟨A1, c1, rfl, hc1, hm1⟩ := NatAt.form hu
 refine (Spec.enter Tryz.func110 rfl fun Γ => ?_)
 simp only [Tryz.ntmps110, List.map_cons, List.map_nil, List.length_cons, List.length_nil, Nat.reduceAdd, Nat.reduceSub, List.replicate_succ, List.replicate_zero, List.cons_append, List.nil_append]
 refine Gx.a (by kernel_rfl) fun K hK => ?_
 simp only [XA]
 refine hK _ ?_
 refine Gx.b (by kernel_rfl) fun K hK => ?_
 simp only [XA]
 refine call_go (by kernel_rfl) rfl (compare_c _ _ _ _ _ hv hu) fun v0 V0 hV0 h0 => ?_
 subst h0
 simp only [XA, XB]
 by_cases hlt : a < b
 ·have b0 : decide (cmpI a b < 0) = true := decide_eq_true (by rw [cmpI_lt hlt]; omega)
  simp only [b0]
  refine hK _ ?_
  refine Gx.t rfl ?_
  refine Gx.a (by kernel_rfl) fun K hK => ?_
  simp only [XA]
  refine hK _ (XWP.ret ?_)
  try simp only [thenX_ret, inBlockX_ret]
  refine ret_go _ rfl ?_
  exact ⟨fun _ => rfl, fun h => by omega⟩
 have b0 : decide (cmpI a b < 0) = false := decide_eq_false (by
  rcases Nat.lt_or_ge b a with h | h
  ·rw [cmpI_gt h]; omega
  ·have : a = b := by omega
   rw [this, cmpI_eq]; omega)
 simp only [b0]
 refine hK _ ?_
 refine Gx.f rfl ?_
 refine XWP.skip ?_
 refine Gx.a (by kernel_rfl) fun K hK => ?_
 have hv := hv.mono hV0
 have hu := hu.mono hV0
 simp only [XA]
 refine call_go (by kernel_rfl) rfl (trim_c _ _ _ hv) fun v1 V1 hV1 h1 => ?_
 obtain ⟨A, c, rfl, hc, hm⟩ := NatAt.form h1
 simp only [XA]
 refine call_go (by kernel_rfl) rfl (trim_c _ _ _ (hu.mono hV1)) fun v2 V2 hV2 h2 => ?_
 obtain ⟨A', c', rfl, hc', hm'⟩ := NatAt.form h2
 have h1 := h1.mono hV2
 have hle : (dg b).length ≤ (dg a).length := sz_mono (by omega)
 have la := fa.len
 clear hv hu hc0 hc1 hm0 hm1
 simp only [XA]
 refine hK _ ?_
 refine Gx.a (by kernel_rfl) fun K hK => ?_
 simp only [XA, XB]
 refine mk_go rfl rfl elemT_47 zeroT_123 (by omega) (by omega) (by omega) (by omega) rfl (by omega) fun q hq1 hq2 => ?_
 simp only [XA, u32s_replicate]
 refine hK _ ?_
 refine Gx.a (by kernel_rfl) fun K hK => ?_
 simp only [XA]
 refine hK _ ?_
 clear hK
 refine XWP.cut (fun s => ∃ H5 out, StIs (fun Z => [.v (.slice A (dg a).length c), .v (.slice A' (dg b).length c'), .v undef, .v undef, .v (.slice none 0 0), .v (.int .i64 0), .v (.slice (some ⟨q, 0, none⟩) (dg a).length (dg a).length), Z 7,Z 8,Z 9,Z 10,Z 11,Z 12,Z 13,Z 14,Z 15,Z 16,Z 17,Z 18,Z 19,Z 20,Z 21,Z 22,Z 23,Z 24,Z 25,Z 26,Z 27,Z 28,Z 29,Z 30,Z 31,Z 32,Z 33,Z 34,Z 35,Z 36,Z 37,Z 38,Z 39,Z 40,Z 41,Z 42,Z 43,Z 44,Z 45,Z 46,Z 47,Z 48,Z 49,Z 50,Z 51,Z 52,Z 53,Z 54,Z 55,Z 56, .v undef, .v undef]) [] H5 V2 s ∧ H5 q = some ⟨123, u32s out, (dg a).length * 1⟩ ∧ out.length = (dg a).length ∧ Dig out ∧ nv out + b = a) ?_ ?_
 ·refine Gx.a (by kernel_rfl) fun K hK => ?_
  simp only [XA, XB]
  refine hK _ ?_
  clear hK
  refine XWP.block ?_
  refine XWP.loop (fun n s => ∃ k H5 out bo, StIs (fun Z => [.v (.slice A (dg a).length c), .v (.slice A' (dg b).length c'), .v undef, .v undef, .v (.slice none 0 0), .v (.int .i64 0), .v (.slice (some ⟨q, 0, none⟩) (dg a).length (dg a).length), .v (.int .u64 ((bo : Nat) : Int)), Z 8, Z 9, Z 10, .v (.slice A0 (dg a).length c0), .v (.slice A1 (dg b).length c1), .v (.int .i64 (cmpI a b)), .v (.bool false), .v (.slice A0 (dg a).length c0), .v (.slice A (dg a).length c), .v (.slice A1 (dg b).length c1), .v (.slice A' (dg b).length c'), .v (.slice A (dg a).length c), .v (.int .i64 ((dg a).length : Int)), .v (.slice (some ⟨q, 0, none⟩) (dg a).length (dg a).length), .v (.slice A (dg a).length c), .v (.int .i64 ((dg a).length : Int)), .v (.int .i64 ((k : Nat) : Int)), Z 25,Z 26,Z 27,Z 28,Z 29,Z 30,Z 31,Z 32,Z 33,Z 34,Z 35,Z 36,Z 37,Z 38,Z 39,Z 40,Z 41,Z 42,Z 43,Z 44,Z 45,Z 46,Z 47,Z 48,Z 49,Z 50,Z 51,Z 52,Z 53,Z 54,Z 55,Z 56, .v undef, .v undef]) [] H5 V2 s ∧ n + k = (dg a).length ∧ H5 q = some ⟨123, u32s out, (dg a).length * 1⟩ ∧ out.length = (dg a).length ∧ Dig out ∧ bo ≤ 1 ∧ nv (out.take k) + nv ((dg b).take k) = nv ((dg a).take k) + BB ^ k * bo) (dg a).length ⟨0, _, List.replicate (dg a).length 0, 0, StIs.of (by exact rfl), rfl, by rw [upd_at]; simp, by simp, Dig_replicate _, by omega, by simp [nv]⟩ ?_
  rintro n s ⟨k, H5, out, bo, hs, hn, hH, hol, hod, hbo, hnv⟩
  obtain ⟨u, rfl⟩ := hs.out
  dsimp only
  refine Gx.a (by kernel_rfl) fun K hK => ?_
  by_cases hk : k < (dg a).length
  ·have b1 : decide ((k : Int) < ((dg a).length : Int)) = true := decide_eq_true (by omega)
   simp only [XA, XB, b1]
   refine hK _ ?_
   refine XWP.seq (Gx.t rfl ?_)
   refine XWP.skip ?_
   refine XWP.seq ?_
   refine XWP.block ?_
   refine Gx.a (by kernel_rfl) fun K hK => ?_
   obtain ⟨q1, o1, rfl⟩ := NatAt.addr h1 (by omega)
   have hc1 := NatAt.cells h1 k hk
   have hd1 := Dig_get (Dig_dg a) k hk
   rw [getD_get] at hc1 hd1
   simp only [XA, XB]
   refine ⟨by omega, by omega, ld_mem (loads_cell shapeT_123 (hc1 _)) ?_⟩
   simp only [XA]
   refine hK _ ?_
   refine Gx.a (by kernel_rfl) fun K hK => ?_
   simp only [XA]
   refine hK _ ?_
   clear hK
   have gy := gd_lt (Dig_dg b) k
   refine XWP.cut (fun s => StIs (fun Z => [.v (.slice (some ⟨q1, o1, none⟩) (dg a).length c), .v (.slice A' (dg b).length c'), .v undef, .v undef, .v (.slice none 0 0), .v (.int .i64 0), .v (.slice (some ⟨q, 0, none⟩) (dg a).length (dg a).length), .v (.int .u64 ((bo : Nat) : Int)), .v (.int .i64 (k : Int)), .v (.int .u32 (((dg a).getD k 0 : Nat) : Int)), .v (.int .u64 ((gd (dg b) k + bo : Nat) : Int)), .v (.slice A0 (dg a).length c0), .v (.slice A1 (dg b).length c1), .v (.int .i64 (cmpI a b)), .v (.bool false), .v (.slice A0 (dg a).length c0), .v (.slice (some ⟨q1, o1, none⟩) (dg a).length c), .v (.slice A1 (dg b).length c1), .v (.slice A' (dg b).length c'), .v (.slice (some ⟨q1, o1, none⟩) (dg a).length c), .v (.int .i64 ((dg a).length : Int)), .v (.slice (some ⟨q, 0, none⟩) (dg a).length (dg a).length), .v (.slice (some ⟨q1, o1, none⟩) (dg a).length c), .v (.int .i64 ((dg a).length : Int)), .v (.int .i64 ((k : Nat) : Int)), Z 25,Z 26,Z 27,Z 28,Z 29,Z 30,Z 31,Z 32,Z 33,Z 34,Z 35,Z 36,Z 37,Z 38,Z 39,Z 40,Z 41,Z 42,Z 43,Z 44,Z 45,Z 46,Z 47,Z 48,Z 49,Z 50,Z 51,Z 52,Z 53,Z 54,Z 55,Z 56, .v undef, .v undef]) [] H5 V2 s) ?_ ?_
   ·refine Gx.a (by kernel_rfl) fun K hK => ?_
    by_cases hky : k < (dg b).length
    ·have b2 : decide ((k : Int) < ((dg b).length : Int)) = true := decide_eq_true (by omega)
     simp only [XA, XB, b2]
     refine hK _ ?_
     refine Gx.t rfl ?_
     refine Gx.c (by kernel_rfl) fun K hK => ?_
     obtain ⟨q2, o2, rfl⟩ := NatAt.addr h2 (by omega)
     have hc2 := NatAt.cells h2 k hky
     have hd2 := Dig_get (Dig_dg b) k hky
     rw [getD_get] at hc2 hd2
     have w2 : IntKind.u64.wrap ((bo : Int) + (((dg b).getD k 0 : Nat) : Int)) = ((gd (dg b) k + bo : Nat) : Int) := by
      rw [u64_add _ _ (by unfold BB at hd2; omega), Nat.add_comm]; rfl
     simp only [XA, XB]
     refine ⟨by omega, by omega, ld_mem (loads_cell shapeT_123 (hc2 _)) ?_⟩
     simp only [XA, XB, u64_of_u32 _ hd2, w2]
     refine hK _ ?_
     try rw [thenX_normal]
     refine StIs.of ?_
     exact rfl
    ·have b2 : decide ((k : Int) < ((dg b).length : Int)) = false := decide_eq_false (by omega)
     simp only [XA, XB, b2]
     refine hK _ ?_
     refine Gx.f rfl ?_
     refine XWP.skip ?_
     have e0 : gd (dg b) k + bo = bo := by rw [gd_none (l := dg b) (by omega), Nat.zero_add]
     rw [e0]
     try rw [thenX_normal]
     refine StIs.of ?_
     exact rfl
   ·rintro s hs
    obtain ⟨u, rfl⟩ := hs.out
    dsimp only
    refine Gx.a (by kernel_rfl) fun K hK => ?_
    simp only [XA]
    refine hK _ ?_
    clear hK
    refine XWP.cut (fun s => StIs (fun Z => [.v (.slice (some ⟨q1, o1, none⟩) (dg a).length c), .v (.slice A' (dg b).length c'), .v undef, .v undef, .v (.slice none 0 0), .v (.int .i64 0), .v (.slice (some ⟨q, 0, none⟩) (dg a).length (dg a).length), .v (.int .u64 ((if (dg a).getD k 0 < gd (dg b) k + bo then 1 else 0 : Nat) : Int)), .v (.int .i64 (k : Int)), .v (.int .u32 (((dg a).getD k 0 : Nat) : Int)), .v (.int .u64 ((gd (dg b) k + bo : Nat) : Int)), .v (.slice A0 (dg a).length c0), .v (.slice A1 (dg b).length c1), .v (.int .i64 (cmpI a b)), .v (.bool false), .v (.slice A0 (dg a).length c0), .v (.slice (some ⟨q1, o1, none⟩) (dg a).length c), .v (.slice A1 (dg b).length c1), .v (.slice A' (dg b).length c'), .v (.slice (some ⟨q1, o1, none⟩) (dg a).length c), .v (.int .i64 ((dg a).length : Int)), .v (.slice (some ⟨q, 0, none⟩) (dg a).length (dg a).length), .v (.slice (some ⟨q1, o1, none⟩) (dg a).length c), .v (.int .i64 ((dg a).length : Int)), .v (.int .i64 ((k : Nat) : Int)), Z 25,Z 26,Z 27,Z 28,Z 29,Z 30,Z 31,Z 32,Z 33,Z 34,Z 35,Z 36,Z 37,Z 38,Z 39,Z 40,Z 41,Z 42,Z 43,Z 44,Z 45,Z 46,Z 47,Z 48,Z 49,Z 50,Z 51,Z 52,Z 53,Z 54,Z 55,Z 56, .v undef, .v undef]) [] H5 V2 s) ?_ ?_
    ·refine Gx.a (by kernel_rfl) fun K hK => ?_
     by_cases hxy : (dg a).getD k 0 < gd (dg b) k + bo
     ·have b2 : decide ((((dg a).getD k 0 : Nat) : Int) < ((gd (dg b) k + bo : Nat) : Int)) = true := decide_eq_true (by omega)
      simp only [XA, XB, u64_of_u32 _ hd1, b2]
      refine hK _ ?_
      refine Gx.t rfl ?_
      refine Gx.c (by kernel_rfl) fun K hK => ?_
      simp only [XA]
      refine hK _ ?_
      try rw [thenX_normal]
      refine StIs.of ?_
      rw [if_pos hxy]; rfl
     ·have b2 : decide ((((dg a).getD k 0 : Nat) : Int) < ((gd (dg b) k + bo : Nat) : Int)) = false := decide_eq_false (by omega)
      simp only [XA, XB, u64_of_u32 _ hd1, b2]
      refine hK _ ?_
      refine Gx.f rfl ?_
      refine XWP.skip ?_
      try rw [thenX_normal]
      refine StIs.of ?_
      rw [if_neg hxy]; rfl
    ·rintro s hs
     obtain ⟨u, rfl⟩ := hs.out
     dsimp only
     have hst := sub_step (a := dg a) (b := dg b) (out := out.take k) (c := bo) (k := k) (by simp; omega) hbo hnv (gd_lt (Dig_dg a) k) gy
     have ex : gd (dg a) k = (dg a).getD k 0 := rfl
     rw [ex] at hst
     generalize hx : (dg a).getD k 0 = x at *
     generalize hy : gd (dg b) k = y at *
     generalize hcc : (if x < y + bo then 1 else 0 : Nat) = cc
     obtain ⟨sd1, sd2⟩ := sub_digit x (y + bo) cc hd1 (by omega) hcc.symm
     have hcc1 : cc ≤ 1 := by rw [← hcc]; split <;> omega
     refine Gx.c (by kernel_rfl) fun K hK => ?_
     simp only [XA, XB, Int.reduceToNat, Int.reduceLE, u64_of_u32 _ hd1, shl32_01 _ hcc1, sd1]
     rw [sd2]
     have hdd : (if x < y + bo then x + BB - (y + bo) else x - (y + bo)) < BB := by rw [← sd2]; exact Nat.mod_lt _ BB_pos
     generalize hdv : (if x < y + bo then x + BB - (y + bo) else x - (y + bo)) = dd at *
     refine ⟨by omega, by omega, ?_⟩
     refine st_row shapeT_123 rfl rfl hH (by rw [u32s_length]; omega) ?_
     simp only [XA, u32s_set]
     refine hK _ ?_
     refine Gx.c (by kernel_rfl) fun K hK => ?_
     simp only [XA, XB, i64_succ k (by omega)]
     refine hK _ ⟨n - 1, by omega, k + 1, _, out.set k dd, cc, StIs.of (by exact rfl), by omega, by rw [upd_at]; simp, by simp [hol], Dig_set hod _ hdd, hcc1, ?_⟩
     rw [take_set_succ (by omega)]
     by_cases hxy : x < y + bo
     ·rw [if_pos hxy] at hdv hcc
      subst hdv; subst hcc
      exact hst.2 hxy
     ·rw [if_neg hxy] at hdv hcc
      subst hdv; subst hcc
      exact hst.1 (by omega)
  ·have b1 : decide ((k : Int) < ((dg a).length : Int)) = false := decide_eq_false (by omega)
   obtain rfl : k = (dg a).length := by omega
   simp only [XA, XB, b1]
   refine hK _ ?_
   refine XWP.seq (Gx.f rfl ?_)
   refine XWP.exit ?_
   refine ⟨H5, out, StIs.of (by exact rfl), hH, hol, hod, ?_⟩
   rw [List.take_length, List.take_of_length_le (by omega), List.take_of_length_le (by omega), nv_dg, nv_dg] at hnv
   have hnl := nv_lt hod
   rw [hol] at hnl
   have : bo = 0 := by
    rcases Nat.eq_zero_or_pos bo with h | h
    ·exact h
    ·have : bo = 1 := by omega
     subst this
     omega
   subst this
   omega
 ·rintro s ⟨H5, out, hs, hH, hol, hod, hnv⟩
  obtain ⟨u, rfl⟩ := hs.out
  dsimp only
  refine Gx.a (by kernel_rfl) fun K hK => ?_
  simp only [XA]
  refine call_pub q _ hH (fun o ho hle' => ?_) (by kernel_rfl) rfl
  refine call_go (by kernel_rfl) rfl (trim_any _ _ out (NatAt.pub ho hod hol (Nat.le_refl _) (by omega))) fun v3 V3 hV3 h3 => ?_
  simp only [XA]
  refine hK _ (XWP.ret ?_)
  try simp only [thenX_ret, inBlockX_ret]
  refine ret_go _ rfl ?_
  refine ⟨fun h => by omega, fun _ => ⟨v3, rfl, ?_⟩⟩
  have : a - b = nv out := by omega
  rw [this]; exact h3
end Go.Proofs.YtobjjdnfgamgcaaGreat
end
section
namespace Go.Proofs.YtobjjdnfgamgcaaGreat
theorem nv_set (l : List Nat) (j d : Nat) (h : j < l.length) : nv (l.set j d) + BB ^ j * l.getD j 0 = nv l + BB ^ j * d := by
 have e1 : l.getD j 0 = l[j] := by simp [h]
 rw [e1, nv_at l j h, nv_at (l.set j d) j (by simpa using h)]
 have t1 : (l.set j d).take j = l.take j := by simp [List.take_set_of_le]
 have t2 : (l.set j d).drop (j + 1) = l.drop (j + 1) := by simp [List.drop_set]
 rw [t1, t2, List.getElem_set_self]
 omega
theorem getD_set_ne' (l : List Nat) (i j d : Nat) (h : i ≠ j) : (l.set i d).getD j 0 = l.getD j 0 := by
 simp [List.getElem?_set_ne h]
theorem mul_carry (c o x y : Nat) (hc : c < BB) (ho : o < BB) (hx : x < BB) (hy : y < BB) : c + (o + x * y) < 18446744073709551616 ∧ (c + (o + x * y)) / BB < BB ∧ o + x * y < 18446744073709551616 ∧ x * y < 18446744073709551616 := by
 have h1 : x * y ≤ 4294967295 * 4294967295 := Nat.mul_le_mul (by unfold BB at hx; omega) (by unfold BB at hy; omega)
 unfold BB at *
 omega
theorem mul_step {l db : List Nat} {i k c x R : Nat} (hj : i + k < l.length) (h : nv l + BB ^ (i + k) * c = R + BB ^ i * (x * nv (db.take k))) :
  nv (l.set (i + k) ((c + (l.getD (i + k) 0 + x * gd db k)) % BB)) + BB ^ (i + (k + 1)) * ((c + (l.getD (i + k) 0 + x * gd db k)) / BB) = R + BB ^ i * (x * nv (db.take (k + 1))) := by
 have hs := nv_set l (i + k) ((c + (l.getD (i + k) 0 + x * gd db k)) % BB) hj
 have e := Nat.mod_add_div (c + (l.getD (i + k) 0 + x * gd db k)) BB
 have e2 : BB ^ (i + k) * ((c + (l.getD (i + k) 0 + x * gd db k)) % BB) + BB ^ (i + (k + 1)) * ((c + (l.getD (i + k) 0 + x * gd db k)) / BB) = BB ^ (i + k) * c + (BB ^ (i + k) * l.getD (i + k) 0 + BB ^ (i + k) * (x * gd db k)) := by
  rw [← Nat.add_assoc i k 1, Nat.pow_succ, Nat.mul_assoc (BB ^ (i + k)), ← Nat.mul_add, e, Nat.mul_add, Nat.mul_add]
 rw [nv_take_gd, Nat.mul_add, Nat.mul_add]
 have e3 : BB ^ i * (x * (BB ^ k * gd db k)) = BB ^ (i + k) * (x * gd db k) := by
  rw [Nat.pow_add, Nat.mul_assoc, Nat.mul_left_comm x]
 rw [e3]
 omega
theorem mul_last {l da : List Nat} {i m c x b : Nat} (hj : i + m < l.length) (hz : l.getD (i + m) 0 = 0) (hi : i < da.length) (hx : x = da.getD i 0) (h : nv l + BB ^ (i + m) * c = nv (da.take i) * b + BB ^ i * (x * b)) :
  nv (l.set (i + m) c) = nv (da.take (i + 1)) * b := by
 have hs := nv_set l (i + m) c hj
 rw [hz, Nat.mul_zero, Nat.add_zero] at hs
 rw [hs, h, nv_take_gd, Nat.add_mul, Nat.mul_assoc, hx]; rfl
theorem short_step {l da : List Nat} {j d r : Nat} (hl : l.length = da.length) (hj : j < da.length) (hd : 0 < d) (hr : r < d) (h : nv (l.drop (j + 1)) * d + r = nv (da.drop (j + 1))) :
  nv ((l.set j ((r * BB + da.getD j 0) / d)).drop j) * d + (r * BB + da.getD j 0) % d = nv (da.drop j) := by
 have e1 : (l.set j ((r * BB + da.getD j 0) / d)).drop j = ((r * BB + da.getD j 0) / d) :: l.drop (j + 1) := by
  rw [List.drop_eq_getElem_cons (by simp; omega)]
  simp [List.drop_set]
 have e2 : da.getD j 0 = da[j] := by simp [hj]
 rw [e1, nv, nv_drop da j hj, ← h, ← e2]
 have e := Nat.mod_add_div (r * BB + da.getD j 0) d
 generalize (r * BB + da.getD j 0) / d = q at *
 generalize (r * BB + da.getD j 0) % d = s at *
 rw [Nat.add_mul, Nat.mul_add BB, ← Nat.mul_assoc]
 have : d * q = q * d := Nat.mul_comm _ _
 have : BB * r = r * BB := Nat.mul_comm _ _
 omega
theorem short_lt {r d a : Nat} (hd : d < BB) (hr : r < d) (ha : a < BB) : (r * BB + a) / d < BB ∧ r < BB ∧ r * BB + a < 18446744073709551616 := by
 refine ⟨Nat.div_lt_of_lt_mul ?_, by omega, ?_⟩
 ·have : (r + 1) * BB ≤ d * BB := Nat.mul_le_mul_right _ hr
  rw [Nat.add_mul] at this; omega
 ·unfold BB at *; omega
end Go.Proofs.YtobjjdnfgamgcaaGreat
end
section
namespace Go.Proofs.YtobjjdnfgamgcaaGreat
open Go Go.RowKit
attribute [local irreducible] XWP Spec SpecO XPub XCall seqX clX apX stX ldX iaX slX
theorem u64_mul (a b : Nat) (h : a * b < 18446744073709551616) : IntKind.u64.wrap ((a : Int) * (b : Int)) = ((a * b : Nat) : Int) := by
 rw [← Int.natCast_mul, w64_id (by omega) (by omega)]
theorem mul_c (V : View) (v u : Value) (a b : Nat) (hv : NatC V v a) (hu : NatC V u b) (fa : Fit a) (fb : Fit b) : Spec Tryz.prog 97 [v, u] V fun v' V' => NatC V' v' (a * b) := by
 obtain ⟨A0, c0, rfl, hc0, hm0⟩ := NatAt.form hv
 obtain ⟨A1, c1, rfl, hc1, hm1⟩ := NatAt.form hu
 refine (Spec.enter Tryz.func97 rfl fun Γ => ?_)
 simp only [Tryz.ntmps97, List.map_cons, List.map_nil, List.length_cons, List.length_nil, Nat.reduceAdd, Nat.reduceSub, List.replicate_succ, List.replicate_zero, List.cons_append, List.nil_append]
 refine Gx.a (by kernel_rfl) fun K hK => ?_
 simp only [XA]
 refine hK _ ?_
 refine Gx.a (by kernel_rfl) fun K hK => ?_
 simp only [XA]
 refine call_go (by kernel_rfl) rfl (trim_c _ _ _ hv) fun v1 V1 hV1 h1 => ?_
 obtain ⟨A, c, rfl, hc, hm⟩ := NatAt.form h1
 simp only [XA]
 refine call_go (by kernel_rfl) rfl (trim_c _ _ _ (hu.mono hV1)) fun v2 V2 hV2 h2 => ?_
 obtain ⟨A', c', rfl, hc', hm'⟩ := NatAt.form h2
 have h1 := h1.mono hV2
 have la := fa.len
 have lb := fb.len
 clear hv hu hc0 hc1 hm0 hm1
 simp only [XA]
 refine hK _ ?_
 refine Gx.a (by kernel_rfl) fun K hK => ?_
 simp only [XA, XB, i64_add _ _ (show (dg a).length + (dg b).length ≤ 9223372036854775807 by omega)]
 refine mk_go rfl rfl elemT_47 zeroT_123 (by omega) (by omega) (by omega) (by omega) rfl (by omega) fun q hq1 hq2 => ?_
 simp only [XA, u32s_replicate]
 refine hK _ ?_
 clear hK
 refine XWP.cut (fun s => ∃ H5 out, StIs (fun Z => [.v (.slice A (dg a).length c), .v (.slice A' (dg b).length c'), .v undef, .v undef, .v (.slice none 0 0), .v (.slice (some ⟨q, 0, none⟩) ((dg a).length + (dg b).length) ((dg a).length + (dg b).length)), Z 6,Z 7,Z 8,Z 9,Z 10,Z 11,Z 12,Z 13,Z 14,Z 15,Z 16,Z 17,Z 18,Z 19,Z 20,Z 21,Z 22,Z 23,Z 24,Z 25,Z 26,Z 27,Z 28,Z 29,Z 30,Z 31,Z 32,Z 33,Z 34,Z 35,Z 36,Z 37,Z 38,Z 39,Z 40,Z 41,Z 42,Z 43,Z 44,Z 45,Z 46,Z 47,Z 48,Z 49,Z 50,Z 51,Z 52,Z 53,Z 54,Z 55,Z 56,Z 57,Z 58,Z 59,Z 60,Z 61,Z 62,Z 63,Z 64,Z 65,Z 66,Z 67,Z 68,Z 69,Z 70]) [] H5 V2 s ∧ H5 q = some ⟨123, u32s out, ((dg a).length + (dg b).length) * 1⟩ ∧ out.length = (dg a).length + (dg b).length ∧ Dig out ∧ nv out = a * b) ?_ ?_
 ·refine Gx.a (by kernel_rfl) fun K hK => ?_
  simp only [XA, XB]
  refine hK _ ?_
  clear hK
  refine XWP.block ?_
  refine XWP.loop (fun n s => ∃ k H5 out, StIs (fun Z => [.v (.slice A (dg a).length c), .v (.slice A' (dg b).length c'), .v undef, .v undef, .v (.slice none 0 0), .v (.slice (some ⟨q, 0, none⟩) ((dg a).length + (dg b).length) ((dg a).length + (dg b).length)), Z 6,Z 7,Z 8,Z 9,Z 10,Z 11,Z 12,Z 13,Z 14,Z 15,Z 16,Z 17,Z 18,Z 19,Z 20, .v (.slice A (dg a).length c), .v (.int .i64 ((dg a).length : Int)), .v (.int .i64 (k : Int)), Z 24,Z 25,Z 26,Z 27,Z 28,Z 29,Z 30,Z 31,Z 32,Z 33,Z 34,Z 35,Z 36,Z 37,Z 38,Z 39,Z 40,Z 41,Z 42,Z 43,Z 44,Z 45,Z 46,Z 47,Z 48,Z 49,Z 50,Z 51,Z 52,Z 53,Z 54,Z 55,Z 56,Z 57,Z 58,Z 59,Z 60,Z 61,Z 62,Z 63,Z 64,Z 65,Z 66,Z 67,Z 68,Z 69,Z 70]) [] H5 V2 s ∧ n + k = (dg a).length ∧ H5 q = some ⟨123, u32s out, ((dg a).length + (dg b).length) * 1⟩ ∧ out.length = (dg a).length + (dg b).length ∧ Dig out ∧ (∀ j, k + (dg b).length ≤ j → out.getD j 0 = 0) ∧ nv out = nv ((dg a).take k) * b) (dg a).length ⟨0, _, List.replicate ((dg a).length + (dg b).length) 0, StIs.of (by exact rfl), rfl, by rw [upd_at]; simp, by simp, Dig_replicate _, fun j _ => by simp only [List.getD_eq_getElem?_getD, List.getElem?_replicate]; split <;> rfl, by simp [nv, nv_replicate]⟩ ?_
  rintro n s ⟨i, H5, out, hs, hn, hH, hol, hod, hz, hnv⟩
  obtain ⟨u, rfl⟩ := hs.out
  dsimp only
  refine Gx.a (by kernel_rfl) fun K hK => ?_
  by_cases hi : i < (dg a).length
  ·have b1 : decide ((i : Int) < ((dg a).length : Int)) = true := decide_eq_true (by omega)
   simp only [XA, XB, b1]
   refine hK _ ?_
   refine XWP.seq (Gx.t rfl ?_)
   refine XWP.skip ?_
   refine XWP.seq ?_
   refine XWP.block ?_
   refine Gx.a (by kernel_rfl) fun K hK => ?_
   obtain ⟨q1, o1, rfl⟩ := NatAt.addr h1 (by omega)
   have hc1 := NatAt.cells h1 i hi
   have hd1 := Dig_get (Dig_dg a) i hi
   rw [getD_get] at hc1 hd1
   simp only [XA, XB]
   refine ⟨by omega, by omega, ld_mem (loads_cell shapeT_123 (hc1 _)) ?_⟩
   simp only [XA]
   refine hK _ ?_
   refine Gx.a (by kernel_rfl) fun K hK => ?_
   simp only [XA]
   refine hK _ ?_
   clear hK
   generalize hx : (dg a).getD i 0 = x at *
   refine XWP.cut (fun s => ∃ H6 out' cc, StIs (fun Z => [.v (.slice (some ⟨q1, o1, none⟩) (dg a).length c), .v (.slice A' (dg b).length c'), .v undef, .v undef, .v (.slice none 0 0), .v (.slice (some ⟨q, 0, none⟩) ((dg a).length + (dg b).length) ((dg a).length + (dg b).length)), .v (.int .i64 (i : Int)), .v (.int .u32 (x : Int)), .v (.int .u64 ((cc : Nat) : Int)), Z 9,Z 10,Z 11,Z 12,Z 13,Z 14,Z 15,Z 16,Z 17,Z 18,Z 19,Z 20, .v (.slice (some ⟨q1, o1, none⟩) (dg a).length c), .v (.int .i64 ((dg a).length : Int)), .v (.int .i64 (i : Int)), Z 24,Z 25,Z 26,Z 27,Z 28,Z 29,Z 30,Z 31,Z 32,Z 33,Z 34,Z 35,Z 36,Z 37,Z 38,Z 39,Z 40,Z 41,Z 42,Z 43,Z 44,Z 45,Z 46,Z 47,Z 48,Z 49,Z 50,Z 51,Z 52,Z 53,Z 54,Z 55,Z 56,Z 57,Z 58,Z 59,Z 60,Z 61,Z 62,Z 63,Z 64,Z 65,Z 66,Z 67,Z 68,Z 69,Z 70]) [] H6 V2 s ∧ H6 q = some ⟨123, u32s out', ((dg a).length + (dg b).length) * 1⟩ ∧ out'.length = (dg a).length + (dg b).length ∧ Dig out' ∧ cc < BB ∧ (∀ j, i + (dg b).length ≤ j → out'.getD j 0 = 0) ∧ nv out' + BB ^ (i + (dg b).length) * cc = nv ((dg a).take i) * b + BB ^ i * (x * b)) ?_ ?_
   ·refine Gx.a (by kernel_rfl) fun K hK => ?_
    simp only [XA, XB]
    refine hK _ ?_
    clear hK
    refine XWP.block ?_
    refine XWP.loop (fun n s => ∃ k H6 out' cc, StIs (fun Z => [.v (.slice (some ⟨q1, o1, none⟩) (dg a).length c), .v (.slice A' (dg b).length c'), .v undef, .v undef, .v (.slice none 0 0), .v (.slice (some ⟨q, 0, none⟩) ((dg a).length + (dg b).length) ((dg a).length + (dg b).length)), .v (.int .i64 (i : Int)), .v (.int .u32 (x : Int)), .v (.int .u64 ((cc : Nat) : Int)), Z 9,Z 10,Z 11,Z 12,Z 13,Z 14,Z 15,Z 16,Z 17,Z 18,Z 19,Z 20, .v (.slice (some ⟨q1, o1, none⟩) (dg a).length c), .v (.int .i64 ((dg a).length : Int)), .v (.int .i64 (i : Int)), Z 24,Z 25,Z 26,Z 27, .v (.slice A' (dg b).length c'), .v (.int .i64 ((dg b).length : Int)), .v (.int .i64 (k : Int)), Z 31,Z 32,Z 33,Z 34,Z 35,Z 36,Z 37,Z 38,Z 39,Z 40,Z 41,Z 42,Z 43,Z 44,Z 45,Z 46,Z 47,Z 48,Z 49,Z 50,Z 51,Z 52,Z 53,Z 54,Z 55,Z 56,Z 57,Z 58,Z 59,Z 60,Z 61,Z 62,Z 63,Z 64,Z 65,Z 66,Z 67,Z 68,Z 69,Z 70]) [] H6 V2 s ∧ n + k = (dg b).length ∧ H6 q = some ⟨123, u32s out', ((dg a).length + (dg b).length) * 1⟩ ∧ out'.length = (dg a).length + (dg b).length ∧ Dig out' ∧ cc < BB ∧ (∀ j, i + (dg b).length ≤ j → out'.getD j 0 = 0) ∧ nv out' + BB ^ (i + k) * cc = nv ((dg a).take i) * b + BB ^ i * (x * nv ((dg b).take k))) (dg b).length ⟨0, H5, out, 0, StIs.of (by exact rfl), rfl, hH, hol, hod, BB_pos, hz, by simp [nv, hnv]⟩ ?_
    rintro n' s ⟨k, H6, out', cc, hs', hn', hH', hol', hod', hcc, hz', hnv'⟩
    obtain ⟨z, rfl⟩ := hs'.out
    dsimp only
    refine Gx.a (by kernel_rfl) fun K hK => ?_
    by_cases hk : k < (dg b).length
    ·have b2 : decide ((k : Int) < ((dg b).length : Int)) = true := decide_eq_true (by omega)
     simp only [XA, XB, b2]
     refine hK _ ?_
     refine XWP.seq (Gx.t rfl ?_)
     refine XWP.skip ?_
     refine XWP.seq ?_
     refine XWP.block ?_
     refine Gx.a (by kernel_rfl) fun K hK => ?_
     obtain ⟨q2, o2, rfl⟩ := NatAt.addr h2 (by omega)
     have hc2 := NatAt.cells h2 k hk
     have hd2 := Dig_get (Dig_dg b) k hk
     rw [getD_get] at hc2 hd2
     have hd3 := Dig_get hod' (i + k) (by omega)
     rw [getD_get] at hd3
     simp only [XA, XB]
     refine ⟨by omega, by omega, ld_mem (loads_cell shapeT_123 (hc2 _)) ?_⟩
     simp only [XA]
     refine hK _ ?_
     refine Gx.a (by kernel_rfl) fun K hK => ?_
     have w1 := i64_add i k (by omega)
     obtain ⟨m1, m2, m3, m4⟩ := mul_carry cc (out'.getD (i + k) 0) x ((dg b).getD k 0) hcc hd3 hd1 hd2
     simp only [XA, XB, w1]
     refine ⟨by omega, by omega, ld_mem (loads_cell shapeT_123 (row_cell hH' (by omega))) ?_⟩
     simp only [XA, XB, u64_of_u32 _ hd3, u64_of_u32 _ hd1, u64_of_u32 _ hd2, u64_mul _ _ m4, u64_add _ _ m3, u64_add _ _ m1]
     refine hK _ ?_
     refine Gx.a (by kernel_rfl) fun K hK => ?_
     simp only [XA, XB, w1, w32_mod]
     refine ⟨by omega, by omega, ?_⟩
     refine st_row shapeT_123 rfl rfl hH' (by rw [u32s_length]; omega) ?_
     simp only [XA, u32s_set]
     refine hK _ ?_
     refine Gx.c (by kernel_rfl) fun K hK => ?_
     simp only [XA, XB, Int.reduceToNat, Int.reduceLE, shr32]
     refine hK _ ?_
     refine Gx.c (by kernel_rfl) fun K hK => ?_
     simp only [XA, XB, i64_succ k (by omega)]
     refine hK _ ⟨n' - 1, by omega, k + 1, _, _, _, StIs.of (by exact rfl), by omega, by (simp only [upd_at, Nat.mul_one]; first | done | exact rfl), by simp [hol'], Dig_set hod' _ (Nat.mod_lt _ BB_pos), m2, fun j hj => ?_, mul_step (db := dg b) (by omega) hnv'⟩
     rw [getD_set_ne' _ _ _ _ (by omega)]; exact hz' j hj
    ·have b2 : decide ((k : Int) < ((dg b).length : Int)) = false := decide_eq_false (by omega)
     obtain rfl : k = (dg b).length := by omega
     simp only [XA, XB, b2]
     refine hK _ ?_
     refine XWP.seq (Gx.f rfl ?_)
     refine XWP.exit ?_
     refine ⟨H6, out', cc, StIs.of (by exact rfl), hH', hol', hod', hcc, hz', ?_⟩
     rw [hnv', List.take_length, nv_dg]
   ·rintro s ⟨H6, out', cc, hs', hH', hol', hod', hcc, hz', hnv'⟩
    obtain ⟨z, rfl⟩ := hs'.out
    dsimp only
    refine Gx.c (by kernel_rfl) fun K hK => ?_
    have e1 : cc % BB = cc := Nat.mod_eq_of_lt hcc
    simp only [XA, XB, i64_add i (dg b).length (by omega), w32_mod, e1]
    refine ⟨by omega, by omega, ?_⟩
    refine st_row shapeT_123 rfl rfl hH' (by rw [u32s_length]; omega) ?_
    simp only [XA, u32s_set]
    refine hK _ ?_
    refine Gx.c (by kernel_rfl) fun K hK => ?_
    simp only [XA, XB, i64_succ i (by omega)]
    refine hK _ ⟨n - 1, by omega, i + 1, _, _, StIs.of (by exact rfl), by omega, by (simp only [upd_at, Nat.mul_one]; first | done | exact rfl), by simp [hol'], Dig_set hod' _ hcc, fun j hj => ?_, mul_last (by omega) (hz' _ (Nat.le_refl _)) hi hx.symm hnv'⟩
    rw [getD_set_ne' _ _ _ _ (by omega)]; exact hz' j (by omega)
  ·have b1 : decide ((i : Int) < ((dg a).length : Int)) = false := decide_eq_false (by omega)
   obtain rfl : i = (dg a).length := by omega
   simp only [XA, XB, b1]
   refine hK _ ?_
   refine XWP.seq (Gx.f rfl ?_)
   refine XWP.exit ?_
   refine ⟨H5, out, StIs.of (by exact rfl), hH, hol, hod, ?_⟩
   rw [hnv, List.take_length, nv_dg]
 ·rintro s ⟨H5, out, hs, hH, hol, hod, hnv⟩
  obtain ⟨u, rfl⟩ := hs.out
  dsimp only
  refine Gx.a (by kernel_rfl) fun K hK => ?_
  simp only [XA]
  refine call_pub q _ hH (fun o ho hle' => ?_) (by kernel_rfl) rfl
  refine call_go (by kernel_rfl) rfl (trim_any _ _ out (NatAt.pub ho hod hol (Nat.le_refl _) (by omega))) fun v3 V3 hV3 h3 => ?_
  simp only [XA]
  refine hK _ (XWP.ret ?_)
  try simp only [thenX_ret, inBlockX_ret]
  refine ret_go _ rfl ?_
  rw [hnv] at h3
  exact h3
theorem u64_div (a d : Nat) (h : a < 18446744073709551616) : IntKind.u64.wrap (Int.tdiv (a : Int) (d : Int)) = ((a / d : Nat) : Int) := by
 have h1 := Nat.div_le_self a d
 rw [← Int.ofNat_tdiv]
 generalize a / d = q at *
 exact w64_id (by omega) (by omega)
theorem int_tmod (a d : Nat) : Int.tmod (a : Int) (d : Int) = ((a % d : Nat) : Int) := by rw [Int.ofNat_tmod]
theorem short_at (V : View) (v : Value) (ds : List Nat) (d : Nat) (h : NatAt V v ds) (hd0 : 0 < d) (hd : d < BB) (hl : ds.length ≤ 8796093022208) : Spec Tryz.prog 151 [v, .int .u32 (d : Int)] V fun v' V' => ∃ r, v' = .tuple #[r, .int .u32 ((nv ds % d : Nat) : Int)] ∧ NatC V' r (nv ds / d) := by
 obtain ⟨A, c, rfl, hc, hm⟩ := h.form
 have hdi : ((d : Nat) : Int) ≠ 0 := by omega
 have hdig := h.dig
 refine (Spec.enter Tryz.func151 rfl fun Γ => ?_)
 simp only [Tryz.ntmps151, List.map_cons, List.map_nil, List.length_cons, List.length_nil, Nat.reduceAdd, Nat.reduceSub, List.replicate_succ, List.replicate_zero, List.cons_append, List.nil_append]
 refine Gx.a (by kernel_rfl) fun K hK => ?_
 simp only [XA]
 refine hK _ ?_
 refine Gx.a (by kernel_rfl) fun K hK => ?_
 simp only [XA, XB]
 refine mk_go rfl rfl elemT_47 zeroT_123 (by omega) (by omega) (by omega) (by omega) rfl (by omega) fun q hq1 hq2 => ?_
 simp only [XA, u32s_replicate]
 refine hK _ ?_
 refine Gx.a (by kernel_rfl) fun K hK => ?_
 simp only [XA]
 refine hK _ ?_
 clear hK
 refine XWP.cut (fun s => ∃ H5 out r, StIs (fun Z => [.v (.slice A ds.length c), .v (.int .u32 (d : Int)), .v undef, .v undef, .v (.slice none 0 0), .v (.int .u32 0), .v (.slice (some ⟨q, 0, none⟩) ds.length ds.length), .v (.int .u64 ((r : Nat) : Int)), Z 8,Z 9,Z 10,Z 11,Z 12,Z 13,Z 14,Z 15,Z 16,Z 17,Z 18,Z 19,Z 20,Z 21,Z 22,Z 23,Z 24,Z 25,Z 26,Z 27,Z 28,Z 29,Z 30,Z 31,Z 32,Z 33,Z 34,Z 35,Z 36,Z 37,Z 38,Z 39,Z 40,Z 41,Z 42]) [] H5 V s ∧ H5 q = some ⟨123, u32s out, ds.length⟩ ∧ out.length = ds.length ∧ Dig out ∧ r < d ∧ nv out * d + r = nv ds) ?_ ?_
 ·refine Gx.a (by kernel_rfl) fun K hK => ?_
  have w0 : IntKind.i64.wrap ((ds.length : Int) - 1) = (ds.length : Int) - 1 := wrap_id (by omega) (by omega)
  simp only [XA, XB, w0]
  refine hK _ ?_
  clear hK
  refine XWP.block ?_
  refine XWP.loop (fun k s => ∃ H5 out r, StIs (fun Z => [.v (.slice A ds.length c), .v (.int .u32 (d : Int)), .v undef, .v undef, .v (.slice none 0 0), .v (.int .u32 0), .v (.slice (some ⟨q, 0, none⟩) ds.length ds.length), .v (.int .u64 ((r : Nat) : Int)), .v (.int .i64 ((k : Int) - 1)), Z 9,Z 10,Z 11,Z 12,Z 13,Z 14,Z 15,Z 16,Z 17,Z 18,Z 19,Z 20,Z 21,Z 22,Z 23,Z 24,Z 25,Z 26,Z 27,Z 28,Z 29,Z 30,Z 31,Z 32,Z 33,Z 34,Z 35,Z 36,Z 37,Z 38,Z 39,Z 40,Z 41,Z 42]) [] H5 V s ∧ k ≤ ds.length ∧ H5 q = some ⟨123, u32s out, ds.length⟩ ∧ out.length = ds.length ∧ Dig out ∧ r < d ∧ nv (out.drop k) * d + r = nv (ds.drop k)) ds.length ⟨_, List.replicate ds.length 0, 0, StIs.of (by exact rfl), Nat.le_refl _, by simp only [upd_at, Nat.mul_one], by simp, Dig_replicate _, hd0, by simp [nv]⟩ ?_
  rintro k s ⟨H5, out, r, hs, hk, hH, hol, hod, hr, hnv⟩
  obtain ⟨u, rfl⟩ := hs.out
  dsimp only
  refine Gx.b (by kernel_rfl) fun K hK => ?_
  by_cases hk0 : k = 0
  ·subst hk0
   have b2 : decide ((0 : Int) ≤ ((0 : Nat) : Int) - 1) = false := decide_eq_false (by omega)
   simp only [XA, XB, b2]
   refine hK _ ?_
   refine Gx.f rfl ?_
   refine XWP.exit ?_
   exact ⟨H5, out, r, StIs.of (by exact rfl), hH, hol, hod, hr, hnv⟩
  ·obtain ⟨j, rfl⟩ : ∃ j, k = j + 1 := ⟨k - 1, by omega⟩
   have ej : (((j + 1 : Nat) : Int) - 1) = (j : Int) := by omega
   have b2 : decide ((0 : Int) ≤ (j : Int)) = true := decide_eq_true (by omega)
   simp only [XA, XB, ej, b2]
   refine hK _ ?_
   refine Gx.t rfl ?_
   refine XWP.skip ?_
   refine XWP.seq ?_
   refine XWP.block ?_
   refine Gx.a (by kernel_rfl) fun K hK => ?_
   obtain ⟨q1, o1, rfl⟩ := NatAt.addr h (by omega)
   have hc1 := NatAt.cells h j (by omega)
   have hd1 := Dig_get hdig j (by omega)
   rw [getD_get] at hc1 hd1
   obtain ⟨s1, s2, s3⟩ := short_lt hd hr hd1
   simp only [XA, XB, Int.reduceToNat, Int.reduceLE, shl32 _ s2]
   refine ⟨by omega, by omega, ld_mem (loads_cell shapeT_123 (hc1 _)) ?_⟩
   simp only [XA, XB, u64_of_u32 _ hd1, or_add _ _ s2 hd1]
   refine hK _ ?_
   refine Gx.a (by kernel_rfl) fun K hK => ?_
   have e1 : (r * BB + ds.getD j 0) / d % BB = (r * BB + ds.getD j 0) / d := Nat.mod_eq_of_lt s1
   simp only [XA, XB, u64_of_u32 _ hd, bin_quo _ _ _ _ hdi, u64_div _ _ s3, w32_mod, e1]
   refine ⟨by omega, by omega, ?_⟩
   refine st_row shapeT_123 rfl rfl hH (by rw [u32s_length]; omega) ?_
   simp only [XA, u32s_set]
   refine hK _ ?_
   refine Gx.c (by kernel_rfl) fun K hK => ?_
   simp only [XA, XB, u64_of_u32 _ hd, bin_rem _ _ _ _ hdi, int_tmod]
   refine hK _ ?_
   refine Gx.c (by kernel_rfl) fun K hK => ?_
   have w1 : IntKind.i64.wrap ((j : Int) - 1) = (j : Int) - 1 := wrap_id (by omega) (by omega)
   simp only [XA, XB, w1]
   exact hK _ ⟨j, by omega, _, _, _, StIs.of (by exact rfl), by omega, upd_at _ _ _, by simp [hol], Dig_set hod _ s1, Nat.mod_lt _ hd0, short_step hol (by omega) hd0 hr hnv⟩
 ·rintro s ⟨H5, out, r, hs, hH, hol, hod, hr, hnv⟩
  obtain ⟨u, rfl⟩ := hs.out
  dsimp only
  refine Gx.a (by kernel_rfl) fun K hK => ?_
  simp only [XA]
  refine call_pub q _ hH (fun o ho hle' => ?_) (by kernel_rfl) rfl
  refine call_go (by kernel_rfl) rfl (trim_any _ _ out (NatAt.pub ho hod hol (Nat.le_refl _) (by omega))) fun v3 V3 hV3 h3 => ?_
  have e1 : r % BB = r := Nat.mod_eq_of_lt (by omega)
  simp only [XA, XB, w32_mod, e1]
  refine hK _ (XWP.ret ?_)
  try simp only [thenX_ret, inBlockX_ret]
  refine ret_go _ rfl ?_
  have e2 : nv ds / d = nv out := by rw [← hnv, Nat.mul_comm, Nat.mul_add_div hd0, Nat.div_eq_of_lt hr, Nat.add_zero]
  have e3 : nv ds % d = r := by rw [← hnv, Nat.mul_comm, Nat.mul_add_mod, Nat.mod_eq_of_lt hr]
  rw [e2, e3]
  exact ⟨v3, rfl, h3⟩
end Go.Proofs.YtobjjdnfgamgcaaGreat
end
section
namespace Go.Proofs.YtobjjdnfgamgcaaGreat
theorem two_pow_le {s : Nat} (hs : s ≤ 31) : 2 ^ s * 2 ≤ BB ∧ 0 < 2 ^ s := by
 refine ⟨?_, Nat.pow_pos (by omega)⟩
 have : 2 ^ s ≤ 2 ^ 31 := Nat.pow_le_pow_right (by omega) hs
 unfold BB; omega
theorem shift_small {x s : Nat} (hx : x < BB) (hs : s ≤ 31) : x * 2 ^ s / BB < 2 ^ s ∧ x * 2 ^ s < 18446744073709551616 ∧ x * 2 ^ s / BB < BB := by
 obtain ⟨h1, h2⟩ := two_pow_le hs
 have h3 : x * 2 ^ s < BB * 2 ^ s := Nat.mul_lt_mul_of_pos_right hx h2
 have h4 : x * 2 ^ s / BB < 2 ^ s := Nat.div_lt_of_lt_mul h3
 refine ⟨h4, ?_, by omega⟩
 have : BB * 2 ^ s ≤ BB * BB := Nat.mul_le_mul_left _ (by omega)
 unfold BB at *; omega
theorem shift_low {x s o : Nat} (ho : o < 2 ^ s) (hs : s ≤ 31) : o + x * 2 ^ s % BB < BB ∧ (x * 2 ^ s % BB) % 2 ^ s = 0 := by
 obtain ⟨h1, h2⟩ := two_pow_le hs
 have h32 : BB = 2 ^ s * 2 ^ (32 - s) := by
  rw [← Nat.pow_add, show s + (32 - s) = 32 from by omega]; rfl
 have hd : 2 ^ s ∣ BB := ⟨_, h32⟩
 have h3 : (x * 2 ^ s % BB) % 2 ^ s = 0 := by rw [Nat.mod_mod_of_dvd _ hd, Nat.mul_mod_left]
 refine ⟨?_, h3⟩
 obtain ⟨m, hm⟩ := hd
 obtain ⟨r, hr⟩ : 2 ^ s ∣ x * 2 ^ s % BB := Nat.dvd_of_mod_eq_zero h3
 have hlt : x * 2 ^ s % BB < BB := Nat.mod_lt _ BB_pos
 rw [hr] at hlt ⊢
 rw [hm] at hlt ⊢
 have : r < m := Nat.lt_of_mul_lt_mul_left hlt
 have : 2 ^ s * (r + 1) ≤ 2 ^ s * m := Nat.mul_le_mul_left _ this
 rw [Nat.mul_add, Nat.mul_one] at this
 omega
theorem shift_step {l da : List Nat} {i s x o : Nat} (hl : l.length = da.length + 1) (hi : i < da.length) (hx : x = da.getD i 0) (ho : l.getD i 0 = o) (hz : l.getD (i + 1) 0 = 0) (h : nv l = nv (da.take i) * 2 ^ s) :
  nv ((l.set i (o + x * 2 ^ s % BB)).set (i + 1) (x * 2 ^ s / BB)) = nv (da.take (i + 1)) * 2 ^ s := by
 have h1 := nv_set l i (o + x * 2 ^ s % BB) (by omega)
 have h2 := nv_set (l.set i (o + x * 2 ^ s % BB)) (i + 1) (x * 2 ^ s / BB) (by simp; omega)
 rw [getD_set_ne' _ _ _ _ (by omega), hz, Nat.mul_zero, Nat.add_zero] at h2
 rw [ho, Nat.mul_add] at h1
 have e := Nat.mod_add_div (x * 2 ^ s) BB
 have e2 : BB ^ i * (x * 2 ^ s % BB) + BB ^ (i + 1) * (x * 2 ^ s / BB) = BB ^ i * (x * 2 ^ s) := by
  rw [Nat.pow_succ, Nat.mul_assoc, ← Nat.mul_add, e]
 rw [h2, nv_take_gd, Nat.add_mul, ← h]
 have e3 : gd da i = x := hx.symm
 rw [e3, Nat.mul_assoc]
 omega
end Go.Proofs.YtobjjdnfgamgcaaGreat
end
section
namespace Go.Proofs.YtobjjdnfgamgcaaGreat
open Go Go.RowKit
attribute [local irreducible] XWP Spec SpecO XPub XCall seqX clX apX stX ldX iaX slX
theorem pow_cast (s : Nat) : (2 : Int) ^ s = ((2 ^ s : Nat) : Int) := by simp
theorem u32_shl (x s : Nat) (hs : s ≤ 31) : IntKind.u32.wrap ((x : Int) * 2 ^ min s IntKind.u32.bits) = ((x * 2 ^ s % BB : Nat) : Int) := by
 have : min s IntKind.u32.bits = s := Nat.min_eq_left (by show s ≤ 32; omega)
 rw [this, pow_cast, ← Int.natCast_mul, w32_mod]
theorem u64_shl (x s : Nat) (hs : s ≤ 31) (hx : x * 2 ^ s < 18446744073709551616) : IntKind.u64.wrap ((x : Int) * 2 ^ min s IntKind.u64.bits) = ((x * 2 ^ s : Nat) : Int) := by
 have : min s IntKind.u64.bits = s := Nat.min_eq_left (by show s ≤ 64; omega)
 rw [this, pow_cast, ← Int.natCast_mul, w64_id (by omega) (by omega)]
theorem or32 (o y s : Nat) (ho : o < 2 ^ s) (hy : y % 2 ^ s = 0) (hlt : o + y < BB) : orI .u32 (o : Int) (y : Int) = ((o + y : Nat) : Int) := by
 show IntKind.u32.wrap (((BitVec.ofInt 32 (o : Int) ||| BitVec.ofInt 32 (y : Int)).toNat : Nat) : Int) = _
 have e3 : (BitVec.ofNat 32 o ||| BitVec.ofNat 32 y).toNat = o + y := by
  unfold BB at hlt
  rw [BitVec.toNat_or, BitVec.toNat_ofNat, BitVec.toNat_ofNat, Nat.mod_eq_of_lt (by omega), Nat.mod_eq_of_lt (by omega)]
  obtain ⟨r, rfl⟩ := Nat.dvd_of_mod_eq_zero hy
  have := Nat.two_pow_add_eq_or_of_lt (i := s) (b := o) ho r
  rw [Nat.or_comm, ← this, Nat.add_comm]
 rw [BitVec.ofInt_natCast, BitVec.ofInt_natCast, e3, w32_mod, Nat.mod_eq_of_lt hlt]
theorem shifted_o (V : View) (v : Value) (ds : List Nat) (s : Nat) (h : NatAt V v ds) (hs : s ≤ 31) (hl : ds.length ≤ 8796093022208) : SpecO Tryz.prog 153 [v, .int .u64 (s : Int)] V fun v' V' o => ∃ g out, v' = .slice (some ⟨g, 0, none⟩) (ds.length + 1) (ds.length + 1) ∧ o = some (g, ⟨123, u32s out, ds.length + 1⟩) ∧ out.length = ds.length + 1 ∧ Dig out ∧ nv out = nv ds * 2 ^ s := by
 obtain ⟨A, c, rfl, hc, hm⟩ := h.form
 have hdig := h.dig
 have hs0 : (0 : Int) ≤ (s : Int) := by omega
 obtain ⟨hp1, hp2⟩ := two_pow_le hs
 refine (SpecO.enter Tryz.func153 rfl fun Γ => ?_)
 simp only [Tryz.ntmps153, List.map_cons, List.map_nil, List.length_cons, List.length_nil, Nat.reduceAdd, Nat.reduceSub, List.replicate_succ, List.replicate_zero, List.cons_append, List.nil_append]
 refine Gx.a (by kernel_rfl) fun K hK => ?_
 simp only [XA]
 refine hK _ ?_
 refine Gx.a (by kernel_rfl) fun K hK => ?_
 simp only [XA, XB, i64_succ _ (show ds.length < 9223372036854775807 by omega)]
 refine mk_go rfl rfl elemT_47 zeroT_123 (by omega) (by omega) (by omega) (by omega) rfl (by omega) fun q hq1 hq2 => ?_
 simp only [XA, u32s_replicate]
 refine hK _ ?_
 clear hK
 refine XWP.cut (fun st => ∃ H5 out, StIs (fun Z => [.v (.slice A ds.length c), .v (.int .u64 (s : Int)), .v undef, .v undef, .v (.slice none 0 0), .v (.slice (some ⟨q, 0, none⟩) (ds.length + 1) (ds.length + 1)), Z 6,Z 7,Z 8,Z 9,Z 10,Z 11,Z 12,Z 13,Z 14,Z 15,Z 16,Z 17,Z 18,Z 19,Z 20,Z 21,Z 22,Z 23,Z 24,Z 25,Z 26,Z 27,Z 28,Z 29,Z 30,Z 31,Z 32,Z 33,Z 34,Z 35,Z 36,Z 37,Z 38,Z 39]) [] H5 V st ∧ H5 q = some ⟨123, u32s out, ds.length + 1⟩ ∧ out.length = ds.length + 1 ∧ Dig out ∧ nv out = nv ds * 2 ^ s) ?_ ?_
 ·refine Gx.a (by kernel_rfl) fun K hK => ?_
  simp only [XA, XB]
  refine hK _ ?_
  clear hK
  refine XWP.block ?_
  refine XWP.loop (fun n st => ∃ (k : Nat) (H5 : Heap) (out : List Nat), StIs (fun Z => [.v (.slice A ds.length c), .v (.int .u64 (s : Int)), .v undef, .v undef, .v (.slice none 0 0), .v (.slice (some ⟨q, 0, none⟩) (ds.length + 1) (ds.length + 1)), Z 6,Z 7,Z 8,Z 9,Z 10,Z 11, .v (.slice A ds.length c), .v (.int .i64 (ds.length : Int)), .v (.int .i64 (k : Int)), Z 15,Z 16,Z 17,Z 18,Z 19,Z 20,Z 21,Z 22,Z 23,Z 24,Z 25,Z 26,Z 27,Z 28,Z 29,Z 30,Z 31,Z 32,Z 33,Z 34,Z 35,Z 36,Z 37,Z 38,Z 39]) [] H5 V st ∧ n + k = ds.length ∧ H5 q = some ⟨123, u32s out, ds.length + 1⟩ ∧ out.length = ds.length + 1 ∧ Dig out ∧ out.getD k 0 < 2 ^ s ∧ (∀ j, k < j → out.getD j 0 = 0) ∧ nv out = nv (ds.take k) * 2 ^ s) ds.length ⟨0, _, List.replicate (ds.length + 1) 0, StIs.of (by exact rfl), rfl, by simp only [upd_at, Nat.mul_one], by simp, Dig_replicate _, by simp [hp2], fun j _ => by simp only [List.getD_eq_getElem?_getD, List.getElem?_replicate]; split <;> rfl, by simp only [nv_replicate, List.take_zero, nv, Nat.zero_mul]⟩ ?_
  rintro n st ⟨k, H5, out, hst, hn, hH, hol, hod, hlow, hz, hnv⟩
  obtain ⟨u, rfl⟩ := hst.out
  dsimp only
  refine Gx.a (by kernel_rfl) fun K hK => ?_
  by_cases hk : k < ds.length
  ·have b1 : decide ((k : Int) < (ds.length : Int)) = true := decide_eq_true (by omega)
   simp only [XA, XB, b1]
   refine hK _ ?_
   refine XWP.seq (Gx.t rfl ?_)
   refine XWP.skip ?_
   refine XWP.seq ?_
   refine XWP.block ?_
   refine Gx.a (by kernel_rfl) fun K hK => ?_
   obtain ⟨q1, o1, rfl⟩ := NatAt.addr h (by omega)
   have hc1 := NatAt.cells h k hk
   have hd1 := Dig_get hdig k hk
   rw [getD_get] at hc1 hd1
   simp only [XA, XB]
   refine ⟨by omega, by omega, ld_mem (loads_cell shapeT_123 (hc1 _)) ?_⟩
   simp only [XA]
   refine hK _ ?_
   refine Gx.a (by kernel_rfl) fun K hK => ?_
   generalize hx : ds.getD k 0 = x at *
   generalize ho : out.getD k 0 = o at *
   obtain ⟨l1, l2⟩ := shift_low (x := x) hlow hs
   obtain ⟨m1, m2, m3⟩ := shift_small hd1 hs
   have hcell := row_cell (V := V) hH (k := k) (by omega)
   rw [ho] at hcell
   simp only [XA, XB]
   refine ⟨by omega, by omega, ld_mem (loads_cell shapeT_123 hcell) ?_⟩
   simp only [XA, XB, bin_shl _ _ _ _ _ hs0, u32_shl _ _ hs, or32 _ _ _ hlow l2 l1]
   refine ⟨by omega, by omega, ?_⟩
   refine st_row shapeT_123 rfl rfl hH (by rw [u32s_length]; omega) ?_
   simp only [XA, u32s_set]
   refine hK _ ?_
   refine Gx.c (by kernel_rfl) fun K hK => ?_
   have e1 : x * 2 ^ s / BB % BB = x * 2 ^ s / BB := Nat.mod_eq_of_lt m3
   simp only [XA, XB, Int.reduceToNat, Int.reduceLE, bin_shl _ _ _ _ _ hs0, i64_succ _ (show k < 9223372036854775807 by omega), u64_of_u32 _ hd1, u64_shl _ _ hs m2, shr32, w32_mod, e1]
   refine ⟨by omega, by omega, ?_⟩
   refine st_row shapeT_123 rfl rfl (upd_at _ _ _) (by simp only [u32s_length, List.length_set]; omega) ?_
   simp only [XA, u32s_set]
   refine hK _ ?_
   refine Gx.c (by kernel_rfl) fun K hK => ?_
   simp only [XA, XB, i64_succ k (by omega)]
   refine hK _ ⟨n - 1, by omega, k + 1, _, _, StIs.of (by exact rfl), by omega, upd_at _ _ _, by simp [hol], Dig_set (Dig_set hod _ l1) _ m3, ?_, fun j hj => ?_, shift_step hol hk hx.symm ho (hz _ (by omega)) hnv⟩
   ·have : (((out.set k (o + x * 2 ^ s % BB)).set (k + 1) (x * 2 ^ s / BB))).getD (k + 1) 0 = x * 2 ^ s / BB := by simp [hol, hk]
    rw [this]; exact m1
   ·rw [getD_set_ne' _ _ _ _ (by omega), getD_set_ne' _ _ _ _ (by omega)]; exact hz j (by omega)
  ·have b1 : decide ((k : Int) < (ds.length : Int)) = false := decide_eq_false (by omega)
   obtain rfl : k = ds.length := by omega
   simp only [XA, XB, b1]
   refine hK _ ?_
   refine XWP.seq (Gx.f rfl ?_)
   refine XWP.exit ?_
   exact ⟨H5, out, StIs.of (by exact rfl), hH, hol, hod, by rw [hnv, List.take_length]⟩
 ·rintro st ⟨H5, out, hst, hH, hol, hod, hnv⟩
  obtain ⟨u, rfl⟩ := hst.out
  dsimp only
  refine Gx.a (by kernel_rfl) fun K hK => ?_
  simp only [XA]
  refine hK _ (XWP.ret ?_)
  refine ret_own _ (some (q, _)) rfl (fun g r e => ?_) ⟨q, out, rfl, rfl, hol, hod, hnv⟩
  cases e; exact hH
def blen (y : Nat) : Nat := if y = 0 then 0 else Nat.log2 y + 1
def isTab (b : ByteArray) : Bool := (List.range 256).all fun y => b[y]? == some (UInt8.ofNat (blen y))
theorem tab_ok {b : ByteArray} (hb : isTab b = true) {y : Nat} (hy : y < 256) : b[y]? = some (UInt8.ofNat (blen y)) := by
 have := List.all_eq_true.1 hb y (List.mem_range.2 hy)
 simpa using this
theorem blen_spec (y : Nat) : y < 2 ^ blen y ∧ (y ≠ 0 → 2 ^ blen y ≤ 2 * y) := by
 unfold blen
 split
 ·rename_i h; subst h; simp
 ·rename_i h
  refine ⟨Nat.lt_log2_self, fun _ => ?_⟩
  have := Nat.log2_self_le h
  rw [Nat.pow_succ]; omega
theorem blen_le {y k : Nat} (h : y < 2 ^ k) : blen y ≤ k := by
 obtain ⟨_, h2⟩ := blen_spec y
 by_cases h0 : y = 0
 ·subst h0; simp [blen]
 ·have h3 := h2 h0
  rcases Nat.lt_or_ge k (blen y) with h4 | h4
  ·have : 2 ^ (k + 1) ≤ 2 ^ blen y := Nat.pow_le_pow_right (by omega) h4
   rw [Nat.pow_succ] at this; omega
  ·exact h4
theorem u8_wrap (y : Nat) (h : y < 256) : IntKind.u8.wrap (y : Int) = (y : Int) := by
 simp [IntKind.wrap, IntKind.bits, IntKind.signed]; omega
theorem shrN (x s : Nat) (hs : s ≤ 32) : Int.fdiv (x : Int) (2 ^ min s IntKind.u32.bits) = ((x / 2 ^ s : Nat) : Int) := by
 have : min s IntKind.u32.bits = s := Nat.min_eq_left (by show s ≤ 32; omega)
 rw [this, pow_cast, Int.fdiv_eq_ediv_of_nonneg _ (Int.natCast_nonneg _)]; rfl
theorem len32_c (V : View) (x : Nat) (hx : x < BB) : Spec Tryz.prog 141 [.int .u32 (x : Int)] V fun v' V' => ∃ r : Nat, v' = .int .i64 (r : Int) ∧ r ≤ 32 ∧ x < 2 ^ r ∧ (x ≠ 0 → 2 ^ r ≤ 2 * x) := by
 refine (Spec.enter Tryz.func141 rfl fun Γ => ?_)
 simp only [Tryz.ntmps141, List.map_cons, List.map_nil, List.length_cons, List.length_nil, Nat.reduceAdd, Nat.reduceSub, List.replicate_succ, List.replicate_zero, List.cons_append, List.nil_append]
 refine Gx.a (by kernel_rfl) fun K hK => ?_
 simp only [XA]
 refine hK _ ?_
 refine XWP.cut (fun s => ∃ (y n : Nat), StIs (fun Z => [.v (.int .u32 (y : Int)), .v undef, .v (.int .i64 (n : Int)), Z 3,Z 4,Z 5,Z 6,Z 7,Z 8,Z 9,Z 10,Z 11,Z 12,Z 13,Z 14,Z 15,Z 16,Z 17,Z 18]) [] (fun _ => none) V s ∧ y < 65536 ∧ n ≤ 16 ∧ y * 2 ^ n ≤ x ∧ x < (y + 1) * 2 ^ n ∧ (n = 0 ∨ 1 ≤ y)) ?_ ?_
 ·clear hK
  refine Gx.a (by kernel_rfl) fun K hK => ?_
  by_cases h : 65536 ≤ x
  ·have b1 : decide ((65536 : Int) ≤ (x : Int)) = true := decide_eq_true (by omega)
   simp only [XA, XB, b1]
   refine hK _ ?_
   refine Gx.t rfl ?_
   refine Gx.a (by kernel_rfl) fun K hK => ?_
   have e : Int.fdiv (x : Int) (2 ^ min 16 IntKind.u32.bits) = ((x / 65536 : Nat) : Int) := shrN x 16 (by omega)
   simp only [XA, XB, Int.reduceToNat, Int.reduceLE, e]
   refine hK _ ?_
   refine Gx.c (by kernel_rfl) fun K hK => ?_
   simp only [XA]
   exact hK _ ⟨x / 65536, 16, StIs.of (by exact rfl), by unfold BB at hx; omega, by omega, by omega, by omega, by omega⟩
  ·have b1 : decide ((65536 : Int) ≤ (x : Int)) = false := decide_eq_false (by omega)
   simp only [XA, XB, b1]
   refine hK _ ?_
   refine Gx.f rfl ?_
   refine XWP.skip ?_
   exact ⟨x, 0, StIs.of (by exact rfl), by omega, by omega, by omega, by omega, .inl rfl⟩
 ·rintro s ⟨y, n, hs, hy, hn, h1, h2, h5⟩
  obtain ⟨u, rfl⟩ := hs.out
  clear hK
  refine XWP.cut (fun s => ∃ (z m : Nat), StIs (fun Z => [.v (.int .u32 (z : Int)), .v undef, .v (.int .i64 (m : Int)), Z 3,Z 4,Z 5,Z 6,Z 7,Z 8,Z 9,Z 10,Z 11,Z 12,Z 13,Z 14,Z 15,Z 16,Z 17,Z 18]) [] (fun _ => none) V s ∧ z < 256 ∧ m ≤ 24 ∧ z * 2 ^ m ≤ x ∧ x < (z + 1) * 2 ^ m ∧ (m = 0 ∨ 1 ≤ z)) ?_ ?_
  ·refine Gx.a (by kernel_rfl) fun K hK => ?_
   by_cases h : 256 ≤ y
   ·have b1 : decide ((256 : Int) ≤ (y : Int)) = true := decide_eq_true (by omega)
    simp only [XA, XB, b1]
    refine hK _ ?_
    refine Gx.t rfl ?_
    refine Gx.a (by kernel_rfl) fun K hK => ?_
    have e : Int.fdiv (y : Int) (2 ^ min 8 IntKind.u32.bits) = ((y / 256 : Nat) : Int) := shrN y 8 (by omega)
    simp only [XA, XB, Int.reduceToNat, Int.reduceLE, e]
    refine hK _ ?_
    refine Gx.c (by kernel_rfl) fun K hK => ?_
    have e2 : IntKind.i64.wrap ((n : Int) + 8) = ((n + 8 : Nat) : Int) := i64_add n 8 (by omega)
    simp only [XA, XB, e2]
    refine hK _ ⟨y / 256, n + 8, StIs.of (by exact rfl), by omega, by omega, ?_, ?_, by omega⟩
    ·rw [Nat.pow_add, Nat.mul_comm (2 ^ n), ← Nat.mul_assoc]
     exact Nat.le_trans (Nat.mul_le_mul_right _ (by omega)) h1
    ·rw [Nat.pow_add, Nat.mul_comm (2 ^ n), ← Nat.mul_assoc]
     exact Nat.lt_of_lt_of_le h2 (Nat.mul_le_mul_right _ (by omega))
   ·have b1 : decide ((256 : Int) ≤ (y : Int)) = false := decide_eq_false (by omega)
    simp only [XA, XB, b1]
    refine hK _ ?_
    refine Gx.f rfl ?_
    refine XWP.skip ?_
    exact ⟨y, n, StIs.of (by exact rfl), by omega, by omega, h1, h2, h5⟩
  ·rintro s ⟨z, m, hs, hz, hm, h3, h4, h6⟩
   obtain ⟨u', rfl⟩ := hs.out
   try dsimp only
   have hbl : blen z ≤ 8 := blen_le (by omega)
   have e1 : IntKind.u8.wrap (z : Int) = (z : Int) := u8_wrap z hz
   have e2 : (UInt8.ofNat (blen z)).toNat = blen z := by simp; omega
   have e3 : IntKind.i64.wrap ((blen z : Nat) : Int) = ((blen z : Nat) : Int) := wrap_id (by omega) (by omega)
   refine Gx.a (by kernel_rfl) fun K hK => ?_
   simp only [XA, XB, e1]
   refine ix_go (by kernel_rfl) (by omega) (tab_ok (by kernel_rfl) (by simpa using hz)) ?_
   simp only [XA, XB, e2, e3, i64_add _ _ (show m + blen z ≤ 9223372036854775807 by omega)]
   refine hK _ (XWP.ret ?_)
   try simp only [thenX_ret, inBlockX_ret]
   refine ret_go _ rfl ?_
   obtain ⟨p1, p2⟩ := blen_spec z
   refine ⟨m + blen z, rfl, by omega, ?_, fun h0 => ?_⟩
   ·rw [Nat.pow_add, Nat.mul_comm]
    exact Nat.lt_of_lt_of_le h4 (Nat.mul_le_mul_right _ p1)
   ·by_cases hz0 : z = 0
    ·subst hz0
     simp only [blen, if_true, Nat.add_zero]
     have hm0 : m = 0 := by omega
     subst hm0; omega
    ·rw [Nat.pow_add, Nat.mul_comm]
     have := Nat.mul_le_mul_right (2 ^ m) (p2 hz0)
     rw [Nat.mul_assoc] at this
     omega
theorem lz_c (V : View) (x : Nat) (hx : x < BB) (h0 : 0 < x) : Spec Tryz.prog 152 [.int .u32 (x : Int)] V fun v' V' => ∃ l : Nat, v' = .int .i64 (l : Int) ∧ l ≤ 31 ∧ BB ≤ 2 * (x * 2 ^ l) ∧ x * 2 ^ l < BB := by
 refine (Spec.enter Tryz.func152 rfl fun Γ => ?_)
 simp only [Tryz.ntmps152, List.map_cons, List.map_nil, List.length_cons, List.length_nil, Nat.reduceAdd, Nat.reduceSub, List.replicate_succ, List.replicate_zero, List.cons_append, List.nil_append]
 refine Gx.a (by kernel_rfl) fun K hK => ?_
 simp only [XA]
 refine hK _ ?_
 refine Gx.a (by kernel_rfl) fun K hK => ?_
 simp only [XA]
 refine call_go (by kernel_rfl) rfl (len32_c _ x hx) fun v1 V1 hV1 h1 => ?_
 obtain ⟨r, rfl, hr, h2, h3⟩ := h1
 have h3 := h3 (by omega)
 have hr0 : r ≠ 0 := fun e => by subst e; omega
 have e1 : IntKind.i64.wrap (32 - (r : Int)) = ((32 - r : Nat) : Int) := by rw [wrap_id (by omega) (by omega)]; omega
 simp only [XA, XB, e1]
 refine hK _ (XWP.ret ?_)
 try simp only [thenX_ret, inBlockX_ret]
 refine ret_go _ rfl ?_
 have e : BB = 2 ^ r * 2 ^ (32 - r) := by rw [← Nat.pow_add, show r + (32 - r) = 32 from by omega]; rfl
 refine ⟨32 - r, rfl, by omega, ?_, ?_⟩
 ·rw [e, ← Nat.mul_assoc]; exact Nat.mul_le_mul_right _ h3
 ·rw [e]; exact Nat.mul_lt_mul_of_pos_right h2 (Nat.pow_pos (by omega))
end Go.Proofs.YtobjjdnfgamgcaaGreat
end
section
namespace Go.Proofs.YtobjjdnfgamgcaaGreat
theorem guess_hi {U v v1 vr p top ur q : Nat} (hp : 0 < p) (hv1 : 0 < v1) (hv : v = v1 * p + vr) (hU : U = top * p + ur) (hur : ur < p) (hq : q * v ≤ U) : q ≤ top / v1 := by
 rw [Nat.le_div_iff_mul_le hv1]
 have h1 : q * v1 * p ≤ q * v := by rw [hv, Nat.mul_add, Nat.mul_assoc]; omega
 have h2 : q * v1 * p < (top + 1) * p := by rw [Nat.add_mul]; omega
 have := Nat.lt_of_mul_lt_mul_right h2
 omega
theorem guess_dec {U v v1 v2 vl p top u2 ul q g rest : Nat} (hp : 0 < p) (hv : v = (v1 * BB + v2) * p + vl) (hU : U = (top * BB + u2) * p + ul) (hul : ul < p) (hq : q * v ≤ U) (hg : q ≤ g) (hr : g * v1 + rest = top) (ht : rest * BB + u2 < g * v2) : q + 1 ≤ g := by
 rcases Nat.lt_or_ge q g with h | h
 ·exact h
 ·exfalso
  obtain rfl : q = g := by omega
  have h1 : q * (v1 * BB + v2) * p ≤ q * v := by rw [hv, Nat.mul_add q ((v1 * BB + v2) * p) vl, Nat.mul_assoc]; omega
  have h2 : q * (v1 * BB + v2) * p < (top * BB + u2 + 1) * p := by rw [Nat.add_mul (top * BB + u2)]; omega
  have h3 := Nat.lt_of_mul_lt_mul_right h2
  rw [Nat.mul_add, ← hr, Nat.add_mul, Nat.mul_assoc q v1] at h3
  omega
theorem guess_end {U v v1 v2 vl p top u2 ul q g rest : Nat} (hp : 0 < p) (hv1 : 0 < v1) (hv : v = (v1 * BB + v2) * p + vl) (hvl : vl < p) (hU : U = (top * BB + u2) * p + ul) (hq : U < (q + 1) * v) (hgB : g < BB) (hr : g * v1 + rest = top) (ht : g * v2 ≤ rest * BB + u2) : g ≤ q + 1 := by
 have h1 : g * (v1 * BB + v2) ≤ top * BB + u2 := by rw [Nat.mul_add, ← hr, Nat.add_mul, Nat.mul_assoc]; omega
 have h2 : g * (v1 * BB + v2) * p ≤ (top * BB + u2) * p := Nat.mul_le_mul_right _ h1
 have h3 : g * v = g * (v1 * BB + v2) * p + g * vl := by rw [hv, Nat.mul_add g ((v1 * BB + v2) * p) vl, Nat.mul_assoc]
 have h4 : g * vl ≤ BB * p := Nat.mul_le_mul (Nat.le_of_lt hgB) (Nat.le_of_lt hvl)
 have h5 : BB * p ≤ v := by
  have : 1 * BB ≤ v1 * BB := Nat.mul_le_mul_right _ hv1
  have : (1 * BB) * p ≤ (v1 * BB + v2) * p := Nat.mul_le_mul_right _ (by omega)
  rw [Nat.one_mul] at this; omega
 have h6 : g * v < (q + 2) * v + 1 := by
  have e : (q + 2) * v = (q + 1) * v + v := by rw [← Nat.succ_mul]
  omega
 have hv0 : 0 < v := by
  have : 0 < BB * p := Nat.mul_pos BB_pos hp
  omega
 rcases Nat.lt_or_ge (q + 1) g with h | h
 ·exfalso
  rcases Nat.lt_or_ge (q + 2) g with h7 | h7
  ·have : (q + 3) * v ≤ g * v := Nat.mul_le_mul_right _ h7
   have e : (q + 3) * v = (q + 2) * v + v := by rw [← Nat.succ_mul]
   omega
  ·obtain rfl : g = q + 2 := by omega
   have h8 : (q + 2) * vl < BB * p := by
    have a1 : (q + 2) * vl ≤ (q + 2) * p := Nat.mul_le_mul_left _ (Nat.le_of_lt hvl)
    have a2 : (q + 2) * p < BB * p := Nat.mul_lt_mul_of_pos_right hgB hp
    omega
   have e : (q + 2) * v = (q + 1) * v + v := by rw [← Nat.succ_mul]
   omega
 ·exact h
theorem guess_big {g v1 v2 rest top u1 u2 u0 : Nat} (hv1 : v1 < BB) (hv2 : v2 < BB) (ht : top = u0 * BB + u1) (hu0 : u0 ≤ v1) (hu1 : u1 < BB) (hr : g * v1 + rest = top) (hb : BB ≤ rest) : g < BB ∧ g * v2 ≤ rest * BB + u2 := by
 have h1 : g < BB := by
  rcases Nat.lt_or_ge g BB with h | h
  ·exact h
  ·exfalso
   have a1 : BB * v1 ≤ g * v1 := Nat.mul_le_mul_right _ h
   have a2 : u0 * BB ≤ v1 * BB := Nat.mul_le_mul_right _ hu0
   rw [Nat.mul_comm BB v1] at a1
   omega
 refine ⟨h1, ?_⟩
 have a1 : g * v2 ≤ BB * BB := Nat.mul_le_mul (Nat.le_of_lt h1) (Nat.le_of_lt hv2)
 have a2 : BB * BB ≤ rest * BB := Nat.mul_le_mul_right _ hb
 omega
def subD (x y : Nat) : Nat := if x < y then x + BB - y else x - y
def subB (x y : Nat) : Nat := if x < y then 1 else 0
theorem subD_eq {x y : Nat} (hx : x < BB) (hy : y ≤ BB) : subD x y + y = x + BB * subB x y ∧ subD x y < BB ∧ subB x y ≤ 1 := by
 unfold subD subB
 split <;> (unfold BB at *; omega)
theorem mulsub_step {l vs : List Nat} {U0 j i g c bo : Nat} (hi : i + j < l.length) (hd : Dig l) (hbo : bo ≤ 1)
  (h : nv l + BB ^ j * (g * nv (vs.take i)) = U0 + BB ^ (j + i) * (c + bo)) :
  nv (l.set (i + j) (subD (l.getD (i + j) 0) ((c + g * gd vs i) % BB + bo))) + BB ^ j * (g * nv (vs.take (i + 1))) = U0 + BB ^ (j + (i + 1)) * ((c + g * gd vs i) / BB + subB (l.getD (i + j) 0) ((c + g * gd vs i) % BB + bo)) := by
 have hx : l.getD (i + j) 0 < BB := gd_lt hd (i + j)
 have hm : (c + g * gd vs i) % BB < BB := Nat.mod_lt _ BB_pos
 obtain ⟨e1, _, _⟩ := subD_eq (y := (c + g * gd vs i) % BB + bo) hx (by omega)
 have hs := nv_set l (i + j) (subD (l.getD (i + j) 0) ((c + g * gd vs i) % BB + bo)) hi
 have e := Nat.mod_add_div (c + g * gd vs i) BB
 rw [Nat.add_comm i j] at *
 generalize hP : BB ^ (j + i) = P at *
 have e2 := congrArg (fun z => P * z) e1
 have e3 := congrArg (fun z => P * z) e
 simp only [Nat.mul_add] at e2 e3
 rw [nv_take_gd, Nat.mul_add g, Nat.mul_add (BB ^ j), ← Nat.add_assoc j i 1, Nat.pow_succ, hP]
 have e4 : BB ^ j * (g * (BB ^ i * gd vs i)) = P * (g * gd vs i) := by
  rw [← hP, Nat.pow_add, Nat.mul_assoc, Nat.mul_left_comm g]
 rw [e4, Nat.mul_assoc P BB, Nat.mul_add BB, Nat.mul_add P]
 rw [Nat.mul_add P] at h
 generalize nv (l.set (j + i) (subD (l.getD (j + i) 0) ((c + g * gd vs i) % BB + bo))) = A at *
 generalize subD (l.getD (j + i) 0) ((c + g * gd vs i) % BB + bo) = D at *
 generalize subB (l.getD (j + i) 0) ((c + g * gd vs i) % BB + bo) = E at *
 omega
theorem addback_step {l vs : List Nat} {U0 j i c : Nat} (hi : i + j < l.length)
  (h : nv l + BB ^ (j + i) * c = U0 + BB ^ j * nv (vs.take i)) :
  nv (l.set (i + j) ((c + (l.getD (i + j) 0 + gd vs i)) % BB)) + BB ^ (j + (i + 1)) * ((c + (l.getD (i + j) 0 + gd vs i)) / BB) = U0 + BB ^ j * nv (vs.take (i + 1)) := by
 have hs := nv_set l (i + j) ((c + (l.getD (i + j) 0 + gd vs i)) % BB) hi
 have e := Nat.mod_add_div (c + (l.getD (i + j) 0 + gd vs i)) BB
 rw [Nat.add_comm i j] at *
 generalize hP : BB ^ (j + i) = P at *
 have e3 := congrArg (fun z => P * z) e
 simp only [Nat.mul_add] at e3
 rw [nv_take_gd, Nat.mul_add (BB ^ j), ← Nat.add_assoc j i 1, Nat.pow_succ, hP, Nat.mul_assoc P BB]
 have e4 : BB ^ j * (BB ^ i * gd vs i) = P * gd vs i := by rw [← hP, Nat.pow_add, Nat.mul_assoc]
 rw [e4]
 generalize nv (l.set (j + i) ((c + (l.getD (j + i) 0 + gd vs i)) % BB)) = A at *
 omega
theorem gd_drop (l : List Nat) (j i : Nat) : gd (l.drop j) i = gd l (j + i) := by simp [gd, List.getElem?_drop]
theorem top2 (l : List Nat) (m : Nat) : nv (l.take (m + 2)) = (gd l (m + 1) * BB + gd l m) * BB ^ m + nv (l.take m) := by
 rw [nv_take_gd, nv_take_gd, Nat.pow_succ, Nat.add_mul]
 have e1 : BB ^ m * BB * gd l (m + 1) = gd l (m + 1) * BB * BB ^ m := by rw [Nat.mul_comm (BB ^ m * BB), Nat.mul_assoc, Nat.mul_comm BB (BB ^ m)]
 have e2 : BB ^ m * gd l m = gd l m * BB ^ m := Nat.mul_comm _ _
 omega
theorem top3 (l : List Nat) (m : Nat) : nv (l.take (m + 3)) = ((gd l (m + 2) * BB + gd l (m + 1)) * BB + gd l m) * BB ^ m + nv (l.take m) := by
 rw [nv_take_gd, top2, Nat.pow_succ, Nat.pow_succ]
 simp only [Nat.add_mul]
 have e1 : BB ^ m * BB * BB * gd l (m + 2) = gd l (m + 2) * BB * BB * BB ^ m := by
  rw [Nat.mul_comm (BB ^ m * BB * BB), Nat.mul_assoc (BB ^ m), Nat.mul_comm (BB ^ m), ← Nat.mul_assoc, ← Nat.mul_assoc]
 omega
theorem nv_take_lt {l : List Nat} (h : Dig l) (k : Nat) : nv (l.take k) < BB ^ k := by
 have h1 := nv_lt (Dig_take h k)
 exact Nat.lt_of_lt_of_le h1 (Nat.pow_le_pow_right BB_pos (by rw [List.length_take]; omega))
theorem above_zero {l vs : List Nat} {j : Nat} (hd : Dig l) (hv : Dig vs) (h : nv (l.drop (j + 1)) < nv vs) : nv (l.drop (j + vs.length + 1)) = 0 := by
 have h1 := nv_lt hv
 by_cases hl : vs.length ≤ (l.drop (j + 1)).length
 ·have h2 := nv_split (l.drop (j + 1)) vs.length hl
  rw [List.drop_drop] at h2
  have e : j + 1 + vs.length = j + vs.length + 1 := by omega
  rw [e] at h2
  rcases Nat.eq_zero_or_pos (nv (l.drop (j + vs.length + 1))) with h3 | h3
  ·exact h3
  ·have : BB ^ vs.length * 1 ≤ BB ^ vs.length * nv (l.drop (j + vs.length + 1)) := Nat.mul_le_mul_left _ h3
   omega
 ·rw [List.drop_eq_nil_of_le (by simp at hl; omega)]; rfl
theorem window {l vs : List Nat} {j : Nat} (hl : j + vs.length < l.length) (hz : nv (l.drop (j + vs.length + 1)) = 0) : nv (l.drop j) = nv ((l.drop j).take (vs.length + 1)) := by
 have h2 := nv_split (l.drop j) (vs.length + 1) (by simp; omega)
 rw [List.drop_drop, show j + (vs.length + 1) = j + vs.length + 1 by omega, hz, Nat.mul_zero, Nat.add_zero] at h2
 exact h2
theorem nv_below {l : List Nat} {k : Nat} (hd : Dig l) (hk : k ≤ l.length) (hz : nv (l.drop k) = 0) : nv l < BB ^ k := by
 rw [nv_split l k hk, hz, Nat.mul_zero, Nat.add_zero]; exact nv_take_lt hd k
theorem digit_lt {l vs : List Nat} {j : Nat} (hj : j < l.length) (hd : Dig l) (h : nv (l.drop (j + 1)) < nv vs) : nv (l.drop j) / nv vs < BB := by
 refine Nat.div_lt_of_lt_mul ?_
 rw [nv_drop l j hj]
 have h1 := Dig_get hd j hj
 have h2 : BB * (nv (l.drop (j + 1)) + 1) ≤ BB * nv vs := Nat.mul_le_mul_left _ h
 rw [Nat.mul_add] at h2
 rw [Nat.mul_comm (nv vs)]
 omega
theorem div_under0 {l0 l1 vs : List Nat} {j g q : Nat} (hj : j ≤ l0.length) (hlen : l1.length = l0.length) (ht : l1.take j = l0.take j) (hq : q = nv (l0.drop j) / nv vs) (hg : q ≤ g) (hv : 0 < nv vs)
  (h : nv l1 + BB ^ j * (g * nv vs) = nv l0) : g = q ∧ nv (l1.drop j) = nv (l0.drop j) % nv vs := by
 rw [nv_split l1 j (by omega), nv_split l0 j hj, ht, Nat.add_assoc, ← Nat.mul_add] at h
 have h1 : nv (l1.drop j) + g * nv vs = nv (l0.drop j) := Nat.eq_of_mul_eq_mul_left (pow_pos' j) (by omega)
 have h2 : g ≤ q := by rw [hq, Nat.le_div_iff_mul_le hv]; omega
 have e : g = q := by omega
 refine ⟨e, ?_⟩
 have := Nat.div_add_mod (nv (l0.drop j)) (nv vs)
 rw [← hq, ← e, Nat.mul_comm] at this
 omega
theorem div_under1 {l0 l1 l2 vs : List Nat} {j g q o : Nat} (hj : j + vs.length < l0.length) (hd1 : Dig l1) (hd2 : Dig l2) (hlen : l1.length = l0.length) (hlen2 : l2.length = l0.length) (ht : l2.take j = l0.take j)
  (hz1 : nv (l1.drop (j + vs.length + 1)) = 0) (hz2 : nv (l2.drop (j + vs.length + 1)) = 0) (hq : q = nv (l0.drop j) / nv vs) (hg : g ≤ q + 1) (hv : 0 < nv vs) (ho : o ≤ 1)
  (h : nv l1 + BB ^ j * (g * nv vs) = nv l0 + BB ^ (j + vs.length + 1)) (h2 : nv l2 + BB ^ (j + vs.length + 1) * o = nv l1 + BB ^ j * nv vs) : g = q + 1 ∧ nv (l2.drop j) = nv (l0.drop j) % nv vs := by
 have b1 := nv_below hd1 (by omega) hz1
 have b2 := nv_below hd2 (by omega) hz2
 have hs0 := nv_split l0 j (by omega)
 have hm := Nat.div_add_mod (nv (l0.drop j)) (nv vs)
 rw [← hq] at hm
 have hgt : nv (l0.drop j) < g * nv vs := by
  refine Nat.lt_of_mul_lt_mul_left (a := BB ^ j) ?_
  omega
 have e : g = q + 1 := by
  rcases Nat.lt_or_ge q g with h3 | h3
  ·omega
  ·exfalso
   have : g * nv vs ≤ q * nv vs := Nat.mul_le_mul_right _ h3
   rw [Nat.mul_comm q] at this
   omega
 refine ⟨e, ?_⟩
 subst e
 have e2 : BB ^ j * ((q + 1) * nv vs) = BB ^ j * (q * nv vs) + BB ^ j * nv vs := by rw [Nat.add_mul, Nat.one_mul, Nat.mul_add]
 have hle : BB ^ j * (q * nv vs) ≤ BB ^ j * nv (l0.drop j) := Nat.mul_le_mul_left _ (by rw [Nat.mul_comm]; omega)
 have ho1 : o = 1 := by
  rcases Nat.eq_zero_or_pos o with h0 | h0
  ·exfalso
   subst h0
   omega
  ·omega
 subst ho1
 have hs2 := nv_split l2 j (by omega)
 rw [ht] at hs2
 have h5 : BB ^ j * nv (l2.drop j) + BB ^ j * (q * nv vs) = BB ^ j * nv (l0.drop j) := by omega
 rw [← Nat.mul_add] at h5
 have h6 := Nat.eq_of_mul_eq_mul_left (pow_pos' j) h5
 rw [Nat.mul_comm q] at h6
 omega
theorem div_total {l0 l2 qs vs : List Nat} {j N : Nat} (hj : j < l0.length) (hlen : l2.length = l0.length) (hjq : j < qs.length) (ht : l2.take j = l0.take j) (hr : nv (l2.drop j) = nv (l0.drop j) % nv vs)
  (h : N = BB ^ (j + 1) * nv (qs.drop (j + 1)) * nv vs + nv l0) : N = BB ^ j * nv ((qs.set j (nv (l0.drop j) / nv vs)).drop j) * nv vs + nv l2 := by
 have e1 : (qs.set j (nv (l0.drop j) / nv vs)).drop j = (nv (l0.drop j) / nv vs) :: qs.drop (j + 1) := by
  rw [List.drop_eq_getElem_cons (by simp; omega)]
  simp [List.drop_set]
 have hm := Nat.div_add_mod (nv (l0.drop j)) (nv vs)
 rw [h, e1, nv, nv_split l2 j (by omega), ht, hr]
 rw [nv_split l0 j (by omega)]
 generalize nv (l0.drop j) / nv vs = q at *
 generalize nv (l0.drop j) % nv vs = r at *
 rw [← hm, Nat.pow_succ]
 simp only [Nat.mul_add, Nat.add_mul]
 have a1 : BB ^ j * BB * nv (qs.drop (j + 1)) * nv vs = BB ^ j * (BB * nv (qs.drop (j + 1))) * nv vs := by rw [Nat.mul_assoc (BB ^ j)]
 have a2 : BB ^ j * (nv vs * q) = BB ^ j * q * nv vs := by rw [Nat.mul_comm (nv vs), Nat.mul_assoc]
 omega
theorem two_split {s : Nat} (hs : s ≤ 31) : BB = 2 ^ s * 2 ^ (32 - s) ∧ BB = 2 ^ (32 - s) * 2 ^ s := by
 have h : BB = 2 ^ s * 2 ^ (32 - s) := by rw [← Nat.pow_add, show s + (32 - s) = 32 from by omega]; rfl
 exact ⟨h, by rw [Nat.mul_comm]; exact h⟩
def rsD (x y s : Nat) : Nat := x / 2 ^ s + (if s = 0 then 0 else y * 2 ^ (32 - s) % BB)
theorem rsD_low {x s : Nat} (hx : x < BB) (hs : s ≤ 31) : x / 2 ^ s < 2 ^ (32 - s) := by
 refine Nat.div_lt_of_lt_mul ?_
 rw [← (two_split hs).1]; exact hx
theorem rsD_eq {x y s : Nat} (hx : x < BB) (hy : y < BB) (hs : s ≤ 31) : 2 ^ s * rsD x y s + x % 2 ^ s = x + BB * (y % 2 ^ s) ∧ rsD x y s < BB := by
 have hm := Nat.div_add_mod x (2 ^ s)
 have hl := rsD_low hx hs
 unfold rsD
 by_cases h0 : s = 0
 ·subst h0
  simp only [if_true, Nat.add_zero, Nat.pow_zero, Nat.mod_one, Nat.div_one, Nat.mul_zero]
  omega
 ·rw [if_neg h0]
  have e : y * 2 ^ (32 - s) % BB = y % 2 ^ s * 2 ^ (32 - s) := by
   rw [(two_split hs).1, Nat.mul_mod_mul_right]
  rw [e]
  have hp : 0 < 2 ^ s := Nat.pow_pos (by omega)
  have hy2 : y % 2 ^ s + 1 ≤ 2 ^ s := Nat.mod_lt _ hp
  have hy3 : (y % 2 ^ s + 1) * 2 ^ (32 - s) ≤ 2 ^ s * 2 ^ (32 - s) := Nat.mul_le_mul_right _ hy2
  rw [← (two_split hs).1, Nat.add_mul, Nat.one_mul] at hy3
  refine ⟨?_, by omega⟩
  rw [Nat.mul_add, Nat.mul_comm (y % 2 ^ s), ← Nat.mul_assoc, ← (two_split hs).1]
  omega
theorem rs_step {us rs : List Nat} {i s c : Nat} (hl : i < rs.length) (hx : gd us i < BB) (hy : gd us (i + 1) < BB) (hs : s ≤ 31) (h : 2 ^ s * nv (rs.take i) + c = nv (us.take i) + BB ^ i * (gd us i % 2 ^ s)) :
  2 ^ s * nv ((rs.set i (rsD (gd us i) (gd us (i + 1)) s)).take (i + 1)) + c = nv (us.take (i + 1)) + BB ^ (i + 1) * (gd us (i + 1) % 2 ^ s) := by
 obtain ⟨e, _⟩ := rsD_eq hx hy hs
 have e2 := congrArg (fun z => BB ^ i * z) e
 simp only [Nat.mul_add] at e2
 have t1 : (rs.set i (rsD (gd us i) (gd us (i + 1)) s)).take (i + 1) = rs.take i ++ [rsD (gd us i) (gd us (i + 1)) s] := by
  rw [List.take_succ_eq_append_getElem (by simpa using hl)]
  simp [List.take_set_of_le]
 rw [t1, nv_snoc, List.length_take, Nat.min_eq_left (by omega), nv_take_gd, Nat.pow_succ, Nat.mul_add, Nat.mul_assoc (BB ^ i) BB]
 rw [Nat.mul_left_comm (2 ^ s)]
 omega
theorem div_end {a b Q R p : Nat} (hp : 0 < p) (hb : 0 < b) (h : a * p = Q * (b * p) + R) (hR : R < b * p) : Q = a / b ∧ R = a % b * p := by
 have h1 : Q * (b * p) = Q * b * p := by rw [Nat.mul_assoc]
 have hQ : Q * b ≤ a := by
  refine Nat.le_of_mul_le_mul_right (c := p) ?_ hp
  omega
 obtain ⟨r, rfl⟩ : ∃ r, a = Q * b + r := ⟨a - Q * b, by omega⟩
 rw [Nat.add_mul] at h
 have hr : r * p = R := by omega
 have hrb : r < b := by
  refine Nat.lt_of_mul_lt_mul_right (a := p) ?_
  omega
 have e1 : (Q * b + r) / b = Q := by rw [Nat.mul_comm Q, Nat.mul_add_div hb, Nat.div_eq_of_lt hrb, Nat.add_zero]
 have e2 : (Q * b + r) % b = r := by rw [Nat.mul_comm Q, Nat.mul_add_mod, Nat.mod_eq_of_lt hrb]
 rw [e1, e2, hr]; exact ⟨rfl, rfl⟩
theorem rs_end {us rs : List Nat} {n s c r : Nat} (hs : s ≤ 31) (hc : c < 2 ^ s) (hl : rs.length = n) (hn : n < us.length) (hz : nv (us.drop n) = 0) (hU : nv us = r * 2 ^ s) (h : 2 ^ s * nv (rs.take n) + c = nv (us.take n) + BB ^ n * (gd us n % 2 ^ s)) : nv rs = r := by
 have e1 : gd us n = 0 := by
  have := nv_drop us n hn
  rw [hz] at this
  rw [gd_get hn]; omega
 rw [e1, Nat.zero_mod, Nat.mul_zero, Nat.add_zero, List.take_of_length_le (by omega)] at h
 have h2 := nv_split us n (by omega)
 rw [hz, Nat.mul_zero, Nat.add_zero] at h2
 rw [← h2, hU, Nat.mul_comm r] at h
 have hp : 0 < 2 ^ s := Nat.pow_pos (by omega)
 have h3 : nv rs = (2 ^ s * nv rs + c) / 2 ^ s := by rw [Nat.mul_add_div hp, Nat.div_eq_of_lt hc, Nat.add_zero]
 rw [h3, h, Nat.mul_div_cancel_left _ hp]
theorem shift_sz {b s x : Nat} (hb : b ≠ 0) (hx : x = (dg b).getD (sz b - 1) 0) (h : x * 2 ^ s < BB) (hs : s ≤ 31) : sz (b * 2 ^ s) = sz b ∧ BB ^ (sz b - 1) ≤ b := by
 have h1 := le_sz hb
 have hp : 0 < 2 ^ s := Nat.pow_pos (by omega)
 have hsz := sz_pos hb
 refine ⟨?_, h1⟩
 have hle : sz b ≤ sz (b * 2 ^ s) := sz_mono (Nat.le_mul_of_pos_right _ hp)
 have hlt : b * 2 ^ s < BB ^ sz b := by
  have e := nv_take_gd (dg b) (sz b - 1)
  rw [show sz b - 1 + 1 = sz b by omega] at e
  have e2 : (dg b).take (sz b) = dg b := List.take_length
  rw [e2, nv_dg] at e
  have hg : gd (dg b) (sz b - 1) = x := hx.symm
  rw [hg] at e
  have h3 := nv_take_lt (Dig_dg b) (sz b - 1)
  have h4 : b < BB ^ (sz b - 1) * (x + 1) := by rw [Nat.mul_add]; omega
  have h5 : b * 2 ^ s < BB ^ (sz b - 1) * (x + 1) * 2 ^ s := Nat.mul_lt_mul_of_pos_right h4 hp
  have h6 : (x + 1) * 2 ^ s ≤ BB := by
   rw [(two_split hs).2]
   refine Nat.mul_le_mul_right _ ?_
   refine Nat.lt_of_mul_lt_mul_right (a := 2 ^ s) ?_
   rw [← (two_split hs).2]; exact h
  have h7 : BB ^ (sz b - 1) * ((x + 1) * 2 ^ s) ≤ BB ^ (sz b - 1) * BB := Nat.mul_le_mul_left _ h6
  rw [← Nat.mul_assoc, ← Nat.pow_succ, show (sz b - 1).succ = sz b by omega] at h7
  omega
 have := sz_le hlt
 omega
theorem first_lt {us : List Nat} {a b s : Nat} (hb : b ≠ 0) (hle : sz b ≤ sz a) (hl : us.length = sz a + 1) (hU : nv us = a * 2 ^ s) : nv (us.drop (sz a + 1 - sz b)) < b * 2 ^ s := by
 have hp : 0 < 2 ^ s := Nat.pow_pos (by omega)
 have h1 := le_sz hb
 have hsz := sz_pos hb
 have h2 := lt_sz a
 have h3 := nv_split us (sz a + 1 - sz b) (by omega)
 refine Nat.lt_of_mul_lt_mul_left (a := BB ^ (sz a + 1 - sz b)) ?_
 have h4 : BB ^ sz a ≤ BB ^ (sz a + 1 - sz b) * b := by
  have : BB ^ (sz a + 1 - sz b) * BB ^ (sz b - 1) ≤ BB ^ (sz a + 1 - sz b) * b := Nat.mul_le_mul_left _ h1
  rw [← Nat.pow_add, show sz a + 1 - sz b + (sz b - 1) = sz a by omega] at this
  exact this
 have h5 : a * 2 ^ s < BB ^ (sz a + 1 - sz b) * b * 2 ^ s := Nat.mul_lt_mul_of_pos_right (by omega) hp
 rw [Nat.mul_assoc] at h5
 omega
theorem knuth {l vs : List Nat} {j m q v1 v2 u0 u1 u2 : Nat} (hvl : vs.length = m + 2) (hj : j + (m + 2) < l.length) (hd : Dig l) (hv : Dig vs) (e1 : v1 = gd vs (m + 1)) (e2 : v2 = gd vs m) (e3 : u0 = gd l (j + (m + 2))) (e4 : u1 = gd l (j + (m + 1))) (e5 : u2 = gd l (j + m)) (h0 : 0 < v1)
  (hlt : nv (l.drop (j + 1)) < nv vs) (hq : q = nv (l.drop j) / nv vs) :
  q ≤ (u0 * BB + u1) / v1 ∧ q < BB ∧ u0 ≤ v1 ∧ (∀ g rest, q ≤ g → g * v1 + rest = u0 * BB + u1 → rest * BB + u2 < g * v2 → q + 1 ≤ g) ∧
   (∀ g rest, g < BB → g * v1 + rest = u0 * BB + u1 → g * v2 ≤ rest * BB + u2 → g ≤ q + 1) ∧ v1 < BB ∧ v2 < BB ∧ u0 < BB ∧ u1 < BB ∧ u2 < BB := by
 have hz := above_zero hd hv hlt
 have hw := window (l := l) (vs := vs) (j := j) (by omega) hz
 rw [hvl] at hw
 have dv : nv vs = (v1 * BB + v2) * BB ^ m + nv (vs.take m) := by
  have := top2 vs m
  rw [← hvl, List.take_length] at this
  rw [this, e1, e2]
 have dv1 : nv vs = v1 * BB ^ (m + 1) + nv (vs.take (m + 1)) := by
  have := nv_take_gd vs (m + 1)
  rw [show m + 1 + 1 = vs.length by omega, List.take_length] at this
  rw [this, e1, Nat.mul_comm (BB ^ (m + 1))]; omega
 have dU : nv (l.drop j) = ((u0 * BB + u1) * BB + u2) * BB ^ m + nv ((l.drop j).take m) := by
  rw [hw, top3, gd_drop, gd_drop, gd_drop, e3, e4, e5]
 have dU1 : nv (l.drop j) = (u0 * BB + u1) * BB ^ (m + 1) + nv ((l.drop j).take (m + 1)) := by
  rw [hw, show m + 2 + 1 = m + 1 + 2 by omega, top2, gd_drop, gd_drop, e3, e4]
 have hqB : q < BB := hq ▸ digit_lt (by omega) hd hlt
 have hqU : q * nv vs ≤ nv (l.drop j) := by
  have := Nat.div_mul_le_self (nv (l.drop j)) (nv vs)
  rw [hq]; exact this
 have hv0 : 0 < nv vs := Nat.lt_of_le_of_lt (Nat.zero_le _) hlt
 have hUq : nv (l.drop j) < (q + 1) * nv vs := by
  have := Nat.lt_mul_div_succ (nv (l.drop j)) hv0
  rw [← hq] at this
  rw [Nat.mul_comm]; exact this
 have hdd := Dig_drop hd j
 have hu0 : u0 ≤ v1 := by
  have a1 : (q + 1) * nv vs ≤ BB * nv vs := Nat.mul_le_mul_right _ hqB
  have a2 : nv vs < (v1 + 1) * BB ^ (m + 1) := by have := nv_take_lt hv (m + 1); rw [Nat.add_mul]; omega
  have a3 : BB * nv vs < BB * ((v1 + 1) * BB ^ (m + 1)) := Nat.mul_lt_mul_of_pos_left a2 BB_pos
  have a4 : u0 * BB * BB ^ (m + 1) < (v1 + 1) * BB * BB ^ (m + 1) := by
   have b1 : BB * ((v1 + 1) * BB ^ (m + 1)) = (v1 + 1) * BB * BB ^ (m + 1) := by rw [← Nat.mul_assoc, Nat.mul_comm BB]
   have b2 : u0 * BB * BB ^ (m + 1) ≤ (u0 * BB + u1) * BB ^ (m + 1) := Nat.mul_le_mul_right _ (Nat.le_add_right _ _)
   rw [← b1]
   omega
  have a5 := Nat.lt_of_mul_lt_mul_right a4
  have a6 := Nat.lt_of_mul_lt_mul_right a5
  omega
 refine ⟨guess_hi (pow_pos' (m + 1)) h0 dv1 dU1 (nv_take_lt hdd _) hqU, hqB, hu0, fun g rest hg hr ht => guess_dec (pow_pos' m) dv dU (nv_take_lt hdd _) hqU hg hr ht, fun g rest hgB hr ht => guess_end (pow_pos' m) h0 dv (nv_take_lt hv _) dU hUq hgB hr ht, e1 ▸ gd_lt hv _, e2 ▸ gd_lt hv _, e3 ▸ gd_lt hd _, e4 ▸ gd_lt hd _, e5 ▸ gd_lt hd _⟩
theorem dig_mul {g v : Nat} (hg : g < BB) (hv : v < BB) : g * v < 18446744073709551616 := by
 have h1 : g * v ≤ 4294967295 * 4294967295 := Nat.mul_le_mul (by unfold BB at hg; omega) (by unfold BB at hv; omega)
 omega
theorem dig_mulc {c g v : Nat} (hc : c < BB) (hg : g < BB) (hv : v < BB) : c + g * v < 18446744073709551616 ∧ (c + g * v) / BB < BB := by
 have h1 : g * v ≤ 4294967295 * 4294967295 := Nat.mul_le_mul (by unfold BB at hg; omega) (by unfold BB at hv; omega)
 unfold BB at *; omega
theorem set_drop (l : List Nat) {i m : Nat} (x : Nat) (h : i < m) : (l.set i x).drop m = l.drop m := List.drop_set_of_lt h
theorem set_take (l : List Nat) {i m : Nat} (x : Nat) (h : m ≤ i) : (l.set i x).take m = l.take m := List.take_set_of_le h
theorem drop_more {l l' : List Nat} {k m : Nat} (h : l.drop k = l'.drop k) (hm : k ≤ m) : l.drop m = l'.drop m := by
 obtain ⟨d, rfl⟩ : ∃ d, m = k + d := ⟨m - k, by omega⟩
 rw [← List.drop_drop, ← List.drop_drop, h]
theorem mulsub_last {l vs : List Nat} {U0 j n g y : Nat} (hi : j + n < l.length) (hd : Dig l) (hy : y ≤ BB) (h : nv l + BB ^ j * (g * nv vs) = U0 + BB ^ (j + n) * y) :
  nv (l.set (j + n) (subD (l.getD (j + n) 0) y)) + BB ^ j * (g * nv vs) = U0 + BB ^ (j + n + 1) * subB (l.getD (j + n) 0) y := by
 have hx : l.getD (j + n) 0 < BB := gd_lt hd (j + n)
 obtain ⟨e1, _, _⟩ := subD_eq hx hy
 have hs := nv_set l (j + n) (subD (l.getD (j + n) 0) y) hi
 rw [Nat.pow_succ, Nat.mul_assoc]
 have e2 := congrArg (fun z => BB ^ (j + n) * z) e1
 simp only [Nat.mul_add] at e2
 generalize BB ^ (j + n) = P at *
 generalize nv (l.set (j + n) (subD (l.getD (j + n) 0) y)) = A at *
 generalize subD (l.getD (j + n) 0) y = D at *
 generalize subB (l.getD (j + n) 0) y = E at *
 generalize BB ^ j * (g * nv vs) = G at *
 omega
theorem addback_last {l vs : List Nat} {U0 j n c : Nat} (hi : j + n < l.length) (h : nv l + BB ^ (j + n) * c = U0 + BB ^ j * nv vs) :
  nv (l.set (j + n) ((l.getD (j + n) 0 + c) % BB)) + BB ^ (j + n + 1) * ((l.getD (j + n) 0 + c) / BB) = U0 + BB ^ j * nv vs := by
 have hs := nv_set l (j + n) ((l.getD (j + n) 0 + c) % BB) hi
 have e1 := Nat.mod_add_div (l.getD (j + n) 0 + c) BB
 rw [Nat.pow_succ, Nat.mul_assoc]
 have e2 := congrArg (fun z => BB ^ (j + n) * z) e1
 simp only [Nat.mul_add] at e2
 generalize BB ^ (j + n) = P at *
 generalize nv (l.set (j + n) ((l.getD (j + n) 0 + c) % BB)) = A at *
 generalize BB ^ j * nv vs = G at *
 omega
end Go.Proofs.YtobjjdnfgamgcaaGreat
end
