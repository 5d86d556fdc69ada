/- The transition matrices of the four kernels over executions agree with the reference, errors included, at every input. (part 11 of 13) -/
import Derived.OrdersHeld
import Derived.Below
import Derived.Tactics
import Derived.KernelRfl
import Derived.RangeFuncCalls
import Derived.RangeFuncFrom
import Derived.RangeFuncLeaves
import Derived.OrdersIn
import Derived.Laws.AppendOwn
import Derived.Laws.MakeOwn
import Derived.Laws.CopyRow
import Derived.Laws.Cells
import Derived.Laws.World
import Derived.Laws.Alloc2
import Derived.Laws.NewBlocks
import Derived.Maps.AppendAt
import Derived.Test.YtobjjdnfgamgcaaGreatProg
import Init.Data.List.Lemmas
import Init.Omega
import Derived.WalkKit
import Derived.ProofKit
import Derived.OpenShut
import Derived.ChangeOld
import Derived.SizedLaws
import Derived.ChangeSlices
import Derived.ChangeArms
import Derived.Deep.Slices
import Derived.MapKept
import Derived.Maps.RangeRun
import Derived.Shelf.SlSortCmp.WholeK
import Derived.Lib.QuietBelow
import Derived.Test.YtobjjdnfgamgcaaGreatMA10
section
namespace Go.Proofs.YtobjjdnfgamgcaaGreat
open Go Go.RowKit
set_option linter.unusedSimpArgs false
set_option linter.unusedVariables false
attribute [local irreducible] XWP Spec SpecO XPub XCall seqX clX apX stX ldX iaX slX
/-- an execution where it lies -/
theorem SlK.rnAt {V : View} {b o n c i : Nat} {l : List Rn} {r : Rn} (h : SlK 9 rnE V (.slice (some ⟨b, o, none⟩) n c) l) (hi : l[i]? = some r) (ok : r.w.ok = true) : ∃ (u0 u1 u2 u3 u4 dv m x y : Value), ElK 9 rnE V [u0, u1, u2, u3, u4, dv, m, x, y] r ∧ SlK 4 drE V dv r.ds ∧ RatC V (.agg #[m, x, y]) r.w.q ∧
    (∀ H, Loads Tryz.prog H V 51 b (o + i * 9) (.agg #[u0, u1, u2, u3, u4, dv, m, x, y])) ∧ (∀ H, Loads Tryz.prog H V 45 b (o + i * 9 + 5) dv) ∧ ∀ H, Loads Tryz.prog H V 49 b (o + i * 9 + 6) (.agg #[m, x, y]) := by
  have hl := (List.getElem?_eq_some_iff.1 hi).1
  obtain ⟨cs, he, hcell⟩ := SlK.get h i hl
  rw [(List.getElem?_eq_some_iff.1 hi).2] at he
  have he0 := he
  obtain ⟨_, _, c1, c2, c3, c4, dv, m, c7, c8, rfl, hds, hw⟩ := he
  refine ⟨_, c1, c2, c3, c4, dv, m, c7, c8, he0, hds, RawAt.rat hw ok, fun H => loadsK (cs := [.int .i64 r.kind, c1, c2, c3, c4, dv, m, c7, c8]) shapeT_51 rfl fun j u hj => hcell H j u hj, fun H => loads1 shapeT_45 (hcell H 5 _ rfl), fun H => loadsK (cs := [m, c7, c8]) shapeT_49 rfl fun j u hj => ?_⟩
  match j, hj with
  | 0, hj => exact hcell H 6 u hj
  | 1, hj => exact hcell H 7 u hj
  | 2, hj => exact hcell H 8 u hj
theorem Loads.up {V V' : View} {ty b o : Nat} {v : Value} (h : ∀ H, Loads Tryz.prog H V ty b o v) (hV : V.le V') (H : Heap) : Loads Tryz.prog H V' ty b o v := by
  obtain ⟨ag, n, es, hh⟩ := h (fun _ => none)
  have up : ∀ {off : Nat} {u : Value}, CellAt (fun _ => none) V b off u → CellAt H V' b off u := fun {off u} hc => by
    rcases hc with ⟨q, hq, _⟩ | ⟨arr, ty, fr, h1, h2⟩
    · cases hq
    · exact .inr ⟨arr, ty, fr, hV _ _ h1, h2⟩
  exact ⟨ag, n, es, hh.imp (fun ⟨a, cs, c1, c2, c3⟩ => ⟨a, cs, c1, fun j u hj => up (c2 j u hj), c3⟩) fun ⟨a, c⟩ => ⟨a, up c⟩⟩
set_option maxHeartbeats 4000000 in
set_option maxRecDepth 100000 in
theorem rbeyond_c (V : View) (i k : Nat) (x : Value) (l : List Rn) (hx : SlK 9 rnE V x l) (hs : ∀ r ∈ l, r.small) (ll : l.length ≤ 60) (hi : i < l.length) (hk : k < l.length) :
    Spec Tryz.prog 149 [x, .int .i64 (i : Int), .int .i64 (k : Int)] V fun v' V' => RatC V' v' (siteQ l i k) := by
  obtain ⟨A, c, rfl, _, _⟩ := hx.form
  obtain ⟨bL, oL, rfl⟩ := SlK.addr hx (by omega)
  obtain ⟨r, hr⟩ : ∃ r, l[i]? = some r := ⟨_, List.getElem?_eq_getElem hi⟩
  obtain ⟨t, ht⟩ : ∃ r, l[k]? = some r := ⟨_, List.getElem?_eq_getElem hk⟩
  have h1 := hs r (List.mem_of_getElem? hr)
  have h2 := hs t (List.mem_of_getElem? ht)
  have hl1 := h1.len
  obtain ⟨u0, u1, u2, u3, u4, dv1, m1, x1, y1, e1, hd1, ew1, la1, lb1, lc1⟩ := hx.rnAt hr h1.ok
  obtain ⟨v0, v1, v2, v3, v4, dv2, m2, x2, y2, e2, hd2, ew2, la2, lb2, lc2⟩ := hx.rnAt ht h2.ok
  obtain ⟨A1, q1, rfl, _, _⟩ := hd1.form
  have eds1 := dsOf_at hr
  have eds2 := dsOf_at ht
  have ew := wOf_at ht
  refine (Spec.enter Tryz.func149 rfl fun Γ => ?_)
  simp only [Tryz.ntmps149, List.map_cons, List.map_nil, List.length_cons, List.length_nil, Nat.reduceAdd, Nat.reduceSub, List.replicate_succ, List.replicate_zero, List.cons_append, List.nil_append]
  refine Gx.a (by kernel_rfl) fun K hK => ?_
  simp only [XA, XB]
  refine hK _ ?_
  refine Gx.a (by kernel_rfl) fun K hK => ?_
  simp only [XA]
  refine call_go (by kernel_rfl) rfl (pzero_c _) fun v3' V3 hV3 h3 => ?_
  obtain ⟨x3, y3, rfl, o1, o2⟩ := h3.form
  simp only [XA, XB]
  refine st_rat rfl rfl rfl o1 o2 ?_
  simp only [XA]
  refine hK _ ?_
  have h3 : RatC V3 (.agg #[.bool (ng 0), x3, y3]) (Sm (siteF l i k) 0) := h3
  refine XWP.cutD 2 (fun s => ∃ (V5 : View) (bb x y : Value), StIs (fun Z => [Z 0,Z 1,Z 2,Z 3,Z 4,Z 5, .p 0 0, .p 1 0, Z 8,Z 9,Z 10,Z 11,Z 12,Z 13,Z 14,Z 15,Z 16,Z 17,Z 18,Z 19,Z 20,Z 21,Z 22,Z 23,Z 24,Z 25,Z 26,Z 27,Z 28,Z 29,Z 30,Z 31,Z 32,Z 33,Z 34,Z 35,Z 36,Z 37,Z 38,Z 39,Z 40,Z 41,Z 42,Z 43,Z 44,Z 45,Z 46,Z 47,Z 48,Z 49,Z 50,Z 51,Z 52,Z 53,Z 54,Z 55,Z 56,Z 57,Z 58,Z 59,Z 60,Z 61,Z 62,Z 63,Z 64,Z 65,Z 66,Z 67,Z 68,Z 69,Z 70]) [[.bool false, .slice none 0 0, .slice none 0 0], [bb, x, y]] (fun _ => none) V5 s ∧ RatC V5 (.agg #[bb, x, y]) (siteQ l i k)) ?_ ?_
  rotate_left
  · rintro s ⟨V5, bb, x, y, hs, hx⟩
    obtain ⟨z, rfl⟩ := hs.out
    try dsimp only
    clear hs
    obtain ⟨x', y', e, p1, p2⟩ := hx.form
    cases e
    refine Gx.a (by kernel_rfl) fun K hK => ?_
    simp only [XA, XB, Nat.reduceAdd, Nat.reduceLeDiff, ↓reduceIte]
    refine st_rat rfl rfl rfl p1 p2 ?_
    simp only [XA]
    refine hK _ (XWP.ret ?_)
    try simp only [thenX_ret, inBlockX_ret]
    exact ret_rat1 rfl rfl rfl hx
  refine Gx.a (by kernel_rfl) fun K hK => ?_
  simp only [XU, XA]
  refine ⟨by omega, by omega, ld_mem (Loads.up lb1 hV3 _) ?_⟩
  simp only [XU, XA]
  refine hK _ ?_
  clear hK
  refine XWP.block ?_
  refine XWP.loopD 2 (fun q s => ∃ (m : Nat) (V5 : View) (bb x y : Value), StIs (fun Z => [.v (.slice (some ⟨bL, oL, none⟩) l.length c), .v (.int .i64 (i : Int)), .v (.int .i64 (k : Int)), Z 3,Z 4,Z 5, .p 0 0, .p 1 0, Z 8,Z 9,Z 10,Z 11,Z 12,Z 13,Z 14,Z 15,Z 16,Z 17, .v (.int .i64 (r.ds.length : Int)), .v (.int .i64 (m : Int)), Z 20,Z 21,Z 22,Z 23,Z 24,Z 25,Z 26,Z 27,Z 28,Z 29,Z 30,Z 31,Z 32,Z 33,Z 34,Z 35,Z 36,Z 37,Z 38,Z 39,Z 40,Z 41,Z 42,Z 43,Z 44,Z 45,Z 46,Z 47,Z 48,Z 49,Z 50,Z 51,Z 52,Z 53,Z 54,Z 55,Z 56,Z 57,Z 58,Z 59,Z 60,Z 61,Z 62,Z 63,Z 64,Z 65,Z 66,Z 67,Z 68,Z 69,Z 70]) [[.bool false, .slice none 0 0, .slice none 0 0], [bb, x, y]] (fun _ => none) V5 s ∧ q + m = r.ds.length ∧ V3.le V5 ∧ RatC V5 (.agg #[bb, x, y]) (Sm (siteF l i k) m)) r.ds.length ⟨0, V3, _, x3, y3, StIs.of (by exact rfl), by omega, View.le_refl _, h3⟩ ?_
  clear h3 o1 o2
  rintro q s ⟨m, V5, bb, x, y, hs', hq, hV5, hx5⟩
  obtain ⟨z, rfl⟩ := hs'.out
  try dsimp only
  clear hs'
  by_cases hm : m < r.ds.length
  rotate_left
  · obtain rfl : m = r.ds.length := by omega
    have b1 : decide (((r.ds.length : Nat) : Int) < ((r.ds.length : Nat) : Int)) = false := decide_eq_false (by omega)
    refine Gx.a (by kernel_rfl) fun K hK => ?_
    simp only [XA, XB, b1]
    refine hK _ ?_
    refine XWP.seq (Gx.f rfl ?_)
    refine XWP.exit ?_
    refine fun f => ⟨V5, bb, x, y, StIs.of (by exact rfl), ?_⟩
    unfold siteQ
    rw [eds1]; exact hx5
  have b1 : decide ((m : Int) < (r.ds.length : Int)) = true := decide_eq_true (by omega)
  refine Gx.a (by kernel_rfl) fun K hK => ?_
  simp only [XA, XB, b1]
  refine hK _ ?_
  refine XWP.seq (Gx.t rfl ?_)
  refine XWP.skip ?_
  have hV05 := View.le_trans hV3 hV5
  refine XWP.cutD 2 (fun s => ∃ (V6 : View) (bb x y : Value), StIs (fun Z => [.v (.slice (some ⟨bL, oL, none⟩) l.length c), .v (.int .i64 (i : Int)), .v (.int .i64 (k : Int)), Z 3,Z 4,Z 5, .p 0 0, .p 1 0, Z 8,Z 9,Z 10,Z 11,Z 12,Z 13,Z 14,Z 15,Z 16,Z 17, .v (.int .i64 (r.ds.length : Int)), .v (.int .i64 (m : Int)), Z 20,Z 21,Z 22,Z 23,Z 24,Z 25,Z 26,Z 27,Z 28,Z 29,Z 30,Z 31,Z 32,Z 33,Z 34,Z 35,Z 36,Z 37,Z 38,Z 39,Z 40,Z 41,Z 42,Z 43,Z 44,Z 45,Z 46,Z 47,Z 48,Z 49,Z 50,Z 51,Z 52,Z 53,Z 54,Z 55,Z 56,Z 57,Z 58,Z 59,Z 60,Z 61,Z 62,Z 63,Z 64,Z 65,Z 66,Z 67,Z 68,Z 69,Z 70]) [[.bool false, .slice none 0 0, .slice none 0 0], [bb, x, y]] (fun _ => none) V6 s ∧ V5.le V6 ∧ RatC V6 (.agg #[bb, x, y]) (Sm (siteF l i k) (m + 1))) ?_ ?_
  rotate_left
  · rintro s ⟨V6, bb, x, y, hs, hV6, hx⟩
    obtain ⟨z, rfl⟩ := hs.out
    try dsimp only
    clear hs
    refine Gx.c (by kernel_rfl) fun K hK => ?_
    simp only [XA, XB, i64_succ m (by omega)]
    exact hK _ ⟨q - 1, by omega, fun f => ⟨m + 1, V6, bb, x, y, StIs.of (by exact rfl), by omega, View.le_trans hV5 hV6, hx⟩⟩
  clear hK
  refine XWP.block ?_
  refine Gx.a (by kernel_rfl) fun K hK => ?_
  simp only [XA]
  refine hK _ ?_
  refine XWP.seq ?_
  (refine XWP.drw [0, 1, 2, 3, 4, 5, 6, 7, 8, 9, 10] (by kernel_rfl) (by kernel_rfl) (by kernel_rfl) fun K hK => ?_) <;> dsimp only [pickOps, List.getElem?_cons_zero, List.getElem?_cons_succ]
  simp only [XU, XA]
  refine ⟨by omega, by omega, ld_mem (Loads.up la1 hV05 _) ?_⟩
  simp only [XU, XA]
  refine ⟨by omega, by omega, ld_mem (Loads.up la2 hV05 _) ?_⟩
  simp only [XA]
  refine call_go (by kernel_rfl) rfl (rbeside_c _ _ _ r t m (e1.mono rnE_ok hV05) (e2.mono rnE_ok hV05) (by omega)) fun v6' V6 hV6 h6 => ?_
  subst h6
  have eSm : Sm (siteF l i k) (m + 1) = Sm (siteF l i k) m + siteF l i k m := rfl
  cases hbe : besB r.ds t.ds m
  · simp only [XA]
    refine hK _ ?_
    refine Gx.t rfl ?_
    refine XWP.exit ?_
    refine fun f => ⟨V6, bb, x, y, StIs.of (by exact rfl), hV6, ?_⟩
    have : siteF l i k m = 0 := by unfold siteF; rw [eds1, eds2, if_neg (by rw [hbe]; simp)]
    rw [eSm, this, Rat.add_zero]
    exact hx5.mono hV6
  simp only [XA]
  refine hK _ ?_
  refine Gx.f rfl ?_
  refine XWP.skip ?_
  have hV06 := View.le_trans hV05 hV6
  refine Gx.a (by kernel_rfl) fun K hK => ?_
  simp only [XA]
  refine call_go (by kernel_rfl) rfl (pzero_c _) fun v7' V7 hV7 h7 => ?_
  obtain ⟨x7, y7, rfl, o3, o4⟩ := h7.form
  simp only [XA, XB, Nat.reduceAdd]
  refine st_rat rfl rfl rfl o3 o4 ?_
  simp only [XA]
  refine hK _ ?_
  have hV07 := View.le_trans hV06 hV7
  have h7 : RatC V7 (.agg #[.bool (ng 0), x7, y7]) (Sm (besF l r.ds m) 0) := h7
  have hqS : ∀ j, j ≤ l.length → QF (Sm (besF l r.ds m) j) := fun j hj => (besS_QB hs r.ds m j hj).qf (by omega)
  refine XWP.cutD 3 (fun s => ∃ (V8 : View) (b8 x8 y8 : Value), StIs (fun Z => [.v (.slice (some ⟨bL, oL, none⟩) l.length c), .v (.int .i64 (i : Int)), .v (.int .i64 (k : Int)), Z 3,Z 4,Z 5, .p 0 0, .p 1 0, .v (.int .i64 (m : Int)), .p 2 0, Z 10,Z 11,Z 12,Z 13,Z 14,Z 15,Z 16,Z 17, .v (.int .i64 (r.ds.length : Int)), .v (.int .i64 (m : Int)), Z 20,Z 21,Z 22,Z 23,Z 24,Z 25,Z 26,Z 27,Z 28,Z 29,Z 30,Z 31,Z 32,Z 33,Z 34,Z 35,Z 36,Z 37,Z 38,Z 39,Z 40,Z 41,Z 42,Z 43,Z 44,Z 45,Z 46,Z 47,Z 48,Z 49,Z 50,Z 51,Z 52,Z 53,Z 54,Z 55,Z 56,Z 57,Z 58,Z 59,Z 60,Z 61,Z 62,Z 63,Z 64,Z 65,Z 66,Z 67,Z 68,Z 69,Z 70]) [[.bool false, .slice none 0 0, .slice none 0 0], [bb, x, y], [b8, x8, y8]] (fun _ => none) V8 s ∧ V7.le V8 ∧ RatC V8 (.agg #[b8, x8, y8]) (besS l r.ds m)) ?_ ?_
  · refine Gx.a (by kernel_rfl) fun K hK => ?_
    simp only [XU, XA]
    refine hK _ ?_
    clear hK
    refine XWP.block ?_
    refine XWP.loopD 3 (fun n s => ∃ (j : Nat) (V8 : View) (b8 x8 y8 : Value), StIs (fun Z => [.v (.slice (some ⟨bL, oL, none⟩) l.length c), .v (.int .i64 (i : Int)), .v (.int .i64 (k : Int)), Z 3,Z 4,Z 5, .p 0 0, .p 1 0, .v (.int .i64 (m : Int)), .p 2 0, Z 10,Z 11,Z 12,Z 13,Z 14,Z 15,Z 16,Z 17, .v (.int .i64 (r.ds.length : Int)), .v (.int .i64 (m : Int)), Z 20,Z 21,Z 22,Z 23,Z 24,Z 25,Z 26,Z 27,Z 28,Z 29,Z 30,Z 31,Z 32,Z 33, .v (.slice (some ⟨bL, oL, none⟩) l.length c), .v (.int .i64 (l.length : Int)), .v (.int .i64 (j : Int)), Z 37,Z 38,Z 39,Z 40,Z 41,Z 42,Z 43,Z 44,Z 45,Z 46,Z 47,Z 48,Z 49,Z 50,Z 51,Z 52,Z 53,Z 54,Z 55,Z 56,Z 57,Z 58,Z 59,Z 60,Z 61,Z 62,Z 63,Z 64,Z 65,Z 66,Z 67,Z 68,Z 69,Z 70]) [[.bool false, .slice none 0 0, .slice none 0 0], [bb, x, y], [b8, x8, y8]] (fun _ => none) V8 s ∧ n + j = l.length ∧ V7.le V8 ∧ RatC V8 (.agg #[b8, x8, y8]) (Sm (besF l r.ds m) j)) l.length ⟨0, V7, _, x7, y7, StIs.of (by exact rfl), by omega, View.le_refl _, h7⟩ ?_
    clear h7 o3 o4
    rintro n s ⟨j, V8, b8, x8, y8, hs', hn, hV8, h8⟩
    obtain ⟨z, rfl⟩ := hs'.out
    try dsimp only
    clear hs'
    by_cases hj : j < l.length
    rotate_left
    · obtain rfl : j = l.length := by omega
      have bj : decide (((l.length : Nat) : Int) < ((l.length : Nat) : Int)) = false := decide_eq_false (by omega)
      refine Gx.a (by kernel_rfl) fun K hK => ?_
      simp only [XA, XB, bj]
      refine hK _ ?_
      refine XWP.seq (Gx.f rfl ?_)
      refine XWP.exit ?_
      exact fun f => ⟨V8, b8, x8, y8, StIs.of (by exact rfl), hV8, h8⟩
    have bj : decide ((j : Int) < (l.length : Int)) = true := decide_eq_true (by omega)
    refine Gx.a (by kernel_rfl) fun K hK => ?_
    simp only [XA, XB, bj]
    refine hK _ ?_
    refine XWP.seq (Gx.t rfl ?_)
    refine XWP.skip ?_
    have hV08 := View.le_trans hV07 hV8
    obtain ⟨g, hg⟩ : ∃ r, l[j]? = some r := ⟨_, List.getElem?_eq_getElem hj⟩
    have hgs := hs g (List.mem_of_getElem? hg)
    obtain ⟨w0, w1, w2, w3, w4, w5, w6, w7, w8, e9, _, ew9, la9, _, _⟩ := (hx.mono rnE_ok hV08).rnAt hg hgs.ok
    have eF : besF l r.ds m j = if besB r.ds g.ds m = true then g.w.q else 0 := by unfold besF; rw [dsOf_at hg, wOf_at hg]
    refine XWP.cutD 3 (fun s => ∃ (V9 : View) (b8 x8 y8 : Value), StIs (fun Z => [.v (.slice (some ⟨bL, oL, none⟩) l.length c), .v (.int .i64 (i : Int)), .v (.int .i64 (k : Int)), Z 3,Z 4,Z 5, .p 0 0, .p 1 0, .v (.int .i64 (m : Int)), .p 2 0, Z 10,Z 11,Z 12,Z 13,Z 14,Z 15,Z 16,Z 17, .v (.int .i64 (r.ds.length : Int)), .v (.int .i64 (m : Int)), Z 20,Z 21,Z 22,Z 23,Z 24,Z 25,Z 26,Z 27,Z 28,Z 29,Z 30,Z 31,Z 32,Z 33, .v (.slice (some ⟨bL, oL, none⟩) l.length c), .v (.int .i64 (l.length : Int)), .v (.int .i64 (j : Int)), Z 37,Z 38,Z 39,Z 40,Z 41,Z 42,Z 43,Z 44,Z 45,Z 46,Z 47,Z 48,Z 49,Z 50,Z 51,Z 52,Z 53,Z 54,Z 55,Z 56,Z 57,Z 58,Z 59,Z 60,Z 61,Z 62,Z 63,Z 64,Z 65,Z 66,Z 67,Z 68,Z 69,Z 70]) [[.bool false, .slice none 0 0, .slice none 0 0], [bb, x, y], [b8, x8, y8]] (fun _ => none) V9 s ∧ V8.le V9 ∧ RatC V9 (.agg #[b8, x8, y8]) (Sm (besF l r.ds m) (j + 1))) ?_ ?_
    rotate_left
    · rintro s ⟨V9, b8, x8, y8, hs, hV9, h8⟩
      obtain ⟨z, rfl⟩ := hs.out
      try dsimp only
      clear hs
      refine Gx.c (by kernel_rfl) fun K hK => ?_
      simp only [XA, XB, i64_succ j (by omega)]
      exact hK _ ⟨n - 1, by omega, fun f => ⟨j + 1, V9, b8, x8, y8, StIs.of (by exact rfl), by omega, View.le_trans hV8 hV9, h8⟩⟩
    clear hK
    have eS : Sm (besF l r.ds m) (j + 1) = Sm (besF l r.ds m) j + besF l r.ds m j := rfl
    refine XWP.block ?_
    refine Gx.a (by kernel_rfl) fun K hK => ?_
    simp only [XU, XA]
    refine ⟨by omega, by omega, ld_mem (la9 _) ?_⟩
    simp only [XU, XA, Nat.reduceAdd]
    refine st_whole (cs := [w0, w1, w2, w3, w4, w5, w6, w7, w8]) shapeT_51 rfl rfl rfl e9.2.1 ?_
    simp only [XA]
    refine hK _ ?_
    (refine XWP.drw [0, 1, 2, 3, 4, 5, 6] (by kernel_rfl) (by kernel_rfl) (by kernel_rfl) fun K hK => ?_) <;> dsimp only [pickOps, List.getElem?_cons_zero, List.getElem?_cons_succ]
    simp only [XU, XA]
    refine ⟨by omega, by omega, ld_mem (Loads.up la1 hV08 _) ?_⟩
    simp only [XU, XA, Nat.reduceAdd, Nat.reduceLeDiff, ↓reduceIte]
    refine call_go (by kernel_rfl) rfl (rbeside_c _ _ _ r g m (e1.mono rnE_ok hV08) e9 (by omega)) fun v9' V9 hV9 h9 => ?_
    subst h9
    cases hbg : besB r.ds g.ds m
    · simp only [XA]
      refine hK _ ?_
      refine Gx.f rfl ?_
      refine XWP.skip ?_
      refine fun f => ⟨V9, b8, x8, y8, StIs.of (by exact rfl), hV9, ?_⟩
      rw [eS, eF, if_neg (by rw [hbg]; simp), Rat.add_zero]
      exact h8.mono hV9
    · simp only [XA]
      refine hK _ ?_
      refine Gx.t rfl ?_
      refine Gx.c (by kernel_rfl) fun K hK => ?_
      simp only [XU, XA, XB, Nat.reduceAdd, Nat.reduceLeDiff, ↓reduceIte]
      refine call_go (by kernel_rfl) rfl (padd_c _ _ _ _ _ ((h8.mono hV9).toV (hqS j (by omega))) ((ew9.mono hV9).toV (hgs.qb.qf (by omega))) (hqS j (by omega)) (hgs.qb.qf (by omega))) fun v10 V10 hV10 h10 => ?_
      obtain ⟨x10, y10, rfl, p5, p6⟩ := h10.form
      simp only [XA]
      refine st_rat rfl rfl rfl p5 p6 ?_
      simp only [XA]
      refine hK _ fun f => ⟨V10, _, x10, y10, StIs.of (by exact rfl), View.le_trans hV9 hV10, ?_⟩
      rw [eS, eF, if_pos hbg]
      exact h10
  clear h7 o3 o4
  rintro s ⟨V8, b8, x8, y8, hs', hV8, h8⟩
  obtain ⟨z, rfl⟩ := hs'.out
  try dsimp only
  clear hs'
  have hV08 := View.le_trans hV07 hV8
  have hqA := (besS_QB hs r.ds m l.length (Nat.le_refl _)).mono (show l.length * 129 ≤ 7740 by omega)
  have hpA := besS_pos hs hi m
  rw [eds1] at hpA
  have hnA : besS l r.ds m ≠ 0 := fun e => by rw [e] at hpA; exact absurd hpA (by decide)
  have hqd := h2.qb.div hqA
  have hqs := (siteS_QB hs ll hi hk m).qf (by omega)
  (refine XWP.drw1 [0, 1, 2, 3, 4, 5, 6, 8, 9, 10, 11, 12, 13, 7, 14, 15, 16, 17] (by kernel_rfl) (by kernel_rfl) (by kernel_rfl) fun K hK => ?_) <;> dsimp only [pickOps, List.getElem?_cons_zero, List.getElem?_cons_succ]
  simp only [XU, XA, XB, Nat.reduceAdd, Nat.reduceLeDiff, ↓reduceIte]
  refine ⟨by omega, by omega, ld_mem (Loads.up lc2 hV08 _) ?_⟩
  simp only [XU, XA, XB, Nat.reduceAdd, Nat.reduceLeDiff, ↓reduceIte]
  refine ⟨by omega, by omega, ld_mem (Loads.up lb1 hV08 _) ?_⟩
  simp only [XU, XA]
  refine call_go (by kernel_rfl) rfl (rby_c _ _ _ _ _ (ew2.mono hV08) h8 (h2.qb.qf (by omega)) (hqA.qf (by omega)) hnA) fun v9' V9 hV9 h9 => ?_
  simp only [XA]
  refine call_go (by kernel_rfl) rfl (rcount_c _ (r.ds.length : Int) (by omega) (by omega)) fun v10 V10 hV10 h10 => ?_
  rw [Int.toNat_natCast] at h10
  have n10 : rv false r.ds.length 1 ≠ 0 := fun e => by
    have := (rv_eq_zero (a := r.ds.length) false (show (1 : Nat) ≠ 0 by omega)).1 e
    omega
  simp only [XA]
  refine call_go (by kernel_rfl) rfl (rby_c _ _ _ _ _ (h9.mono hV10) h10 (hqd.qf (by omega)) ((QB_rv (B := 4) false (by omega) (by omega)).qf (by omega)) n10) fun v11 V11 hV11 h11 => ?_
  rw [by_one (show r.ds.length ≠ 0 by omega)] at h11
  simp only [XA]
  have hql := QB_rv (B := 4) (b := r.ds.length) (a := 1) false (by omega) (by omega)
  have hqx := (hqd.mul hql).qf (by omega)
  have hV5b := View.le_trans hV6 (View.le_trans hV7 hV8)
  refine call_go (by kernel_rfl) rfl (padd_c _ _ _ _ _ (((((hx5.mono hV5b).mono hV9).mono hV10).mono hV11).toV hqs) (h11.toV hqx) hqs hqx) fun v12 V12 hV12 h12 => ?_
  obtain ⟨x12, y12, rfl, p5, p6⟩ := h12.form
  simp only [XA]
  refine st_rat rfl rfl rfl p5 p6 ?_
  simp only [XA]
  refine hK _ fun f => ⟨V12, _, x12, y12, StIs.of (by exact rfl), View.le_trans hV5b (View.le_trans hV9 (View.le_trans hV10 (View.le_trans hV11 hV12))), ?_⟩
  have : siteF l i k m = t.w.q / besS l r.ds m * rv false 1 r.ds.length := by unfold siteF; rw [eds1, eds2, if_pos hbe, ew]
  rw [eSm, this]
  exact h12
end Go.Proofs.YtobjjdnfgamgcaaGreat
end
section
namespace Go.Proofs.YtobjjdnfgamgcaaGreat
open Go Go.RowKit
set_option linter.unusedSimpArgs false
set_option linter.unusedVariables false
attribute [local irreducible] XWP Spec SpecO XPub XCall seqX clX apX stX ldX iaX slX
/-- the priors of those that reach a height -/
def heiF (l : List Rn) (top : Rat) (j : Nat) : Rat := if top ≤ sOf l j then qOf l j else 0
def heiS (l : List Rn) (top : Rat) : Rat := Sm (heiF l top) l.length
def sliT (l : List Rn) (hs : List Rat) (i k h : Nat) : Rat := (cf hs h - cf hs (h - 1)) / sOf l i * (qOf l k / heiS l (cf hs h))
def sliF (l : List Rn) (hs : List Rat) (i k h : Nat) : Rat := if h ≠ 0 ∧ cf hs h ≤ sOf l i ∧ cf hs h ≤ sOf l k then sliT l hs i k h else 0
def sliQ (l : List Rn) (hs : List Rat) (i k : Nat) : Rat := Sm (sliF l hs i k) hs.length
theorem qOf_small {l : List Rn} (hs : ∀ r ∈ l, r.small) {k : Nat} (hk : k < l.length) : QB 128 (qOf l k) ∧ 0 < qOf l k := by
  obtain ⟨r, hr⟩ : ∃ r, l[k]? = some r := ⟨_, List.getElem?_eq_getElem hk⟩
  have := hs r (List.mem_of_getElem? hr)
  rw [qOf_at hr]
  exact ⟨this.qp, this.ppos⟩
theorem sOf_small {l : List Rn} (hs : ∀ r ∈ l, r.small) {k : Nat} (hk : k < l.length) : QB 256 (sOf l k) ∧ 0 < sOf l k := by
  obtain ⟨r, hr⟩ : ∃ r, l[k]? = some r := ⟨_, List.getElem?_eq_getElem hk⟩
  have := hs r (List.mem_of_getElem? hr)
  rw [sOf_at hr]
  exact ⟨this.sb, this.spos⟩
theorem heiS_QB {l : List Rn} (hs : ∀ r ∈ l, r.small) (top : Rat) : ∀ j, j ≤ l.length → QB (j * 129) (Sm (heiF l top) j)
  | 0, _ => QB_zero _
  | j + 1, hj => by
    have ih := heiS_QB hs top j (by omega)
    have h1 : QB 128 (heiF l top j) := by
      unfold heiF
      split
      · exact (qOf_small hs (by omega)).1
      · exact QB_zero _
    exact (ih.add h1).mono (by omega)
theorem Sm_posK {f : Nat → Rat} {n i : Nat} (h0 : ∀ j, j < n → 0 ≤ f j) (hi : i < n) (hp : 0 < f i) : 0 < Sm f n := by
  have h1 : ∀ m, m ≤ n → 0 ≤ Sm f m ∧ (i < m → 0 < Sm f m) := by
    intro m
    induction m with
    | zero => exact fun _ => ⟨Rat.le_refl, fun h => by omega⟩
    | succ m ih =>
      intro hn
      obtain ⟨a, b⟩ := ih (by omega)
      have hz := h0 m (by omega)
      have e : Sm f (m + 1) = Sm f m + f m := rfl
      refine ⟨by rw [e]; grind, fun hin => ?_⟩
      rw [e]
      by_cases hi' : i = m
      · subst hi'
        grind
      · have := b (by omega)
        grind
  exact (h1 n (Nat.le_refl _)).2 hi
theorem heiS_pos {l : List Rn} (hs : ∀ r ∈ l, r.small) {k : Nat} (hk : k < l.length) {top : Rat} (ht : top ≤ sOf l k) : 0 < heiS l top :=
  Sm_posK (fun j hj => by
    unfold heiF
    split
    · exact Rat.le_of_lt (qOf_small hs hj).2
    · exact Rat.le_refl) hk (by unfold heiF; rw [if_pos ht]; exact (qOf_small hs hk).2)
theorem sliF_QB {l : List Rn} {hs : List Rat} (hl : ∀ r ∈ l, r.small) (ll : l.length ≤ 60) (hh : ∀ q ∈ hs, QB 256 q) {i k : Nat} (hi : i < l.length) (hk : k < l.length) {h : Nat} (hlt : h < hs.length) : QB 9000 (sliF l hs i k h) := by
  unfold sliF
  split
  · have h1 := ((hh _ (cf_mem hlt)).sub (hh _ (cf_mem (show h - 1 < hs.length by omega)))).div (sOf_small hl hi).1
    have h2 := (qOf_small hl hk).1.div ((heiS_QB hl (cf hs h) l.length (Nat.le_refl _)).mono (show l.length * 129 ≤ 7740 by omega))
    exact (h1.mul h2).mono (by omega)
  · exact QB_zero _
theorem sliS_QB {l : List Rn} {hs : List Rat} (hl : ∀ r ∈ l, r.small) (ll : l.length ≤ 60) (hh : ∀ q ∈ hs, QB 256 q) {i k : Nat} (hi : i < l.length) (hk : k < l.length) : ∀ m, m ≤ hs.length → QB (m * 9001) (Sm (sliF l hs i k) m)
  | 0, _ => QB_zero _
  | m + 1, hm => ((sliS_QB hl ll hh hi hk m (by omega)).add (sliF_QB hl ll hh hi hk (show m < hs.length by omega))).mono (by omega)
theorem Sm_stop {f : Nat → Rat} {h : Nat} : ∀ n, (∀ j, h ≤ j → j < n → f j = 0) → h ≤ n → Sm f n = Sm f h
  | 0, _, hn => by
    obtain rfl : h = 0 := by omega
    rfl
  | n + 1, hf, hn => by
    by_cases e : h = n + 1
    · rw [e]
    · have ih := Sm_stop n (fun j a b => hf j a (by omega)) (by omega)
      have e1 : Sm f (n + 1) = Sm f n + f n := rfl
      rw [e1, ih, hf n (by omega) (by omega), Rat.add_zero]
theorem sorted_cf {hs : List Rat} (h : hs.Pairwise (· ≤ ·)) {a b : Nat} (hab : a ≤ b) (hb : b < hs.length) : cf hs a ≤ cf hs b := by
  by_cases e : a = b
  · rw [e]; exact Rat.le_refl
  · rw [← cf_get hb, ← cf_get (show a < hs.length by omega)]
    exact List.pairwise_iff_getElem.1 h a b (by omega) hb (by omega)
theorem sli_stop {l : List Rn} {hs : List Rat} (h : hs.Pairwise (· ≤ ·)) {i k t : Nat} (ht : t < hs.length) (hb : ¬ (cf hs t ≤ sOf l i ∧ cf hs t ≤ sOf l k)) : Sm (sliF l hs i k) t = sliQ l hs i k := by
  unfold sliQ
  refine (Sm_stop hs.length (fun j h1 h2 => ?_) (by omega)).symm
  unfold sliF
  rw [if_neg]
  rintro ⟨_, h3, h4⟩
  have := sorted_cf h h1 h2
  exact hb ⟨Rat.le_trans this h3, Rat.le_trans this h4⟩
theorem least_iff (top p q : Rat) : top ≤ ltQ p q ↔ top ≤ p ∧ top ≤ q := by
  unfold ltQ
  split
  · constructor
    · intro h; exact ⟨by grind, h⟩
    · intro h; exact h.2
  · constructor
    · intro h; exact ⟨h, by grind⟩
    · intro h; exact h.1
theorem sgI_pos_iff (p q : Rat) : 0 < sgI (p - q) ↔ q < p := by
  have h1 := sgI_neg_iff p q
  by_cases h : p = q
  · subst h
    have : sgI (p - p) = 0 := by unfold sgI; rw [if_pos (by grind)]
    rw [this]
    constructor
    · intro h; omega
    · intro h; grind
  · have h2 : sgI (p - q) ≠ 0 := by
      unfold sgI
      rw [if_neg (by grind)]
      split <;> omega
    constructor
    · intro h3
      have : ¬ p < q := fun h4 => by have := h1.2 h4; omega
      grind
    · intro h3
      have : ¬ sgI (p - q) < 0 := fun h4 => by have := h1.1 h4; grind
      omega
set_option maxHeartbeats 4000000 in
set_option maxRecDepth 100000 in
theorem cslice1_c (V : View) (b e bH eH i k : Nat) (x hv : Value) (l : List Rn) (hs : List Rat) (hb : V b = some (.cells ([x] : List Value).toArray e (0, 0))) (hbH : V bH = some (.cells ([hv] : List Value).toArray eH (0, 0))) (hx : SlK 18 stE V x l) (hh : Rats V hv hs) (hl : ∀ r ∈ l, r.small) (ll : l.length ≤ 60) (hhq : ∀ q ∈ hs, QB 256 q) (h0 : 0 < hs.length) (hhl : hs.length ≤ 62) (hsrt : hs.Pairwise (· ≤ ·)) (hi : i < l.length) (hk : k < l.length) :
    Spec Tryz.prog 73 [.int .i64 (i : Int), .int .i64 (k : Int), .pointer (some ⟨bH, 0, none⟩), .pointer (some ⟨b, 0, none⟩)] V fun v' V' => RatC V' v' (sliQ l hs i k) := by
  obtain ⟨A, c, rfl, _, _⟩ := hx.form
  obtain ⟨bL, oL, rfl⟩ := SlK.addr hx (by omega)
  obtain ⟨AH, cH, rfl, _, _⟩ := hh.form
  obtain ⟨bR, oR, rfl⟩ := SlAt.addr hh h0
  obtain ⟨r, hr⟩ : ∃ r, l[i]? = some r := ⟨_, List.getElem?_eq_getElem hi⟩
  obtain ⟨t, ht⟩ : ∃ r, l[k]? = some r := ⟨_, List.getElem?_eq_getElem hk⟩
  have h1 := hl r (List.mem_of_getElem? hr)
  have h2 := hl t (List.mem_of_getElem? ht)
  obtain ⟨rc1, w1, q1, s1, e1, ew1, eq1, es1, ld1⟩ := hx.st hr
  obtain ⟨rc2, w2, q2, s2, e2, ew2, eq2, es2, ld2⟩ := hx.st ht
  rw [← sOf_at hr] at es1
  rw [← sOf_at ht] at es2
  rw [← qOf_at ht] at eq2
  have hq1 := sOf_small hl hi
  have hq2 := sOf_small hl hk
  have hq3 := qOf_small hl hk
  have hld := fun (V' : View) (h : V.le V') => ldV1 (off := 0) (h _ _ hb) rfl shapeT_83 (fun _ => none)
  have hldH := fun (V' : View) (h : V.le V') => ldV1 (off := 0) (h _ _ hbH) rfl shapeT_24 (fun _ => none)
  have lds1 := fun H => (ld1 H).2.2.2
  have lds2 := fun H => (ld2 H).2.2.2
  have ldq2 := fun H => (ld2 H).2.2.1
  refine (Spec.enter Tryz.func73 rfl fun Γ => ?_)
  simp only [Tryz.ntmps73, List.map_cons, List.map_nil, List.length_cons, List.length_nil, Nat.reduceAdd, Nat.reduceSub, List.replicate_succ, List.replicate_zero, List.cons_append, List.nil_append]
  refine Gx.a (by kernel_rfl) fun K hK => ?_
  simp only [XA, XB]
  refine hK _ ?_
  refine Gx.a (by kernel_rfl) fun K hK => ?_
  simp only [XA]
  refine call_go (by kernel_rfl) rfl (qzero_c _) fun v3 V3 hV3 h3 => ?_
  obtain ⟨x3, y3, rfl, o1, o2⟩ := h3.form
  simp only [XA, XB]
  refine st_rat rfl rfl rfl o1 o2 ?_
  simp only [XA]
  refine hK _ ?_
  have h3 : RatC V3 (.agg #[.bool (ng 0), x3, y3]) (Sm (sliF l hs i k) 1) := by
    have : Sm (sliF l hs i k) 1 = 0 := by
      show 0 + sliF l hs i k 0 = 0
      unfold sliF
      rw [if_neg (fun h => h.1 rfl)]; exact Rat.add_zero 0
    rw [this]; exact h3
  refine XWP.cutD 2 (fun s => ∃ (V5 : View) (bb x y : Value), StIs (fun Z => [Z 0,Z 1,Z 2,Z 3,Z 4,Z 5, .p 0 0, .p 1 0, Z 8,Z 9,Z 10,Z 11,Z 12,Z 13,Z 14,Z 15,Z 16,Z 17,Z 18,Z 19,Z 20,Z 21,Z 22,Z 23,Z 24,Z 25,Z 26,Z 27,Z 28,Z 29,Z 30,Z 31,Z 32,Z 33,Z 34,Z 35,Z 36,Z 37,Z 38,Z 39,Z 40,Z 41,Z 42,Z 43,Z 44,Z 45,Z 46,Z 47,Z 48,Z 49,Z 50,Z 51,Z 52,Z 53,Z 54,Z 55,Z 56,Z 57,Z 58,Z 59,Z 60,Z 61,Z 62,Z 63,Z 64,Z 65,Z 66,Z 67,Z 68,Z 69,Z 70,Z 71,Z 72,Z 73,Z 74,Z 75,Z 76,Z 77,Z 78]) [[.bool false, .slice none 0 0, .slice none 0 0], [bb, x, y]] (fun _ => none) V5 s ∧ RatC V5 (.agg #[bb, x, y]) (sliQ l hs i k)) ?_ ?_
  rotate_left
  · rintro s ⟨V5, bb, x, y, hs, hx⟩
    obtain ⟨z, rfl⟩ := hs.out
    try dsimp only
    clear hs
    obtain ⟨x', y', e, p1, p2⟩ := hx.form
    cases e
    refine Gx.a (by kernel_rfl) fun K hK => ?_
    simp only [XA, XB, Nat.reduceAdd, Nat.reduceLeDiff, ↓reduceIte]
    refine st_rat rfl rfl rfl p1 p2 ?_
    simp only [XA]
    refine hK _ (XWP.ret ?_)
    try simp only [thenX_ret, inBlockX_ret]
    exact ret_rat1 rfl rfl rfl hx
  refine Gx.a (by kernel_rfl) fun K hK => ?_
  simp only [XA]
  refine hK _ ?_
  clear hK
  refine XWP.block ?_
  refine XWP.loopD 2 (fun q s => ∃ (h : Nat) (V5 : View) (bb x y : Value), StIs (fun Z => [.v (.int .i64 (i : Int)), .v (.int .i64 (k : Int)), .v (.pointer (some ⟨bH, 0, none⟩)), .v (.pointer (some ⟨b, 0, none⟩)), Z 4,Z 5, .p 0 0, .p 1 0, .v (.int .i64 (h : Int)), Z 9,Z 10,Z 11,Z 12,Z 13,Z 14,Z 15,Z 16,Z 17,Z 18,Z 19,Z 20,Z 21,Z 22,Z 23,Z 24,Z 25,Z 26,Z 27,Z 28,Z 29,Z 30,Z 31,Z 32,Z 33,Z 34,Z 35,Z 36,Z 37,Z 38,Z 39,Z 40,Z 41,Z 42,Z 43,Z 44,Z 45,Z 46,Z 47,Z 48,Z 49,Z 50,Z 51,Z 52,Z 53,Z 54,Z 55,Z 56,Z 57,Z 58,Z 59,Z 60,Z 61,Z 62,Z 63,Z 64,Z 65,Z 66,Z 67,Z 68,Z 69,Z 70,Z 71,Z 72,Z 73,Z 74,Z 75,Z 76,Z 77,Z 78]) [[.bool false, .slice none 0 0, .slice none 0 0], [bb, x, y]] (fun _ => none) V5 s ∧ q + h = hs.length ∧ 1 ≤ h ∧ V3.le V5 ∧ RatC V5 (.agg #[bb, x, y]) (Sm (sliF l hs i k) h)) (hs.length - 1) ⟨1, V3, _, x3, y3, StIs.of (by exact rfl), by omega, by omega, View.le_refl _, h3⟩ ?_
  clear h3 o1 o2
  rintro q s ⟨h, V5, bb, x, y, hs', hq, hh1, hV5, hx5⟩
  obtain ⟨z, rfl⟩ := hs'.out
  try dsimp only
  clear hs'
  have hV05 := View.le_trans hV3 hV5
  refine XWP.seq ?_
  by_cases hm : h < hs.length
  rotate_left
  · obtain rfl : h = hs.length := by omega
    have b1 : decide (((hs.length : Nat) : Int) < ((hs.length : Nat) : Int)) = false := decide_eq_false (by omega)
    refine Gx.a (by kernel_rfl) fun K hK => ?_
    simp only [XA]
    refine ld_mem (hldH _ hV05) ?_
    simp only [XA, XB, b1]
    refine hK _ ?_
    refine Gx.f rfl ?_
    refine XWP.exit ?_
    exact fun f => ⟨V5, bb, x, y, StIs.of (by exact rfl), hx5⟩
  have b1 : decide ((h : Int) < (hs.length : Int)) = true := decide_eq_true (by omega)
  refine Gx.a (by kernel_rfl) fun K hK => ?_
  simp only [XA]
  refine ld_mem (hldH _ hV05) ?_
  simp only [XA, XB, b1]
  refine hK _ ?_
  refine Gx.t rfl ?_
  refine XWP.skip ?_
  refine XWP.cutD 2 (fun s => ∃ (V6 : View) (bb x y : Value), StIs (fun Z => [.v (.int .i64 (i : Int)), .v (.int .i64 (k : Int)), .v (.pointer (some ⟨bH, 0, none⟩)), .v (.pointer (some ⟨b, 0, none⟩)), Z 4,Z 5, .p 0 0, .p 1 0, .v (.int .i64 (h : Int)), Z 9,Z 10,Z 11,Z 12,Z 13,Z 14,Z 15,Z 16,Z 17,Z 18,Z 19,Z 20,Z 21,Z 22,Z 23,Z 24,Z 25,Z 26,Z 27,Z 28,Z 29,Z 30,Z 31,Z 32,Z 33,Z 34,Z 35,Z 36,Z 37,Z 38,Z 39,Z 40,Z 41,Z 42,Z 43,Z 44,Z 45,Z 46,Z 47,Z 48,Z 49,Z 50,Z 51,Z 52,Z 53,Z 54,Z 55,Z 56,Z 57,Z 58,Z 59,Z 60,Z 61,Z 62,Z 63,Z 64,Z 65,Z 66,Z 67,Z 68,Z 69,Z 70,Z 71,Z 72,Z 73,Z 74,Z 75,Z 76,Z 77,Z 78]) [[.bool false, .slice none 0 0, .slice none 0 0], [bb, x, y]] (fun _ => none) V6 s ∧ V5.le V6 ∧ RatC V6 (.agg #[bb, x, y]) (Sm (sliF l hs i k) (h + 1))) ?_ ?_
  rotate_left
  · rintro s ⟨V6, bb, x, y, hs, hV6, hx⟩
    obtain ⟨z, rfl⟩ := hs.out
    try dsimp only
    clear hs
    refine Gx.c (by kernel_rfl) fun K hK => ?_
    simp only [XA, XB, i64_succ h (by omega)]
    exact hK _ ⟨q - 1, by omega, fun f => ⟨h + 1, V6, bb, x, y, StIs.of (by exact rfl), by omega, by omega, View.le_trans hV5 hV6, hx⟩⟩
  clear hK
  refine XWP.block ?_
  obtain ⟨m9, n9, d9, hx9, ⟨p7, p8, p9⟩, hld9⟩ := Rats.get (Rats.up hh hV05) h (by omega)
  obtain ⟨m8, n8, d8, hx8, _, hld8⟩ := Rats.get (Rats.up hh hV05) (h - 1) (by omega)
  have ft := hhq _ (cf_mem hm)
  have fp := hhq _ (cf_mem (show h - 1 < hs.length by omega))
  refine Gx.a (by kernel_rfl) fun K hK => ?_
  simp only [XA]
  refine ld_mem (hldH _ hV05) ?_
  simp only [XA, XB]
  refine ⟨by omega, by omega, ld_mem (hld9 _) ?_⟩
  simp only [XA, XB, Nat.reduceAdd]
  refine st_rat rfl rfl p7 p8 p9 ?_
  simp only [XA]
  refine hK _ ?_
  refine XWP.seq ?_
  (refine XWP.drw [0, 1, 2, 3, 4, 5, 6, 7, 8, 9, 10, 11, 12, 13] (by kernel_rfl) (by kernel_rfl) (by kernel_rfl) fun K hK => ?_) <;> dsimp only [pickOps, List.getElem?_cons_zero, List.getElem?_cons_succ]
  simp only [XA, XB, Nat.reduceAdd, Nat.reduceLeDiff, ↓reduceIte]
  refine ld_mem (hld _ hV05) ?_
  simp only [XV, XA]
  refine ⟨by omega, by omega, ld_mem (Loads.up lds1 hV05 _) ?_⟩
  simp only [XA]
  refine ld_mem (hld _ hV05) ?_
  simp only [XV, XA]
  refine ⟨by omega, by omega, ld_mem (Loads.up lds2 hV05 _) ?_⟩
  simp only [XA]
  refine call_go (by kernel_rfl) rfl (qleast_c _ _ _ _ _ (es1.mono hV05) (es2.mono hV05) (hq1.1.qf (by omega)) (hq2.1.qf (by omega))) fun v6 V6 hV6 h6 => ?_
  simp only [XA]
  have hb6 := QB_lt hq1.1 hq2.1
  refine call_go (by kernel_rfl) rfl (qcmp_c _ _ _ _ _ (hx9.mono hV6) h6 (ft.qf (by omega)) (hb6.qf (by omega))) fun v7 V7 hV7 h7 => ?_
  subst h7
  have eSm : Sm (sliF l hs i k) (h + 1) = Sm (sliF l hs i k) h + sliF l hs i k h := rfl
  have hV67 := View.le_trans hV6 hV7
  by_cases hbr : cf hs h ≤ sOf l i ∧ cf hs h ≤ sOf l k
  rotate_left
  · have b2 : decide (0 < sgI (cf hs h - ltQ (sOf l i) (sOf l k))) = true := decide_eq_true ((sgI_pos_iff _ _).2 (Rat.not_le.1 fun e => hbr ((least_iff _ _ _).1 e)))
    simp only [XA, XB, b2]
    refine hK _ ?_
    refine Gx.t rfl ?_
    refine XWP.exit ?_
    exact fun f => ⟨V7, bb, x, y, StIs.of (by exact rfl), by rw [← sli_stop hsrt hm hbr]; exact hx5.mono hV67⟩
  have b2 : decide (0 < sgI (cf hs h - ltQ (sOf l i) (sOf l k))) = false := decide_eq_false fun e => by
    have := (sgI_pos_iff _ _).1 e
    exact Rat.not_le.2 this ((least_iff _ _ _).2 hbr)
  simp only [XA, XB, b2]
  refine hK _ ?_
  refine Gx.f rfl ?_
  refine XWP.skip ?_
  have hV07 := View.le_trans hV05 hV67
  refine Gx.a (by kernel_rfl) fun K hK => ?_
  simp only [XA]
  refine call_go (by kernel_rfl) rfl (qzero_c _) fun v8 V8 hV8 h8 => ?_
  obtain ⟨x8, y8, rfl, o3, o4⟩ := h8.form
  simp only [XA, XB, Nat.reduceAdd]
  refine st_rat rfl rfl rfl o3 o4 ?_
  simp only [XA]
  refine hK _ ?_
  have hV08 := View.le_trans hV07 hV8
  have h8 : RatC V8 (.agg #[.bool (ng 0), x8, y8]) (Sm (heiF l (cf hs h)) 0) := h8
  have hx9' := (hx9.mono hV67).mono hV8
  have hqS : ∀ j, j ≤ l.length → QF (Sm (heiF l (cf hs h)) j) := fun j hj => (heiS_QB hl (cf hs h) j hj).qf (by omega)
  refine XWP.cutD 4 (fun s => ∃ (V9 : View) (b9 x9 y9 : Value), StIs (fun Z => [.v (.int .i64 (i : Int)), .v (.int .i64 (k : Int)), .v (.pointer (some ⟨bH, 0, none⟩)), .v (.pointer (some ⟨b, 0, none⟩)), Z 4,Z 5, .p 0 0, .p 1 0, .v (.int .i64 (h : Int)), .p 2 0, .p 3 0, Z 11,Z 12,Z 13,Z 14,Z 15,Z 16,Z 17,Z 18,Z 19,Z 20,Z 21,Z 22,Z 23,Z 24,Z 25,Z 26,Z 27,Z 28,Z 29,Z 30,Z 31,Z 32,Z 33,Z 34,Z 35,Z 36,Z 37,Z 38,Z 39,Z 40,Z 41,Z 42,Z 43,Z 44,Z 45,Z 46,Z 47,Z 48,Z 49,Z 50,Z 51,Z 52,Z 53,Z 54,Z 55,Z 56,Z 57,Z 58,Z 59,Z 60,Z 61,Z 62,Z 63,Z 64,Z 65,Z 66,Z 67,Z 68,Z 69,Z 70,Z 71,Z 72,Z 73,Z 74,Z 75,Z 76,Z 77,Z 78]) [[.bool false, .slice none 0 0, .slice none 0 0], [bb, x, y], [m9, n9, d9], [b9, x9, y9]] (fun _ => none) V9 s ∧ V8.le V9 ∧ RatC V9 (.agg #[b9, x9, y9]) (heiS l (cf hs h))) ?_ ?_
  · refine Gx.a (by kernel_rfl) fun K hK => ?_
    simp only [XA]
    refine ld_mem (hld _ hV08) ?_
    simp only [XV, XA]
    refine hK _ ?_
    clear hK
    refine XWP.block ?_
    refine XWP.loopD 4 (fun n s => ∃ (j : Nat) (V9 : View) (b9 x9 y9 : Value), StIs (fun Z => [.v (.int .i64 (i : Int)), .v (.int .i64 (k : Int)), .v (.pointer (some ⟨bH, 0, none⟩)), .v (.pointer (some ⟨b, 0, none⟩)), Z 4,Z 5, .p 0 0, .p 1 0, .v (.int .i64 (h : Int)), .p 2 0, .p 3 0, Z 11,Z 12,Z 13,Z 14,Z 15,Z 16,Z 17,Z 18,Z 19,Z 20,Z 21,Z 22,Z 23,Z 24,Z 25,Z 26,Z 27,Z 28,Z 29,Z 30,Z 31,Z 32,Z 33,Z 34,Z 35,Z 36,Z 37,Z 38, .v (.slice (some ⟨bL, oL, none⟩) l.length c), .v (.int .i64 (l.length : Int)), .v (.int .i64 (j : Int)), Z 42,Z 43,Z 44,Z 45,Z 46,Z 47,Z 48,Z 49,Z 50,Z 51,Z 52,Z 53,Z 54,Z 55,Z 56,Z 57,Z 58,Z 59,Z 60,Z 61,Z 62,Z 63,Z 64,Z 65,Z 66,Z 67,Z 68,Z 69,Z 70,Z 71,Z 72,Z 73,Z 74,Z 75,Z 76,Z 77,Z 78]) [[.bool false, .slice none 0 0, .slice none 0 0], [bb, x, y], [m9, n9, d9], [b9, x9, y9]] (fun _ => none) V9 s ∧ n + j = l.length ∧ V8.le V9 ∧ RatC V9 (.agg #[b9, x9, y9]) (Sm (heiF l (cf hs h)) j)) l.length ⟨0, V8, _, x8, y8, StIs.of (by exact rfl), by omega, View.le_refl _, h8⟩ ?_
    clear h8 o3 o4
    rintro n s ⟨j, V9, b9, x9, y9, hs', hn, hV9, h9⟩
    obtain ⟨z, rfl⟩ := hs'.out
    try dsimp only
    clear hs'
    by_cases hj : j < l.length
    rotate_left
    · obtain rfl : j = l.length := by omega
      have bj : decide (((l.length : Nat) : Int) < ((l.length : Nat) : Int)) = false := decide_eq_false (by omega)
      refine Gx.a (by kernel_rfl) fun K hK => ?_
      simp only [XA, XB, bj]
      refine hK _ ?_
      refine XWP.seq (Gx.f rfl ?_)
      refine XWP.exit ?_
      exact fun f => ⟨V9, b9, x9, y9, StIs.of (by exact rfl), hV9, h9⟩
    have bj : decide ((j : Int) < (l.length : Int)) = true := decide_eq_true (by omega)
    refine Gx.a (by kernel_rfl) fun K hK => ?_
    simp only [XA, XB, bj]
    refine hK _ ?_
    refine XWP.seq (Gx.t rfl ?_)
    refine XWP.skip ?_
    have hV09 := View.le_trans hV08 hV9
    obtain ⟨g, hg⟩ : ∃ r, l[j]? = some r := ⟨_, List.getElem?_eq_getElem hj⟩
    obtain ⟨cs9, ec9, lc9⟩ := (hx.mono stE_ok hV09).st2 hg
    obtain ⟨_, hone9, w0, w1', w2', w3, w4, w5, w6, w7, w8, mA, nA, dA, qq1, qq2, qq3, ss1, ss2, ss3, rfl, er9, ew9, eq9, es9⟩ := ec9
    rw [← qOf_at hg] at eq9
    rw [← sOf_at hg] at es9
    have hqg := qOf_small hl hj
    have hsg := sOf_small hl hj
    refine XWP.cutD 4 (fun s => ∃ (VA : View) (b9 x9 y9 : Value), StIs (fun Z => [.v (.int .i64 (i : Int)), .v (.int .i64 (k : Int)), .v (.pointer (some ⟨bH, 0, none⟩)), .v (.pointer (some ⟨b, 0, none⟩)), Z 4,Z 5, .p 0 0, .p 1 0, .v (.int .i64 (h : Int)), .p 2 0, .p 3 0, Z 11,Z 12,Z 13,Z 14,Z 15,Z 16,Z 17,Z 18,Z 19,Z 20,Z 21,Z 22,Z 23,Z 24,Z 25,Z 26,Z 27,Z 28,Z 29,Z 30,Z 31,Z 32,Z 33,Z 34,Z 35,Z 36,Z 37,Z 38, .v (.slice (some ⟨bL, oL, none⟩) l.length c), .v (.int .i64 (l.length : Int)), .v (.int .i64 (j : Int)), Z 42,Z 43,Z 44,Z 45,Z 46,Z 47,Z 48,Z 49,Z 50,Z 51,Z 52,Z 53,Z 54,Z 55,Z 56,Z 57,Z 58,Z 59,Z 60,Z 61,Z 62,Z 63,Z 64,Z 65,Z 66,Z 67,Z 68,Z 69,Z 70,Z 71,Z 72,Z 73,Z 74,Z 75,Z 76,Z 77,Z 78]) [[.bool false, .slice none 0 0, .slice none 0 0], [bb, x, y], [m9, n9, d9], [b9, x9, y9]] (fun _ => none) VA s ∧ V9.le VA ∧ RatC VA (.agg #[b9, x9, y9]) (Sm (heiF l (cf hs h)) (j + 1))) ?_ ?_
    rotate_left
    · rintro s ⟨VA, b9, x9, y9, hs, hVA, h9⟩
      obtain ⟨z, rfl⟩ := hs.out
      try dsimp only
      clear hs
      refine Gx.c (by kernel_rfl) fun K hK => ?_
      simp only [XA, XB, i64_succ j (by omega)]
      exact hK _ ⟨n - 1, by omega, fun f => ⟨j + 1, VA, b9, x9, y9, StIs.of (by exact rfl), by omega, View.le_trans hV9 hVA, h9⟩⟩
    clear hK
    have eS : Sm (heiF l (cf hs h)) (j + 1) = Sm (heiF l (cf hs h)) j + heiF l (cf hs h) j := rfl
    refine XWP.block ?_
    refine Gx.a (by kernel_rfl) fun K hK => ?_
    simp only [XV, XA]
    refine ⟨by omega, by omega, ld_mem (lc9 _) ?_⟩
    simp only [XV, XA, Nat.reduceAdd]
    refine st_whole (cs := [w0, w1', w2', w3, w4, w5, w6, w7, w8, mA, nA, dA, qq1, qq2, qq3, ss1, ss2, ss3]) shapeT_87 rfl rfl rfl hone9 ?_
    simp only [XA]
    refine hK _ ?_
    refine Gx.a (by kernel_rfl) fun K hK => ?_
    simp only [XV, XA, XB, Nat.reduceAdd, Nat.reduceLeDiff, ↓reduceIte]
    refine call_go (by kernel_rfl) rfl (qcmp_c _ _ _ _ _ es9 (hx9'.mono hV9) (hsg.1.qf (by omega)) (ft.qf (by omega))) fun vA VA hVA hA => ?_
    subst hA
    have eF : heiF l (cf hs h) j = if cf hs h ≤ sOf l j then qOf l j else 0 := rfl
    by_cases hle : cf hs h ≤ sOf l j
    rotate_left
    · have bc : decide (0 ≤ sgI (sOf l j - cf hs h)) = false := decide_eq_false fun e => by
        have := (sgI_neg_iff _ _).2 (Rat.not_le.1 hle)
        omega
      simp only [XA, XB, bc]
      refine hK _ ?_
      refine Gx.f rfl ?_
      refine XWP.skip ?_
      refine fun f => ⟨VA, b9, x9, y9, StIs.of (by exact rfl), hVA, ?_⟩
      rw [eS, eF, if_neg hle, Rat.add_zero]
      exact h9.mono hVA
    have bc : decide (0 ≤ sgI (sOf l j - cf hs h)) = true := decide_eq_true (by
      have : ¬ sgI (sOf l j - cf hs h) < 0 := fun e => Rat.not_lt.2 hle ((sgI_neg_iff _ _).1 e)
      omega)
    simp only [XA, XB, bc]
    refine hK _ ?_
    refine Gx.t rfl ?_
    refine Gx.c (by kernel_rfl) fun K hK => ?_
    simp only [XV, XA, XB, Nat.reduceAdd, Nat.reduceLeDiff, ↓reduceIte]
    refine call_go (by kernel_rfl) rfl (qadd_c _ _ _ _ _ (h9.mono hVA) (eq9.mono hVA) (hqS j (by omega)) (hqg.1.qf (by omega))) fun vB VB hVB hB => ?_
    obtain ⟨xB, yB, rfl, p5, p6⟩ := hB.form
    simp only [XA]
    refine st_rat rfl rfl rfl p5 p6 ?_
    simp only [XA]
    refine hK _ fun f => ⟨VB, _, xB, yB, StIs.of (by exact rfl), View.le_trans hVA hVB, ?_⟩
    rw [eS, eF, if_pos hle]
    exact hB
  clear h8 o3 o4
  rintro s ⟨V9, b9, x9, y9, hs', hV9, h9⟩
  obtain ⟨z, rfl⟩ := hs'.out
  try dsimp only
  clear hs'
  have hV09 := View.le_trans hV08 hV9
  have hqA := (heiS_QB hl (cf hs h) l.length (Nat.le_refl _)).mono (show l.length * 129 ≤ 7740 by omega)
  have hpA := heiS_pos hl hk hbr.2
  have hnA : heiS l (cf hs h) ≠ 0 := fun e => by rw [e] at hpA; exact absurd hpA (by decide)
  have hnS : sOf l i ≠ 0 := fun e => by have := hq1.2; rw [e] at this; exact absurd this (by decide)
  have hqs := sliS_QB hl ll hhq hi hk h (by omega)
  have hqf := sliF_QB hl ll hhq hi hk hm
  have ef : sliF l hs i k h = (cf hs h - cf hs (h - 1)) / sOf l i * (qOf l k / heiS l (cf hs h)) := by unfold sliF; rw [if_pos ⟨by omega, hbr⟩]; rfl
  have qsb := ft.sub fp
  have qd1 := qsb.div hq1.1
  have qd2 := hq3.1.div hqA
  have hV59 := View.le_trans hV67 (View.le_trans hV8 hV9)
  (refine XWP.drw1 [0, 1, 2, 3, 4, 5, 6, 8, 9, 10, 11, 12, 14, 15, 16, 17, 18, 19, 7, 13, 20, 21, 22, 23] (by kernel_rfl) (by kernel_rfl) (by kernel_rfl) fun K hK => ?_) <;> dsimp only [pickOps, List.getElem?_cons_zero, List.getElem?_cons_succ]
  simp only [XA, XB, Nat.reduceAdd, Nat.reduceLeDiff, ↓reduceIte, i64_pred h hh1 (by omega)]
  refine ld_mem (hldH _ hV09) ?_
  simp only [XA, XB, i64_pred h hh1 (by omega)]
  refine ⟨by omega, by omega, ld_mem (Loads.up hld8 hV59 _) ?_⟩
  simp only [XA]
  refine ld_mem (hld _ hV09) ?_
  simp only [XV, XA]
  refine ⟨by omega, by omega, ld_mem (Loads.up lds1 hV09 _) ?_⟩
  simp only [XA]
  refine ld_mem (hld _ hV09) ?_
  simp only [XV, XA]
  refine ⟨by omega, by omega, ld_mem (Loads.up ldq2 hV09 _) ?_⟩
  simp only [XA, XB, Nat.reduceAdd, Nat.reduceLeDiff, ↓reduceIte]
  refine call_go (by kernel_rfl) rfl (qsub_c _ _ _ _ _ (hx9.mono hV59) (hx8.mono hV59) (ft.qf (by omega)) (fp.qf (by omega))) fun vA VA hVA hA => ?_
  simp only [XA]
  refine call_go (by kernel_rfl) rfl (kby_c _ _ _ _ _ hA ((es1.mono hV09).mono hVA) (qsb.qf (by omega)) (hq1.1.qf (by omega)) hnS) fun vB VB hVB hB => ?_
  simp only [XA]
  refine call_go (by kernel_rfl) rfl (kby_c _ _ _ _ _ (((eq2.mono hV09).mono hVA).mono hVB) ((h9.mono hVA).mono hVB) (hq3.1.qf (by omega)) (hqA.qf (by omega)) hnA) fun vC VC hVC hC => ?_
  simp only [XA]
  refine call_go (by kernel_rfl) rfl (qmul_c _ _ _ _ _ (hB.mono hVC) hC (qd1.qf (by omega)) (qd2.qf (by omega))) fun vD VD hVD hD => ?_
  simp only [XA]
  refine call_go (by kernel_rfl) rfl (qadd_c _ _ _ _ _ (((((hx5.mono hV59).mono hVA).mono hVB).mono hVC).mono hVD) hD (hqs.qf (by omega)) ((qd1.mul qd2).qf (by omega))) fun vE VE hVE hE => ?_
  obtain ⟨xE, yE, rfl, p5, p6⟩ := hE.form
  simp only [XA]
  refine st_rat rfl rfl rfl p5 p6 ?_
  simp only [XA]
  refine hK _ fun f => ⟨VE, _, xE, yE, StIs.of (by exact rfl), View.le_trans hV59 (View.le_trans hVA (View.le_trans hVB (View.le_trans hVC (View.le_trans hVD hVE)))), ?_⟩
  rw [eSm, ef]
  exact hE
end Go.Proofs.YtobjjdnfgamgcaaGreat
end
section
namespace Go.Proofs.YtobjjdnfgamgcaaGreat
open Go Go.RowKit
set_option linter.unusedSimpArgs false
set_option linter.unusedVariables false
attribute [local irreducible] XWP Spec SpecO XPub XCall seqX clX apX stX ldX iaX slX
/-- the heights: 0 and the scores -/
def heiL (l : List Rn) (n : Nat) : List Rat := 0 :: (List.range n).map (sOf l)
structure HsOk (l : List Rn) (hs : List Rat) : Prop where
  srt : hs.Pairwise (· < ·)
  mem : ∀ q, q ∈ hs ↔ q = 0 ∨ ∃ j, j < l.length ∧ q = sOf l j
  len : hs.length ≤ l.length + 1
theorem heiL_succ (l : List Rn) (n : Nat) : heiL l (n + 1) = heiL l n ++ [sOf l n] := by
  unfold heiL
  rw [List.range_succ, List.map_append, List.map_singleton, List.cons_append]
theorem heiL_len (l : List Rn) (n : Nat) : (heiL l n).length = n + 1 := by
  unfold heiL
  rw [List.length_cons, List.length_map, List.length_range]
theorem mem_heiL (l : List Rn) (n : Nat) (q : Rat) : q ∈ heiL l n ↔ q = 0 ∨ ∃ j, j < n ∧ q = sOf l j := by
  unfold heiL
  rw [List.mem_cons, List.mem_map]
  constructor
  · rintro (h | ⟨j, h1, h2⟩)
    · exact .inl h
    · exact .inr ⟨j, List.mem_range.1 h1, h2.symm⟩
  · rintro (h | ⟨j, h1, h2⟩)
    · exact .inl h
    · exact .inr ⟨j, List.mem_range.2 h1, h2.symm⟩
theorem ddN_mem {l : List Rat} : ∀ n, n ≤ l.length → ∀ q, q ∈ ddN l n ↔ q ∈ l.take n
  | 0, _, q => by simp [ddN]
  | n + 1, hn, q => by
    have ih := ddN_mem (l := l) n (by omega) q
    rw [take_succ_cf (show n < l.length by omega), List.mem_append, List.mem_singleton]
    by_cases h : n ≠ 0 ∧ cf l n = cf l (n - 1)
    · rw [ddN_dup h.1 h.2, ih]
      constructor
      · exact .inl
      · rintro (h1 | h1)
        · exact h1
        · rw [h1, h.2]
          have hlt : n - 1 < (l.take n).length := by rw [List.length_take]; omega
          have : (l.take n)[n - 1] = cf l (n - 1) := by
            rw [List.getElem_take]; exact cf_get (by omega)
          rw [← this]; exact List.getElem_mem hlt
    · rw [ddN_new (by
        by_cases h0 : n = 0
        · exact .inl h0
        · exact .inr fun e => h ⟨h0, e⟩), List.mem_append, List.mem_singleton, ih]
theorem ddN_lt {l : List Rat} (hs : l.Pairwise (· ≤ ·)) : ∀ n, n ≤ l.length → (ddN l n).Pairwise (· < ·)
  | 0, _ => List.Pairwise.nil
  | n + 1, hn => by
    have ih := ddN_lt hs n (by omega)
    by_cases h : n ≠ 0 ∧ cf l n = cf l (n - 1)
    · rw [ddN_dup h.1 h.2]; exact ih
    · rw [ddN_new (by
        by_cases h0 : n = 0
        · exact .inl h0
        · exact .inr fun e => h ⟨h0, e⟩), List.pairwise_append]
      refine ⟨ih, List.pairwise_singleton _ _, fun a ha b hb => ?_⟩
      rw [List.mem_singleton] at hb
      subst hb
      have ha := (ddN_mem n (by omega) a).1 ha
      obtain ⟨j, hj, rfl⟩ := List.mem_iff_getElem.1 ha
      rw [List.length_take] at hj
      rw [List.getElem_take, cf_get]
      have h1 := sorted_cf hs (show j ≤ n - 1 by omega) (by omega)
      have h2 := sorted_cf hs (show n - 1 ≤ n by omega) (by omega)
      have h3 : cf l n ≠ cf l (n - 1) := fun e => h ⟨by omega, e⟩
      grind
theorem hs_ok {l : List Rn} {m : List Rat} (hp : m.Perm (heiL l l.length)) (hs : m.Pairwise (· ≤ ·)) : HsOk l (ddN m m.length) := by
  refine ⟨ddN_lt hs _ (Nat.le_refl _), fun q => ?_, ?_⟩
  · rw [ddN_mem _ (Nat.le_refl _), List.take_length, hp.mem_iff, mem_heiL]
  · have := ddN_len m m.length
    rw [hp.length_eq, heiL_len] at this
    rw [hp.length_eq, heiL_len]
    exact this
theorem HsOk.pos {l : List Rn} {hs : List Rat} (h : HsOk l hs) : 0 < hs.length := List.length_pos_of_mem ((h.mem 0).2 (.inl rfl))
theorem HsOk.le {l : List Rn} {hs : List Rat} (h : HsOk l hs) : hs.Pairwise (· ≤ ·) := h.srt.imp fun h => Rat.le_of_lt h
theorem HsOk.qb {l : List Rn} {hs : List Rat} (h : HsOk l hs) (hl : ∀ r ∈ l, r.small) : ∀ q ∈ hs, QB 256 q := fun q hq => by
  rcases (h.mem q).1 hq with rfl | ⟨j, hj, rfl⟩
  · exact QB_zero _
  · exact (sOf_small hl hj).1
theorem sliQ_QB {l : List Rn} {hs : List Rat} (h : HsOk l hs) (hl : ∀ r ∈ l, r.small) (ll : l.length ≤ 60) {i k : Nat} (hi : i < l.length) (hk : k < l.length) : QB 560000 (sliQ l hs i k) := by
  have h1 := sliS_QB hl ll (h.qb hl) hi hk hs.length (Nat.le_refl _)
  have := h.len
  exact h1.mono (by omega)
/-- the contract of CompactFunc, a box of the caller's kept -/
theorem ccompact_b (H : Heap) (V : View) (g c e tot : Nat) (cells vs : List Value) (l : List Rat) (hg : H g = some ⟨e, cells, tot⟩) (he : e = 49) (hr : RowAt ratE V cells l) (hq : ∀ x ∈ l, QF x) (hc : l.length ≤ c) (hc2 : l.length ≤ 1000000) :
    MSem Tryz.prog 71 [.slice (some ⟨g, 0, none⟩) l.length c, .func (.func 72) #[] #[]] [vs] H V fun v' H' V' => V.le V' ∧ v' = .slice (some ⟨g, 0, none⟩) (ddN l l.length).length c ∧ ∃ cells' rest, H' = upd H g (some ⟨e, cells' ++ rest, tot⟩) ∧ RowAt ratE V' cells' (ddN l l.length) := by
  refine MSem.box fun b eb hb _ => ?_
  have hne : g ≠ b := fun e => by rw [e, hb] at hg; cases hg
  have hg' : upd H b (some ⟨eb, vs, vs.length⟩) g = some ⟨e, cells, tot⟩ := by unfold upd; rw [if_neg hne]; exact hg
  refine (ccompact_m _ V g c e tot cells l hg' he hr hq hc hc2).mono ?_
  rintro v H' V' ⟨h1, h2, cells', rest, rfl, h4⟩
  refine ⟨?_, h1, h2, cells', rest, ?_, h4⟩
  · unfold upd
    rw [if_neg (fun e => hne e.symm), if_pos rfl]
  · funext k
    unfold upd
    by_cases e1 : k = b
    · rw [if_pos e1, if_neg (fun e2 => hne (e2.symm.trans e1)), e1, hb]
    · rw [if_neg e1]
      by_cases e2 : k = g
      · rw [if_pos e2, if_pos e2]
      · rw [if_neg e2, if_neg e1, if_neg e2]
theorem rowobj_less {e tot : Nat} {cs rest : List Value} {o : Obj} (h : RowObj ⟨e, cs ++ rest, tot⟩ o) : RowObj ⟨e, cs, tot⟩ o := by
  obtain ⟨ex, h1, h2⟩ := h
  exact ⟨rest ++ ex, by rw [h1, List.append_assoc], by dsimp only at h2 ⊢; rw [← List.append_assoc]; exact h2⟩
set_option maxHeartbeats 4000000 in
set_option maxRecDepth 100000 in
theorem cslice_c (V : View) (v : Value) (l : List Rn) (h : SlK 9 rnE V v l) (f : ∀ r ∈ l, r.fits) (fs : ∀ r ∈ l, r.ds.length ≤ 8 ∧ (r.w.ok = true → QB 128 r.w.q)) (ll : l.length ≤ 1000000) : Spec Tryz.prog 25 [v] V fun v' V' => (rightR l = false → v' = .tuple #[.agg #[.int .i64 0, .int .i64 0, .slice none 0 0], .int .i64 1]) ∧ (rightR l = true → ∃ hs s, HsOk l hs ∧ v' = .tuple #[.agg #[.int .i64 (l.length : Int), .int .i64 (l.length : Int), s], .int .i64 0] ∧ Rats V' s (flatG (moveG (sliQ l hs) l.length) l.length l.length)) := by
  obtain ⟨A, cL, rfl, _, _⟩ := h.form
  refine (Spec.enterR Tryz.func25 rfl fun Γ hΓ => ?_)
  simp only [Tryz.ntmps25, List.map_cons, List.map_nil, List.length_cons, List.length_nil, Nat.reduceAdd, Nat.reduceSub, List.replicate_succ, List.replicate_zero, List.cons_append, List.nil_append]
  refine Gx.a (by kernel_rfl) fun K hK => ?_
  simp only [XM, XA]
  refine hK _ ?_
  refine XWP.seq ?_
  refine Gx.a (by kernel_rfl) fun K hK => ?_
  simp only [XA]
  refine call_go (by kernel_rfl) rfl (kright_c _ _ l h f ll) fun v1 V1 hV1 h1 => ?_
  subst h1
  cases hr : rightR l
  · simp only [XA]
    refine hK _ ?_
    refine Gx.t rfl ?_
    refine Gx.a (by kernel_rfl) fun K hK => ?_
    simp only []
    refine bd_go (by kernel_rfl) #[] (by simp) bd_mtx0 ?_
    simp only [XA]
    refine st_mat shapeT_26 rfl rfl rfl rfl rfl ?_
    simp only [XA]
    refine hK _ (XWP.ret ?_)
    try simp only [thenX_ret, inBlockX_ret]
    exact ret_mat2C rfl rfl rfl rfl ⟨fun _ => rfl, fun h => absurd h (by rw [hr]; simp)⟩
  obtain ⟨g1, g2, g3⟩ := right_small hr fs
  simp only [XA]
  refine hK _ ?_
  refine Gx.f rfl ?_
  refine XWP.skip ?_
  refine Gx.a (by kernel_rfl) fun K hK => ?_
  simp only [XA]
  refine call_go (by kernel_rfl) rfl (cstates_c _ _ l (h.mono rnE_ok hV1) (by omega) (by omega) (fun r hr => (g3 r hr).fine)) fun v2 V2 hV2 h2 => ?_
  obtain ⟨A2, c2, rfl, _, _⟩ := h2.form
  obtain ⟨bL, oL, rfl⟩ := SlK.addr h2 (by omega)
  simp only [XV, XA]
  refine st_one shapeT_83 rfl rfl (by simp) ?_
  simp only [XA]
  refine hK _ ?_
  refine Gx.a (by kernel_rfl) fun K hK => ?_
  simp only [XA]
  refine call_go (by kernel_rfl) rfl (qzero_c _) fun v3 V3 hV3 h3 => ?_
  obtain ⟨x3, y3, rfl, o1, o2⟩ := h3.form
  simp only [XA]
  refine bs_go (by kernel_rfl) #[(0, .agg #[.bool (ng 0), x3, y3])] (by simp [ev_tmp, SV.val]) (bs_rat elemT_24) fun b3 hb3 hb4 => ?_
  simp only [XA, XB, Nat.reduceAdd]
  refine st_one shapeT_24 rfl rfl (by simp) ?_
  simp only [XA]
  refine hK _ ?_
  have hrow0 := (RowAt.nil V3).snoc (show isOne (.bool (ng 0)) = true from rfl) o1 o2 h3
  have own0 : Own (upd (fun _ => none) b3 (some ⟨49, [.bool (ng 0), x3, y3], 3⟩)) 49 3 (.slice (some ⟨b3, 0, none⟩) 1 1) (0 + 1) [.bool (ng 0), x3, y3] := own3 (upd_at _ _ _) rfl (Nat.le_refl _) (by omega)
  have hV23 := hV3
  refine XWP.cutD 3 (fun s => ∃ (V4 : View) (H4 : Heap) (sv : Value) (cells : List Value), StIs (fun Z => [Z 0,Z 1, .p 0 0, Z 3, .p 1 0, .p 2 0, Z 6,Z 7,Z 8,Z 9,Z 10,Z 11,Z 12,Z 13,Z 14,Z 15,Z 16,Z 17,Z 18,Z 19,Z 20,Z 21,Z 22,Z 23,Z 24,Z 25,Z 26,Z 27,Z 28,Z 29,Z 30,Z 31,Z 32,Z 33,Z 34]) [[.int .i64 0, .int .i64 0, .slice none 0 0], [.slice (some ⟨bL, oL, none⟩) l.length c2], [sv]] H4 V4 s ∧ V2.le V4 ∧ Own H4 49 3 sv (l.length + 1) cells ∧ RowAt ratE V4 cells (heiL l l.length)) ?_ ?_
  · refine Gx.a (by kernel_rfl) fun K hK => ?_
    simp only [XV, XA]
    refine hK _ ?_
    clear hK
    refine XWP.block ?_
    refine XWP.loopD 3 (fun n s => ∃ (j : Nat) (V4 : View) (H4 : Heap) (sv : Value) (cells : List Value), StIs (fun Z => [Z 0,Z 1, .p 0 0, Z 3, .p 1 0, .p 2 0, Z 6,Z 7,Z 8,Z 9,Z 10,Z 11,Z 12,Z 13,Z 14,Z 15, .v (.slice (some ⟨bL, oL, none⟩) l.length c2), .v (.int .i64 (l.length : Int)), .v (.int .i64 (j : Int)), Z 19,Z 20,Z 21,Z 22,Z 23,Z 24,Z 25,Z 26,Z 27,Z 28,Z 29,Z 30,Z 31,Z 32,Z 33,Z 34]) [[.int .i64 0, .int .i64 0, .slice none 0 0], [.slice (some ⟨bL, oL, none⟩) l.length c2], [sv]] H4 V4 s ∧ n + j = l.length ∧ V2.le V4 ∧ Own H4 49 3 sv (j + 1) cells ∧ RowAt ratE V4 cells (heiL l j)) l.length ⟨0, V3, _, _, _, StIs.of (by exact rfl), by omega, hV3, own0, hrow0⟩ ?_
    clear own0 hrow0 h3 o1 o2
    rintro n s ⟨j, V4, H4, sv, cells, hs', hn, hV4, hown, hrow⟩
    obtain ⟨z, rfl⟩ := hs'.out
    try dsimp only
    clear hs'
    by_cases hj : j < l.length
    rotate_left
    · obtain rfl : j = l.length := by omega
      have bj : decide (((l.length : Nat) : Int) < ((l.length : Nat) : Int)) = false := decide_eq_false (by omega)
      refine Gx.a (by kernel_rfl) fun K hK => ?_
      simp only [XA, XB, bj]
      refine hK _ ?_
      refine XWP.seq (Gx.f rfl ?_)
      refine XWP.exit ?_
      exact fun f => ⟨V4, H4, sv, cells, StIs.of (by exact rfl), hV4, hown, hrow⟩
    have bj : decide ((j : Int) < (l.length : Int)) = true := decide_eq_true (by omega)
    refine Gx.a (by kernel_rfl) fun K hK => ?_
    simp only [XA, XB, bj]
    refine hK _ ?_
    refine XWP.seq (Gx.t rfl ?_)
    refine XWP.skip ?_
    obtain ⟨g, hg⟩ : ∃ r, l[j]? = some r := ⟨_, List.getElem?_eq_getElem hj⟩
    obtain ⟨cs9, ec9, lc9⟩ := (h2.mono stE_ok hV4).st2 hg
    obtain ⟨_, hone9, w0, w1', w2', w3, w4, w5, w6, w7, w8, mA, nA, dA, qq1, qq2, qq3, ss1, ss2, ss3, rfl, er9, ew9, eq9, es9⟩ := ec9
    rw [← sOf_at hg] at es9
    obtain ⟨ss2', ss3', e9, p1, p2⟩ := es9.form
    cases e9
    refine XWP.seq ?_
    refine XWP.block ?_
    refine Gx.a (by kernel_rfl) fun K hK => ?_
    simp only [XV, XA]
    refine ⟨by omega, by omega, ld_mem (lc9 _) ?_⟩
    simp only [XV, XA, Nat.reduceAdd]
    refine st_whole (cs := [w0, w1', w2', w3, w4, w5, w6, w7, w8, mA, nA, dA, qq1, qq2, qq3, .bool (ng (sOf l j)), ss2, ss3]) shapeT_87 rfl rfl rfl hone9 ?_
    simp only [XA]
    refine hK _ ?_
    refine Gx.c (by kernel_rfl) fun K hK => ?_
    simp only [XV, XA, XB, Nat.reduceAdd, Nat.reduceLeDiff, ↓reduceIte]
    refine bs_go (by kernel_rfl) #[(0, .agg #[.bool (ng (sOf l j)), ss2, ss3])] (by simp [ev_tmp, SV.val]) (bs_rat elemT_24) fun bq hbq1 hbq2 => ?_
    simp only [XA, Nat.reduceAdd]
    refine ap_go elemT_24 (by kernel_rfl) zeroT_49 rfl (by omega) (own_upd hown hbq1) (src3 (upd_at _ _ _) rfl p1 p2) (by omega) (by omega) fun v' H' hres => ?_
    simp only [XA]
    refine st_one shapeT_24 rfl (own_one hres.1) (by simp) ?_
    simp only [XA]
    refine hK _ ?_
    refine Gx.c (by kernel_rfl) fun K hK => ?_
    simp only [XA, XB, i64_succ j (by omega)]
    exact hK _ ⟨n - 1, by omega, fun f => ⟨j + 1, V4, H', v', _, StIs.of (by exact rfl), by omega, hV4, hres.1, by rw [heiL_succ]; exact hrow.snoc rfl p1 p2 es9⟩⟩
  clear own0 hrow0 h3 o1 o2
  rintro s ⟨V4, H4, sv, cells, hs', hV4, hown, hrow⟩
  obtain ⟨z, rfl⟩ := hs'.out
  try dsimp only
  clear hs'
  rcases own_parts hown with ⟨_, h0, _⟩ | ⟨g, cap, rfl, hg, hle, hcap, hcl⟩
  · omega
  refine XWP.row1 (bx := [_, _]) fun b5 e5 hb5 _ => ?_
  simp only [List.map_cons, List.map_nil, rowS_p, List.length_nil, List.length_cons, Nat.reduceAdd, Nat.reduceEqDiff, ↓reduceIte]
  refine XWP.row1 (bx := [_]) fun b4 e4 hb4' _ => ?_
  simp only [List.map_cons, List.map_nil, rowS_v, rowS_p, List.length_nil, List.length_cons, Nat.reduceAdd, Nat.reduceEqDiff, ↓reduceIte]
  have n1 : g ≠ b5 := fun e => by rw [e, hb5] at hg; cases hg
  have n2 : b4 ≠ b5 := fun e => by rw [e, upd_at] at hb4'; cases hb4'
  have hb4 : H4 b4 = none := by
    have := hb4'
    unfold upd at this
    rw [if_neg n2] at this
    exact this
  have n3 : g ≠ b4 := fun e => by rw [e, hb4] at hg; cases hg
  clear hb4'
  generalize hH5 : upd (upd H4 b5 (some ⟨e5, [.slice (some ⟨g, 0, none⟩) (l.length + 1) cap], ([.slice (some ⟨g, 0, none⟩) (l.length + 1) cap] : List Value).length⟩)) b4 (some ⟨e4, [.slice (some ⟨bL, oL, none⟩) l.length c2], ([.slice (some ⟨bL, oL, none⟩) l.length c2] : List Value).length⟩) = H5
  have hg5 : H5 g = some ⟨49, cells, cap * 3⟩ := by subst hH5; rw [upd_off n3, upd_off n1]; exact hg
  have hh5 : H5 b5 = some ⟨e5, [.slice (some ⟨g, 0, none⟩) (l.length + 1) cap], 1⟩ := by subst hH5; rw [upd_off (fun e => n2 e.symm), upd_at]; rfl
  have hx5 : H5 b4 = some ⟨e4, [.slice (some ⟨bL, oL, none⟩) l.length c2], 1⟩ := by subst hH5; rw [upd_at]; rfl
  clear hH5
  have hel : (heiL l l.length).length = l.length + 1 := heiL_len _ _
  have hQ : ∀ q ∈ heiL l l.length, QF q := fun q hq => by
    rcases (mem_heiL _ _ _).1 hq with rfl | ⟨j, hj, rfl⟩
    · exact QF_zero
    · exact (sOf_small g3 hj).1.qf (by omega)
  refine Gx.oa 1 hΓ rfl (by kernel_rfl) fun K hK => ?_
  simp only [XA, Nat.reduceAdd]
  refine ld_mem (ldH1 hh5 rfl shapeT_24) ?_
  simp only [XA]
  rw [← hel]
  refine mopO_call rfl (by kernel_rfl) rfl (csort_m _ H5 V4 g cap cells _ _ _ hg5 hrow hQ (by omega) (by omega)) fun v6 H6 V6 h6 => ?_
  obtain ⟨rfl, rfl, cells6, m, rfl, hcl6, hrow6, hperm, hsrt⟩ := h6
  simp only [XA]
  refine hK _ ?_
  have hml : m.length = l.length + 1 := hperm.length_eq.trans hel
  have hhs := hs_ok hperm hsrt
  have hg6 : upd H5 g (some ⟨49, cells6, cap * 3⟩) g = some ⟨49, cells6, cap * 3⟩ := upd_at _ _ _
  have hh6 : upd H5 g (some ⟨49, cells6, cap * 3⟩) b5 = some ⟨e5, [.slice (some ⟨g, 0, none⟩) (l.length + 1) cap], 1⟩ := by rw [upd_off (fun e => n1 e.symm)]; exact hh5
  have hx6 : upd H5 g (some ⟨49, cells6, cap * 3⟩) b4 = some ⟨e4, [.slice (some ⟨bL, oL, none⟩) l.length c2], 1⟩ := by rw [upd_off (fun e => n3 e.symm)]; exact hx5
  generalize upd H5 g (some ⟨49, cells6, cap * 3⟩) = H6 at *
  refine Gx.oa 1 hΓ rfl (by kernel_rfl) fun K hK => ?_
  simp only [XA, Nat.reduceAdd]
  refine ld_mem (ldH1 hh6 rfl shapeT_24) ?_
  simp only [XA]
  rw [← hml]
  refine mopO_call rfl (by kernel_rfl) rfl (ccompact_b H6 _ g cap _ _ cells6 _ m hg6 rfl hrow6 (fun q hq => hQ q (hperm.mem_iff.1 hq)) (by omega) (by omega)) fun v7 H7 V7 h7 => ?_
  obtain ⟨hV7, rfl, cells7, rest, rfl, hrow7⟩ := h7
  have hh7 : upd H6 g (some ⟨49, cells7 ++ rest, cap * 3⟩) b5 = some ⟨e5, [.slice (some ⟨g, 0, none⟩) (l.length + 1) cap], 1⟩ := by rw [upd_off (fun e => n1 e.symm)]; exact hh6
  have hx7 : upd H6 g (some ⟨49, cells7 ++ rest, cap * 3⟩) b4 = some ⟨e4, [.slice (some ⟨bL, oL, none⟩) l.length c2], 1⟩ := by rw [upd_off (fun e => n3 e.symm)]; exact hx6
  have hg7 : upd H6 g (some ⟨49, cells7 ++ rest, cap * 3⟩) g = some ⟨49, cells7 ++ rest, cap * 3⟩ := upd_at _ _ _
  generalize upd H6 g (some ⟨49, cells7 ++ rest, cap * 3⟩) = H7 at *
  generalize hhl : ddN m m.length = hs at *
  simp only [XA]
  refine st_row shapeT_24 rfl rfl hh7 (by simp) ?_
  simp only [XA]
  refine hK _ ?_
  have hh8 : upd H7 b5 (some ⟨e5, [.slice (some ⟨g, 0, none⟩) hs.length cap], 1⟩) b5 = some ⟨e5, [.slice (some ⟨g, 0, none⟩) hs.length cap], 1⟩ := upd_at _ _ _
  have hx8 : upd H7 b5 (some ⟨e5, [.slice (some ⟨g, 0, none⟩) hs.length cap], 1⟩) b4 = some ⟨e4, [.slice (some ⟨bL, oL, none⟩) l.length c2], 1⟩ := by rw [upd_off n2]; exact hx7
  have hg8 : upd H7 b5 (some ⟨e5, [.slice (some ⟨g, 0, none⟩) hs.length cap], 1⟩) g = some ⟨49, cells7 ++ rest, cap * 3⟩ := by rw [upd_off n1]; exact hg7
  generalize upd H7 b5 (some ⟨e5, [.slice (some ⟨g, 0, none⟩) hs.length cap], 1⟩) = H8 at *
  have hsl := hhs.len
  refine XWP.pub g _ hg8 fun o ho hle => ?_
  have hR : Rats (addV V7 g o) (.slice (some ⟨g, 0, none⟩) hs.length cap) hs := RowAt.pub ratE_ok hrow7 (rowobj_less ho) hle rfl (by omega) (by unfold maxLen at hcap; omega)
  have hh9 : upd H8 g none b5 = some ⟨e5, [.slice (some ⟨g, 0, none⟩) hs.length cap], 1⟩ := by rw [upd_off (fun e => n1 e.symm)]; exact hh8
  have hx9 : upd H8 g none b4 = some ⟨e4, [.slice (some ⟨bL, oL, none⟩) l.length c2], 1⟩ := by rw [upd_off (fun e => n3 e.symm)]; exact hx8
  have hV2g : V2.le (addV V7 g o) := View.le_trans hV4 (View.le_trans hV7 hle)
  clear ho hg8
  generalize upd H8 g none = H9 at *
  generalize addV V7 g o = V9 at *
  refine XWP.pub b5 _ hh9 fun o5 ho5 hle5 => ?_
  have eo5 := row_obj (vs := [.slice (some ⟨g, 0, none⟩) hs.length cap]) ho5
  subst eo5
  have hbH := addV_at V9 b5 (.cells ([.slice (some ⟨g, 0, none⟩) hs.length cap] : List Value).toArray e5 (0, 0))
  have hR := hR.up hle5
  have hx10 : upd H9 b5 none b4 = some ⟨e4, [.slice (some ⟨bL, oL, none⟩) l.length c2], 1⟩ := by rw [upd_off n2]; exact hx9
  have hV2h := View.le_trans hV2g hle5
  clear ho5
  generalize upd H9 b5 none = HA at *
  generalize addV V9 b5 _ = VA at *
  refine XWP.pub b4 _ hx10 fun o4 ho4 hle4 => ?_
  have eo4 := row_obj (vs := [.slice (some ⟨bL, oL, none⟩) l.length c2]) ho4
  subst eo4
  have hbX := addV_at VA b4 (.cells ([.slice (some ⟨bL, oL, none⟩) l.length c2] : List Value).toArray e4 (0, 0))
  have hR := hR.up hle4
  have hbH := hle4 _ _ hbH
  have h2 := h2.mono stE_ok (View.le_trans hV2h hle4)
  clear ho4
  generalize addV VA b4 _ = VB at *
  refine Gx.a (by kernel_rfl) fun K hK => ?_
  simp only [XA]
  refine ld_mem (ldV1 (off := 0) hbX rfl shapeT_83 _) ?_
  simp only [XA]
  refine mkf_go [.pointer (some ⟨b5, 0, none⟩), .pointer (some ⟨b4, 0, none⟩)] rfl ?_
  simp only [XA]
  refine call_go (by kernel_rfl) rfl (cmoves_c VB (some ⟨bL, oL, none⟩) l.length c2 73 560000 [.pointer (some ⟨b5, 0, none⟩), .pointer (some ⟨b4, 0, none⟩)] (sliQ l hs) g2 (by kernel_rfl) (fun i k hi hk _ => sliQ_QB hhs g3 g2 hi hk) (by omega) fun V' i k hV hi hk _ => cslice1_c V' b4 e4 b5 e5 i k _ _ l hs (hV _ _ hbX) (hV _ _ hbH) (h2.mono stE_ok hV) (hR.up hV) g3 g2 (hhs.qb g3) hhs.pos (by omega) hhs.le hi hk) fun v4 VC hVC h4 => ?_
  obtain ⟨s, rfl, hs'⟩ := h4
  obtain ⟨As, cs, rfl, _, _⟩ := hs'.form
  simp only [XA]
  refine st_mat shapeT_26 rfl rfl rfl rfl rfl ?_
  simp only [XA]
  refine hK _ (XWP.ret ?_)
  try simp only [thenX_ret, inBlockX_ret]
  exact ret_mat2C rfl rfl rfl rfl ⟨fun h => absurd h (by rw [hr]; simp), fun _ => ⟨hs, _, hhs, rfl, hs'⟩⟩
end Go.Proofs.YtobjjdnfgamgcaaGreat
end
section
namespace Go.Proofs.YtobjjdnfgamgcaaGreat
open Go Go.RowKit
set_option linter.unusedSimpArgs false
set_option linter.unusedVariables false
attribute [local irreducible] XWP Spec SpecO XPub XCall seqX clX apX stX ldX iaX slX
theorem and3 (a : Int) : andI .i64 a 3 = 0 ∨ andI .i64 a 3 = 1 ∨ andI .i64 a 3 = 2 ∨ andI .i64 a 3 = 3 := by
  have h : ((BitVec.ofInt 64 a &&& BitVec.ofInt 64 3).toNat) ≤ 3 := by
    rw [BitVec.toNat_and]
    have h3 : (BitVec.ofInt 64 3).toNat = 3 := by decide
    rw [h3]
    exact Nat.and_le_right
  unfold andI
  show IntKind.i64.wrap (((BitVec.ofInt 64 a &&& BitVec.ofInt 64 3).toNat : Nat) : Int) = 0 ∨ IntKind.i64.wrap (((BitVec.ofInt 64 a &&& BitVec.ofInt 64 3).toNat : Nat) : Int) = 1 ∨ IntKind.i64.wrap (((BitVec.ofInt 64 a &&& BitVec.ofInt 64 3).toNat : Nat) : Int) = 2 ∨ IntKind.i64.wrap (((BitVec.ofInt 64 a &&& BitVec.ofInt 64 3).toNat : Nat) : Int) = 3
  rw [wrap_id (by omega) (by omega)]
  omega
/-- the entries off the diagonal of the kernel of a kind -/
def OfR (l : List Rn) (c : Int) (od : Nat → Nat → Rat) : Prop :=
  (c = 0 ∧ od = anewQ l) ∨ (c = 1 ∧ od = suffQ l) ∨ (c = 2 ∧ od = siteQ l) ∨ (c = 3 ∧ ∃ hs, HsOk l hs ∧ od = sliQ l hs)
set_option maxHeartbeats 4000000 in
set_option maxRecDepth 100000 in
theorem cof_c (V : View) (v : Value) (kv : Int) (l : List Rn) (h : SlK 9 rnE V v l) (f : ∀ r ∈ l, r.fits) (fs : ∀ r ∈ l, r.ds.length ≤ 8 ∧ (r.w.ok = true → QB 128 r.w.q)) (ll : l.length ≤ 1000000) : Spec Tryz.prog 8 [v, .int .i64 kv] V fun v' V' => (rightR l = false → v' = .tuple #[.agg #[.int .i64 0, .int .i64 0, .slice none 0 0], .int .i64 1]) ∧ (rightR l = true → ∃ od s, OfR l (andI .i64 kv 3) od ∧ v' = .tuple #[.agg #[.int .i64 (l.length : Int), .int .i64 (l.length : Int), s], .int .i64 0] ∧ Rats V' s (flatG (moveG od l.length) l.length l.length)) := by
  obtain ⟨A, cL, rfl, _, _⟩ := h.form
  refine (Spec.enter Tryz.func8 rfl fun Γ => ?_)
  simp only [Tryz.ntmps8, List.map_cons, List.map_nil, List.length_cons, List.length_nil, Nat.reduceAdd, Nat.reduceSub, List.replicate_succ, List.replicate_zero, List.cons_append, List.nil_append]
  refine Gx.a (by kernel_rfl) fun K hK => ?_
  simp only [XM, XA]
  refine hK _ ?_
  refine XWP.seq ?_
  refine Gx.a (by kernel_rfl) fun K hK => ?_
  simp only [XA, XB]
  have hc := and3 kv
  generalize andI .i64 kv 3 = c at *
  refine hK _ ?_
  refine XWP.block ?_
  by_cases e0 : c = 0
  · subst e0
    refine Gx.a (by kernel_rfl) fun K hK => ?_
    simp only [XA, XB]
    refine hK _ ?_
    refine Gx.t rfl ?_
    refine Gx.a (by kernel_rfl) fun K hK => ?_
    simp only [XA]
    refine call_go (by kernel_rfl) rfl (canew_c _ _ l h f fs ll) fun v1 V1 hV1 h1 => ?_
    obtain ⟨h1a, h1b⟩ := h1
    cases hr : rightR l
    · obtain rfl := h1a hr
      simp only [XA]
      refine st_mat shapeT_26 rfl rfl rfl rfl rfl ?_
      simp only [XA]
      refine hK _ (XWP.ret ?_)
      try simp only [thenX_ret, inBlockX_ret]
      exact ret_mat2C rfl rfl rfl rfl ⟨fun _ => rfl, fun h => absurd h (by rw [hr]; simp)⟩
    obtain ⟨s, rfl, hs'⟩ := h1b hr
    obtain ⟨As, cs, rfl, _, _⟩ := hs'.form
    simp only [XA]
    refine st_mat shapeT_26 rfl rfl rfl rfl rfl ?_
    simp only [XA]
    refine hK _ (XWP.ret ?_)
    try simp only [thenX_ret, inBlockX_ret]
    exact ret_mat2C rfl rfl rfl rfl ⟨fun h => absurd h (by rw [hr]; simp), fun _ => ⟨_, _, .inl ⟨rfl, rfl⟩, rfl, hs'⟩⟩
  have b0 : decide (c = 0) = false := decide_eq_false e0
  refine Gx.a (by kernel_rfl) fun K hK => ?_
  simp only [XA, XB, b0]
  refine hK _ ?_
  refine Gx.f rfl ?_
  by_cases e1 : c = 1
  · subst e1
    refine Gx.a (by kernel_rfl) fun K hK => ?_
    simp only [XA, XB]
    refine hK _ ?_
    refine Gx.t rfl ?_
    refine Gx.a (by kernel_rfl) fun K hK => ?_
    simp only [XA]
    refine call_go (by kernel_rfl) rfl (csuff_c _ _ l h f fs ll) fun v1 V1 hV1 h1 => ?_
    obtain ⟨h1a, h1b⟩ := h1
    cases hr : rightR l
    · obtain rfl := h1a hr
      simp only [XA]
      refine st_mat shapeT_26 rfl rfl rfl rfl rfl ?_
      simp only [XA]
      refine hK _ (XWP.ret ?_)
      try simp only [thenX_ret, inBlockX_ret]
      exact ret_mat2C rfl rfl rfl rfl ⟨fun _ => rfl, fun h => absurd h (by rw [hr]; simp)⟩
    obtain ⟨s, rfl, hs'⟩ := h1b hr
    obtain ⟨As, cs, rfl, _, _⟩ := hs'.form
    simp only [XA]
    refine st_mat shapeT_26 rfl rfl rfl rfl rfl ?_
    simp only [XA]
    refine hK _ (XWP.ret ?_)
    try simp only [thenX_ret, inBlockX_ret]
    exact ret_mat2C rfl rfl rfl rfl ⟨fun h => absurd h (by rw [hr]; simp), fun _ => ⟨_, _, .inr (.inl ⟨rfl, rfl⟩), rfl, hs'⟩⟩
  have b1 : decide (c = 1) = false := decide_eq_false e1
  refine Gx.a (by kernel_rfl) fun K hK => ?_
  simp only [XA, XB, b1]
  refine hK _ ?_
  refine Gx.f rfl ?_
  by_cases e2 : c = 2
  · subst e2
    refine Gx.a (by kernel_rfl) fun K hK => ?_
    simp only [XA, XB]
    refine hK _ ?_
    refine Gx.t rfl ?_
    refine Gx.a (by kernel_rfl) fun K hK => ?_
    simp only [XA]
    refine call_go (by kernel_rfl) rfl (csite_c _ _ l h f fs ll) fun v1 V1 hV1 h1 => ?_
    obtain ⟨h1a, h1b⟩ := h1
    cases hr : rightR l
    · obtain rfl := h1a hr
      simp only [XA]
      refine st_mat shapeT_26 rfl rfl rfl rfl rfl ?_
      simp only [XA]
      refine hK _ (XWP.ret ?_)
      try simp only [thenX_ret, inBlockX_ret]
      exact ret_mat2C rfl rfl rfl rfl ⟨fun _ => rfl, fun h => absurd h (by rw [hr]; simp)⟩
    obtain ⟨s, rfl, hs'⟩ := h1b hr
    obtain ⟨As, cs, rfl, _, _⟩ := hs'.form
    simp only [XA]
    refine st_mat shapeT_26 rfl rfl rfl rfl rfl ?_
    simp only [XA]
    refine hK _ (XWP.ret ?_)
    try simp only [thenX_ret, inBlockX_ret]
    exact ret_mat2C rfl rfl rfl rfl ⟨fun h => absurd h (by rw [hr]; simp), fun _ => ⟨_, _, .inr (.inr (.inl ⟨rfl, rfl⟩)), rfl, hs'⟩⟩
  have b2 : decide (c = 2) = false := decide_eq_false e2
  refine Gx.a (by kernel_rfl) fun K hK => ?_
  simp only [XA, XB, b2]
  refine hK _ ?_
  refine Gx.f rfl ?_
  refine XWP.skip ?_
  obtain rfl : c = 3 := by omega
  refine Gx.a (by kernel_rfl) fun K hK => ?_
  simp only [XA]
  refine call_go (by kernel_rfl) rfl (cslice_c _ _ l h f fs ll) fun v1 V1 hV1 h1 => ?_
  obtain ⟨h1a, h1b⟩ := h1
  cases hr : rightR l
  · obtain rfl := h1a hr
    simp only [XA]
    refine st_mat shapeT_26 rfl rfl rfl rfl rfl ?_
    simp only [XA]
    refine hK _ (XWP.ret ?_)
    try simp only [thenX_ret, inBlockX_ret]
    exact ret_mat2C rfl rfl rfl rfl ⟨fun _ => rfl, fun h => absurd h (by rw [hr]; simp)⟩
  obtain ⟨hs, s, hhs, rfl, hs'⟩ := h1b hr
  obtain ⟨As, cs, rfl, _, _⟩ := hs'.form
  simp only [XA]
  refine st_mat shapeT_26 rfl rfl rfl rfl rfl ?_
  simp only [XA]
  refine hK _ (XWP.ret ?_)
  try simp only [thenX_ret, inBlockX_ret]
  exact ret_mat2C rfl rfl rfl rfl ⟨fun h => absurd h (by rw [hr]; simp), fun _ => ⟨_, _, .inr (.inr (.inr ⟨rfl, hs, hhs, rfl⟩)), rfl, hs'⟩⟩
end Go.Proofs.YtobjjdnfgamgcaaGreat
end
section
namespace Go.Proofs.YtobjjdnfgamgcaaGreat
open Go Go.RowKit
set_option linter.unusedSimpArgs false
set_option linter.unusedVariables false
attribute [local irreducible] XWP Spec SpecO XPub XCall seqX clX apX stX ldX iaX slX
theorem HsOk.cf0 {l : List Rn} {hs : List Rat} (h : HsOk l hs) (hl : ∀ r ∈ l, r.small) : cf hs 0 = 0 := by
  obtain ⟨j, hj, e⟩ := List.mem_iff_getElem.1 ((h.mem 0).2 (.inl rfl))
  rw [cf_get hj] at e
  by_cases h0 : j = 0
  · rw [h0] at e; exact e
  have h1 : cf hs 0 < cf hs j := by
    rw [← cf_get hj, ← cf_get (show 0 < hs.length by omega)]
    exact List.pairwise_iff_getElem.1 h.srt 0 j (by omega) hj (by omega)
  rw [e] at h1
  rcases (h.mem (cf hs 0)).1 (cf_mem (by omega)) with h2 | ⟨k, hk, h2⟩
  · exact h2
  · have := (sOf_small hl hk).2
    rw [← h2] at this
    grind
theorem OfR.qb {l : List Rn} {c : Int} {od : Nat → Nat → Rat} (h : OfR l c od) (hl : ∀ r ∈ l, r.small) (ll : l.length ≤ 60) : ∀ i k, i < l.length → k < l.length → QB 600000 (od i k) := fun i k hi hk => by
  rcases h with ⟨_, rfl⟩ | ⟨_, rfl⟩ | ⟨_, rfl⟩ | ⟨_, hs, hh, rfl⟩
  · exact (anewQ_QB hl hi hk).mono (by omega)
  · exact (suffQ_QB hl hi hk).mono (by omega)
  · exact (siteQ_QB hl ll hi hk).mono (by omega)
  · exact (sliQ_QB hh hl ll hi hk).mono (by omega)
end Go.Proofs.YtobjjdnfgamgcaaGreat
end
section
namespace Go.Proofs.YtobjjdnfgamgcaaGreat
open Go Go.RowKit
set_option linter.unusedSimpArgs false
set_option linter.unusedVariables false
attribute [local irreducible] XWP Spec SpecO XPub XCall seqX clX apX stX ldX iaX slX
/-- the next height, as far as looked -/
structure NxOk (l : List Rn) (most last : Rat) (n : Nat) (fd : Bool) (nx : Rat) : Prop where
  at_ : fd = true → ∃ j, j < n ∧ j < l.length ∧ nx = sOf l j ∧ last < nx ∧ nx ≤ most
  all : ∀ j, j < n → last < sOf l j → sOf l j ≤ most → fd = true ∧ nx ≤ sOf l j
/-- the heights up to one -/
structure HtOk (l : List Rn) (most : Rat) (hl : List Rat) : Prop where
  srt : hl.Pairwise (· < ·)
  mem : ∀ q, q ∈ hl ↔ (∃ j, j < l.length ∧ q = sOf l j) ∧ q ≤ most
/-- the heights up to a last one -/
structure HtIn (l : List Rn) (most last : Rat) (hl : List Rat) : Prop where
  srt : hl.Pairwise (· < ·)
  mem : ∀ q, q ∈ hl ↔ (∃ j, j < l.length ∧ q = sOf l j) ∧ q ≤ most ∧ q ≤ last
theorem HtIn.step {l : List Rn} {most last nx : Rat} {hl : List Rat} (h : HtIn l most last hl) (hn : NxOk l most last l.length true nx) : HtIn l most nx (hl ++ [nx]) := by
  obtain ⟨j0, _, hj0, e0, h1, h2⟩ := hn.at_ rfl
  refine ⟨List.pairwise_append.2 ⟨h.srt, List.pairwise_singleton _ _, fun a ha b hb => ?_⟩, fun q => ?_⟩
  · rw [List.mem_singleton] at hb
    subst hb
    have := ((h.mem a).1 ha).2.2
    grind
  · rw [List.mem_append, List.mem_singleton, h.mem]
    constructor
    · rintro (⟨a, b, c⟩ | rfl)
      · exact ⟨a, b, by grind⟩
      · exact ⟨⟨j0, hj0, e0⟩, h2, Rat.le_refl⟩
    · rintro ⟨⟨j, hj, rfl⟩, b, c⟩
      by_cases hq : sOf l j ≤ last
      · exact .inl ⟨⟨j, hj, rfl⟩, b, hq⟩
      · right
        have := (hn.all j hj (Rat.not_le.1 hq) b).2
        grind
theorem HtIn.done {l : List Rn} {most last nx : Rat} {hl : List Rat} (h : HtIn l most last hl) (hn : NxOk l most last l.length false nx) : HtOk l most hl := by
  refine ⟨h.srt, fun q => ?_⟩
  rw [h.mem]
  constructor
  · rintro ⟨a, b, _⟩
    exact ⟨a, b⟩
  · rintro ⟨⟨j, hj, rfl⟩, b⟩
    refine ⟨⟨j, hj, rfl⟩, b, ?_⟩
    by_cases hq : sOf l j ≤ last
    · exact hq
    · have := (hn.all j hj (Rat.not_le.1 hq) b).1
      cases this
theorem HtIn.zero {l : List Rn} (hl : ∀ r ∈ l, r.small) (most : Rat) : HtIn l most 0 [] := by
  refine ⟨List.Pairwise.nil, fun q => ?_⟩
  constructor
  · intro h; cases h
  · rintro ⟨⟨j, hj, rfl⟩, _, h⟩
    have := (sOf_small hl hj).2
    grind
/-- how many scores lie above -/
def cntA (l : List Rn) (last : Rat) : Nat := ((List.range l.length).filter fun j => decide (last < sOf l j)).length
theorem cntA_lt {l : List Rn} {most last nx : Rat} (hn : NxOk l most last l.length true nx) : cntA l nx < cntA l last := by
  obtain ⟨j0, _, hj0, e0, h1, h2⟩ := hn.at_ rfl
  unfold cntA
  refine filter_lt (x := j0) (List.mem_range.2 hj0) (by rw [← e0]; exact decide_eq_true h1) (by rw [← e0]; exact decide_eq_false (by grind)) fun y _ hy => ?_
  have := of_decide_eq_true hy
  exact decide_eq_true (by grind)
theorem NxOk.skip {l : List Rn} {most last nx : Rat} {n : Nat} {fd : Bool} (h : NxOk l most last n fd nx) (hs : ¬ (last < sOf l n ∧ sOf l n ≤ most)) : NxOk l most last (n + 1) fd nx := by
  refine ⟨fun e => ?_, fun j hj h1 h2 => ?_⟩
  · obtain ⟨j, hj, r⟩ := h.at_ e
    exact ⟨j, by omega, r⟩
  · by_cases e : j = n
    · subst e; exact absurd ⟨h1, h2⟩ hs
    · exact h.all j (by omega) h1 h2
theorem NxOk.keep {l : List Rn} {most last nx : Rat} {n : Nat} (h : NxOk l most last n true nx) (hs : nx ≤ sOf l n) : NxOk l most last (n + 1) true nx := by
  refine ⟨fun e => ?_, fun j hj h1 h2 => ?_⟩
  · obtain ⟨j, hj, r⟩ := h.at_ e
    exact ⟨j, by omega, r⟩
  · by_cases e : j = n
    · subst e; exact ⟨rfl, hs⟩
    · exact h.all j (by omega) h1 h2
theorem NxOk.take {l : List Rn} {most last nx : Rat} {n : Nat} {fd : Bool} (h : NxOk l most last n fd nx) (hn : n < l.length) (h1 : last < sOf l n) (h2 : sOf l n ≤ most) (hs : fd = false ∨ sOf l n < nx) : NxOk l most last (n + 1) true (sOf l n) := by
  refine ⟨fun _ => ⟨n, by omega, hn, rfl, h1, h2⟩, fun j hj g1 g2 => ?_⟩
  by_cases e : j = n
  · subst e; exact ⟨rfl, Rat.le_refl⟩
  · have := h.all j (by omega) g1 g2
    rcases hs with e | e
    · rw [e] at this; cases this.1
    · exact ⟨rfl, by grind⟩
set_option maxHeartbeats 4000000 in
set_option maxRecDepth 100000 in
theorem rheights_c (V : View) (x v : Value) (l : List Rn) (most : Rat) (hx : SlK 9 rnE V x l) (hs : ∀ r ∈ l, r.small) (l0 : 0 < l.length) (ll : l.length ≤ 60) (hv : RatC V v most) (hq : QB 256 most) :
    Spec Tryz.prog 163 [x, v] V fun v' V' => ∃ hl, HtOk l most hl ∧ Rats V' v' hl := by
  obtain ⟨A, cL, rfl, _, _⟩ := hx.form
  obtain ⟨bL, oL, rfl⟩ := SlK.addr hx (by omega)
  obtain ⟨mx, my, rfl, om1, om2⟩ := hv.form
  refine (Spec.enter Tryz.func163 rfl fun Γ => ?_)
  simp only [Tryz.ntmps163, List.map_cons, List.map_nil, List.length_cons, List.length_nil, Nat.reduceAdd, Nat.reduceSub, List.replicate_succ, List.replicate_zero, List.cons_append, List.nil_append]
  refine Gx.a (by kernel_rfl) fun K hK => ?_
  simp only [XA]
  refine hK _ ?_
  refine Gx.a (by kernel_rfl) fun K hK => ?_
  simp only [XA]
  refine hK _ ?_
  refine Gx.a (by kernel_rfl) fun K hK => ?_
  simp only [XA]
  refine call_go (by kernel_rfl) rfl (pzero_c _) fun v1 V1 hV1 h1 => ?_
  obtain ⟨x1, y1, rfl, o1, o2⟩ := h1.form
  simp only [XA, XB]
  refine st_rat rfl rfl rfl o1 o2 ?_
  simp only [XA]
  refine hK _ ?_
  refine XWP.block ?_
  refine XWP.loopD 2 (fun q s => ∃ (V2 : View) (H2 : Heap) (sv lb lx ly : Value) (cells : List Value) (last : Rat) (hl : List Rat), StIs (fun Z => [.v (.slice (some ⟨bL, oL, none⟩) l.length cL), Z 1,Z 2, .p 0 0, Z 4, .v sv, .p 1 0, Z 7,Z 8,Z 9,Z 10,Z 11,Z 12,Z 13,Z 14,Z 15,Z 16,Z 17,Z 18,Z 19,Z 20,Z 21,Z 22,Z 23,Z 24,Z 25,Z 26,Z 27,Z 28,Z 29,Z 30,Z 31,Z 32,Z 33,Z 34,Z 35,Z 36,Z 37,Z 38,Z 39,Z 40,Z 41,Z 42,Z 43,Z 44,Z 45,Z 46,Z 47,Z 48,Z 49,Z 50,Z 51]) [[.bool (ng most), mx, my], [lb, lx, ly]] H2 V2 s ∧ q = cntA l last ∧ V1.le V2 ∧ RatC V2 (.agg #[lb, lx, ly]) last ∧ QB 256 last ∧ Own H2 49 3 sv hl.length cells ∧ RowAt ratE V2 cells hl ∧ HtIn l most last hl ∧ hl.length + cntA l last ≤ l.length) (cntA l 0) ⟨V1, fun _ => none, .slice none 0 0, _, x1, y1, [], 0, [], StIs.of (by exact rfl), rfl, View.le_refl _, h1, QB_zero _, own_nil, RowAt.nil _, HtIn.zero hs most, by
    unfold cntA
    have := List.length_filter_le (fun j => decide ((0 : Rat) < sOf l j)) (List.range l.length)
    rw [List.length_range] at this
    rw [List.length_nil]; omega⟩ ?_
  clear h1 o1 o2
  rintro q s ⟨V2, H2, sv, lb, lx, ly, cells, last, hl, hs', hq2, hV2, h2, hqL, hown, hrow, hin, hcnt⟩
  obtain ⟨z, rfl⟩ := hs'.out
  try dsimp only
  clear hs'
  refine XWP.block ?_
  refine Gx.a (by kernel_rfl) fun K hK => ?_
  simp only [XA]
  refine call_go (by kernel_rfl) rfl (pzero_c _) fun v3 V3 hV3 h3 => ?_
  obtain ⟨x3, y3, rfl, o3, o4⟩ := h3.form
  simp only [XA, XB, Nat.reduceAdd]
  refine st_rat rfl rfl rfl o3 o4 ?_
  simp only [XA]
  refine hK _ ?_
  have hV03 := View.le_trans hV1 (View.le_trans hV2 hV3)
  refine XWP.cutD 3 (fun s => ∃ (V4 : View) (fd : Bool) (nb nx ny : Value) (nxt : Rat), StIs (fun Z => [.v (.slice (some ⟨bL, oL, none⟩) l.length cL), Z 1,Z 2, .p 0 0, Z 4, .v sv, .p 1 0, .p 2 0, .v (.bool fd), Z 9,Z 10,Z 11,Z 12,Z 13,Z 14,Z 15,Z 16,Z 17,Z 18,Z 19,Z 20,Z 21,Z 22,Z 23,Z 24,Z 25,Z 26,Z 27,Z 28,Z 29,Z 30,Z 31,Z 32,Z 33,Z 34,Z 35,Z 36,Z 37,Z 38,Z 39,Z 40,Z 41,Z 42,Z 43,Z 44,Z 45,Z 46,Z 47,Z 48,Z 49,Z 50,Z 51]) [[.bool (ng most), mx, my], [lb, lx, ly], [nb, nx, ny]] H2 V4 s ∧ V3.le V4 ∧ RatC V4 (.agg #[nb, nx, ny]) nxt ∧ QB 256 nxt ∧ NxOk l most last l.length fd nxt) ?_ ?_
  · refine Gx.a (by kernel_rfl) fun K hK => ?_
    simp only [XU, XA]
    refine hK _ ?_
    clear hK
    refine XWP.block ?_
    refine XWP.loopD 3 (fun n s => ∃ (j : Nat) (V4 : View) (fd : Bool) (nb nx ny : Value) (nxt : Rat), StIs (fun Z => [.v (.slice (some ⟨bL, oL, none⟩) l.length cL), Z 1,Z 2, .p 0 0, Z 4, .v sv, .p 1 0, .p 2 0, .v (.bool fd), Z 9,Z 10,Z 11,Z 12,Z 13, .v (.slice (some ⟨bL, oL, none⟩) l.length cL), .v (.int .i64 (l.length : Int)), .v (.int .i64 (j : Int)), Z 17,Z 18,Z 19,Z 20,Z 21,Z 22,Z 23,Z 24,Z 25,Z 26,Z 27,Z 28,Z 29,Z 30,Z 31,Z 32,Z 33,Z 34,Z 35,Z 36,Z 37,Z 38,Z 39,Z 40,Z 41,Z 42,Z 43,Z 44,Z 45,Z 46,Z 47,Z 48,Z 49,Z 50,Z 51]) [[.bool (ng most), mx, my], [lb, lx, ly], [nb, nx, ny]] H2 V4 s ∧ n + j = l.length ∧ V3.le V4 ∧ RatC V4 (.agg #[nb, nx, ny]) nxt ∧ QB 256 nxt ∧ NxOk l most last j fd nxt) l.length ⟨0, V3, false, _, x3, y3, 0, StIs.of (by exact rfl), by omega, View.le_refl _, h3, QB_zero _, ⟨fun e => (by cases e), fun j hj => (by omega)⟩⟩ ?_
    clear h3 o3 o4
    rintro n s ⟨j, V4, fd, nb, nx, ny, nxt, hs', hn, hV4, h4, hqN, hok⟩
    obtain ⟨z, rfl⟩ := hs'.out
    try dsimp only
    clear hs'
    by_cases hj : j < l.length
    rotate_left
    · obtain rfl : j = l.length := by omega
      have bj : decide (((l.length : Nat) : Int) < ((l.length : Nat) : Int)) = false := decide_eq_false (by omega)
      refine Gx.a (by kernel_rfl) fun K hK => ?_
      simp only [XA, XB, bj]
      refine hK _ ?_
      refine XWP.seq (Gx.f rfl ?_)
      refine XWP.exit ?_
      exact fun f => ⟨V4, fd, nb, nx, ny, nxt, StIs.of (by exact rfl), hV4, h4, hqN, hok⟩
    have bj : decide ((j : Int) < (l.length : Int)) = true := decide_eq_true (by omega)
    refine Gx.a (by kernel_rfl) fun K hK => ?_
    simp only [XA, XB, bj]
    refine hK _ ?_
    refine XWP.seq (Gx.t rfl ?_)
    refine XWP.skip ?_
    have hV04 := View.le_trans hV03 hV4
    have hV24 := View.le_trans hV3 hV4
    obtain ⟨r, hr⟩ : ∃ r, l[j]? = some r := ⟨_, List.getElem?_eq_getElem hj⟩
    have hrs := hs r (List.mem_of_getElem? hr)
    obtain ⟨u0, u1, u2, u3, u4, dv, m, x', y', e1, _, _, la, _, _⟩ := hx.rnAt hr hrs.ok
    have hone := e1.2.1
    have hsq := sOf_small hs hj
    refine XWP.cutD 3 (fun s => ∃ (V5 : View) (fd : Bool) (nb nx ny : Value) (nxt : Rat), StIs (fun Z => [.v (.slice (some ⟨bL, oL, none⟩) l.length cL), Z 1,Z 2, .p 0 0, Z 4, .v sv, .p 1 0, .p 2 0, .v (.bool fd), Z 9,Z 10,Z 11,Z 12,Z 13, .v (.slice (some ⟨bL, oL, none⟩) l.length cL), .v (.int .i64 (l.length : Int)), .v (.int .i64 (j : Int)), Z 17,Z 18,Z 19,Z 20,Z 21,Z 22,Z 23,Z 24,Z 25,Z 26,Z 27,Z 28,Z 29,Z 30,Z 31,Z 32,Z 33,Z 34,Z 35,Z 36,Z 37,Z 38,Z 39,Z 40,Z 41,Z 42,Z 43,Z 44,Z 45,Z 46,Z 47,Z 48,Z 49,Z 50,Z 51]) [[.bool (ng most), mx, my], [lb, lx, ly], [nb, nx, ny]] H2 V5 s ∧ V4.le V5 ∧ RatC V5 (.agg #[nb, nx, ny]) nxt ∧ QB 256 nxt ∧ NxOk l most last (j + 1) fd nxt) ?_ ?_
    rotate_left
    · rintro s ⟨V5, fd, nb, nx, ny, nxt, hs', hV5, h5, hqN, hok⟩
      obtain ⟨z, rfl⟩ := hs'.out
      try dsimp only
      clear hs'
      refine Gx.c (by kernel_rfl) fun K hK => ?_
      simp only [XA, XB, i64_succ j (by omega)]
      exact hK _ ⟨n - 1, by omega, fun f => ⟨j + 1, V5, fd, nb, nx, ny, nxt, StIs.of (by exact rfl), by omega, View.le_trans hV4 hV5, h5, hqN, hok⟩⟩
    clear hK
    refine XWP.block ?_
    refine Gx.a (by kernel_rfl) fun K hK => ?_
    simp only [XU, XA]
    refine ⟨by omega, by omega, ld_mem (Loads.up la hV04 _) ?_⟩
    simp only [XU, XA, Nat.reduceAdd]
    refine st_whole (cs := [u0, u1, u2, u3, u4, dv, m, x', y']) shapeT_51 rfl rfl rfl hone ?_
    simp only [XA]
    refine hK _ ?_
    refine Gx.a (by kernel_rfl) fun K hK => ?_
    simp only [XU, XA, Nat.reduceAdd, Nat.reduceLeDiff, ↓reduceIte]
    refine call_go (by kernel_rfl) rfl (rscores1_c _ _ r (e1.mono rnE_ok hV04) hrs) fun v5 V5 hV5 h5 => ?_
    rw [← sOf_at hr] at h5
    obtain ⟨x5, y5, rfl, o5, o6⟩ := h5.form
    simp only [XA, XB, Nat.reduceAdd]
    refine st_rat rfl rfl rfl o5 o6 ?_
    simp only [XA]
    refine hK _ ?_
    have hV25 := View.le_trans hV24 hV5
    refine Gx.a (by kernel_rfl) fun K hK => ?_
    simp only [XA, XB, Nat.reduceAdd, Nat.reduceLeDiff, ↓reduceIte]
    refine call_go (by kernel_rfl) rfl (pcompare_c _ _ _ _ _ (RatC.toV h5 (hsq.1.qf (by omega))) (RatC.toV (h2.mono hV25) (hqL.qf (by omega))) (hsq.1.qf (by omega)) (hqL.qf (by omega))) fun v6 V6 hV6 h6 => ?_
    subst h6
    have hV26 := View.le_trans hV5 hV6
    by_cases c1 : last < sOf l j
    rotate_left
    · have d1 : decide (0 < sgI (sOf l j - last)) = false := decide_eq_false fun e => c1 ((sgI_pos_iff _ _).1 e)
      simp only [XA, XB, gateX, Nat.reduceAdd, Nat.reduceLeDiff, ↓reduceIte, d1]
      refine hK _ ?_
      refine Gx.f rfl ?_
      refine XWP.skip ?_
      exact fun f => ⟨V6, fd, nb, nx, ny, nxt, StIs.of (by exact rfl), hV26, h4.mono hV26, hqN, hok.skip fun e => c1 e.1⟩
    have d1 : decide (0 < sgI (sOf l j - last)) = true := decide_eq_true ((sgI_pos_iff _ _).2 c1)
    simp only [XA, XB, gateX, Nat.reduceAdd, Nat.reduceLeDiff, ↓reduceIte, beq_self_eq_true, d1]
    refine call_go (by kernel_rfl) rfl (pcompare_c _ _ _ _ _ (RatC.toV (h5.mono hV6) (hsq.1.qf (by omega))) (RatC.toV (hv.mono (View.le_trans hV04 hV26)) (hq.qf (by omega))) (hsq.1.qf (by omega)) (hq.qf (by omega))) fun v7 V7 hV7 h7 => ?_
    subst h7
    have hV27 := View.le_trans hV26 hV7
    by_cases c2 : sOf l j ≤ most
    rotate_left
    · have d2 : decide (sgI (sOf l j - most) ≤ 0) = false := decide_eq_false fun e => by
        have := (sgI_pos_iff _ _).2 (Rat.not_le.1 c2)
        omega
      simp only [XA, XB, gateX, Nat.reduceAdd, Nat.reduceLeDiff, ↓reduceIte, beq_self_eq_true, d2]
      refine hK _ ?_
      refine Gx.f rfl ?_
      refine XWP.skip ?_
      exact fun f => ⟨V7, fd, nb, nx, ny, nxt, StIs.of (by exact rfl), hV27, h4.mono hV27, hqN, hok.skip fun e => c2 e.2⟩
    have d2 : decide (sgI (sOf l j - most) ≤ 0) = true := decide_eq_true (by
      have : ¬ 0 < sgI (sOf l j - most) := fun e => Rat.not_le.2 ((sgI_pos_iff _ _).1 e) c2
      omega)
    cases fd with
    | false =>
      simp only [XA, XB, gateX, ↓reduceIte, beq_self_eq_true, d2]
      refine hK _ ?_
      refine Gx.t rfl ?_
      refine Gx.c (by kernel_rfl) fun K hK => ?_
      simp only [XA, XB, Nat.reduceAdd, Nat.reduceLeDiff, ↓reduceIte]
      refine st_rat rfl rfl rfl o5 o6 ?_
      simp only [XA]
      refine hK _ fun f => ⟨V7, true, _, x5, y5, sOf l j, StIs.of (by exact rfl), hV27, (h5.mono hV6).mono hV7, hsq.1, hok.take hj c1 c2 (.inl rfl)⟩
    | true =>
      simp only [XA, XB, gateX, Nat.reduceAdd, Nat.reduceLeDiff, ↓reduceIte, beq_self_eq_true, d2]
      refine call_go (by kernel_rfl) rfl (pcompare_c _ _ _ _ _ (RatC.toV ((h5.mono hV6).mono hV7) (hsq.1.qf (by omega))) (RatC.toV (h4.mono hV27) (hqN.qf (by omega))) (hsq.1.qf (by omega)) (hqN.qf (by omega))) fun v8 V8 hV8 h8 => ?_
      subst h8
      have hV28 := View.le_trans hV27 hV8
      by_cases c3 : sOf l j < nxt
      · have d3 : decide (sgI (sOf l j - nxt) < 0) = true := decide_eq_true ((sgI_neg_iff _ _).2 c3)
        simp only [XA, XB, gateX, ↓reduceIte, beq_self_eq_true, d3]
        refine hK _ ?_
        refine Gx.t rfl ?_
        refine Gx.c (by kernel_rfl) fun K hK => ?_
        simp only [XA, XB, Nat.reduceAdd, Nat.reduceLeDiff, ↓reduceIte]
        refine st_rat rfl rfl rfl o5 o6 ?_
        simp only [XA]
        refine hK _ fun f => ⟨V8, true, _, x5, y5, sOf l j, StIs.of (by exact rfl), hV28, ((h5.mono hV6).mono hV7).mono hV8, hsq.1, hok.take hj c1 c2 (.inr c3)⟩
      · have d3 : decide (sgI (sOf l j - nxt) < 0) = false := decide_eq_false fun e => c3 ((sgI_neg_iff _ _).1 e)
        simp only [XA, XB, gateX, ↓reduceIte, beq_self_eq_true, d3]
        refine hK _ ?_
        refine Gx.f rfl ?_
        refine XWP.skip ?_
        exact fun f => ⟨V8, true, nb, nx, ny, nxt, StIs.of (by exact rfl), hV28, h4.mono hV28, hqN, hok.keep (Rat.not_lt.1 c3)⟩
  clear h3 o3 o4
  rintro s ⟨V4, fd, nb, nx, ny, nxt, hs', hV4, h4, hqN, hok⟩
  obtain ⟨z, rfl⟩ := hs'.out
  try dsimp only
  clear hs'
  have hV24 := View.le_trans hV3 hV4
  have hrow4 := hrow.mono ratE_ok hV24
  refine XWP.seq ?_
  cases fd with
  | false =>
    refine Gx.a (by kernel_rfl) fun K hK => ?_
    simp only [XA]
    refine hK _ ?_
    refine Gx.t rfl ?_
    refine Gx.a (by kernel_rfl) fun K hK => ?_
    simp only [XA]
    refine hK _ (XWP.ret ?_)
    try simp only [thenX_ret, inBlockX_ret]
    have hdone := hin.done hok
    rcases own_parts hown with ⟨rfl, h0, rfl⟩ | ⟨g, cap, rfl, hg, hle, hcap, hcl⟩
    · refine ret_go _ rfl ⟨hl, hdone, ?_⟩
      obtain rfl : hl = [] := List.length_eq_zero_iff.1 h0
      exact SlAt.nil _
    · refine ret_pub g _ hg fun o ho hle' => ret_go _ rfl ⟨hl, hdone, ?_⟩
      exact RowAt.pub ratE_ok hrow4 ho hle' rfl hle (by unfold maxLen at hcap; omega)
  | true =>
    refine Gx.a (by kernel_rfl) fun K hK => ?_
    simp only [XA]
    refine hK _ ?_
    refine Gx.f rfl ?_
    refine XWP.skip ?_
    have hlt := cntA_lt hok
    have hst := hin.step hok
    obtain ⟨nx', ny', e4, o3, o4⟩ := h4.form
    cases e4
    refine Gx.a (by kernel_rfl) fun K hK => ?_
    simp only [XA, XB, Nat.reduceAdd, Nat.reduceLeDiff, ↓reduceIte]
    refine bs_go (by kernel_rfl) #[(0, .agg #[.bool (ng nxt), nx, ny])] (by simp [ev_tmp, SV.val]) (bs_rat elemT_24) fun bq hbq1 hbq2 => ?_
    simp only [XA, Nat.reduceAdd]
    refine ap_go elemT_24 (by kernel_rfl) zeroT_49 rfl (by omega) (own_upd hown hbq1) (src3 (upd_at _ _ _) rfl o3 o4) (by omega) (by omega) fun v' H' hres => ?_
    simp only [XA]
    refine hK _ ?_
    refine Gx.c (by kernel_rfl) fun K hK => ?_
    simp only [XA, XB, Nat.reduceAdd, Nat.reduceLeDiff, ↓reduceIte]
    refine st_rat rfl rfl rfl o3 o4 ?_
    simp only [XA]
    refine hK _ ⟨cntA l nxt, by omega, fun f => ⟨V4, H', v', _, nx, ny, _, nxt, hl ++ [nxt], StIs.of (by exact rfl), rfl, View.le_trans hV2 hV24, h4, hqN, by rw [List.length_append]; exact hres.1, hrow4.snoc rfl o3 o4 h4, hst, by rw [List.length_append, List.length_cons, List.length_nil]; omega⟩⟩
end Go.Proofs.YtobjjdnfgamgcaaGreat
end
section
namespace Go.Proofs.YtobjjdnfgamgcaaGreat
open Go Go.RowKit
set_option linter.unusedSimpArgs false
set_option linter.unusedVariables false
attribute [local irreducible] XWP Spec SpecO XPub XCall seqX clX apX stX ldX iaX slX
/-- one height's part, in the reference -/
def undP (hl : List Rat) (h : Nat) : Rat := if h = 0 then 0 else cf hl (h - 1)
def undF (l : List Rn) (hl : List Rat) (i k h : Nat) : Rat := if cf hl h ≤ sOf l k then (cf hl h - undP hl h) / sOf l i * (qOf l k / heiS l (cf hl h)) else 0
def undQ (l : List Rn) (hl : List Rat) (i k : Nat) : Rat := Sm (undF l hl i k) hl.length
theorem HtOk.qb {l : List Rn} {most : Rat} {hl : List Rat} (h : HtOk l most hl) (hs : ∀ r ∈ l, r.small) : ∀ q ∈ hl, QB 256 q := fun q hq => by
  obtain ⟨⟨j, hj, rfl⟩, _⟩ := (h.mem q).1 hq
  exact (sOf_small hs hj).1
theorem HtOk.len {l : List Rn} {most : Rat} {hl : List Rat} (h : HtOk l most hl) : hl.length ≤ l.length := by
  have key : ∀ (n : Nat) (m : List Rat), m.Pairwise (· < ·) → (∀ q ∈ m, ∃ j, j < l.length ∧ q = sOf l j) → ∀ b : Rat, (∀ q ∈ m, b < q) → m.length ≤ cntA l b := by
    intro n m
    induction m with
    | nil => intro _ _ b _; exact Nat.zero_le _
    | cons q m ih =>
      intro hp hm b hb
      obtain ⟨h1, h2⟩ := List.pairwise_cons.1 hp
      have := ih h2 (fun x hx => hm x (List.mem_cons_of_mem _ hx)) q h1
      obtain ⟨j, hj, e⟩ := hm q (by simp)
      have hbq := hb q (by simp)
      have : cntA l q < cntA l b := by
        unfold cntA
        refine filter_lt (x := j) (List.mem_range.2 hj) (by rw [← e]; exact decide_eq_true hbq) (by rw [← e]; exact decide_eq_false (by grind)) fun y _ hy => ?_
        have := of_decide_eq_true hy
        exact decide_eq_true (by grind)
      rw [List.length_cons]; omega
  cases hl with
  | nil => exact Nat.zero_le _
  | cons q m =>
    have h1 := key 0 (q :: m) h.srt (fun x hx => ((h.mem x).1 hx).1) (q - 1) (fun x hx => by
      rcases List.mem_cons.1 hx with rfl | hx
      · grind
      · have := (List.pairwise_cons.1 h.srt).1 x hx
        grind)
    have h2 : cntA l (q - 1) ≤ l.length := by
      unfold cntA
      have := List.length_filter_le (fun j => decide (q - 1 < sOf l j)) (List.range l.length)
      rw [List.length_range] at this
      exact this
    omega
theorem undP_QB {hl : List Rat} (hh : ∀ q ∈ hl, QB 256 q) {h : Nat} (hlt : h ≤ hl.length) : QB 256 (undP hl h) := by
  unfold undP
  split
  · exact QB_zero _
  · exact hh _ (cf_mem (by omega))
theorem undF_QB {l : List Rn} {hl : List Rat} (hs : ∀ r ∈ l, r.small) (ll : l.length ≤ 60) (hh : ∀ q ∈ hl, QB 256 q) {i k : Nat} (hi : i < l.length) (hk : k < l.length) {h : Nat} (hlt : h < hl.length) : QB 9000 (undF l hl i k h) := by
  unfold undF
  split
  · have h1 := ((hh _ (cf_mem hlt)).sub (undP_QB hh (show h ≤ hl.length by omega))).div (sOf_small hs hi).1
    have h2 := (qOf_small hs hk).1.div ((heiS_QB hs (cf hl h) l.length (Nat.le_refl _)).mono (show l.length * 129 ≤ 7740 by omega))
    exact (h1.mul h2).mono (by omega)
  · exact QB_zero _
theorem undS_QB {l : List Rn} {hl : List Rat} (hs : ∀ r ∈ l, r.small) (ll : l.length ≤ 60) (hh : ∀ q ∈ hl, QB 256 q) {i k : Nat} (hi : i < l.length) (hk : k < l.length) : ∀ m, m ≤ hl.length → QB (m * 9001) (Sm (undF l hl i k) m)
  | 0, _ => QB_zero _
  | m + 1, hm => ((undS_QB hs ll hh hi hk m (by omega)).add (undF_QB hs ll hh hi hk (show m < hl.length by omega))).mono (by omega)
set_option maxHeartbeats 4000000 in
set_option maxRecDepth 100000 in
theorem runder_c (V : View) (i k : Nat) (x : Value) (l : List Rn) (hx : SlK 9 rnE V x l) (hs : ∀ r ∈ l, r.small) (ll : l.length ≤ 60) (hi : i < l.length) (hk : k < l.length) :
    Spec Tryz.prog 150 [x, .int .i64 (i : Int), .int .i64 (k : Int)] V fun v' V' => ∃ hl, HtOk l (sOf l i) hl ∧ RatC V' v' (undQ l hl i k) := by
  obtain ⟨A, cL, rfl, _, _⟩ := hx.form
  obtain ⟨bL, oL, rfl⟩ := SlK.addr hx (by omega)
  obtain ⟨r, hr⟩ : ∃ r, l[i]? = some r := ⟨_, List.getElem?_eq_getElem hi⟩
  obtain ⟨t, ht⟩ : ∃ r, l[k]? = some r := ⟨_, List.getElem?_eq_getElem hk⟩
  have h1 := hs r (List.mem_of_getElem? hr)
  have h2 := hs t (List.mem_of_getElem? ht)
  obtain ⟨u0, u1, u2, u3, u4, dv1, m1, x1, y1, e1, _, _, la1, _, _⟩ := hx.rnAt hr h1.ok
  obtain ⟨v0, v1, v2, v3, v4, dv2, m2, x2, y2, e2, _, _, la2, _, _⟩ := hx.rnAt ht h2.ok
  have es1 := sOf_at hr
  have es2 := sOf_at ht
  have eq2 := qOf_at ht
  have hq1 := sOf_small hs hi
  have hq2 := sOf_small hs hk
  have hq3 := qOf_small hs hk
  refine (Spec.enter Tryz.func150 rfl fun Γ => ?_)
  simp only [Tryz.ntmps150, List.map_cons, List.map_nil, List.length_cons, List.length_nil, Nat.reduceAdd, Nat.reduceSub, List.replicate_succ, List.replicate_zero, List.cons_append, List.nil_append]
  refine Gx.a (by kernel_rfl) fun K hK => ?_
  simp only [XA, XB]
  refine hK _ ?_
  refine Gx.a (by kernel_rfl) fun K hK => ?_
  simp only [XA]
  refine call_go (by kernel_rfl) rfl (pzero_c _) fun v3' V3 hV3 h3 => ?_
  obtain ⟨x3, y3, rfl, o1, o2⟩ := h3.form
  simp only [XA]
  refine call_go (by kernel_rfl) rfl (pzero_c _) fun v4' V4 hV4 h4 => ?_
  obtain ⟨x4, y4, rfl, o3, o4⟩ := h4.form
  simp only [XA, XB, Nat.reduceAdd]
  refine st_rat rfl rfl rfl o1 o2 ?_
  simp only [XA]
  refine st_rat rfl rfl rfl o3 o4 ?_
  simp only [XA]
  refine hK _ ?_
  have hV04 := View.le_trans hV3 hV4
  have h3 := h3.mono hV4
  refine XWP.cutD 3 (fun s => ∃ (V5 : View) (hl : List Rat) (bb x y b2 x2 y2 : Value), StIs (fun Z => [Z 0,Z 1,Z 2,Z 3,Z 4,Z 5, .p 0 0, .p 1 0, .p 2 0, Z 9,Z 10,Z 11,Z 12,Z 13,Z 14,Z 15,Z 16,Z 17,Z 18,Z 19,Z 20,Z 21,Z 22,Z 23,Z 24,Z 25,Z 26,Z 27,Z 28,Z 29,Z 30,Z 31,Z 32,Z 33,Z 34,Z 35,Z 36,Z 37,Z 38,Z 39,Z 40,Z 41,Z 42,Z 43,Z 44,Z 45,Z 46,Z 47,Z 48,Z 49,Z 50,Z 51,Z 52,Z 53,Z 54,Z 55,Z 56,Z 57,Z 58,Z 59,Z 60,Z 61,Z 62,Z 63,Z 64,Z 65,Z 66,Z 67,Z 68,Z 69,Z 70,Z 71,Z 72,Z 73,Z 74,Z 75,Z 76]) [[.bool false, .slice none 0 0, .slice none 0 0], [bb, x, y], [b2, x2, y2]] (fun _ => none) V5 s ∧ HtOk l (sOf l i) hl ∧ RatC V5 (.agg #[bb, x, y]) (undQ l hl i k)) ?_ ?_
  rotate_left
  · rintro s ⟨V5, hl, bb, x, y, b2, x2, y2, hs, hht, hx⟩
    obtain ⟨z, rfl⟩ := hs.out
    try dsimp only
    clear hs
    obtain ⟨x', y', e, p1, p2⟩ := hx.form
    cases e
    refine Gx.a (by kernel_rfl) fun K hK => ?_
    simp only [XA, XB, Nat.reduceAdd, Nat.reduceLeDiff, ↓reduceIte]
    refine st_rat rfl rfl rfl p1 p2 ?_
    simp only [XA]
    refine hK _ (XWP.ret ?_)
    try simp only [thenX_ret, inBlockX_ret]
    exact ret_rat1 rfl rfl rfl ⟨hl, hht, hx⟩
  refine Gx.a (by kernel_rfl) fun K hK => ?_
  simp only [XU, XA]
  refine ⟨by omega, by omega, ld_mem (Loads.up la1 hV04 _) ?_⟩
  simp only [XA]
  refine call_go (by kernel_rfl) rfl (rscores1_c _ _ r (e1.mono rnE_ok hV04) h1) fun v5 V5 hV5 h5 => ?_
  rw [← es1] at h5
  have hV05 := View.le_trans hV04 hV5
  simp only [XA]
  refine call_go (by kernel_rfl) rfl (rheights_c _ _ _ l (sOf l i) (hx.mono rnE_ok hV05) hs (by omega) ll h5 hq1.1) fun v6 V6 hV6 h6 => ?_
  obtain ⟨hl, hht, hR⟩ := h6
  have hlen := hht.len
  have hhq := hht.qb hs
  have hV06 := View.le_trans hV05 hV6
  obtain ⟨AH, cH, rfl, _, _⟩ := hR.form
  simp only [XA, XB]
  refine hK _ ?_
  clear hK
  refine XWP.block ?_
  refine XWP.loopD 3 (fun q s => ∃ (h : Nat) (V7 : View) (bb x y b2 x2 y2 : Value), StIs (fun Z => [.v (.slice (some ⟨bL, oL, none⟩) l.length cL), .v (.int .i64 (i : Int)), .v (.int .i64 (k : Int)), Z 3,Z 4,Z 5, .p 0 0, .p 1 0, .p 2 0, Z 9,Z 10,Z 11,Z 12,Z 13,Z 14,Z 15,Z 16,Z 17,Z 18,Z 19,Z 20,Z 21,Z 22, .v (.slice AH hl.length cH), .v (.int .i64 (hl.length : Int)), .v (.int .i64 (h : Int)), Z 26,Z 27,Z 28,Z 29,Z 30,Z 31,Z 32,Z 33,Z 34,Z 35,Z 36,Z 37,Z 38,Z 39,Z 40,Z 41,Z 42,Z 43,Z 44,Z 45,Z 46,Z 47,Z 48,Z 49,Z 50,Z 51,Z 52,Z 53,Z 54,Z 55,Z 56,Z 57,Z 58,Z 59,Z 60,Z 61,Z 62,Z 63,Z 64,Z 65,Z 66,Z 67,Z 68,Z 69,Z 70,Z 71,Z 72,Z 73,Z 74,Z 75,Z 76]) [[.bool false, .slice none 0 0, .slice none 0 0], [bb, x, y], [b2, x2, y2]] (fun _ => none) V7 s ∧ q + h = hl.length ∧ V6.le V7 ∧ RatC V7 (.agg #[bb, x, y]) (Sm (undF l hl i k) h) ∧ RatC V7 (.agg #[b2, x2, y2]) (undP hl h)) hl.length ⟨0, V6, _, x3, y3, _, x4, y4, StIs.of (by exact rfl), by omega, View.le_refl _, (h3.mono hV5).mono hV6, (h4.mono hV5).mono hV6⟩ ?_
  clear h3 h4 o1 o2 o3 o4
  rintro q s ⟨h, V7, bb, x, y, b2, x2, y2, hs', hq, hV7, h7, g7⟩
  obtain ⟨z, rfl⟩ := hs'.out
  try dsimp only
  clear hs'
  have hV07 := View.le_trans hV06 hV7
  by_cases hm : h < hl.length
  rotate_left
  · obtain rfl : h = hl.length := by omega
    have b1 : decide (((hl.length : Nat) : Int) < ((hl.length : Nat) : Int)) = false := decide_eq_false (by omega)
    refine Gx.a (by kernel_rfl) fun K hK => ?_
    simp only [XA, XB, b1]
    refine hK _ ?_
    refine XWP.seq (Gx.f rfl ?_)
    refine XWP.exit ?_
    exact fun f => ⟨V7, hl, bb, x, y, b2, x2, y2, StIs.of (by exact rfl), hht, h7⟩
  have b1 : decide ((h : Int) < (hl.length : Int)) = true := decide_eq_true (by omega)
  refine Gx.a (by kernel_rfl) fun K hK => ?_
  simp only [XA, XB, b1]
  refine hK _ ?_
  refine XWP.seq (Gx.t rfl ?_)
  refine XWP.skip ?_
  obtain ⟨bR, oR, rfl⟩ := SlAt.addr hR (by omega)
  have e1' := e1.mono rnE_ok hV07
  have e2' := e2.mono rnE_ok hV07
  refine XWP.cutD 3 (fun s => ∃ (V8 : View) (bb x y b2 x2 y2 : Value), StIs (fun Z => [.v (.slice (some ⟨bL, oL, none⟩) l.length cL), .v (.int .i64 (i : Int)), .v (.int .i64 (k : Int)), Z 3,Z 4,Z 5, .p 0 0, .p 1 0, .p 2 0, Z 9,Z 10,Z 11,Z 12,Z 13,Z 14,Z 15,Z 16,Z 17,Z 18,Z 19,Z 20,Z 21,Z 22, .v (.slice (some ⟨bR, oR, none⟩) hl.length cH), .v (.int .i64 (hl.length : Int)), .v (.int .i64 (h : Int)), Z 26,Z 27,Z 28,Z 29,Z 30,Z 31,Z 32,Z 33,Z 34,Z 35,Z 36,Z 37,Z 38,Z 39,Z 40,Z 41,Z 42,Z 43,Z 44,Z 45,Z 46,Z 47,Z 48,Z 49,Z 50,Z 51,Z 52,Z 53,Z 54,Z 55,Z 56,Z 57,Z 58,Z 59,Z 60,Z 61,Z 62,Z 63,Z 64,Z 65,Z 66,Z 67,Z 68,Z 69,Z 70,Z 71,Z 72,Z 73,Z 74,Z 75,Z 76]) [[.bool false, .slice none 0 0, .slice none 0 0], [bb, x, y], [b2, x2, y2]] (fun _ => none) V8 s ∧ V7.le V8 ∧ RatC V8 (.agg #[bb, x, y]) (Sm (undF l hl i k) (h + 1)) ∧ RatC V8 (.agg #[b2, x2, y2]) (undP hl (h + 1))) ?_ ?_
  rotate_left
  · rintro s ⟨V8, bb, x, y, b2, x2, y2, hs, hV8, h8, g8⟩
    obtain ⟨z, rfl⟩ := hs.out
    try dsimp only
    clear hs
    refine Gx.c (by kernel_rfl) fun K hK => ?_
    simp only [XA, XB, i64_succ h (by omega)]
    exact hK _ ⟨q - 1, by omega, fun f => ⟨h + 1, V8, bb, x, y, b2, x2, y2, StIs.of (by exact rfl), by omega, View.le_trans hV7 hV8, h8, g8⟩⟩
  clear hK
  refine XWP.block ?_
  obtain ⟨m9, n9, d9, hx9, ⟨p7, p8, p9⟩, hld9⟩ := Rats.get (hR.up hV7) h (by omega)
  have ft := hhq _ (cf_mem hm)
  have fp := undP_QB hhq (show h ≤ hl.length by omega)
  have eP : undP hl (h + 1) = cf hl h := by unfold undP; rw [if_neg (by omega)]; rfl
  have hnS : sOf l i ≠ 0 := fun e => by have := hq1.2; rw [e] at this; exact absurd this (by decide)
  have qsb := ft.sub fp
  have qd1 := qsb.div hq1.1
  refine Gx.a (by kernel_rfl) fun K hK => ?_
  simp only [XA, XB]
  refine ⟨by omega, by omega, ld_mem (hld9 _) ?_⟩
  simp only [XA, XB, Nat.reduceAdd]
  refine st_rat rfl rfl p7 p8 p9 ?_
  simp only [XA]
  refine hK _ ?_
  refine XWP.cutD 5 (fun s => ∃ (V8 : View) (bp xp yp : Value), StIs (fun Z => [.v (.slice (some ⟨bL, oL, none⟩) l.length cL), .v (.int .i64 (i : Int)), .v (.int .i64 (k : Int)), Z 3,Z 4,Z 5, .p 0 0, .p 1 0, .p 2 0, Z 9, .p 3 0, .p 4 0, Z 12,Z 13,Z 14,Z 15,Z 16,Z 17,Z 18,Z 19,Z 20,Z 21,Z 22, .v (.slice (some ⟨bR, oR, none⟩) hl.length cH), .v (.int .i64 (hl.length : Int)), .v (.int .i64 (h : Int)), Z 26,Z 27,Z 28,Z 29,Z 30,Z 31,Z 32,Z 33,Z 34,Z 35,Z 36,Z 37,Z 38,Z 39,Z 40,Z 41,Z 42,Z 43,Z 44,Z 45,Z 46,Z 47,Z 48,Z 49,Z 50,Z 51,Z 52,Z 53,Z 54,Z 55,Z 56,Z 57,Z 58,Z 59,Z 60,Z 61,Z 62,Z 63,Z 64,Z 65,Z 66,Z 67,Z 68,Z 69,Z 70,Z 71,Z 72,Z 73,Z 74,Z 75,Z 76]) [[.bool false, .slice none 0 0, .slice none 0 0], [bb, x, y], [b2, x2, y2], [m9, n9, d9], [bp, xp, yp]] (fun _ => none) V8 s ∧ V7.le V8 ∧ RatC V8 (.agg #[bp, xp, yp]) ((cf hl h - undP hl h) / sOf l i)) ?_ ?_
  · (refine XWP.drwT1 (.lin [0, 1, 3, 4, 5, 6] (.two (.lin [2] (.two (.lin [7] (.two (.lin [8, 9, 10] .nil) (.lin [9, 8, 10] .nil))) (.lin [9, 7, 8, 10] .nil))) (.lin [9, 2, 7, 8, 10] .nil))) (by kernel_rfl) (by kernel_rfl) (by kernel_rfl) fun K hK => ?_)
    simp only [XU, XA, XB, Nat.reduceAdd, Nat.reduceLeDiff, ↓reduceIte]
    refine ⟨by omega, by omega, ld_mem (Loads.up la1 hV07 _) ?_⟩
    simp only [XA, XB, Nat.reduceAdd]
    repeat' first
      | refine And.intro ?_ ?_
      | refine call_go (by kernel_rfl) rfl (psub_c _ _ _ _ _ (RatC.toV hx9 (ft.qf (by omega))) (RatC.toV g7 (fp.qf (by omega))) (ft.qf (by omega)) (fp.qf (by omega))) fun vA VA hVA hA => ?_
      | (refine call_go (by kernel_rfl) rfl (rscores1_c _ _ r (e1'.mono rnE_ok hVA) h1) fun vB VB hVB hB => ?_; rw [← es1] at hB)
      | (refine call_go (by kernel_rfl) rfl (rby_c _ _ _ _ _ (hA.mono hVB) hB (qsb.qf (by omega)) (hq1.1.qf (by omega)) hnS) fun vC VC hVC hC => ?_; obtain ⟨xC, yC, rfl, p5, p6⟩ := hC.form)
      | refine st_rat rfl rfl rfl p5 p6 ?_
      | exact hK _ fun f => ⟨VC, _, xC, yC, StIs.of (by exact rfl), View.le_trans hVA (View.le_trans hVB hVC), hC⟩
      | simp only [XA, XB, Nat.reduceAdd]
  rintro s ⟨V8, bp, xp, yp, hs', hV8, h8⟩
  obtain ⟨z, rfl⟩ := hs'.out
  try dsimp only
  clear hs'
  have hV78 := hV8
  have hV08 := View.le_trans hV07 hV8
  have eSm : Sm (undF l hl i k) (h + 1) = Sm (undF l hl i k) h + undF l hl i k h := rfl
  refine Gx.a (by kernel_rfl) fun K hK => ?_
  simp only [XA, XB, Nat.reduceAdd, Nat.reduceLeDiff, ↓reduceIte]
  refine st_rat rfl rfl p7 p8 p9 ?_
  simp only [XA]
  refine hK _ ?_
  refine XWP.seq ?_
  (refine XWP.drw [0, 1, 2, 3, 5, 4, 6, 7] (by kernel_rfl) (by kernel_rfl) (by kernel_rfl) fun K hK => ?_) <;> dsimp only [pickOps, List.getElem?_cons_zero, List.getElem?_cons_succ]
  simp only [XU, XA]
  refine ⟨by omega, by omega, ld_mem (Loads.up la2 hV08 _) ?_⟩
  simp only [XA, XB, Nat.reduceAdd, Nat.reduceLeDiff, ↓reduceIte]
  refine call_go (by kernel_rfl) rfl (rscores1_c _ _ t (e2.mono rnE_ok hV08) h2) fun vA VA hVA hA => ?_
  rw [← es2] at hA
  simp only [XA]
  refine call_go (by kernel_rfl) rfl (pcompare_c _ _ _ _ _ (RatC.toV hA (hq2.1.qf (by omega))) (RatC.toV ((hx9.mono hV8).mono hVA) (ft.qf (by omega))) (hq2.1.qf (by omega)) (ft.qf (by omega))) fun vB VB hVB hB => ?_
  subst hB
  have hV8B := View.le_trans hVA hVB
  have hV7B := View.le_trans hV8 hV8B
  by_cases hbr : cf hl h ≤ sOf l k
  rotate_left
  · have d2 : decide (sgI (sOf l k - cf hl h) < 0) = true := decide_eq_true ((sgI_neg_iff _ _).2 (Rat.not_le.1 hbr))
    simp only [XA, XB, d2]
    refine hK _ ?_
    refine Gx.t rfl ?_
    refine XWP.exit ?_
    refine fun f => ⟨VB, bb, x, y, m9, n9, d9, StIs.of (by exact rfl), hV7B, ?_, ?_⟩
    · rw [eSm]
      have : undF l hl i k h = 0 := by unfold undF; rw [if_neg hbr]
      rw [this, Rat.add_zero]; exact h7.mono hV7B
    · rw [eP]; exact hx9.mono hV7B
  have d2 : decide (sgI (sOf l k - cf hl h) < 0) = false := decide_eq_false fun e => Rat.not_le.2 ((sgI_neg_iff _ _).1 e) hbr
  simp only [XA, XB, d2]
  refine hK _ ?_
  refine Gx.f rfl ?_
  refine XWP.skip ?_
  have hV0B := View.le_trans hV07 hV7B
  refine Gx.a (by kernel_rfl) fun K hK => ?_
  simp only [XA]
  refine call_go (by kernel_rfl) rfl (pzero_c _) fun vC VC hVC hC => ?_
  obtain ⟨xC, yC, rfl, o3, o4⟩ := hC.form
  simp only [XA, XB, Nat.reduceAdd]
  refine st_rat rfl rfl rfl o3 o4 ?_
  simp only [XA]
  refine hK _ ?_
  have hV0C := View.le_trans hV0B hVC
  have hV7C := View.le_trans hV7B hVC
  have hC : RatC VC (.agg #[.bool (ng 0), xC, yC]) (Sm (heiF l (cf hl h)) 0) := hC
  have hqS : ∀ j, j ≤ l.length → QF (Sm (heiF l (cf hl h)) j) := fun j hj => (heiS_QB hs (cf hl h) j hj).qf (by omega)
  refine XWP.cutD 6 (fun s => ∃ (VD : View) (bd xd yd : Value), StIs (fun Z => [.v (.slice (some ⟨bL, oL, none⟩) l.length cL), .v (.int .i64 (i : Int)), .v (.int .i64 (k : Int)), Z 3,Z 4,Z 5, .p 0 0, .p 1 0, .p 2 0, Z 9, .p 3 0, .p 4 0, .p 5 0, Z 13,Z 14,Z 15,Z 16,Z 17,Z 18,Z 19,Z 20,Z 21,Z 22, .v (.slice (some ⟨bR, oR, none⟩) hl.length cH), .v (.int .i64 (hl.length : Int)), .v (.int .i64 (h : Int)), Z 26,Z 27,Z 28,Z 29,Z 30,Z 31,Z 32,Z 33,Z 34,Z 35,Z 36,Z 37,Z 38,Z 39,Z 40,Z 41,Z 42,Z 43,Z 44,Z 45,Z 46,Z 47,Z 48,Z 49,Z 50,Z 51,Z 52,Z 53,Z 54,Z 55,Z 56,Z 57,Z 58,Z 59,Z 60,Z 61,Z 62,Z 63,Z 64,Z 65,Z 66,Z 67,Z 68,Z 69,Z 70,Z 71,Z 72,Z 73,Z 74,Z 75,Z 76]) [[.bool false, .slice none 0 0, .slice none 0 0], [bb, x, y], [m9, n9, d9], [m9, n9, d9], [bp, xp, yp], [bd, xd, yd]] (fun _ => none) VD s ∧ VC.le VD ∧ RatC VD (.agg #[bd, xd, yd]) (heiS l (cf hl h))) ?_ ?_
  · refine Gx.a (by kernel_rfl) fun K hK => ?_
    simp only [XU, XA]
    refine hK _ ?_
    clear hK
    refine XWP.block ?_
    refine XWP.loopD 6 (fun n s => ∃ (j : Nat) (VD : View) (bd xd yd : Value), StIs (fun Z => [.v (.slice (some ⟨bL, oL, none⟩) l.length cL), .v (.int .i64 (i : Int)), .v (.int .i64 (k : Int)), Z 3,Z 4,Z 5, .p 0 0, .p 1 0, .p 2 0, Z 9, .p 3 0, .p 4 0, .p 5 0, Z 13,Z 14,Z 15,Z 16,Z 17,Z 18,Z 19,Z 20,Z 21,Z 22, .v (.slice (some ⟨bR, oR, none⟩) hl.length cH), .v (.int .i64 (hl.length : Int)), .v (.int .i64 (h : Int)), Z 26,Z 27,Z 28,Z 29,Z 30,Z 31,Z 32,Z 33,Z 34,Z 35,Z 36,Z 37,Z 38,Z 39,Z 40,Z 41,Z 42,Z 43,Z 44,Z 45,Z 46,Z 47, .v (.slice (some ⟨bL, oL, none⟩) l.length cL), .v (.int .i64 (l.length : Int)), .v (.int .i64 (j : Int)), Z 51,Z 52,Z 53,Z 54,Z 55,Z 56,Z 57,Z 58,Z 59,Z 60,Z 61,Z 62,Z 63,Z 64,Z 65,Z 66,Z 67,Z 68,Z 69,Z 70,Z 71,Z 72,Z 73,Z 74,Z 75,Z 76]) [[.bool false, .slice none 0 0, .slice none 0 0], [bb, x, y], [m9, n9, d9], [m9, n9, d9], [bp, xp, yp], [bd, xd, yd]] (fun _ => none) VD s ∧ n + j = l.length ∧ VC.le VD ∧ RatC VD (.agg #[bd, xd, yd]) (Sm (heiF l (cf hl h)) j)) l.length ⟨0, VC, _, xC, yC, StIs.of (by exact rfl), by omega, View.le_refl _, hC⟩ ?_
    clear hC o3 o4
    rintro n s ⟨j, VD, bd, xd, yd, hs', hn, hVD, hD⟩
    obtain ⟨z, rfl⟩ := hs'.out
    try dsimp only
    clear hs'
    by_cases hj : j < l.length
    rotate_left
    · obtain rfl : j = l.length := by omega
      have bj : decide (((l.length : Nat) : Int) < ((l.length : Nat) : Int)) = false := decide_eq_false (by omega)
      refine Gx.a (by kernel_rfl) fun K hK => ?_
      simp only [XA, XB, bj]
      refine hK _ ?_
      refine XWP.seq (Gx.f rfl ?_)
      refine XWP.exit ?_
      exact fun f => ⟨VD, bd, xd, yd, StIs.of (by exact rfl), hVD, hD⟩
    have bj : decide ((j : Int) < (l.length : Int)) = true := decide_eq_true (by omega)
    refine Gx.a (by kernel_rfl) fun K hK => ?_
    simp only [XA, XB, bj]
    refine hK _ ?_
    refine XWP.seq (Gx.t rfl ?_)
    refine XWP.skip ?_
    have hV0D := View.le_trans hV0C hVD
    obtain ⟨g, hg⟩ : ∃ r, l[j]? = some r := ⟨_, List.getElem?_eq_getElem hj⟩
    have hgs := hs g (List.mem_of_getElem? hg)
    obtain ⟨w0, w1', w2', w3, w4, dv9, w6, w7, w8, e9, _, _, la9, _, _⟩ := hx.rnAt hg hgs.ok
    have hone := e9.2.1
    have e9' := e9.mono rnE_ok hV0D
    have es9 := sOf_at hg
    have eq9 := qOf_at hg
    have hsg := sOf_small hs hj
    have hqg := qOf_small hs hj
    refine XWP.cutD 6 (fun s => ∃ (VE : View) (bd xd yd : Value), StIs (fun Z => [.v (.slice (some ⟨bL, oL, none⟩) l.length cL), .v (.int .i64 (i : Int)), .v (.int .i64 (k : Int)), Z 3,Z 4,Z 5, .p 0 0, .p 1 0, .p 2 0, Z 9, .p 3 0, .p 4 0, .p 5 0, Z 13,Z 14,Z 15,Z 16,Z 17,Z 18,Z 19,Z 20,Z 21,Z 22, .v (.slice (some ⟨bR, oR, none⟩) hl.length cH), .v (.int .i64 (hl.length : Int)), .v (.int .i64 (h : Int)), Z 26,Z 27,Z 28,Z 29,Z 30,Z 31,Z 32,Z 33,Z 34,Z 35,Z 36,Z 37,Z 38,Z 39,Z 40,Z 41,Z 42,Z 43,Z 44,Z 45,Z 46,Z 47, .v (.slice (some ⟨bL, oL, none⟩) l.length cL), .v (.int .i64 (l.length : Int)), .v (.int .i64 (j : Int)), Z 51,Z 52,Z 53,Z 54,Z 55,Z 56,Z 57,Z 58,Z 59,Z 60,Z 61,Z 62,Z 63,Z 64,Z 65,Z 66,Z 67,Z 68,Z 69,Z 70,Z 71,Z 72,Z 73,Z 74,Z 75,Z 76]) [[.bool false, .slice none 0 0, .slice none 0 0], [bb, x, y], [m9, n9, d9], [m9, n9, d9], [bp, xp, yp], [bd, xd, yd]] (fun _ => none) VE s ∧ VD.le VE ∧ RatC VE (.agg #[bd, xd, yd]) (Sm (heiF l (cf hl h)) (j + 1))) ?_ ?_
    rotate_left
    · rintro s ⟨VE, bd, xd, yd, hs, hVE, hE⟩
      obtain ⟨z, rfl⟩ := hs.out
      try dsimp only
      clear hs
      refine Gx.c (by kernel_rfl) fun K hK => ?_
      simp only [XA, XB, i64_succ j (by omega)]
      exact hK _ ⟨n - 1, by omega, fun f => ⟨j + 1, VE, bd, xd, yd, StIs.of (by exact rfl), by omega, View.le_trans hVD hVE, hE⟩⟩
    clear hK
    have eS : Sm (heiF l (cf hl h)) (j + 1) = Sm (heiF l (cf hl h)) j + heiF l (cf hl h) j := rfl
    have eF : heiF l (cf hl h) j = if cf hl h ≤ sOf l j then qOf l j else 0 := rfl
    refine XWP.block ?_
    refine Gx.a (by kernel_rfl) fun K hK => ?_
    simp only [XU, XA]
    refine ⟨by omega, by omega, ld_mem (Loads.up la9 hV0D _) ?_⟩
    simp only [XU, XA, Nat.reduceAdd]
    refine st_whole (cs := [w0, w1', w2', w3, w4, dv9, w6, w7, w8]) shapeT_51 rfl rfl rfl hone ?_
    simp only [XA]
    refine hK _ ?_
    (refine XWP.drw [0, 2, 1, 3, 4] (by kernel_rfl) (by kernel_rfl) (by kernel_rfl) fun K hK => ?_) <;> dsimp only [pickOps, List.getElem?_cons_zero, List.getElem?_cons_succ]
    simp only [XU, XA, XB, Nat.reduceAdd, Nat.reduceLeDiff, ↓reduceIte]
    refine call_go (by kernel_rfl) rfl (rscores1_c _ _ g e9' hgs) fun vE VE hVE hE => ?_
    rw [← es9] at hE
    simp only [XA]
    refine call_go (by kernel_rfl) rfl (pcompare_c _ _ _ _ _ (RatC.toV hE (hsg.1.qf (by omega))) (RatC.toV (((hx9.mono hV7C).mono hVD).mono hVE) (ft.qf (by omega))) (hsg.1.qf (by omega)) (ft.qf (by omega))) fun vF VF hVF hF => ?_
    subst hF
    have hVDF := View.le_trans hVE hVF
    by_cases hle : cf hl h ≤ sOf l j
    rotate_left
    · have bc : decide (0 ≤ sgI (sOf l j - cf hl h)) = false := decide_eq_false fun e => by
        have := (sgI_neg_iff _ _).2 (Rat.not_le.1 hle)
        omega
      simp only [XA, XB, bc]
      refine hK _ ?_
      refine Gx.f rfl ?_
      refine XWP.skip ?_
      refine fun f => ⟨VF, bd, xd, yd, StIs.of (by exact rfl), hVDF, ?_⟩
      rw [eS, eF, if_neg hle, Rat.add_zero]
      exact hD.mono hVDF
    have bc : decide (0 ≤ sgI (sOf l j - cf hl h)) = true := decide_eq_true (by
      have : ¬ sgI (sOf l j - cf hl h) < 0 := fun e => Rat.not_lt.2 hle ((sgI_neg_iff _ _).1 e)
      omega)
    simp only [XA, XB, bc]
    refine hK _ ?_
    refine Gx.t rfl ?_
    (refine XWP.drw1 [0, 1, 2, 3, 4] (by kernel_rfl) (by kernel_rfl) (by kernel_rfl) fun K hK => ?_) <;> dsimp only [pickOps, List.getElem?_cons_zero, List.getElem?_cons_succ]
    simp only [XU, XA, XB, Nat.reduceAdd, Nat.reduceLeDiff, ↓reduceIte]
    refine call_go (by kernel_rfl) rfl (rprior1_c _ _ g (e9'.mono rnE_ok hVDF) (by have := hgs.len; omega) hgs.good) fun vG VG hVG hG => ?_
    rw [← eq9] at hG
    simp only [XA]
    refine call_go (by kernel_rfl) rfl (padd_c _ _ _ _ _ (RatC.toV ((hD.mono hVDF).mono hVG) (hqS j (by omega))) (RatC.toV hG (hqg.1.qf (by omega))) (hqS j (by omega)) (hqg.1.qf (by omega))) fun vH VH hVH hH => ?_
    obtain ⟨xH, yH, rfl, p5, p6⟩ := hH.form
    simp only [XA]
    refine st_rat rfl rfl rfl p5 p6 ?_
    simp only [XA]
    refine hK _ fun f => ⟨VH, _, xH, yH, StIs.of (by exact rfl), View.le_trans hVDF (View.le_trans hVG hVH), ?_⟩
    rw [eS, eF, if_pos hle]
    exact hH
  clear hC o3 o4
  rintro s ⟨VD, bd, xd, yd, hs', hVD, hD⟩
  obtain ⟨z, rfl⟩ := hs'.out
  try dsimp only
  clear hs'
  have hV0D := View.le_trans hV0C hVD
  have hV7D := View.le_trans hV7C hVD
  have hV8D := View.le_trans hV8B (View.le_trans hVC hVD)
  have hqA := (heiS_QB hs (cf hl h) l.length (Nat.le_refl _)).mono (show l.length * 129 ≤ 7740 by omega)
  have hpA := heiS_pos hs hk hbr
  have hnA : heiS l (cf hl h) ≠ 0 := fun e => by rw [e] at hpA; exact absurd hpA (by decide)
  have hqs := undS_QB hs ll hhq hi hk h (by omega)
  have ef : undF l hl i k h = (cf hl h - undP hl h) / sOf l i * (qOf l k / heiS l (cf hl h)) := by unfold undF; rw [if_pos hbr]
  have qd2 := hq3.1.div hqA
  (refine XWP.drw1 [0, 1, 2, 3, 4, 5, 7, 6, 8, 9, 10, 11] (by kernel_rfl) (by kernel_rfl) (by kernel_rfl) fun K hK => ?_) <;> dsimp only [pickOps, List.getElem?_cons_zero, List.getElem?_cons_succ]
  simp only [XU, XA, XB, Nat.reduceAdd, Nat.reduceLeDiff, ↓reduceIte]
  refine ⟨by omega, by omega, ld_mem (Loads.up la2 hV0D _) ?_⟩
  simp only [XA, XB, Nat.reduceAdd, Nat.reduceLeDiff, ↓reduceIte]
  refine call_go (by kernel_rfl) rfl (rprior1_c _ _ t (e2.mono rnE_ok hV0D) (by have := h2.len; omega) h2.good) fun vE VE hVE hE => ?_
  rw [← eq2] at hE
  simp only [XA]
  refine call_go (by kernel_rfl) rfl (rby_c _ _ _ _ _ hE (hD.mono hVE) (hq3.1.qf (by omega)) (hqA.qf (by omega)) hnA) fun vF VF hVF hF => ?_
  simp only [XA]
  refine call_go (by kernel_rfl) rfl (pmul_c _ _ _ _ _ (RatC.toV (((h8.mono hV8D).mono hVE).mono hVF) (qd1.qf (by omega))) (RatC.toV hF (qd2.qf (by omega))) (qd1.qf (by omega)) (qd2.qf (by omega))) fun vG VG hVG hG => ?_
  simp only [XA]
  refine call_go (by kernel_rfl) rfl (padd_c _ _ _ _ _ (RatC.toV ((((h7.mono hV7D).mono hVE).mono hVF).mono hVG) (hqs.qf (by omega))) (RatC.toV hG ((qd1.mul qd2).qf (by omega))) (hqs.qf (by omega)) ((qd1.mul qd2).qf (by omega))) fun vH VH hVH hH => ?_
  obtain ⟨xH, yH, rfl, p5, p6⟩ := hH.form
  simp only [XA]
  refine st_rat rfl rfl rfl p5 p6 ?_
  simp only [XA]
  have hVDH := View.le_trans hVE (View.le_trans hVF (View.le_trans hVG hVH))
  refine hK _ fun f => ⟨VH, _, xH, yH, m9, n9, d9, StIs.of (by exact rfl), View.le_trans hV7D hVDH, ?_, ?_⟩
  · rw [eSm, ef]; exact hH
  · rw [eP]; exact hx9.mono (View.le_trans hV7D hVDH)
end Go.Proofs.YtobjjdnfgamgcaaGreat
end
section
namespace Go.Proofs.YtobjjdnfgamgcaaGreat
open Go Go.RowKit
set_option linter.unusedSimpArgs false
set_option linter.unusedVariables false
attribute [local irreducible] XWP Spec SpecO XPub XCall seqX clX apX stX ldX iaX slX
theorem pre_of (M : Rat) : ∀ (b a : List Rat), b.Pairwise (· < ·) → a.Pairwise (· < ·) → (∀ q, q ∈ a ↔ q ∈ b ∧ q ≤ M) → ∃ r, b = a ++ r ∧ ∀ q ∈ r, ¬ q ≤ M := by
  intro b
  induction b with
  | nil =>
    intro a _ _ h
    have : a = [] := by
      cases a with
      | nil => rfl
      | cons y a => have := ((h y).1 (by simp)).1; cases this
    subst this
    exact ⟨[], rfl, fun q hq => by cases hq⟩
  | cons x b ih =>
    intro a hb ha h
    obtain ⟨h1, h2⟩ := List.pairwise_cons.1 hb
    by_cases hx : x ≤ M
    · have hxa := (h x).2 ⟨by simp, hx⟩
      cases a with
      | nil => cases hxa
      | cons y a =>
        obtain ⟨g1, g2⟩ := List.pairwise_cons.1 ha
        have hyx : y = x := by
          have hy := ((h y).1 (by simp)).1
          have e1 : y ≤ x := by
            rcases List.mem_cons.1 hxa with e | e
            · grind
            · have := g1 x e; grind
          have e2 : x ≤ y := by
            rcases List.mem_cons.1 hy with e | e
            · grind
            · have := h1 y e; grind
          grind
        subst hyx
        obtain ⟨r, hr, hM⟩ := ih a h2 g2 (fun q => by
          constructor
          · intro hq
            have := (h q).1 (List.mem_cons_of_mem _ hq)
            rcases List.mem_cons.1 this.1 with e | e
            · have := g1 q hq; grind
            · exact ⟨e, this.2⟩
          · rintro ⟨hq, hM⟩
            have := (h q).2 ⟨List.mem_cons_of_mem _ hq, hM⟩
            rcases List.mem_cons.1 this with e | e
            · have := h1 q hq; grind
            · exact e)
        exact ⟨r, by rw [hr]; rfl, hM⟩
    · have : a = [] := by
        cases a with
        | nil => rfl
        | cons y a =>
          have hy := (h y).1 (by simp)
          rcases List.mem_cons.1 hy.1 with e | e
          · rw [e] at hy; exact absurd hy.2 hx
          · have := h1 y e
            have := hy.2
            grind
      subst this
      refine ⟨x :: b, rfl, fun q hq hM => ?_⟩
      rcases List.mem_cons.1 hq with e | e
      · rw [e] at hM; exact hx hM
      · have := h1 q e
        grind
theorem cf_cons (x : Rat) (l : List Rat) (j : Nat) : cf (x :: l) (j + 1) = cf l j := by unfold cf; simp [List.getD]
theorem cf_app1 {a r : List Rat} {j : Nat} (h : j < a.length) : cf (a ++ r) j = cf a j := by
  rw [← cf_get (show j < (a ++ r).length by rw [List.length_append]; omega), ← cf_get h, List.getElem_append_left h]
theorem cf_app2 {a r : List Rat} {j : Nat} (h1 : a.length ≤ j) (h2 : j < (a ++ r).length) : cf (a ++ r) j ∈ r := by
  rw [← cf_get h2, List.getElem_append_right h1]
  exact List.getElem_mem _
theorem und_sli {l : List Rn} (hs : ∀ r ∈ l, r.small) {hl hh : List Rat} {i k : Nat} (h1 : HtOk l (sOf l i) hl) (h2 : HsOk l hh) : undQ l hl i k = sliQ l hh i k := by
  have c0 := h2.cf0 hs
  cases hh with
  | nil => have := h2.pos; simp at this
  | cons z tl =>
    have ez : z = 0 := by
      have : cf (z :: tl) 0 = z := rfl
      rw [← this]; exact c0
    subst ez
    obtain ⟨p1, p2⟩ := List.pairwise_cons.1 h2.srt
    have hmem : ∀ q, q ∈ tl ↔ ∃ j, j < l.length ∧ q = sOf l j := fun q => by
      constructor
      · intro hq
        rcases (h2.mem q).1 (List.mem_cons_of_mem _ hq) with e | e
        · have := p1 q hq; grind
        · exact e
      · rintro ⟨j, hj, e⟩
        have := (h2.mem q).2 (.inr ⟨j, hj, e⟩)
        rcases List.mem_cons.1 this with e0 | e0
        · have := (sOf_small hs hj).2; grind
        · exact e0
    obtain ⟨r, hr, hM⟩ := pre_of (sOf l i) tl hl p2 h1.srt (fun q => by rw [h1.mem, hmem])
    subst hr
    unfold undQ sliQ
    rw [List.length_cons, Sm_front]
    have e0 : sliF l (0 :: (hl ++ r)) i k 0 = 0 := by unfold sliF; rw [if_neg (fun e => e.1 rfl)]
    rw [e0, Rat.zero_add, Sm_stop (h := hl.length) (hl ++ r).length (fun j h3 h4 => by
      unfold sliF
      rw [if_neg]
      rintro ⟨_, h5, _⟩
      rw [cf_cons] at h5
      exact hM _ (cf_app2 h3 h4) h5) (by rw [List.length_append]; omega)]
    refine Sm_congr _ fun j hj => ?_
    have ej : cf (0 :: (hl ++ r)) (j + 1) = cf hl j := by rw [cf_cons, cf_app1 hj]
    have ep : cf (0 :: (hl ++ r)) (j + 1 - 1) = undP hl j := by
      unfold undP
      by_cases hj0 : j = 0
      · subst hj0; rw [if_pos rfl]; rfl
      · rw [if_neg hj0]
        obtain ⟨j', rfl⟩ : ∃ j', j = j' + 1 := ⟨j - 1, by omega⟩
        rw [Nat.add_sub_cancel, cf_cons, cf_app1 (by omega), Nat.add_sub_cancel]
    have hle : cf hl j ≤ sOf l i := ((h1.mem _).1 (cf_mem hj)).2
    unfold undF sliF sliT
    rw [ej, ep]
    by_cases hc : cf hl j ≤ sOf l k
    · rw [if_pos hc, if_pos ⟨by omega, hle, hc⟩]
    · rw [if_neg hc, if_neg (fun e => hc e.2.2)]
end Go.Proofs.YtobjjdnfgamgcaaGreat
end
