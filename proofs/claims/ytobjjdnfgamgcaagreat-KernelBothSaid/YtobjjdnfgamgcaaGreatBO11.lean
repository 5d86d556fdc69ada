/- The composition and every mixture of two kernels leave the posterior invariant, at every input. (part 11 of 13) -/
import Derived.OrdersHeld
import Derived.Below
import Derived.Tactics
import Derived.KernelRfl
import Derived.RangeFuncCalls
import Derived.RangeFuncFrom
import Derived.RangeFuncLeaves
import Derived.OrdersIn
import Derived.Laws.AppendOwn
import Derived.Laws.MakeOwn
import Derived.Laws.CopyRow
import Derived.Laws.Cells
import Derived.Laws.World
import Derived.Laws.Alloc2
import Derived.Laws.NewBlocks
import Derived.Maps.AppendAt
import Derived.Test.YtobjjdnfgamgcaaGreatProg
import Init.Data.List.Lemmas
import Init.Omega
import Derived.WalkKit
import Derived.ProofKit
import Derived.OpenShut
import Derived.ChangeOld
import Derived.SizedLaws
import Derived.ChangeSlices
import Derived.ChangeArms
import Derived.Deep.Slices
import Derived.MapKept
import Derived.Maps.RangeRun
import Derived.Shelf.SlSortCmp.WholeK
import Derived.Lib.QuietBelow
import Derived.Test.YtobjjdnfgamgcaaGreatBO10
set_option linter.unusedVariables false
set_option linter.unusedSimpArgs false
section
namespace Go.Proofs.YtobjjdnfgamgcaaGreat
open Go Go.RowKit
attribute [local irreducible] XWP Spec SpecO XPub XCall seqX clX apX stX ldX iaX slX
def besD (m i : Nat) (d e : Dr) : Bool := decide (d.site = e.site) && decide (d.whole = e.whole) && (decide (i = m) || (decide (d.index = e.index) && decide (d.odds = e.odds)))
def besAt (a b : List Dr) (m i : Nat) : Bool := ((a[i]?).bind fun d => (b[i]?).map fun e => besD m i d e).getD false
def besB (a b : List Dr) (m : Nat) : Bool := decide (a.length = b.length) && (List.range a.length).all (besAt a b m)
theorem besAt_at {a b : List Dr} {m i : Nat} {d e : Dr} (h1 : a[i]? = some d) (h2 : b[i]? = some e) : besAt a b m i = besD m i d e := by unfold besAt; rw [h1, h2]; rfl
theorem besB_bad {a b : List Dr} {m i : Nat} (hi : i < a.length) (h : besAt a b m i = false) : besB a b m = false := by
 unfold besB
 have : (List.range a.length).all (besAt a b m) = false := by
  rw [List.all_eq_false]
  exact ⟨i, List.mem_range.2 hi, by rw [h]; simp⟩
 rw [this]; simp
set_option maxHeartbeats 2000000 in
theorem cbeside_c (V : View) (cs1 cs2 : List Value) (r t : Rn) (m : Nat) (h1 : ElK 9 rnE V cs1 r) (h2 : ElK 9 rnE V cs2 t) (l1 : r.ds.length ≤ 1000) : Spec Tryz.prog 67 [.agg cs1.toArray, .agg cs2.toArray, .int .i64 (m : Int)] V fun v' V' => v' = .bool (besB r.ds t.ds m) := by
 obtain ⟨u0, u1, u2, u3, u4, dv1, u6, u7, u8, rfl, hd1⟩ := rn_draws h1
 obtain ⟨v0, v1, v2, v3, v4, dv2, v6, v7, v8, rfl, hd2⟩ := rn_draws h2
 obtain ⟨A1, q1, rfl, _, _⟩ := hd1.form
 obtain ⟨A2, q2, rfl, _, _⟩ := hd2.form
 refine (Spec.enter Tryz.func67 rfl fun Γ => ?_)
 simp only [Tryz.ntmps67, List.map_cons, List.map_nil, List.length_cons, List.length_nil, Nat.reduceAdd, Nat.reduceSub, List.replicate_succ, List.replicate_zero, List.cons_append, List.nil_append]
 refine Gx.a (by kernel_rfl) fun K hK => ?_
 simp only [XA]
 refine hK _ ?_
 refine XWP.seq ?_
 by_cases hl : r.ds.length = t.ds.length
 rotate_left
 ·have t1 : (!decide ((r.ds.length : Int) = (t.ds.length : Int))) = true := by rw [decide_eq_false (by omega)]; rfl
  refine Gx.a (by kernel_rfl) fun K hK => ?_
  simp only [XU, XA, XB, t1]
  refine hK _ ?_
  refine Gx.t rfl ?_
  refine Gx.a (by kernel_rfl) fun K hK => ?_
  simp only [XA]
  refine hK _ (XWP.ret ?_)
  try simp only [thenX_ret, inBlockX_ret]
  refine ret_go _ rfl ?_
  unfold besB
  rw [decide_eq_false hl]; rfl
 have t1 : (!decide ((r.ds.length : Int) = (t.ds.length : Int))) = false := by rw [decide_eq_true (by omega)]; rfl
 refine Gx.a (by kernel_rfl) fun K hK => ?_
 simp only [XU, XA, XB, t1]
 refine hK _ ?_
 refine Gx.f rfl ?_
 refine XWP.skip ?_
 refine XWP.cutD 2 (fun s => StIs (fun Z => [Z 0,Z 1,Z 2,Z 3,Z 4,Z 5,Z 6,Z 7,Z 8,Z 9,Z 10,Z 11,Z 12,Z 13,Z 14,Z 15,Z 16,Z 17,Z 18,Z 19,Z 20,Z 21,Z 22,Z 23,Z 24,Z 25,Z 26,Z 27,Z 28,Z 29,Z 30,Z 31,Z 32,Z 33,Z 34,Z 35,Z 36,Z 37,Z 38,Z 39,Z 40,Z 41,Z 42,Z 43,Z 44,Z 45,Z 46,Z 47,Z 48,Z 49,Z 50,Z 51,Z 52,Z 53,Z 54,Z 55,Z 56,Z 57,Z 58,Z 59,Z 60,Z 61]) [[u0, u1, u2, u3, u4, .slice A1 r.ds.length q1, u6, u7, u8], [v0, v1, v2, v3, v4, .slice A2 t.ds.length q2, v6, v7, v8]] (fun _ => none) V s ∧ besB r.ds t.ds m = true) ?_ ?_
 rotate_left
 ·rintro s ⟨hs, hb⟩
  obtain ⟨z, rfl⟩ := hs.out
  try dsimp only
  refine Gx.a (by kernel_rfl) fun K hK => ?_
  simp only [XA]
  refine hK _ (XWP.ret ?_)
  try simp only [thenX_ret, inBlockX_ret]
  refine ret_go _ rfl ?_
  rw [hb]; rfl
 refine Gx.a (by kernel_rfl) fun K hK => ?_
 simp only [XU, XA]
 refine hK _ ?_
 clear hK
 refine XWP.block ?_
 refine XWP.loopD 2 (fun q s => ∃ (k : Nat), StIs (fun Z => [Z 0,Z 1, .v (.int .i64 (m : Int)), .p 0 0, .p 1 0, Z 5,Z 6,Z 7,Z 8,Z 9,Z 10,Z 11,Z 12,Z 13,Z 14,Z 15,Z 16,Z 17, .v (.slice A1 r.ds.length q1), .v (.int .i64 (r.ds.length : Int)), .v (.int .i64 (k : Int)), Z 21,Z 22,Z 23,Z 24,Z 25,Z 26,Z 27,Z 28,Z 29,Z 30,Z 31,Z 32,Z 33,Z 34,Z 35,Z 36,Z 37,Z 38,Z 39,Z 40,Z 41,Z 42,Z 43,Z 44,Z 45,Z 46,Z 47,Z 48,Z 49,Z 50,Z 51,Z 52,Z 53,Z 54,Z 55,Z 56,Z 57,Z 58,Z 59,Z 60,Z 61]) [[u0, u1, u2, u3, u4, .slice A1 r.ds.length q1, u6, u7, u8], [v0, v1, v2, v3, v4, .slice A2 t.ds.length q2, v6, v7, v8]] (fun _ => none) V s ∧ q + k = r.ds.length ∧ ∀ i, i < k → besAt r.ds t.ds m i = true) r.ds.length ⟨0, StIs.of (by exact rfl), by omega, fun i hi => by omega⟩ ?_
 rintro q s ⟨k, hs, hq, hall⟩
 obtain ⟨z, rfl⟩ := hs.out
 try dsimp only
 clear hs
 by_cases hk : k < r.ds.length
 rotate_left
 ·obtain rfl : k = r.ds.length := by omega
  have b1 : decide (((r.ds.length : Nat) : Int) < ((r.ds.length : Nat) : Int)) = false := decide_eq_false (by omega)
  refine Gx.a (by kernel_rfl) fun K hK => ?_
  simp only [XA, XB, b1]
  refine hK _ ?_
  refine XWP.seq (Gx.f rfl ?_)
  refine XWP.exit ?_
  refine fun f => ⟨StIs.of (by exact rfl), ?_⟩
  unfold besB
  rw [decide_eq_true hl, Bool.true_and, List.all_eq_true]
  exact fun i hi => hall i (List.mem_range.1 hi)
 have b1 : decide ((k : Int) < (r.ds.length : Int)) = true := decide_eq_true (by omega)
 refine Gx.a (by kernel_rfl) fun K hK => ?_
 simp only [XA, XB, b1]
 refine hK _ ?_
 refine XWP.seq (Gx.t rfl ?_)
 refine XWP.skip ?_
 obtain ⟨b1, o1, rfl⟩ := SlK.addr hd1 (by omega)
 obtain ⟨b2, o2, rfl⟩ := SlK.addr hd2 (by omega)
 obtain ⟨dc, ⟨d1, _, d3⟩, hcell⟩ := SlK.get hd1 k hk
 obtain ⟨ec, ⟨e1, _, e3⟩, hcell2⟩ := SlK.get hd2 k (by omega)
 have hkd : r.ds[k]? = some r.ds[k] := List.getElem?_eq_getElem hk
 have hke : t.ds[k]? = some (t.ds[k]'(by omega)) := List.getElem?_eq_getElem (by omega)
 have d3 : dc = r.ds[k].cells := d3
 have e3 : ec = (t.ds[k]'(by omega)).cells := e3
 generalize r.ds[k] = d at *
 generalize (t.ds[k]'(by omega)) = e at *
 subst d3
 subst e3
 have hat := besAt_at (m := m) hkd hke
 refine XWP.cutD 2 (fun s => StIs (fun Z => [Z 0,Z 1, .v (.int .i64 (m : Int)), .p 0 0, .p 1 0, Z 5,Z 6,Z 7,Z 8,Z 9,Z 10,Z 11,Z 12,Z 13,Z 14,Z 15,Z 16,Z 17, .v (.slice (some ⟨b1, o1, none⟩) r.ds.length q1), .v (.int .i64 (r.ds.length : Int)), .v (.int .i64 (k : Int)), Z 21,Z 22,Z 23,Z 24,Z 25,Z 26,Z 27,Z 28,Z 29,Z 30,Z 31,Z 32,Z 33,Z 34,Z 35,Z 36,Z 37,Z 38,Z 39,Z 40,Z 41,Z 42,Z 43,Z 44,Z 45,Z 46,Z 47,Z 48,Z 49,Z 50,Z 51,Z 52,Z 53,Z 54,Z 55,Z 56,Z 57,Z 58,Z 59,Z 60,Z 61]) [[u0, u1, u2, u3, u4, .slice (some ⟨b1, o1, none⟩) r.ds.length q1, u6, u7, u8], [v0, v1, v2, v3, v4, .slice (some ⟨b2, o2, none⟩) t.ds.length q2, v6, v7, v8]] (fun _ => none) V s ∧ besAt r.ds t.ds m k = true) ?_ ?_
 rotate_left
 ·rintro s ⟨hs, hg⟩
  obtain ⟨z, rfl⟩ := hs.out
  try dsimp only
  clear hs
  refine Gx.c (by kernel_rfl) fun K hK => ?_
  simp only [XA, XB, i64_succ k (by omega)]
  exact hK _ ⟨q - 1, by omega, fun f => ⟨k + 1, StIs.of (by exact rfl), by omega, fun i hi => by
   by_cases ei : i = k
   ·subst ei; exact hg
   ·exact hall i (by omega)⟩⟩
 clear hK
 refine XWP.block ?_
 refine Gx.a (by kernel_rfl) fun K hK => ?_
 simp only [XU, XA]
 refine ⟨by omega, by omega, ld_mem (loadsK shapeT_66 d1 (hcell _)) ?_⟩
 simp only [XU, XA, Nat.reduceAdd]
 refine st_whole (cs := [.int .i64 d.site, .int .i64 d.index, .int .i64 d.odds, .int .i64 d.whole]) shapeT_66 rfl rfl rfl rfl ?_
 simp only [XA]
 refine hK _ ?_
 refine Gx.a (by kernel_rfl) fun K hK => ?_
 simp only [XU, XA]
 refine ⟨by omega, by omega, ld_mem (loadsK shapeT_66 e1 (hcell2 _)) ?_⟩
 simp only [XU, XA, Nat.reduceAdd]
 refine st_whole (cs := [.int .i64 e.site, .int .i64 e.index, .int .i64 e.odds, .int .i64 e.whole]) shapeT_66 rfl rfl rfl rfl ?_
 simp only [XA]
 refine hK _ ?_
 have eB : besD m k d e = (decide (d.site = e.site) && decide (d.whole = e.whole) && (decide (k = m) || (decide (d.index = e.index) && decide (d.odds = e.odds)))) := rfl
 have hfin : besD m k d e = false → besB r.ds t.ds m = false := fun h => besB_bad hk (by rw [hat, h])
 have ekm : decide ((k : Int) = (m : Int)) = decide (k = m) := by
  by_cases e : k = m
  ·rw [decide_eq_true e, decide_eq_true (by omega)]
  ·rw [decide_eq_false e, decide_eq_false (by omega)]
 cases s1 : decide (d.site = e.site)
 ·have e := hfin (by rw [eB, s1]; rfl)
  refine Gx.a (by kernel_rfl) fun K hK => ?_
  simp only [XU, XA, XB, gateX, ↓reduceIte, s1]
  refine hK _ ?_
  refine Gx.t rfl ?_
  refine Gx.a (by kernel_rfl) fun K hK => ?_
  simp only [XA]
  refine hK _ (XWP.ret ?_)
  try simp only [thenX_ret, inBlockX_ret]
  refine ret_go _ rfl ?_
  rw [e]; rfl
 cases s2 : decide (d.whole = e.whole)
 ·have e := hfin (by rw [eB, s1, s2]; rfl)
  refine Gx.a (by kernel_rfl) fun K hK => ?_
  simp only [XU, XA, XB, gateX, ↓reduceIte, beq_self_eq_true, s1, s2]
  refine hK _ ?_
  refine Gx.t rfl ?_
  refine Gx.a (by kernel_rfl) fun K hK => ?_
  simp only [XA]
  refine hK _ (XWP.ret ?_)
  try simp only [thenX_ret, inBlockX_ret]
  refine ret_go _ rfl ?_
  rw [e]; rfl
 cases s3 : decide (k = m)
 rotate_left
 ·rw [s3] at ekm
  refine Gx.a (by kernel_rfl) fun K hK => ?_
  simp only [XU, XA, XB, gateX, ↓reduceIte, beq_self_eq_true, s1, s2, ekm]
  refine hK _ ?_
  refine Gx.f rfl ?_
  refine XWP.skip ?_
  exact fun f => ⟨StIs.of (by exact rfl), by rw [hat, eB, s1, s2, s3]; rfl⟩
 rw [s3] at ekm
 cases s4 : decide (d.index = e.index)
 ·have e := hfin (by rw [eB, s1, s2, s3, s4]; rfl)
  refine Gx.a (by kernel_rfl) fun K hK => ?_
  simp only [XU, XA, XB, gateX, ↓reduceIte, beq_self_eq_true, s1, s2, ekm, s4]
  refine hK _ ?_
  refine Gx.t rfl ?_
  refine Gx.a (by kernel_rfl) fun K hK => ?_
  simp only [XA]
  refine hK _ (XWP.ret ?_)
  try simp only [thenX_ret, inBlockX_ret]
  refine ret_go _ rfl ?_
  rw [e]; rfl
 cases s5 : decide (d.odds = e.odds)
 ·have e := hfin (by rw [eB, s1, s2, s3, s4, s5]; rfl)
  refine Gx.a (by kernel_rfl) fun K hK => ?_
  simp only [XU, XA, XB, gateX, ↓reduceIte, beq_self_eq_true, s1, s2, ekm, s4, s5]
  refine hK _ ?_
  refine Gx.t rfl ?_
  refine Gx.a (by kernel_rfl) fun K hK => ?_
  simp only [XA]
  refine hK _ (XWP.ret ?_)
  try simp only [thenX_ret, inBlockX_ret]
  refine ret_go _ rfl ?_
  rw [e]; rfl
 ·refine Gx.a (by kernel_rfl) fun K hK => ?_
  simp only [XU, XA, XB, gateX, ↓reduceIte, beq_self_eq_true, s1, s2, ekm, s4, s5]
  refine hK _ ?_
  refine Gx.f rfl ?_
  refine XWP.skip ?_
  exact fun f => ⟨StIs.of (by exact rfl), by rw [hat, eB, s1, s2, s3, s4, s5]; rfl⟩
theorem besB_self (a : List Dr) (m : Nat) : besB a a m = true := by
 unfold besB
 rw [decide_eq_true rfl, Bool.true_and, List.all_eq_true]
 intro i hi
 have hi := List.mem_range.1 hi
 rw [besAt_at (List.getElem?_eq_getElem hi) (List.getElem?_eq_getElem hi)]
 unfold besD
 simp
def besF (l : List Rn) (a : List Dr) (m j : Nat) : Rat := if besB a (dsOf l j) m = true then wOf l j else 0
def besS (l : List Rn) (a : List Dr) (m : Nat) : Rat := Sm (besF l a m) l.length
def siteF (l : List Rn) (i k m : Nat) : Rat := if besB (dsOf l i) (dsOf l k) m = true then wOf l k / besS l (dsOf l i) m * rv false 1 (dsOf l i).length else 0
def siteQ (l : List Rn) (i k : Nat) : Rat := Sm (siteF l i k) (dsOf l i).length
theorem wOf_small {l : List Rn} (hs : ∀ r ∈ l, r.small) {k : Nat} (hk : k < l.length) : QB 128 (wOf l k) ∧ 0 < wOf l k := by
 obtain ⟨r, hr⟩ : ∃ r, l[k]? = some r := ⟨_, List.getElem?_eq_getElem hk⟩
 have := hs r (List.mem_of_getElem? hr)
 rw [wOf_at hr]
 exact ⟨this.qb, this.pos⟩
theorem besS_QB {l : List Rn} (hs : ∀ r ∈ l, r.small) (a : List Dr) (m : Nat) : ∀ j, j ≤ l.length → QB (j * 129) (Sm (besF l a m) j)
 | 0, _ => QB_zero _
 | j + 1, hj => by
  have ih := besS_QB hs a m j (by omega)
  have h1 : QB 128 (besF l a m j) := by
   unfold besF
   split
   ·exact (wOf_small hs (by omega)).1
   ·exact QB_zero _
  exact (ih.add h1).mono (by omega)
theorem besS_pos {l : List Rn} (hs : ∀ r ∈ l, r.small) {i : Nat} (hi : i < l.length) (m : Nat) : 0 < besS l (dsOf l i) m := by
 have h0 : ∀ j, j < l.length → 0 ≤ besF l (dsOf l i) m j := fun j hj => by
  unfold besF
  split
  ·exact Rat.le_of_lt (wOf_small hs hj).2
  ·exact Rat.le_refl
 have h1 : ∀ n, n ≤ l.length → 0 ≤ Sm (besF l (dsOf l i) m) n ∧ (i < n → 0 < Sm (besF l (dsOf l i) m) n) := by
  intro n
  induction n with
  | zero => exact fun _ => ⟨Rat.le_refl, fun h => by omega⟩
  | succ n ih =>
   intro hn
   obtain ⟨a, b⟩ := ih (by omega)
   have hz := h0 n (by omega)
   have e : Sm (besF l (dsOf l i) m) (n + 1) = Sm (besF l (dsOf l i) m) n + besF l (dsOf l i) m n := rfl
   refine ⟨by rw [e]; grind, fun hin => ?_⟩
   rw [e]
   by_cases hi' : i = n
   ·subst hi'
    have : besF l (dsOf l i) m i = wOf l i := by unfold besF; rw [if_pos (besB_self _ _)]
    have := (wOf_small hs hi).2
    grind
   ·have := b (by omega)
    grind
 exact (h1 l.length (Nat.le_refl _)).2 hi
theorem siteF_QB {l : List Rn} (hs : ∀ r ∈ l, r.small) (ll : l.length ≤ 60) {i k : Nat} (hi : i < l.length) (hk : k < l.length) (m : Nat) : QB 8000 (siteF l i k m) := by
 obtain ⟨r, hr⟩ : ∃ r, l[i]? = some r := ⟨_, List.getElem?_eq_getElem hi⟩
 have hl := (hs r (List.mem_of_getElem? hr)).len
 unfold siteF
 split
 ·have h1 := (besS_QB hs (dsOf l i) m l.length (Nat.le_refl _)).mono (show l.length * 129 ≤ 7740 by omega)
  have h2 := (wOf_small hs hk).1.div h1
  rw [dsOf_at hr] at *
  exact (h2.mul (QB_rv (B := 4) (b := r.ds.length) false (by omega) (by omega))).mono (by omega)
 ·exact QB_zero _
theorem siteS_QB {l : List Rn} (hs : ∀ r ∈ l, r.small) (ll : l.length ≤ 60) {i k : Nat} (hi : i < l.length) (hk : k < l.length) : ∀ m, QB (m * 8001) (Sm (siteF l i k) m)
 | 0 => QB_zero _
 | m + 1 => ((siteS_QB hs ll hi hk m).add (siteF_QB hs ll hi hk m)).mono (by omega)
theorem siteQ_QB {l : List Rn} (hs : ∀ r ∈ l, r.small) (ll : l.length ≤ 60) {i k : Nat} (hi : i < l.length) (hk : k < l.length) : QB 64008 (siteQ l i k) := by
 obtain ⟨r, hr⟩ : ∃ r, l[i]? = some r := ⟨_, List.getElem?_eq_getElem hi⟩
 have hl := (hs r (List.mem_of_getElem? hr)).len
 have := siteS_QB hs ll hi hk (dsOf l i).length
 rw [dsOf_at hr] at this
 unfold siteQ
 rw [dsOf_at hr]
 exact this.mono (by omega)
set_option maxHeartbeats 4000000 in
set_option maxRecDepth 100000 in
theorem csite1_c (V : View) (b e i k : Nat) (x : Value) (l : List Rn) (hb : V b = some (.cells ([x] : List Value).toArray e (0, 0))) (hx : SlK 18 stE V x l) (hs : ∀ r ∈ l, r.small) (ll : l.length ≤ 60) (hi : i < l.length) (hk : k < l.length) :
  Spec Tryz.prog 65 [.int .i64 (i : Int), .int .i64 (k : Int), .pointer (some ⟨b, 0, none⟩)] V fun v' V' => RatC V' v' (siteQ l i k) := by
 obtain ⟨A, c, rfl, _, _⟩ := hx.form
 obtain ⟨bL, oL, rfl⟩ := SlK.addr hx (by omega)
 obtain ⟨r, hr⟩ : ∃ r, l[i]? = some r := ⟨_, List.getElem?_eq_getElem hi⟩
 obtain ⟨t, ht⟩ : ∃ r, l[k]? = some r := ⟨_, List.getElem?_eq_getElem hk⟩
 have h1 := hs r (List.mem_of_getElem? hr)
 have h2 := hs t (List.mem_of_getElem? ht)
 have hl1 := h1.len
 obtain ⟨rc1, w1, q1, s1, e1, ew1, eq1, es1, ld1⟩ := hx.st hr
 obtain ⟨rc2, w2, q2, s2, e2, ew2, eq2, es2, ld2⟩ := hx.st ht
 have eds1 := dsOf_at hr
 have eds2 := dsOf_at ht
 have ew := wOf_at ht
 have hld := fun (V' : View) (h : V.le V') => ldV1 (off := 0) (h _ _ hb) rfl shapeT_83 (fun _ => none)
 have e1' := e1
 obtain ⟨u0, u1, u2, u3, u4, dv1, u6, u7, u8, rfl, hd1⟩ := rn_draws e1'
 obtain ⟨A1, q1', rfl, _, _⟩ := hd1.form
 have hdl : Loads Tryz.prog (fun _ => none) V 45 bL (oL + i * 18 + 5) (.slice A1 r.ds.length q1') := by
  obtain ⟨ag, n, es, hh⟩ := (ld1 (fun _ => none)).1
  rcases hh with ⟨rfl, cs, _, hc, ev⟩ | ⟨rfl, _⟩
  ·have : cs = [u0, u1, u2, u3, u4, .slice A1 r.ds.length q1', u6, u7, u8] := by
    have := congrArg Value.cells ev
    simpa [Value.cells] using this.symm
   subst this
   exact loads1 shapeT_45 (hc 5 _ rfl)
  ·rw [shapeT_51] at es; cases es
 have ldm : ∀ {V' : View} {ty b o : Nat} {v : Value}, V.le V' → Loads Tryz.prog (fun _ => none) V ty b o v → Loads Tryz.prog (fun _ => none) V' ty b o v := fun hV ⟨ag, n, es, hh⟩ => ⟨ag, n, es, hh.imp (fun ⟨a, cs, c1, c2, c3⟩ => ⟨a, cs, c1, fun j u hj => cellV (fun H => by
   rcases c2 j u hj with ⟨q, hq, _⟩ | hq
   ·cases hq
   ·exact .inr hq) hV _, c3⟩) (fun ⟨a, c⟩ => ⟨a, cellV (fun H => by
   rcases c with ⟨q, hq, _⟩ | hq
   ·cases hq
   ·exact .inr hq) hV _⟩)⟩
 refine (Spec.enter Tryz.func65 rfl fun Γ => ?_)
 simp only [Tryz.ntmps65, List.map_cons, List.map_nil, List.length_cons, List.length_nil, Nat.reduceAdd, Nat.reduceSub, List.replicate_succ, List.replicate_zero, List.cons_append, List.nil_append]
 refine Gx.a (by kernel_rfl) fun K hK => ?_
 simp only [XA, XB]
 refine hK _ ?_
 refine Gx.a (by kernel_rfl) fun K hK => ?_
 simp only [XA]
 refine call_go (by kernel_rfl) rfl (qzero_c _) fun v3 V3 hV3 h3 => ?_
 obtain ⟨x3, y3, rfl, o1, o2⟩ := h3.form
 simp only [XA, XB]
 refine st_rat rfl rfl rfl o1 o2 ?_
 simp only [XA]
 refine hK _ ?_
 have h3 : RatC V3 (.agg #[.bool (ng 0), x3, y3]) (Sm (siteF l i k) 0) := h3
 refine XWP.cutD 2 (fun s => ∃ (V5 : View) (bb x y : Value), StIs (fun Z => [Z 0,Z 1,Z 2,Z 3,Z 4, .p 0 0, .p 1 0, Z 7,Z 8,Z 9,Z 10,Z 11,Z 12,Z 13,Z 14,Z 15,Z 16,Z 17,Z 18,Z 19,Z 20,Z 21,Z 22,Z 23,Z 24,Z 25,Z 26,Z 27,Z 28,Z 29,Z 30,Z 31,Z 32,Z 33,Z 34,Z 35,Z 36,Z 37,Z 38,Z 39,Z 40,Z 41,Z 42,Z 43,Z 44,Z 45,Z 46,Z 47,Z 48,Z 49,Z 50,Z 51,Z 52,Z 53,Z 54,Z 55,Z 56,Z 57,Z 58,Z 59,Z 60,Z 61,Z 62,Z 63,Z 64,Z 65,Z 66,Z 67,Z 68,Z 69,Z 70,Z 71,Z 72,Z 73,Z 74,Z 75]) [[.bool false, .slice none 0 0, .slice none 0 0], [bb, x, y]] (fun _ => none) V5 s ∧ RatC V5 (.agg #[bb, x, y]) (siteQ l i k)) ?_ ?_
 rotate_left
 ·rintro s ⟨V5, bb, x, y, hs, hx⟩
  obtain ⟨z, rfl⟩ := hs.out
  try dsimp only
  clear hs
  obtain ⟨x', y', e, p1, p2⟩ := hx.form
  cases e
  refine Gx.a (by kernel_rfl) fun K hK => ?_
  simp only [XA, XB, Nat.reduceAdd, Nat.reduceLeDiff, ↓reduceIte]
  refine st_rat rfl rfl rfl p1 p2 ?_
  simp only [XA]
  refine hK _ (XWP.ret ?_)
  try simp only [thenX_ret, inBlockX_ret]
  exact ret_rat1 rfl rfl rfl hx
 refine Gx.a (by kernel_rfl) fun K hK => ?_
 simp only [XA]
 refine ld_mem (hld _ hV3) ?_
 simp only [XU, XV, XA]
 refine ⟨by omega, by omega, ld_mem (ldm hV3 hdl) ?_⟩
 simp only [XU, XA]
 refine hK _ ?_
 clear hK
 refine XWP.block ?_
 refine XWP.loopD 2 (fun q s => ∃ (m : Nat) (V5 : View) (bb x y : Value), StIs (fun Z => [.v (.int .i64 (i : Int)), .v (.int .i64 (k : Int)), .v (.pointer (some ⟨b, 0, none⟩)), Z 3,Z 4, .p 0 0, .p 1 0, Z 7,Z 8,Z 9,Z 10,Z 11,Z 12,Z 13,Z 14,Z 15,Z 16,Z 17, .v (.int .i64 (r.ds.length : Int)), .v (.int .i64 (m : Int)), Z 20,Z 21,Z 22,Z 23,Z 24,Z 25,Z 26,Z 27,Z 28,Z 29,Z 30,Z 31,Z 32,Z 33,Z 34,Z 35,Z 36,Z 37,Z 38,Z 39,Z 40,Z 41,Z 42,Z 43,Z 44,Z 45,Z 46,Z 47,Z 48,Z 49,Z 50,Z 51,Z 52,Z 53,Z 54,Z 55,Z 56,Z 57,Z 58,Z 59,Z 60,Z 61,Z 62,Z 63,Z 64,Z 65,Z 66,Z 67,Z 68,Z 69,Z 70,Z 71,Z 72,Z 73,Z 74,Z 75]) [[.bool false, .slice none 0 0, .slice none 0 0], [bb, x, y]] (fun _ => none) V5 s ∧ q + m = r.ds.length ∧ V3.le V5 ∧ RatC V5 (.agg #[bb, x, y]) (Sm (siteF l i k) m)) r.ds.length ⟨0, V3, _, x3, y3, StIs.of (by exact rfl), by omega, View.le_refl _, h3⟩ ?_
 clear h3 o1 o2
 rintro q s ⟨m, V5, bb, x, y, hs', hq, hV5, hx5⟩
 obtain ⟨z, rfl⟩ := hs'.out
 try dsimp only
 clear hs'
 by_cases hm : m < r.ds.length
 rotate_left
 ·obtain rfl : m = r.ds.length := by omega
  have b1 : decide (((r.ds.length : Nat) : Int) < ((r.ds.length : Nat) : Int)) = false := decide_eq_false (by omega)
  refine Gx.a (by kernel_rfl) fun K hK => ?_
  simp only [XA, XB, b1]
  refine hK _ ?_
  refine XWP.seq (Gx.f rfl ?_)
  refine XWP.exit ?_
  refine fun f => ⟨V5, bb, x, y, StIs.of (by exact rfl), ?_⟩
  unfold siteQ
  rw [eds1]; exact hx5
 have b1 : decide ((m : Int) < (r.ds.length : Int)) = true := decide_eq_true (by omega)
 refine Gx.a (by kernel_rfl) fun K hK => ?_
 simp only [XA, XB, b1]
 refine hK _ ?_
 refine XWP.seq (Gx.t rfl ?_)
 refine XWP.skip ?_
 have hV05 := View.le_trans hV3 hV5
 refine XWP.cutD 2 (fun s => ∃ (V6 : View) (bb x y : Value), StIs (fun Z => [.v (.int .i64 (i : Int)), .v (.int .i64 (k : Int)), .v (.pointer (some ⟨b, 0, none⟩)), Z 3,Z 4, .p 0 0, .p 1 0, Z 7,Z 8,Z 9,Z 10,Z 11,Z 12,Z 13,Z 14,Z 15,Z 16,Z 17, .v (.int .i64 (r.ds.length : Int)), .v (.int .i64 (m : Int)), Z 20,Z 21,Z 22,Z 23,Z 24,Z 25,Z 26,Z 27,Z 28,Z 29,Z 30,Z 31,Z 32,Z 33,Z 34,Z 35,Z 36,Z 37,Z 38,Z 39,Z 40,Z 41,Z 42,Z 43,Z 44,Z 45,Z 46,Z 47,Z 48,Z 49,Z 50,Z 51,Z 52,Z 53,Z 54,Z 55,Z 56,Z 57,Z 58,Z 59,Z 60,Z 61,Z 62,Z 63,Z 64,Z 65,Z 66,Z 67,Z 68,Z 69,Z 70,Z 71,Z 72,Z 73,Z 74,Z 75]) [[.bool false, .slice none 0 0, .slice none 0 0], [bb, x, y]] (fun _ => none) V6 s ∧ V5.le V6 ∧ RatC V6 (.agg #[bb, x, y]) (Sm (siteF l i k) (m + 1))) ?_ ?_
 rotate_left
 ·rintro s ⟨V6, bb, x, y, hs, hV6, hx⟩
  obtain ⟨z, rfl⟩ := hs.out
  try dsimp only
  clear hs
  refine Gx.c (by kernel_rfl) fun K hK => ?_
  simp only [XA, XB, i64_succ m (by omega)]
  exact hK _ ⟨q - 1, by omega, fun f => ⟨m + 1, V6, bb, x, y, StIs.of (by exact rfl), by omega, View.le_trans hV5 hV6, hx⟩⟩
 clear hK
 refine XWP.block ?_
 refine Gx.a (by kernel_rfl) fun K hK => ?_
 simp only [XA]
 refine hK _ ?_
 refine XWP.seq ?_
 (refine XWP.drw [0, 1, 2, 3, 4, 5, 6, 7, 8, 9, 10, 11, 12] (by kernel_rfl) (by kernel_rfl) (by kernel_rfl) fun K hK => ?_) <;> dsimp only [pickOps, List.getElem?_cons_zero, List.getElem?_cons_succ]
 simp only [XA]
 refine ld_mem (hld _ hV05) ?_
 simp only [XV, XA]
 refine ⟨by omega, by omega, ld_mem (ldm hV05 (ld1 _).1) ?_⟩
 simp only [XA]
 refine ld_mem (hld _ hV05) ?_
 simp only [XV, XA]
 refine ⟨by omega, by omega, ld_mem (ldm hV05 (ld2 _).1) ?_⟩
 simp only [XA]
 refine call_go (by kernel_rfl) rfl (cbeside_c _ _ _ r t m (e1.mono rnE_ok hV05) (e2.mono rnE_ok hV05) (by omega)) fun v6 V6 hV6 h6 => ?_
 subst h6
 have eSm : Sm (siteF l i k) (m + 1) = Sm (siteF l i k) m + siteF l i k m := rfl
 cases hbe : besB r.ds t.ds m
 ·simp only [XA]
  refine hK _ ?_
  refine Gx.t rfl ?_
  refine XWP.exit ?_
  refine fun f => ⟨V6, bb, x, y, StIs.of (by exact rfl), hV6, ?_⟩
  have : siteF l i k m = 0 := by unfold siteF; rw [eds1, eds2, if_neg (by rw [hbe]; simp)]
  rw [eSm, this, Rat.add_zero]
  exact hx5.mono hV6
 simp only [XA]
 refine hK _ ?_
 refine Gx.f rfl ?_
 refine XWP.skip ?_
 have hV06 := View.le_trans hV05 hV6
 refine Gx.a (by kernel_rfl) fun K hK => ?_
 simp only [XA]
 refine call_go (by kernel_rfl) rfl (qzero_c _) fun v7 V7 hV7 h7 => ?_
 obtain ⟨x7, y7, rfl, o3, o4⟩ := h7.form
 simp only [XA, XB, Nat.reduceAdd]
 refine st_rat rfl rfl rfl o3 o4 ?_
 simp only [XA]
 refine hK _ ?_
 have hV07 := View.le_trans hV06 hV7
 have h7 : RatC V7 (.agg #[.bool (ng 0), x7, y7]) (Sm (besF l r.ds m) 0) := h7
 have hqS : ∀ j, j ≤ l.length → QF (Sm (besF l r.ds m) j) := fun j hj => (besS_QB hs r.ds m j hj).qf (by omega)
 refine XWP.cutD 3 (fun s => ∃ (V8 : View) (b8 x8 y8 : Value), StIs (fun Z => [.v (.int .i64 (i : Int)), .v (.int .i64 (k : Int)), .v (.pointer (some ⟨b, 0, none⟩)), Z 3,Z 4, .p 0 0, .p 1 0, .v (.int .i64 (m : Int)), .p 2 0, Z 9,Z 10,Z 11,Z 12,Z 13,Z 14,Z 15,Z 16,Z 17, .v (.int .i64 (r.ds.length : Int)), .v (.int .i64 (m : Int)), Z 20,Z 21,Z 22,Z 23,Z 24,Z 25,Z 26,Z 27,Z 28,Z 29,Z 30,Z 31,Z 32,Z 33,Z 34,Z 35,Z 36,Z 37,Z 38,Z 39,Z 40,Z 41,Z 42,Z 43,Z 44,Z 45,Z 46,Z 47,Z 48,Z 49,Z 50,Z 51,Z 52,Z 53,Z 54,Z 55,Z 56,Z 57,Z 58,Z 59,Z 60,Z 61,Z 62,Z 63,Z 64,Z 65,Z 66,Z 67,Z 68,Z 69,Z 70,Z 71,Z 72,Z 73,Z 74,Z 75]) [[.bool false, .slice none 0 0, .slice none 0 0], [bb, x, y], [b8, x8, y8]] (fun _ => none) V8 s ∧ V7.le V8 ∧ RatC V8 (.agg #[b8, x8, y8]) (besS l r.ds m)) ?_ ?_
 ·refine Gx.a (by kernel_rfl) fun K hK => ?_
  simp only [XA]
  refine ld_mem (hld _ hV07) ?_
  simp only [XV, XA]
  refine hK _ ?_
  clear hK
  refine XWP.block ?_
  refine XWP.loopD 3 (fun n s => ∃ (j : Nat) (V8 : View) (b8 x8 y8 : Value), StIs (fun Z => [.v (.int .i64 (i : Int)), .v (.int .i64 (k : Int)), .v (.pointer (some ⟨b, 0, none⟩)), Z 3,Z 4, .p 0 0, .p 1 0, .v (.int .i64 (m : Int)), .p 2 0, Z 9,Z 10,Z 11,Z 12,Z 13,Z 14,Z 15,Z 16,Z 17, .v (.int .i64 (r.ds.length : Int)), .v (.int .i64 (m : Int)), Z 20,Z 21,Z 22,Z 23,Z 24,Z 25,Z 26,Z 27,Z 28,Z 29,Z 30,Z 31,Z 32,Z 33,Z 34,Z 35, .v (.slice (some ⟨bL, oL, none⟩) l.length c), .v (.int .i64 (l.length : Int)), .v (.int .i64 (j : Int)), Z 39,Z 40,Z 41,Z 42,Z 43,Z 44,Z 45,Z 46,Z 47,Z 48,Z 49,Z 50,Z 51,Z 52,Z 53,Z 54,Z 55,Z 56,Z 57,Z 58,Z 59,Z 60,Z 61,Z 62,Z 63,Z 64,Z 65,Z 66,Z 67,Z 68,Z 69,Z 70,Z 71,Z 72,Z 73,Z 74,Z 75]) [[.bool false, .slice none 0 0, .slice none 0 0], [bb, x, y], [b8, x8, y8]] (fun _ => none) V8 s ∧ n + j = l.length ∧ V7.le V8 ∧ RatC V8 (.agg #[b8, x8, y8]) (Sm (besF l r.ds m) j)) l.length ⟨0, V7, _, x7, y7, StIs.of (by exact rfl), by omega, View.le_refl _, h7⟩ ?_
  clear h7 o3 o4
  rintro n s ⟨j, V8, b8, x8, y8, hs', hn, hV8, h8⟩
  obtain ⟨z, rfl⟩ := hs'.out
  try dsimp only
  clear hs'
  by_cases hj : j < l.length
  rotate_left
  ·obtain rfl : j = l.length := by omega
   have bj : decide (((l.length : Nat) : Int) < ((l.length : Nat) : Int)) = false := decide_eq_false (by omega)
   refine Gx.a (by kernel_rfl) fun K hK => ?_
   simp only [XA, XB, bj]
   refine hK _ ?_
   refine XWP.seq (Gx.f rfl ?_)
   refine XWP.exit ?_
   exact fun f => ⟨V8, b8, x8, y8, StIs.of (by exact rfl), hV8, h8⟩
  have bj : decide ((j : Int) < (l.length : Int)) = true := decide_eq_true (by omega)
  refine Gx.a (by kernel_rfl) fun K hK => ?_
  simp only [XA, XB, bj]
  refine hK _ ?_
  refine XWP.seq (Gx.t rfl ?_)
  refine XWP.skip ?_
  have hV08 := View.le_trans hV07 hV8
  obtain ⟨g, hg⟩ : ∃ r, l[j]? = some r := ⟨_, List.getElem?_eq_getElem hj⟩
  have hgs := hs g (List.mem_of_getElem? hg)
  obtain ⟨cs9, ec9, lc9⟩ := (hx.mono stE_ok hV08).st2 hg
  obtain ⟨_, hone9, w0, w1', w2', w3, w4, w5, w6, w7, w8, m9, n9, d9, qq1, qq2, qq3, ss1, ss2, ss3, rfl, er9, ew9, _⟩ := ec9
  have eF : besF l r.ds m j = if besB r.ds g.ds m = true then g.w.q else 0 := by unfold besF; rw [dsOf_at hg, wOf_at hg]
  refine XWP.cutD 3 (fun s => ∃ (V9 : View) (b8 x8 y8 : Value), StIs (fun Z => [.v (.int .i64 (i : Int)), .v (.int .i64 (k : Int)), .v (.pointer (some ⟨b, 0, none⟩)), Z 3,Z 4, .p 0 0, .p 1 0, .v (.int .i64 (m : Int)), .p 2 0, Z 9,Z 10,Z 11,Z 12,Z 13,Z 14,Z 15,Z 16,Z 17, .v (.int .i64 (r.ds.length : Int)), .v (.int .i64 (m : Int)), Z 20,Z 21,Z 22,Z 23,Z 24,Z 25,Z 26,Z 27,Z 28,Z 29,Z 30,Z 31,Z 32,Z 33,Z 34,Z 35, .v (.slice (some ⟨bL, oL, none⟩) l.length c), .v (.int .i64 (l.length : Int)), .v (.int .i64 (j : Int)), Z 39,Z 40,Z 41,Z 42,Z 43,Z 44,Z 45,Z 46,Z 47,Z 48,Z 49,Z 50,Z 51,Z 52,Z 53,Z 54,Z 55,Z 56,Z 57,Z 58,Z 59,Z 60,Z 61,Z 62,Z 63,Z 64,Z 65,Z 66,Z 67,Z 68,Z 69,Z 70,Z 71,Z 72,Z 73,Z 74,Z 75]) [[.bool false, .slice none 0 0, .slice none 0 0], [bb, x, y], [b8, x8, y8]] (fun _ => none) V9 s ∧ V8.le V9 ∧ RatC V9 (.agg #[b8, x8, y8]) (Sm (besF l r.ds m) (j + 1))) ?_ ?_
  rotate_left
  ·rintro s ⟨V9, b8, x8, y8, hs, hV9, h8⟩
   obtain ⟨z, rfl⟩ := hs.out
   try dsimp only
   clear hs
   refine Gx.c (by kernel_rfl) fun K hK => ?_
   simp only [XA, XB, i64_succ j (by omega)]
   exact hK _ ⟨n - 1, by omega, fun f => ⟨j + 1, V9, b8, x8, y8, StIs.of (by exact rfl), by omega, View.le_trans hV8 hV9, h8⟩⟩
  clear hK
  have eS : Sm (besF l r.ds m) (j + 1) = Sm (besF l r.ds m) j + besF l r.ds m j := rfl
  refine XWP.block ?_
  refine Gx.a (by kernel_rfl) fun K hK => ?_
  simp only [XV, XA]
  refine ⟨by omega, by omega, ld_mem (lc9 _) ?_⟩
  simp only [XV, XA, Nat.reduceAdd]
  refine st_whole (cs := [w0, w1', w2', w3, w4, w5, w6, w7, w8, m9, n9, d9, qq1, qq2, qq3, ss1, ss2, ss3]) shapeT_87 rfl rfl rfl hone9 ?_
  simp only [XA]
  refine hK _ ?_
  (refine XWP.drw [0, 1, 2, 3, 4, 5, 6, 7, 8] (by kernel_rfl) (by kernel_rfl) (by kernel_rfl) fun K hK => ?_) <;> dsimp only [pickOps, List.getElem?_cons_zero, List.getElem?_cons_succ]
  simp only [XA]
  refine ld_mem (hld _ hV08) ?_
  simp only [XV, XA]
  refine ⟨by omega, by omega, ld_mem (ldm hV08 (ld1 _).1) ?_⟩
  simp only [XU, XV, XA, Nat.reduceAdd, Nat.reduceLeDiff, ↓reduceIte]
  refine call_go (by kernel_rfl) rfl (cbeside_c _ _ _ r g m (e1.mono rnE_ok hV08) er9 (by omega)) fun v9 V9 hV9 h9 => ?_
  subst h9
  cases hbg : besB r.ds g.ds m
  ·simp only [XA]
   refine hK _ ?_
   refine Gx.f rfl ?_
   refine XWP.skip ?_
   refine fun f => ⟨V9, b8, x8, y8, StIs.of (by exact rfl), hV9, ?_⟩
   rw [eS, eF, if_neg (by rw [hbg]; simp), Rat.add_zero]
   exact h8.mono hV9
  ·simp only [XA]
   refine hK _ ?_
   refine Gx.t rfl ?_
   refine Gx.c (by kernel_rfl) fun K hK => ?_
   simp only [XV, XA, XB, Nat.reduceAdd, Nat.reduceLeDiff, ↓reduceIte]
   refine call_go (by kernel_rfl) rfl (qadd_c _ _ _ _ _ (h8.mono hV9) (ew9.mono hV9) (hqS j (by omega)) (hgs.qb.qf (by omega))) fun v10 V10 hV10 h10 => ?_
   obtain ⟨x10, y10, rfl, p5, p6⟩ := h10.form
   simp only [XA]
   refine st_rat rfl rfl rfl p5 p6 ?_
   simp only [XA]
   refine hK _ fun f => ⟨V10, _, x10, y10, StIs.of (by exact rfl), View.le_trans hV9 hV10, ?_⟩
   rw [eS, eF, if_pos hbg]
   exact h10
 clear h7 o3 o4
 rintro s ⟨V8, b8, x8, y8, hs', hV8, h8⟩
 obtain ⟨z, rfl⟩ := hs'.out
 try dsimp only
 clear hs'
 have hV08 := View.le_trans hV07 hV8
 have hqA := (besS_QB hs r.ds m l.length (Nat.le_refl _)).mono (show l.length * 129 ≤ 7740 by omega)
 have hpA := besS_pos hs hi m
 rw [eds1] at hpA
 have hnA : besS l r.ds m ≠ 0 := fun e => by rw [e] at hpA; exact absurd hpA (by decide)
 have hqd := h2.qb.div hqA
 have hql := QB_rv (B := 4) (b := r.ds.length) (a := 1) false (by omega) (by omega)
 have hqs := siteS_QB hs ll hi hk m
 (refine XWP.drw1 [0, 1, 2, 3, 4, 5, 6, 8, 9, 10, 11, 12, 13, 14, 7, 15, 16, 17, 18] (by kernel_rfl) (by kernel_rfl) (by kernel_rfl) fun K hK => ?_) <;> dsimp only [pickOps, List.getElem?_cons_zero, List.getElem?_cons_succ]
 simp only [XA, XB, Nat.reduceAdd, Nat.reduceLeDiff, ↓reduceIte]
 refine ld_mem (hld _ hV08) ?_
 simp only [XV, XA]
 refine ⟨by omega, by omega, ld_mem (ldm hV08 (ld2 _).2.1) ?_⟩
 simp only [XA, XB, Nat.reduceAdd, Nat.reduceLeDiff, ↓reduceIte]
 refine ld_mem (hld _ hV08) ?_
 simp only [XU, XV, XA]
 refine ⟨by omega, by omega, ld_mem (ldm hV08 hdl) ?_⟩
 simp only [XU, XA]
 refine call_go (by kernel_rfl) rfl (kby_c _ _ _ _ _ (ew2.mono hV08) h8 (h2.qb.qf (by omega)) (hqA.qf (by omega)) hnA) fun v9 V9 hV9 h9 => ?_
 simp only [XA]
 refine call_go (by kernel_rfl) rfl (kpart_c _ 1 (r.ds.length : Int) (by omega) (by omega) (by omega) (by omega)) fun v10 V10 hV10 h10 => ?_
 rw [show (1 : Int).toNat = 1 from rfl, Int.toNat_natCast] at h10
 simp only [XA]
 refine call_go (by kernel_rfl) rfl (qmul_c _ _ _ _ _ (h9.mono hV10) h10 (hqd.qf (by omega)) (hql.qf (by omega))) fun v11 V11 hV11 h11 => ?_
 simp only [XA]
 have hV5b := View.le_trans hV6 (View.le_trans hV7 hV8)
 refine call_go (by kernel_rfl) rfl (qadd_c _ _ _ _ _ ((((hx5.mono hV5b).mono hV9).mono hV10).mono hV11) h11 (hqs.qf (by omega)) ((hqd.mul hql).qf (by omega))) fun v12 V12 hV12 h12 => ?_
 obtain ⟨x12, y12, rfl, p5, p6⟩ := h12.form
 simp only [XA]
 refine st_rat rfl rfl rfl p5 p6 ?_
 simp only [XA]
 refine hK _ fun f => ⟨V12, _, x12, y12, StIs.of (by exact rfl), View.le_trans hV5b (View.le_trans hV9 (View.le_trans hV10 (View.le_trans hV11 hV12))), ?_⟩
 have : siteF l i k m = t.w.q / besS l r.ds m * rv false 1 r.ds.length := by unfold siteF; rw [eds1, eds2, if_pos hbe, ew]
 rw [eSm, this]
 exact h12
theorem csite_c (V : View) (v : Value) (l : List Rn) (h : SlK 9 rnE V v l) (f : ∀ r ∈ l, r.fits) (fs : ∀ r ∈ l, r.ds.length ≤ 8 ∧ (r.w.ok = true → QB 128 r.w.q)) (ll : l.length ≤ 1000000) : Spec Tryz.prog 24 [v] V fun v' V' => (rightR l = false → v' = .tuple #[.agg #[.int .i64 0, .int .i64 0, .slice none 0 0], .int .i64 1]) ∧ (rightR l = true → ∃ s, v' = .tuple #[.agg #[.int .i64 (l.length : Int), .int .i64 (l.length : Int), s], .int .i64 0] ∧ Rats V' s (flatG (moveG (siteQ l) l.length) l.length l.length)) := by
 obtain ⟨A, cL, rfl, _, _⟩ := h.form
 refine (Spec.enter Tryz.func24 rfl fun Γ => ?_)
 simp only [Tryz.ntmps24, List.map_cons, List.map_nil, List.length_cons, List.length_nil, Nat.reduceAdd, Nat.reduceSub, List.replicate_succ, List.replicate_zero, List.cons_append, List.nil_append]
 refine Gx.a (by kernel_rfl) fun K hK => ?_
 simp only [XM, XA]
 refine hK _ ?_
 refine XWP.seq ?_
 refine Gx.a (by kernel_rfl) fun K hK => ?_
 simp only [XA]
 refine call_go (by kernel_rfl) rfl (kright_c _ _ l h f ll) fun v1 V1 hV1 h1 => ?_
 subst h1
 cases hr : rightR l
 ·simp only [XA]
  refine hK _ ?_
  refine Gx.t rfl ?_
  refine Gx.a (by kernel_rfl) fun K hK => ?_
  simp only []
  refine bd_go (by kernel_rfl) #[] (by simp) bd_mtx0 ?_
  simp only [XA]
  refine st_mat shapeT_26 rfl rfl rfl rfl rfl ?_
  simp only [XA]
  refine hK _ (XWP.ret ?_)
  try simp only [thenX_ret, inBlockX_ret]
  exact ret_mat2C rfl rfl rfl rfl ⟨fun _ => rfl, fun h => absurd h (by rw [hr]; simp)⟩
 obtain ⟨g1, g2, g3⟩ := right_small hr fs
 simp only [XA]
 refine hK _ ?_
 refine Gx.f rfl ?_
 refine XWP.skip ?_
 refine Gx.a (by kernel_rfl) fun K hK => ?_
 simp only [XA]
 refine call_go (by kernel_rfl) rfl (cstates_c _ _ l (h.mono rnE_ok hV1) (by omega) (by omega) (fun r hr => (g3 r hr).fine)) fun v2 V2 hV2 h2 => ?_
 obtain ⟨A2, c2, rfl, _, _⟩ := h2.form
 simp only [XV, XA]
 refine st_one shapeT_83 rfl rfl (by simp) ?_
 simp only [XA]
 refine hK _ ?_
 refine XWP.row1 (bx := [_]) fun b e hb _ => ?_
 simp only [List.map_cons, List.map_nil, rowS_v, rowS_p, List.length_nil, List.length_cons, Nat.reduceAdd, Nat.reduceEqDiff, ↓reduceIte]
 refine XWP.pub b _ (upd_at _ _ _) fun o ho hle => ?_
 have eo := row_obj ho
 subst eo
 have hbv := addV_at V2 b (.cells ([.slice A2 l.length c2] : List Value).toArray e (0, 0))
 have h2 := h2.mono stE_ok hle
 generalize addV V2 b _ = V3 at *
 refine Gx.a (by kernel_rfl) fun K hK => ?_
 simp only [XA]
 refine ld_mem (ldV1 (off := 0) hbv rfl shapeT_83 _) ?_
 simp only [XA]
 refine mkf_go [.pointer (some ⟨b, 0, none⟩)] rfl ?_
 simp only [XA]
 refine call_go (by kernel_rfl) rfl (cmoves_c V3 A2 l.length c2 65 64008 [.pointer (some ⟨b, 0, none⟩)] (siteQ l) g2 (by kernel_rfl) (fun i k hi hk _ => siteQ_QB g3 g2 hi hk) (by omega) fun V' i k hV hi hk _ => csite1_c V' b e i k _ l (hV _ _ hbv) (h2.mono stE_ok hV) g3 g2 hi hk) fun v4 V4 hV4 h4 => ?_
 obtain ⟨s, rfl, hs⟩ := h4
 obtain ⟨As, cs, rfl, _, _⟩ := hs.form
 simp only [XA]
 refine st_mat shapeT_26 rfl rfl rfl rfl rfl ?_
 simp only [XA]
 refine hK _ (XWP.ret ?_)
 try simp only [thenX_ret, inBlockX_ret]
 exact ret_mat2C rfl rfl rfl rfl ⟨fun h => absurd h (by rw [hr]; simp), fun _ => ⟨_, rfl, hs⟩⟩


theorem SlK.rnAt {V : View} {b o n c i : Nat} {l : List Rn} {r : Rn} (h : SlK 9 rnE V (.slice (some ⟨b, o, none⟩) n c) l) (hi : l[i]? = some r) (ok : r.w.ok = true) : ∃ (u0 u1 u2 u3 u4 dv m x y : Value), ElK 9 rnE V [u0, u1, u2, u3, u4, dv, m, x, y] r ∧ SlK 4 drE V dv r.ds ∧ RatC V (.agg #[m, x, y]) r.w.q ∧
  (∀ H, Loads Tryz.prog H V 51 b (o + i * 9) (.agg #[u0, u1, u2, u3, u4, dv, m, x, y])) ∧ (∀ H, Loads Tryz.prog H V 45 b (o + i * 9 + 5) dv) ∧ ∀ H, Loads Tryz.prog H V 49 b (o + i * 9 + 6) (.agg #[m, x, y]) := by
 have hl := (List.getElem?_eq_some_iff.1 hi).1
 obtain ⟨cs, he, hcell⟩ := SlK.get h i hl
 rw [(List.getElem?_eq_some_iff.1 hi).2] at he
 have he0 := he
 obtain ⟨_, _, c1, c2, c3, c4, dv, m, c7, c8, rfl, hds, hw⟩ := he
 refine ⟨_, c1, c2, c3, c4, dv, m, c7, c8, he0, hds, RawAt.rat hw ok, fun H => loadsK (cs := [.int .i64 r.kind, c1, c2, c3, c4, dv, m, c7, c8]) shapeT_51 rfl fun j u hj => hcell H j u hj, fun H => loads1 shapeT_45 (hcell H 5 _ rfl), fun H => loadsK (cs := [m, c7, c8]) shapeT_49 rfl fun j u hj => ?_⟩
 match j, hj with
 | 0, hj => exact hcell H 6 u hj
 | 1, hj => exact hcell H 7 u hj
 | 2, hj => exact hcell H 8 u hj
theorem Loads.up {V V' : View} {ty b o : Nat} {v : Value} (h : ∀ H, Loads Tryz.prog H V ty b o v) (hV : V.le V') (H : Heap) : Loads Tryz.prog H V' ty b o v := by
 obtain ⟨ag, n, es, hh⟩ := h (fun _ => none)
 have up : ∀ {off : Nat} {u : Value}, CellAt (fun _ => none) V b off u → CellAt H V' b off u := fun {off u} hc => by
  rcases hc with ⟨q, hq, _⟩ | ⟨arr, ty, fr, h1, h2⟩
  ·cases hq
  ·exact .inr ⟨arr, ty, fr, hV _ _ h1, h2⟩
 exact ⟨ag, n, es, hh.imp (fun ⟨a, cs, c1, c2, c3⟩ => ⟨a, cs, c1, fun j u hj => up (c2 j u hj), c3⟩) fun ⟨a, c⟩ => ⟨a, up c⟩⟩
def heiF (l : List Rn) (top : Rat) (j : Nat) : Rat := if top ≤ sOf l j then qOf l j else 0
def heiS (l : List Rn) (top : Rat) : Rat := Sm (heiF l top) l.length
def sliT (l : List Rn) (hs : List Rat) (i k h : Nat) : Rat := (cf hs h - cf hs (h - 1)) / sOf l i * (qOf l k / heiS l (cf hs h))
def sliF (l : List Rn) (hs : List Rat) (i k h : Nat) : Rat := if h ≠ 0 ∧ cf hs h ≤ sOf l i ∧ cf hs h ≤ sOf l k then sliT l hs i k h else 0
def sliQ (l : List Rn) (hs : List Rat) (i k : Nat) : Rat := Sm (sliF l hs i k) hs.length
theorem qOf_small {l : List Rn} (hs : ∀ r ∈ l, r.small) {k : Nat} (hk : k < l.length) : QB 128 (qOf l k) ∧ 0 < qOf l k := by
 obtain ⟨r, hr⟩ : ∃ r, l[k]? = some r := ⟨_, List.getElem?_eq_getElem hk⟩
 have := hs r (List.mem_of_getElem? hr)
 rw [qOf_at hr]
 exact ⟨this.qp, this.ppos⟩
theorem sOf_small {l : List Rn} (hs : ∀ r ∈ l, r.small) {k : Nat} (hk : k < l.length) : QB 256 (sOf l k) ∧ 0 < sOf l k := by
 obtain ⟨r, hr⟩ : ∃ r, l[k]? = some r := ⟨_, List.getElem?_eq_getElem hk⟩
 have := hs r (List.mem_of_getElem? hr)
 rw [sOf_at hr]
 exact ⟨this.sb, this.spos⟩
theorem heiS_QB {l : List Rn} (hs : ∀ r ∈ l, r.small) (top : Rat) : ∀ j, j ≤ l.length → QB (j * 129) (Sm (heiF l top) j)
 | 0, _ => QB_zero _
 | j + 1, hj => by
  have ih := heiS_QB hs top j (by omega)
  have h1 : QB 128 (heiF l top j) := by
   unfold heiF
   split
   ·exact (qOf_small hs (by omega)).1
   ·exact QB_zero _
  exact (ih.add h1).mono (by omega)
theorem Sm_posK {f : Nat → Rat} {n i : Nat} (h0 : ∀ j, j < n → 0 ≤ f j) (hi : i < n) (hp : 0 < f i) : 0 < Sm f n := by
 have h1 : ∀ m, m ≤ n → 0 ≤ Sm f m ∧ (i < m → 0 < Sm f m) := by
  intro m
  induction m with
  | zero => exact fun _ => ⟨Rat.le_refl, fun h => by omega⟩
  | succ m ih =>
   intro hn
   obtain ⟨a, b⟩ := ih (by omega)
   have hz := h0 m (by omega)
   have e : Sm f (m + 1) = Sm f m + f m := rfl
   refine ⟨by rw [e]; grind, fun hin => ?_⟩
   rw [e]
   by_cases hi' : i = m
   ·subst hi'
    grind
   ·have := b (by omega)
    grind
 exact (h1 n (Nat.le_refl _)).2 hi
theorem heiS_pos {l : List Rn} (hs : ∀ r ∈ l, r.small) {k : Nat} (hk : k < l.length) {top : Rat} (ht : top ≤ sOf l k) : 0 < heiS l top :=
 Sm_posK (fun j hj => by
  unfold heiF
  split
  ·exact Rat.le_of_lt (qOf_small hs hj).2
  ·exact Rat.le_refl) hk (by unfold heiF; rw [if_pos ht]; exact (qOf_small hs hk).2)
theorem sliF_QB {l : List Rn} {hs : List Rat} (hl : ∀ r ∈ l, r.small) (ll : l.length ≤ 60) (hh : ∀ q ∈ hs, QB 256 q) {i k : Nat} (hi : i < l.length) (hk : k < l.length) {h : Nat} (hlt : h < hs.length) : QB 9000 (sliF l hs i k h) := by
 unfold sliF
 split
 ·have h1 := ((hh _ (cf_mem hlt)).sub (hh _ (cf_mem (show h - 1 < hs.length by omega)))).div (sOf_small hl hi).1
  have h2 := (qOf_small hl hk).1.div ((heiS_QB hl (cf hs h) l.length (Nat.le_refl _)).mono (show l.length * 129 ≤ 7740 by omega))
  exact (h1.mul h2).mono (by omega)
 ·exact QB_zero _
theorem sliS_QB {l : List Rn} {hs : List Rat} (hl : ∀ r ∈ l, r.small) (ll : l.length ≤ 60) (hh : ∀ q ∈ hs, QB 256 q) {i k : Nat} (hi : i < l.length) (hk : k < l.length) : ∀ m, m ≤ hs.length → QB (m * 9001) (Sm (sliF l hs i k) m)
 | 0, _ => QB_zero _
 | m + 1, hm => ((sliS_QB hl ll hh hi hk m (by omega)).add (sliF_QB hl ll hh hi hk (show m < hs.length by omega))).mono (by omega)
theorem Sm_stop {f : Nat → Rat} {h : Nat} : ∀ n, (∀ j, h ≤ j → j < n → f j = 0) → h ≤ n → Sm f n = Sm f h
 | 0, _, hn => by
  obtain rfl : h = 0 := by omega
  rfl
 | n + 1, hf, hn => by
  by_cases e : h = n + 1
  ·rw [e]
  ·have ih := Sm_stop n (fun j a b => hf j a (by omega)) (by omega)
   have e1 : Sm f (n + 1) = Sm f n + f n := rfl
   rw [e1, ih, hf n (by omega) (by omega), Rat.add_zero]
theorem sorted_cf {hs : List Rat} (h : hs.Pairwise (· ≤ ·)) {a b : Nat} (hab : a ≤ b) (hb : b < hs.length) : cf hs a ≤ cf hs b := by
 by_cases e : a = b
 ·rw [e]; exact Rat.le_refl
 ·rw [← cf_get hb, ← cf_get (show a < hs.length by omega)]
  exact List.pairwise_iff_getElem.1 h a b (by omega) hb (by omega)
theorem sli_stop {l : List Rn} {hs : List Rat} (h : hs.Pairwise (· ≤ ·)) {i k t : Nat} (ht : t < hs.length) (hb : ¬ (cf hs t ≤ sOf l i ∧ cf hs t ≤ sOf l k)) : Sm (sliF l hs i k) t = sliQ l hs i k := by
 unfold sliQ
 refine (Sm_stop hs.length (fun j h1 h2 => ?_) (by omega)).symm
 unfold sliF
 rw [if_neg]
 rintro ⟨_, h3, h4⟩
 have := sorted_cf h h1 h2
 exact hb ⟨Rat.le_trans this h3, Rat.le_trans this h4⟩
theorem least_iff (top p q : Rat) : top ≤ ltQ p q ↔ top ≤ p ∧ top ≤ q := by
 unfold ltQ
 split
 ·constructor
  ·intro h; exact ⟨by grind, h⟩
  ·intro h; exact h.2
 ·constructor
  ·intro h; exact ⟨h, by grind⟩
  ·intro h; exact h.1
theorem sgI_pos_iff (p q : Rat) : 0 < sgI (p - q) ↔ q < p := by
 have h1 := sgI_neg_iff p q
 by_cases h : p = q
 ·subst h
  have : sgI (p - p) = 0 := by unfold sgI; rw [if_pos (by grind)]
  rw [this]
  constructor
  ·intro h; omega
  ·intro h; grind
 ·have h2 : sgI (p - q) ≠ 0 := by
   unfold sgI
   rw [if_neg (by grind)]
   split <;> omega
  constructor
  ·intro h3
   have : ¬ p < q := fun h4 => by have := h1.2 h4; omega
   grind
  ·intro h3
   have : ¬ sgI (p - q) < 0 := fun h4 => by have := h1.1 h4; grind
   omega
set_option maxHeartbeats 4000000 in
set_option maxRecDepth 100000 in
theorem cslice1_c (V : View) (b e bH eH i k : Nat) (x hv : Value) (l : List Rn) (hs : List Rat) (hb : V b = some (.cells ([x] : List Value).toArray e (0, 0))) (hbH : V bH = some (.cells ([hv] : List Value).toArray eH (0, 0))) (hx : SlK 18 stE V x l) (hh : Rats V hv hs) (hl : ∀ r ∈ l, r.small) (ll : l.length ≤ 60) (hhq : ∀ q ∈ hs, QB 256 q) (h0 : 0 < hs.length) (hhl : hs.length ≤ 62) (hsrt : hs.Pairwise (· ≤ ·)) (hi : i < l.length) (hk : k < l.length) :
  Spec Tryz.prog 73 [.int .i64 (i : Int), .int .i64 (k : Int), .pointer (some ⟨bH, 0, none⟩), .pointer (some ⟨b, 0, none⟩)] V fun v' V' => RatC V' v' (sliQ l hs i k) := by
 obtain ⟨A, c, rfl, _, _⟩ := hx.form
 obtain ⟨bL, oL, rfl⟩ := SlK.addr hx (by omega)
 obtain ⟨AH, cH, rfl, _, _⟩ := hh.form
 obtain ⟨bR, oR, rfl⟩ := SlAt.addr hh h0
 obtain ⟨r, hr⟩ : ∃ r, l[i]? = some r := ⟨_, List.getElem?_eq_getElem hi⟩
 obtain ⟨t, ht⟩ : ∃ r, l[k]? = some r := ⟨_, List.getElem?_eq_getElem hk⟩
 have h1 := hl r (List.mem_of_getElem? hr)
 have h2 := hl t (List.mem_of_getElem? ht)
 obtain ⟨rc1, w1, q1, s1, e1, ew1, eq1, es1, ld1⟩ := hx.st hr
 obtain ⟨rc2, w2, q2, s2, e2, ew2, eq2, es2, ld2⟩ := hx.st ht
 rw [← sOf_at hr] at es1
 rw [← sOf_at ht] at es2
 rw [← qOf_at ht] at eq2
 have hq1 := sOf_small hl hi
 have hq2 := sOf_small hl hk
 have hq3 := qOf_small hl hk
 have hld := fun (V' : View) (h : V.le V') => ldV1 (off := 0) (h _ _ hb) rfl shapeT_83 (fun _ => none)
 have hldH := fun (V' : View) (h : V.le V') => ldV1 (off := 0) (h _ _ hbH) rfl shapeT_24 (fun _ => none)
 have lds1 := fun H => (ld1 H).2.2.2
 have lds2 := fun H => (ld2 H).2.2.2
 have ldq2 := fun H => (ld2 H).2.2.1
 refine (Spec.enter Tryz.func73 rfl fun Γ => ?_)
 simp only [Tryz.ntmps73, List.map_cons, List.map_nil, List.length_cons, List.length_nil, Nat.reduceAdd, Nat.reduceSub, List.replicate_succ, List.replicate_zero, List.cons_append, List.nil_append]
 refine Gx.a (by kernel_rfl) fun K hK => ?_
 simp only [XA, XB]
 refine hK _ ?_
 refine Gx.a (by kernel_rfl) fun K hK => ?_
 simp only [XA]
 refine call_go (by kernel_rfl) rfl (qzero_c _) fun v3 V3 hV3 h3 => ?_
 obtain ⟨x3, y3, rfl, o1, o2⟩ := h3.form
 simp only [XA, XB]
 refine st_rat rfl rfl rfl o1 o2 ?_
 simp only [XA]
 refine hK _ ?_
 have h3 : RatC V3 (.agg #[.bool (ng 0), x3, y3]) (Sm (sliF l hs i k) 1) := by
  have : Sm (sliF l hs i k) 1 = 0 := by
   show 0 + sliF l hs i k 0 = 0
   unfold sliF
   rw [if_neg (fun h => h.1 rfl)]; exact Rat.add_zero 0
  rw [this]; exact h3
 refine XWP.cutD 2 (fun s => ∃ (V5 : View) (bb x y : Value), StIs (fun Z => [Z 0,Z 1,Z 2,Z 3,Z 4,Z 5, .p 0 0, .p 1 0, Z 8,Z 9,Z 10,Z 11,Z 12,Z 13,Z 14,Z 15,Z 16,Z 17,Z 18,Z 19,Z 20,Z 21,Z 22,Z 23,Z 24,Z 25,Z 26,Z 27,Z 28,Z 29,Z 30,Z 31,Z 32,Z 33,Z 34,Z 35,Z 36,Z 37,Z 38,Z 39,Z 40,Z 41,Z 42,Z 43,Z 44,Z 45,Z 46,Z 47,Z 48,Z 49,Z 50,Z 51,Z 52,Z 53,Z 54,Z 55,Z 56,Z 57,Z 58,Z 59,Z 60,Z 61,Z 62,Z 63,Z 64,Z 65,Z 66,Z 67,Z 68,Z 69,Z 70,Z 71,Z 72,Z 73,Z 74,Z 75,Z 76,Z 77,Z 78]) [[.bool false, .slice none 0 0, .slice none 0 0], [bb, x, y]] (fun _ => none) V5 s ∧ RatC V5 (.agg #[bb, x, y]) (sliQ l hs i k)) ?_ ?_
 rotate_left
 ·rintro s ⟨V5, bb, x, y, hs, hx⟩
  obtain ⟨z, rfl⟩ := hs.out
  try dsimp only
  clear hs
  obtain ⟨x', y', e, p1, p2⟩ := hx.form
  cases e
  refine Gx.a (by kernel_rfl) fun K hK => ?_
  simp only [XA, XB, Nat.reduceAdd, Nat.reduceLeDiff, ↓reduceIte]
  refine st_rat rfl rfl rfl p1 p2 ?_
  simp only [XA]
  refine hK _ (XWP.ret ?_)
  try simp only [thenX_ret, inBlockX_ret]
  exact ret_rat1 rfl rfl rfl hx
 refine Gx.a (by kernel_rfl) fun K hK => ?_
 simp only [XA]
 refine hK _ ?_
 clear hK
 refine XWP.block ?_
 refine XWP.loopD 2 (fun q s => ∃ (h : Nat) (V5 : View) (bb x y : Value), StIs (fun Z => [.v (.int .i64 (i : Int)), .v (.int .i64 (k : Int)), .v (.pointer (some ⟨bH, 0, none⟩)), .v (.pointer (some ⟨b, 0, none⟩)), Z 4,Z 5, .p 0 0, .p 1 0, .v (.int .i64 (h : Int)), Z 9,Z 10,Z 11,Z 12,Z 13,Z 14,Z 15,Z 16,Z 17,Z 18,Z 19,Z 20,Z 21,Z 22,Z 23,Z 24,Z 25,Z 26,Z 27,Z 28,Z 29,Z 30,Z 31,Z 32,Z 33,Z 34,Z 35,Z 36,Z 37,Z 38,Z 39,Z 40,Z 41,Z 42,Z 43,Z 44,Z 45,Z 46,Z 47,Z 48,Z 49,Z 50,Z 51,Z 52,Z 53,Z 54,Z 55,Z 56,Z 57,Z 58,Z 59,Z 60,Z 61,Z 62,Z 63,Z 64,Z 65,Z 66,Z 67,Z 68,Z 69,Z 70,Z 71,Z 72,Z 73,Z 74,Z 75,Z 76,Z 77,Z 78]) [[.bool false, .slice none 0 0, .slice none 0 0], [bb, x, y]] (fun _ => none) V5 s ∧ q + h = hs.length ∧ 1 ≤ h ∧ V3.le V5 ∧ RatC V5 (.agg #[bb, x, y]) (Sm (sliF l hs i k) h)) (hs.length - 1) ⟨1, V3, _, x3, y3, StIs.of (by exact rfl), by omega, by omega, View.le_refl _, h3⟩ ?_
 clear h3 o1 o2
 rintro q s ⟨h, V5, bb, x, y, hs', hq, hh1, hV5, hx5⟩
 obtain ⟨z, rfl⟩ := hs'.out
 try dsimp only
 clear hs'
 have hV05 := View.le_trans hV3 hV5
 refine XWP.seq ?_
 by_cases hm : h < hs.length
 rotate_left
 ·obtain rfl : h = hs.length := by omega
  have b1 : decide (((hs.length : Nat) : Int) < ((hs.length : Nat) : Int)) = false := decide_eq_false (by omega)
  refine Gx.a (by kernel_rfl) fun K hK => ?_
  simp only [XA]
  refine ld_mem (hldH _ hV05) ?_
  simp only [XA, XB, b1]
  refine hK _ ?_
  refine Gx.f rfl ?_
  refine XWP.exit ?_
  exact fun f => ⟨V5, bb, x, y, StIs.of (by exact rfl), hx5⟩
 have b1 : decide ((h : Int) < (hs.length : Int)) = true := decide_eq_true (by omega)
 refine Gx.a (by kernel_rfl) fun K hK => ?_
 simp only [XA]
 refine ld_mem (hldH _ hV05) ?_
 simp only [XA, XB, b1]
 refine hK _ ?_
 refine Gx.t rfl ?_
 refine XWP.skip ?_
 refine XWP.cutD 2 (fun s => ∃ (V6 : View) (bb x y : Value), StIs (fun Z => [.v (.int .i64 (i : Int)), .v (.int .i64 (k : Int)), .v (.pointer (some ⟨bH, 0, none⟩)), .v (.pointer (some ⟨b, 0, none⟩)), Z 4,Z 5, .p 0 0, .p 1 0, .v (.int .i64 (h : Int)), Z 9,Z 10,Z 11,Z 12,Z 13,Z 14,Z 15,Z 16,Z 17,Z 18,Z 19,Z 20,Z 21,Z 22,Z 23,Z 24,Z 25,Z 26,Z 27,Z 28,Z 29,Z 30,Z 31,Z 32,Z 33,Z 34,Z 35,Z 36,Z 37,Z 38,Z 39,Z 40,Z 41,Z 42,Z 43,Z 44,Z 45,Z 46,Z 47,Z 48,Z 49,Z 50,Z 51,Z 52,Z 53,Z 54,Z 55,Z 56,Z 57,Z 58,Z 59,Z 60,Z 61,Z 62,Z 63,Z 64,Z 65,Z 66,Z 67,Z 68,Z 69,Z 70,Z 71,Z 72,Z 73,Z 74,Z 75,Z 76,Z 77,Z 78]) [[.bool false, .slice none 0 0, .slice none 0 0], [bb, x, y]] (fun _ => none) V6 s ∧ V5.le V6 ∧ RatC V6 (.agg #[bb, x, y]) (Sm (sliF l hs i k) (h + 1))) ?_ ?_
 rotate_left
 ·rintro s ⟨V6, bb, x, y, hs, hV6, hx⟩
  obtain ⟨z, rfl⟩ := hs.out
  try dsimp only
  clear hs
  refine Gx.c (by kernel_rfl) fun K hK => ?_
  simp only [XA, XB, i64_succ h (by omega)]
  exact hK _ ⟨q - 1, by omega, fun f => ⟨h + 1, V6, bb, x, y, StIs.of (by exact rfl), by omega, by omega, View.le_trans hV5 hV6, hx⟩⟩
 clear hK
 refine XWP.block ?_
 obtain ⟨m9, n9, d9, hx9, ⟨p7, p8, p9⟩, hld9⟩ := Rats.get (Rats.up hh hV05) h (by omega)
 obtain ⟨m8, n8, d8, hx8, _, hld8⟩ := Rats.get (Rats.up hh hV05) (h - 1) (by omega)
 have ft := hhq _ (cf_mem hm)
 have fp := hhq _ (cf_mem (show h - 1 < hs.length by omega))
 refine Gx.a (by kernel_rfl) fun K hK => ?_
 simp only [XA]
 refine ld_mem (hldH _ hV05) ?_
 simp only [XA, XB]
 refine ⟨by omega, by omega, ld_mem (hld9 _) ?_⟩
 simp only [XA, XB, Nat.reduceAdd]
 refine st_rat rfl rfl p7 p8 p9 ?_
 simp only [XA]
 refine hK _ ?_
 refine XWP.seq ?_
 (refine XWP.drw [0, 1, 2, 3, 4, 5, 6, 7, 8, 9, 10, 11, 12, 13] (by kernel_rfl) (by kernel_rfl) (by kernel_rfl) fun K hK => ?_) <;> dsimp only [pickOps, List.getElem?_cons_zero, List.getElem?_cons_succ]
 simp only [XA, XB, Nat.reduceAdd, Nat.reduceLeDiff, ↓reduceIte]
 refine ld_mem (hld _ hV05) ?_
 simp only [XV, XA]
 refine ⟨by omega, by omega, ld_mem (Loads.up lds1 hV05 _) ?_⟩
 simp only [XA]
 refine ld_mem (hld _ hV05) ?_
 simp only [XV, XA]
 refine ⟨by omega, by omega, ld_mem (Loads.up lds2 hV05 _) ?_⟩
 simp only [XA]
 refine call_go (by kernel_rfl) rfl (qleast_c _ _ _ _ _ (es1.mono hV05) (es2.mono hV05) (hq1.1.qf (by omega)) (hq2.1.qf (by omega))) fun v6 V6 hV6 h6 => ?_
 simp only [XA]
 have hb6 := QB_lt hq1.1 hq2.1
 refine call_go (by kernel_rfl) rfl (qcmp_c _ _ _ _ _ (hx9.mono hV6) h6 (ft.qf (by omega)) (hb6.qf (by omega))) fun v7 V7 hV7 h7 => ?_
 subst h7
 have eSm : Sm (sliF l hs i k) (h + 1) = Sm (sliF l hs i k) h + sliF l hs i k h := rfl
 have hV67 := View.le_trans hV6 hV7
 by_cases hbr : cf hs h ≤ sOf l i ∧ cf hs h ≤ sOf l k
 rotate_left
 ·have b2 : decide (0 < sgI (cf hs h - ltQ (sOf l i) (sOf l k))) = true := decide_eq_true ((sgI_pos_iff _ _).2 (Rat.not_le.1 fun e => hbr ((least_iff _ _ _).1 e)))
  simp only [XA, XB, b2]
  refine hK _ ?_
  refine Gx.t rfl ?_
  refine XWP.exit ?_
  exact fun f => ⟨V7, bb, x, y, StIs.of (by exact rfl), by rw [← sli_stop hsrt hm hbr]; exact hx5.mono hV67⟩
 have b2 : decide (0 < sgI (cf hs h - ltQ (sOf l i) (sOf l k))) = false := decide_eq_false fun e => by
  have := (sgI_pos_iff _ _).1 e
  exact Rat.not_le.2 this ((least_iff _ _ _).2 hbr)
 simp only [XA, XB, b2]
 refine hK _ ?_
 refine Gx.f rfl ?_
 refine XWP.skip ?_
 have hV07 := View.le_trans hV05 hV67
 refine Gx.a (by kernel_rfl) fun K hK => ?_
 simp only [XA]
 refine call_go (by kernel_rfl) rfl (qzero_c _) fun v8 V8 hV8 h8 => ?_
 obtain ⟨x8, y8, rfl, o3, o4⟩ := h8.form
 simp only [XA, XB, Nat.reduceAdd]
 refine st_rat rfl rfl rfl o3 o4 ?_
 simp only [XA]
 refine hK _ ?_
 have hV08 := View.le_trans hV07 hV8
 have h8 : RatC V8 (.agg #[.bool (ng 0), x8, y8]) (Sm (heiF l (cf hs h)) 0) := h8
 have hx9' := (hx9.mono hV67).mono hV8
 have hqS : ∀ j, j ≤ l.length → QF (Sm (heiF l (cf hs h)) j) := fun j hj => (heiS_QB hl (cf hs h) j hj).qf (by omega)
 refine XWP.cutD 4 (fun s => ∃ (V9 : View) (b9 x9 y9 : Value), StIs (fun Z => [.v (.int .i64 (i : Int)), .v (.int .i64 (k : Int)), .v (.pointer (some ⟨bH, 0, none⟩)), .v (.pointer (some ⟨b, 0, none⟩)), Z 4,Z 5, .p 0 0, .p 1 0, .v (.int .i64 (h : Int)), .p 2 0, .p 3 0, Z 11,Z 12,Z 13,Z 14,Z 15,Z 16,Z 17,Z 18,Z 19,Z 20,Z 21,Z 22,Z 23,Z 24,Z 25,Z 26,Z 27,Z 28,Z 29,Z 30,Z 31,Z 32,Z 33,Z 34,Z 35,Z 36,Z 37,Z 38,Z 39,Z 40,Z 41,Z 42,Z 43,Z 44,Z 45,Z 46,Z 47,Z 48,Z 49,Z 50,Z 51,Z 52,Z 53,Z 54,Z 55,Z 56,Z 57,Z 58,Z 59,Z 60,Z 61,Z 62,Z 63,Z 64,Z 65,Z 66,Z 67,Z 68,Z 69,Z 70,Z 71,Z 72,Z 73,Z 74,Z 75,Z 76,Z 77,Z 78]) [[.bool false, .slice none 0 0, .slice none 0 0], [bb, x, y], [m9, n9, d9], [b9, x9, y9]] (fun _ => none) V9 s ∧ V8.le V9 ∧ RatC V9 (.agg #[b9, x9, y9]) (heiS l (cf hs h))) ?_ ?_
 ·refine Gx.a (by kernel_rfl) fun K hK => ?_
  simp only [XA]
  refine ld_mem (hld _ hV08) ?_
  simp only [XV, XA]
  refine hK _ ?_
  clear hK
  refine XWP.block ?_
  refine XWP.loopD 4 (fun n s => ∃ (j : Nat) (V9 : View) (b9 x9 y9 : Value), StIs (fun Z => [.v (.int .i64 (i : Int)), .v (.int .i64 (k : Int)), .v (.pointer (some ⟨bH, 0, none⟩)), .v (.pointer (some ⟨b, 0, none⟩)), Z 4,Z 5, .p 0 0, .p 1 0, .v (.int .i64 (h : Int)), .p 2 0, .p 3 0, Z 11,Z 12,Z 13,Z 14,Z 15,Z 16,Z 17,Z 18,Z 19,Z 20,Z 21,Z 22,Z 23,Z 24,Z 25,Z 26,Z 27,Z 28,Z 29,Z 30,Z 31,Z 32,Z 33,Z 34,Z 35,Z 36,Z 37,Z 38, .v (.slice (some ⟨bL, oL, none⟩) l.length c), .v (.int .i64 (l.length : Int)), .v (.int .i64 (j : Int)), Z 42,Z 43,Z 44,Z 45,Z 46,Z 47,Z 48,Z 49,Z 50,Z 51,Z 52,Z 53,Z 54,Z 55,Z 56,Z 57,Z 58,Z 59,Z 60,Z 61,Z 62,Z 63,Z 64,Z 65,Z 66,Z 67,Z 68,Z 69,Z 70,Z 71,Z 72,Z 73,Z 74,Z 75,Z 76,Z 77,Z 78]) [[.bool false, .slice none 0 0, .slice none 0 0], [bb, x, y], [m9, n9, d9], [b9, x9, y9]] (fun _ => none) V9 s ∧ n + j = l.length ∧ V8.le V9 ∧ RatC V9 (.agg #[b9, x9, y9]) (Sm (heiF l (cf hs h)) j)) l.length ⟨0, V8, _, x8, y8, StIs.of (by exact rfl), by omega, View.le_refl _, h8⟩ ?_
  clear h8 o3 o4
  rintro n s ⟨j, V9, b9, x9, y9, hs', hn, hV9, h9⟩
  obtain ⟨z, rfl⟩ := hs'.out
  try dsimp only
  clear hs'
  by_cases hj : j < l.length
  rotate_left
  ·obtain rfl : j = l.length := by omega
   have bj : decide (((l.length : Nat) : Int) < ((l.length : Nat) : Int)) = false := decide_eq_false (by omega)
   refine Gx.a (by kernel_rfl) fun K hK => ?_
   simp only [XA, XB, bj]
   refine hK _ ?_
   refine XWP.seq (Gx.f rfl ?_)
   refine XWP.exit ?_
   exact fun f => ⟨V9, b9, x9, y9, StIs.of (by exact rfl), hV9, h9⟩
  have bj : decide ((j : Int) < (l.length : Int)) = true := decide_eq_true (by omega)
  refine Gx.a (by kernel_rfl) fun K hK => ?_
  simp only [XA, XB, bj]
  refine hK _ ?_
  refine XWP.seq (Gx.t rfl ?_)
  refine XWP.skip ?_
  have hV09 := View.le_trans hV08 hV9
  obtain ⟨g, hg⟩ : ∃ r, l[j]? = some r := ⟨_, List.getElem?_eq_getElem hj⟩
  obtain ⟨cs9, ec9, lc9⟩ := (hx.mono stE_ok hV09).st2 hg
  obtain ⟨_, hone9, w0, w1', w2', w3, w4, w5, w6, w7, w8, mA, nA, dA, qq1, qq2, qq3, ss1, ss2, ss3, rfl, er9, ew9, eq9, es9⟩ := ec9
  rw [← qOf_at hg] at eq9
  rw [← sOf_at hg] at es9
  have hqg := qOf_small hl hj
  have hsg := sOf_small hl hj
  refine XWP.cutD 4 (fun s => ∃ (VA : View) (b9 x9 y9 : Value), StIs (fun Z => [.v (.int .i64 (i : Int)), .v (.int .i64 (k : Int)), .v (.pointer (some ⟨bH, 0, none⟩)), .v (.pointer (some ⟨b, 0, none⟩)), Z 4,Z 5, .p 0 0, .p 1 0, .v (.int .i64 (h : Int)), .p 2 0, .p 3 0, Z 11,Z 12,Z 13,Z 14,Z 15,Z 16,Z 17,Z 18,Z 19,Z 20,Z 21,Z 22,Z 23,Z 24,Z 25,Z 26,Z 27,Z 28,Z 29,Z 30,Z 31,Z 32,Z 33,Z 34,Z 35,Z 36,Z 37,Z 38, .v (.slice (some ⟨bL, oL, none⟩) l.length c), .v (.int .i64 (l.length : Int)), .v (.int .i64 (j : Int)), Z 42,Z 43,Z 44,Z 45,Z 46,Z 47,Z 48,Z 49,Z 50,Z 51,Z 52,Z 53,Z 54,Z 55,Z 56,Z 57,Z 58,Z 59,Z 60,Z 61,Z 62,Z 63,Z 64,Z 65,Z 66,Z 67,Z 68,Z 69,Z 70,Z 71,Z 72,Z 73,Z 74,Z 75,Z 76,Z 77,Z 78]) [[.bool false, .slice none 0 0, .slice none 0 0], [bb, x, y], [m9, n9, d9], [b9, x9, y9]] (fun _ => none) VA s ∧ V9.le VA ∧ RatC VA (.agg #[b9, x9, y9]) (Sm (heiF l (cf hs h)) (j + 1))) ?_ ?_
  rotate_left
  ·rintro s ⟨VA, b9, x9, y9, hs, hVA, h9⟩
   obtain ⟨z, rfl⟩ := hs.out
   try dsimp only
   clear hs
   refine Gx.c (by kernel_rfl) fun K hK => ?_
   simp only [XA, XB, i64_succ j (by omega)]
   exact hK _ ⟨n - 1, by omega, fun f => ⟨j + 1, VA, b9, x9, y9, StIs.of (by exact rfl), by omega, View.le_trans hV9 hVA, h9⟩⟩
  clear hK
  have eS : Sm (heiF l (cf hs h)) (j + 1) = Sm (heiF l (cf hs h)) j + heiF l (cf hs h) j := rfl
  refine XWP.block ?_
  refine Gx.a (by kernel_rfl) fun K hK => ?_
  simp only [XV, XA]
  refine ⟨by omega, by omega, ld_mem (lc9 _) ?_⟩
  simp only [XV, XA, Nat.reduceAdd]
  refine st_whole (cs := [w0, w1', w2', w3, w4, w5, w6, w7, w8, mA, nA, dA, qq1, qq2, qq3, ss1, ss2, ss3]) shapeT_87 rfl rfl rfl hone9 ?_
  simp only [XA]
  refine hK _ ?_
  refine Gx.a (by kernel_rfl) fun K hK => ?_
  simp only [XV, XA, XB, Nat.reduceAdd, Nat.reduceLeDiff, ↓reduceIte]
  refine call_go (by kernel_rfl) rfl (qcmp_c _ _ _ _ _ es9 (hx9'.mono hV9) (hsg.1.qf (by omega)) (ft.qf (by omega))) fun vA VA hVA hA => ?_
  subst hA
  have eF : heiF l (cf hs h) j = if cf hs h ≤ sOf l j then qOf l j else 0 := rfl
  by_cases hle : cf hs h ≤ sOf l j
  rotate_left
  ·have bc : decide (0 ≤ sgI (sOf l j - cf hs h)) = false := decide_eq_false fun e => by
    have := (sgI_neg_iff _ _).2 (Rat.not_le.1 hle)
    omega
   simp only [XA, XB, bc]
   refine hK _ ?_
   refine Gx.f rfl ?_
   refine XWP.skip ?_
   refine fun f => ⟨VA, b9, x9, y9, StIs.of (by exact rfl), hVA, ?_⟩
   rw [eS, eF, if_neg hle, Rat.add_zero]
   exact h9.mono hVA
  have bc : decide (0 ≤ sgI (sOf l j - cf hs h)) = true := decide_eq_true (by
   have : ¬ sgI (sOf l j - cf hs h) < 0 := fun e => Rat.not_lt.2 hle ((sgI_neg_iff _ _).1 e)
   omega)
  simp only [XA, XB, bc]
  refine hK _ ?_
  refine Gx.t rfl ?_
  refine Gx.c (by kernel_rfl) fun K hK => ?_
  simp only [XV, XA, XB, Nat.reduceAdd, Nat.reduceLeDiff, ↓reduceIte]
  refine call_go (by kernel_rfl) rfl (qadd_c _ _ _ _ _ (h9.mono hVA) (eq9.mono hVA) (hqS j (by omega)) (hqg.1.qf (by omega))) fun vB VB hVB hB => ?_
  obtain ⟨xB, yB, rfl, p5, p6⟩ := hB.form
  simp only [XA]
  refine st_rat rfl rfl rfl p5 p6 ?_
  simp only [XA]
  refine hK _ fun f => ⟨VB, _, xB, yB, StIs.of (by exact rfl), View.le_trans hVA hVB, ?_⟩
  rw [eS, eF, if_pos hle]
  exact hB
 clear h8 o3 o4
 rintro s ⟨V9, b9, x9, y9, hs', hV9, h9⟩
 obtain ⟨z, rfl⟩ := hs'.out
 try dsimp only
 clear hs'
 have hV09 := View.le_trans hV08 hV9
 have hqA := (heiS_QB hl (cf hs h) l.length (Nat.le_refl _)).mono (show l.length * 129 ≤ 7740 by omega)
 have hpA := heiS_pos hl hk hbr.2
 have hnA : heiS l (cf hs h) ≠ 0 := fun e => by rw [e] at hpA; exact absurd hpA (by decide)
 have hnS : sOf l i ≠ 0 := fun e => by have := hq1.2; rw [e] at this; exact absurd this (by decide)
 have hqs := sliS_QB hl ll hhq hi hk h (by omega)
 have hqf := sliF_QB hl ll hhq hi hk hm
 have ef : sliF l hs i k h = (cf hs h - cf hs (h - 1)) / sOf l i * (qOf l k / heiS l (cf hs h)) := by unfold sliF; rw [if_pos ⟨by omega, hbr⟩]; rfl
 have qsb := ft.sub fp
 have qd1 := qsb.div hq1.1
 have qd2 := hq3.1.div hqA
 have hV59 := View.le_trans hV67 (View.le_trans hV8 hV9)
 (refine XWP.drw1 [0, 1, 2, 3, 4, 5, 6, 8, 9, 10, 11, 12, 14, 15, 16, 17, 18, 19, 7, 13, 20, 21, 22, 23] (by kernel_rfl) (by kernel_rfl) (by kernel_rfl) fun K hK => ?_) <;> dsimp only [pickOps, List.getElem?_cons_zero, List.getElem?_cons_succ]
 simp only [XA, XB, Nat.reduceAdd, Nat.reduceLeDiff, ↓reduceIte, i64_pred h hh1 (by omega)]
 refine ld_mem (hldH _ hV09) ?_
 simp only [XA, XB, i64_pred h hh1 (by omega)]
 refine ⟨by omega, by omega, ld_mem (Loads.up hld8 hV59 _) ?_⟩
 simp only [XA]
 refine ld_mem (hld _ hV09) ?_
 simp only [XV, XA]
 refine ⟨by omega, by omega, ld_mem (Loads.up lds1 hV09 _) ?_⟩
 simp only [XA]
 refine ld_mem (hld _ hV09) ?_
 simp only [XV, XA]
 refine ⟨by omega, by omega, ld_mem (Loads.up ldq2 hV09 _) ?_⟩
 simp only [XA, XB, Nat.reduceAdd, Nat.reduceLeDiff, ↓reduceIte]
 refine call_go (by kernel_rfl) rfl (qsub_c _ _ _ _ _ (hx9.mono hV59) (hx8.mono hV59) (ft.qf (by omega)) (fp.qf (by omega))) fun vA VA hVA hA => ?_
 simp only [XA]
 refine call_go (by kernel_rfl) rfl (kby_c _ _ _ _ _ hA ((es1.mono hV09).mono hVA) (qsb.qf (by omega)) (hq1.1.qf (by omega)) hnS) fun vB VB hVB hB => ?_
 simp only [XA]
 refine call_go (by kernel_rfl) rfl (kby_c _ _ _ _ _ (((eq2.mono hV09).mono hVA).mono hVB) ((h9.mono hVA).mono hVB) (hq3.1.qf (by omega)) (hqA.qf (by omega)) hnA) fun vC VC hVC hC => ?_
 simp only [XA]
 refine call_go (by kernel_rfl) rfl (qmul_c _ _ _ _ _ (hB.mono hVC) hC (qd1.qf (by omega)) (qd2.qf (by omega))) fun vD VD hVD hD => ?_
 simp only [XA]
 refine call_go (by kernel_rfl) rfl (qadd_c _ _ _ _ _ (((((hx5.mono hV59).mono hVA).mono hVB).mono hVC).mono hVD) hD (hqs.qf (by omega)) ((qd1.mul qd2).qf (by omega))) fun vE VE hVE hE => ?_
 obtain ⟨xE, yE, rfl, p5, p6⟩ := hE.form
 simp only [XA]
 refine st_rat rfl rfl rfl p5 p6 ?_
 simp only [XA]
 refine hK _ fun f => ⟨VE, _, xE, yE, StIs.of (by exact rfl), View.le_trans hV59 (View.le_trans hVA (View.le_trans hVB (View.le_trans hVC (View.le_trans hVD hVE)))), ?_⟩
 rw [eSm, ef]
 exact hE
def heiL (l : List Rn) (n : Nat) : List Rat := 0 :: (List.range n).map (sOf l)
structure HsOk (l : List Rn) (hs : List Rat) : Prop where
 srt : hs.Pairwise (· < ·)
 mem : ∀ q, q ∈ hs ↔ q = 0 ∨ ∃ j, j < l.length ∧ q = sOf l j
 len : hs.length ≤ l.length + 1
theorem heiL_succ (l : List Rn) (n : Nat) : heiL l (n + 1) = heiL l n ++ [sOf l n] := by
 unfold heiL
 rw [List.range_succ, List.map_append, List.map_singleton, List.cons_append]
theorem heiL_len (l : List Rn) (n : Nat) : (heiL l n).length = n + 1 := by
 unfold heiL
 rw [List.length_cons, List.length_map, List.length_range]
theorem mem_heiL (l : List Rn) (n : Nat) (q : Rat) : q ∈ heiL l n ↔ q = 0 ∨ ∃ j, j < n ∧ q = sOf l j := by
 unfold heiL
 rw [List.mem_cons, List.mem_map]
 constructor
 ·rintro (h | ⟨j, h1, h2⟩)
  ·exact .inl h
  ·exact .inr ⟨j, List.mem_range.1 h1, h2.symm⟩
 ·rintro (h | ⟨j, h1, h2⟩)
  ·exact .inl h
  ·exact .inr ⟨j, List.mem_range.2 h1, h2.symm⟩
theorem ddN_mem {l : List Rat} : ∀ n, n ≤ l.length → ∀ q, q ∈ ddN l n ↔ q ∈ l.take n
 | 0, _, q => by simp [ddN]
 | n + 1, hn, q => by
  have ih := ddN_mem (l := l) n (by omega) q
  rw [take_succ_cf (show n < l.length by omega), List.mem_append, List.mem_singleton]
  by_cases h : n ≠ 0 ∧ cf l n = cf l (n - 1)
  ·rw [ddN_dup h.1 h.2, ih]
   constructor
   ·exact .inl
   ·rintro (h1 | h1)
    ·exact h1
    ·rw [h1, h.2]
     have hlt : n - 1 < (l.take n).length := by rw [List.length_take]; omega
     have : (l.take n)[n - 1] = cf l (n - 1) := by
      rw [List.getElem_take]; exact cf_get (by omega)
     rw [← this]; exact List.getElem_mem hlt
  ·rw [ddN_new (by
    by_cases h0 : n = 0
    ·exact .inl h0
    ·exact .inr fun e => h ⟨h0, e⟩), List.mem_append, List.mem_singleton, ih]
theorem ddN_lt {l : List Rat} (hs : l.Pairwise (· ≤ ·)) : ∀ n, n ≤ l.length → (ddN l n).Pairwise (· < ·)
 | 0, _ => List.Pairwise.nil
 | n + 1, hn => by
  have ih := ddN_lt hs n (by omega)
  by_cases h : n ≠ 0 ∧ cf l n = cf l (n - 1)
  ·rw [ddN_dup h.1 h.2]; exact ih
  ·rw [ddN_new (by
    by_cases h0 : n = 0
    ·exact .inl h0
    ·exact .inr fun e => h ⟨h0, e⟩), List.pairwise_append]
   refine ⟨ih, List.pairwise_singleton _ _, fun a ha b hb => ?_⟩
   rw [List.mem_singleton] at hb
   subst hb
   have ha := (ddN_mem n (by omega) a).1 ha
   obtain ⟨j, hj, rfl⟩ := List.mem_iff_getElem.1 ha
   rw [List.length_take] at hj
   rw [List.getElem_take, cf_get]
   have h1 := sorted_cf hs (show j ≤ n - 1 by omega) (by omega)
   have h2 := sorted_cf hs (show n - 1 ≤ n by omega) (by omega)
   have h3 : cf l n ≠ cf l (n - 1) := fun e => h ⟨by omega, e⟩
   grind
theorem hs_ok {l : List Rn} {m : List Rat} (hp : m.Perm (heiL l l.length)) (hs : m.Pairwise (· ≤ ·)) : HsOk l (ddN m m.length) := by
 refine ⟨ddN_lt hs _ (Nat.le_refl _), fun q => ?_, ?_⟩
 ·rw [ddN_mem _ (Nat.le_refl _), List.take_length, hp.mem_iff, mem_heiL]
 ·have := ddN_len m m.length
  rw [hp.length_eq, heiL_len] at this
  rw [hp.length_eq, heiL_len]
  exact this
theorem HsOk.pos {l : List Rn} {hs : List Rat} (h : HsOk l hs) : 0 < hs.length := List.length_pos_of_mem ((h.mem 0).2 (.inl rfl))
theorem HsOk.le {l : List Rn} {hs : List Rat} (h : HsOk l hs) : hs.Pairwise (· ≤ ·) := h.srt.imp fun h => Rat.le_of_lt h
theorem HsOk.qb {l : List Rn} {hs : List Rat} (h : HsOk l hs) (hl : ∀ r ∈ l, r.small) : ∀ q ∈ hs, QB 256 q := fun q hq => by
 rcases (h.mem q).1 hq with rfl | ⟨j, hj, rfl⟩
 ·exact QB_zero _
 ·exact (sOf_small hl hj).1
theorem sliQ_QB {l : List Rn} {hs : List Rat} (h : HsOk l hs) (hl : ∀ r ∈ l, r.small) (ll : l.length ≤ 60) {i k : Nat} (hi : i < l.length) (hk : k < l.length) : QB 560000 (sliQ l hs i k) := by
 have h1 := sliS_QB hl ll (h.qb hl) hi hk hs.length (Nat.le_refl _)
 have := h.len
 exact h1.mono (by omega)
theorem ccompact_b (H : Heap) (V : View) (g c e tot : Nat) (cells vs : List Value) (l : List Rat) (hg : H g = some ⟨e, cells, tot⟩) (he : e = 49) (hr : RowAt ratE V cells l) (hq : ∀ x ∈ l, QF x) (hc : l.length ≤ c) (hc2 : l.length ≤ 1000000) :
  MSem Tryz.prog 71 [.slice (some ⟨g, 0, none⟩) l.length c, .func (.func 72) #[] #[]] [vs] H V fun v' H' V' => V.le V' ∧ v' = .slice (some ⟨g, 0, none⟩) (ddN l l.length).length c ∧ ∃ cells' rest, H' = upd H g (some ⟨e, cells' ++ rest, tot⟩) ∧ RowAt ratE V' cells' (ddN l l.length) := by
 refine MSem.box fun b eb hb _ => ?_
 have hne : g ≠ b := fun e => by rw [e, hb] at hg; cases hg
 have hg' : upd H b (some ⟨eb, vs, vs.length⟩) g = some ⟨e, cells, tot⟩ := by unfold upd; rw [if_neg hne]; exact hg
 refine (ccompact_m _ V g c e tot cells l hg' he hr hq hc hc2).mono ?_
 rintro v H' V' ⟨h1, h2, cells', rest, rfl, h4⟩
 refine ⟨?_, h1, h2, cells', rest, ?_, h4⟩
 ·unfold upd
  rw [if_neg (fun e => hne e.symm), if_pos rfl]
 ·funext k
  unfold upd
  by_cases e1 : k = b
  ·rw [if_pos e1, if_neg (fun e2 => hne (e2.symm.trans e1)), e1, hb]
  ·rw [if_neg e1]
   by_cases e2 : k = g
   ·rw [if_pos e2, if_pos e2]
   ·rw [if_neg e2, if_neg e1, if_neg e2]
theorem rowobj_less {e tot : Nat} {cs rest : List Value} {o : Obj} (h : RowObj ⟨e, cs ++ rest, tot⟩ o) : RowObj ⟨e, cs, tot⟩ o := by
 obtain ⟨ex, h1, h2⟩ := h
 exact ⟨rest ++ ex, by rw [h1, List.append_assoc], by dsimp only at h2 ⊢; rw [← List.append_assoc]; exact h2⟩
set_option maxHeartbeats 4000000 in
set_option maxRecDepth 100000 in
theorem cslice_c (V : View) (v : Value) (l : List Rn) (h : SlK 9 rnE V v l) (f : ∀ r ∈ l, r.fits) (fs : ∀ r ∈ l, r.ds.length ≤ 8 ∧ (r.w.ok = true → QB 128 r.w.q)) (ll : l.length ≤ 1000000) : Spec Tryz.prog 25 [v] V fun v' V' => (rightR l = false → v' = .tuple #[.agg #[.int .i64 0, .int .i64 0, .slice none 0 0], .int .i64 1]) ∧ (rightR l = true → ∃ hs s, HsOk l hs ∧ v' = .tuple #[.agg #[.int .i64 (l.length : Int), .int .i64 (l.length : Int), s], .int .i64 0] ∧ Rats V' s (flatG (moveG (sliQ l hs) l.length) l.length l.length)) := by
 obtain ⟨A, cL, rfl, _, _⟩ := h.form
 refine (Spec.enterR Tryz.func25 rfl fun Γ hΓ => ?_)
 simp only [Tryz.ntmps25, List.map_cons, List.map_nil, List.length_cons, List.length_nil, Nat.reduceAdd, Nat.reduceSub, List.replicate_succ, List.replicate_zero, List.cons_append, List.nil_append]
 refine Gx.a (by kernel_rfl) fun K hK => ?_
 simp only [XM, XA]
 refine hK _ ?_
 refine XWP.seq ?_
 refine Gx.a (by kernel_rfl) fun K hK => ?_
 simp only [XA]
 refine call_go (by kernel_rfl) rfl (kright_c _ _ l h f ll) fun v1 V1 hV1 h1 => ?_
 subst h1
 cases hr : rightR l
 ·simp only [XA]
  refine hK _ ?_
  refine Gx.t rfl ?_
  refine Gx.a (by kernel_rfl) fun K hK => ?_
  simp only []
  refine bd_go (by kernel_rfl) #[] (by simp) bd_mtx0 ?_
  simp only [XA]
  refine st_mat shapeT_26 rfl rfl rfl rfl rfl ?_
  simp only [XA]
  refine hK _ (XWP.ret ?_)
  try simp only [thenX_ret, inBlockX_ret]
  exact ret_mat2C rfl rfl rfl rfl ⟨fun _ => rfl, fun h => absurd h (by rw [hr]; simp)⟩
 obtain ⟨g1, g2, g3⟩ := right_small hr fs
 simp only [XA]
 refine hK _ ?_
 refine Gx.f rfl ?_
 refine XWP.skip ?_
 refine Gx.a (by kernel_rfl) fun K hK => ?_
 simp only [XA]
 refine call_go (by kernel_rfl) rfl (cstates_c _ _ l (h.mono rnE_ok hV1) (by omega) (by omega) (fun r hr => (g3 r hr).fine)) fun v2 V2 hV2 h2 => ?_
 obtain ⟨A2, c2, rfl, _, _⟩ := h2.form
 obtain ⟨bL, oL, rfl⟩ := SlK.addr h2 (by omega)
 simp only [XV, XA]
 refine st_one shapeT_83 rfl rfl (by simp) ?_
 simp only [XA]
 refine hK _ ?_
 refine Gx.a (by kernel_rfl) fun K hK => ?_
 simp only [XA]
 refine call_go (by kernel_rfl) rfl (qzero_c _) fun v3 V3 hV3 h3 => ?_
 obtain ⟨x3, y3, rfl, o1, o2⟩ := h3.form
 simp only [XA]
 refine bs_go (by kernel_rfl) #[(0, .agg #[.bool (ng 0), x3, y3])] (by simp [ev_tmp, SV.val]) (bs_rat elemT_24) fun b3 hb3 hb4 => ?_
 simp only [XA, XB, Nat.reduceAdd]
 refine st_one shapeT_24 rfl rfl (by simp) ?_
 simp only [XA]
 refine hK _ ?_
 have hrow0 := (RowAt.nil V3).snoc (show isOne (.bool (ng 0)) = true from rfl) o1 o2 h3
 have own0 : Own (upd (fun _ => none) b3 (some ⟨49, [.bool (ng 0), x3, y3], 3⟩)) 49 3 (.slice (some ⟨b3, 0, none⟩) 1 1) (0 + 1) [.bool (ng 0), x3, y3] := own3 (upd_at _ _ _) rfl (Nat.le_refl _) (by omega)
 have hV23 := hV3
 refine XWP.cutD 3 (fun s => ∃ (V4 : View) (H4 : Heap) (sv : Value) (cells : List Value), StIs (fun Z => [Z 0,Z 1, .p 0 0, Z 3, .p 1 0, .p 2 0, Z 6,Z 7,Z 8,Z 9,Z 10,Z 11,Z 12,Z 13,Z 14,Z 15,Z 16,Z 17,Z 18,Z 19,Z 20,Z 21,Z 22,Z 23,Z 24,Z 25,Z 26,Z 27,Z 28,Z 29,Z 30,Z 31,Z 32,Z 33,Z 34]) [[.int .i64 0, .int .i64 0, .slice none 0 0], [.slice (some ⟨bL, oL, none⟩) l.length c2], [sv]] H4 V4 s ∧ V2.le V4 ∧ Own H4 49 3 sv (l.length + 1) cells ∧ RowAt ratE V4 cells (heiL l l.length)) ?_ ?_
 ·refine Gx.a (by kernel_rfl) fun K hK => ?_
  simp only [XV, XA]
  refine hK _ ?_
  clear hK
  refine XWP.block ?_
  refine XWP.loopD 3 (fun n s => ∃ (j : Nat) (V4 : View) (H4 : Heap) (sv : Value) (cells : List Value), StIs (fun Z => [Z 0,Z 1, .p 0 0, Z 3, .p 1 0, .p 2 0, Z 6,Z 7,Z 8,Z 9,Z 10,Z 11,Z 12,Z 13,Z 14,Z 15, .v (.slice (some ⟨bL, oL, none⟩) l.length c2), .v (.int .i64 (l.length : Int)), .v (.int .i64 (j : Int)), Z 19,Z 20,Z 21,Z 22,Z 23,Z 24,Z 25,Z 26,Z 27,Z 28,Z 29,Z 30,Z 31,Z 32,Z 33,Z 34]) [[.int .i64 0, .int .i64 0, .slice none 0 0], [.slice (some ⟨bL, oL, none⟩) l.length c2], [sv]] H4 V4 s ∧ n + j = l.length ∧ V2.le V4 ∧ Own H4 49 3 sv (j + 1) cells ∧ RowAt ratE V4 cells (heiL l j)) l.length ⟨0, V3, _, _, _, StIs.of (by exact rfl), by omega, hV3, own0, hrow0⟩ ?_
  clear own0 hrow0 h3 o1 o2
  rintro n s ⟨j, V4, H4, sv, cells, hs', hn, hV4, hown, hrow⟩
  obtain ⟨z, rfl⟩ := hs'.out
  try dsimp only
  clear hs'
  by_cases hj : j < l.length
  rotate_left
  ·obtain rfl : j = l.length := by omega
   have bj : decide (((l.length : Nat) : Int) < ((l.length : Nat) : Int)) = false := decide_eq_false (by omega)
   refine Gx.a (by kernel_rfl) fun K hK => ?_
   simp only [XA, XB, bj]
   refine hK _ ?_
   refine XWP.seq (Gx.f rfl ?_)
   refine XWP.exit ?_
   exact fun f => ⟨V4, H4, sv, cells, StIs.of (by exact rfl), hV4, hown, hrow⟩
  have bj : decide ((j : Int) < (l.length : Int)) = true := decide_eq_true (by omega)
  refine Gx.a (by kernel_rfl) fun K hK => ?_
  simp only [XA, XB, bj]
  refine hK _ ?_
  refine XWP.seq (Gx.t rfl ?_)
  refine XWP.skip ?_
  obtain ⟨g, hg⟩ : ∃ r, l[j]? = some r := ⟨_, List.getElem?_eq_getElem hj⟩
  obtain ⟨cs9, ec9, lc9⟩ := (h2.mono stE_ok hV4).st2 hg
  obtain ⟨_, hone9, w0, w1', w2', w3, w4, w5, w6, w7, w8, mA, nA, dA, qq1, qq2, qq3, ss1, ss2, ss3, rfl, er9, ew9, eq9, es9⟩ := ec9
  rw [← sOf_at hg] at es9
  obtain ⟨ss2', ss3', e9, p1, p2⟩ := es9.form
  cases e9
  refine XWP.seq ?_
  refine XWP.block ?_
  refine Gx.a (by kernel_rfl) fun K hK => ?_
  simp only [XV, XA]
  refine ⟨by omega, by omega, ld_mem (lc9 _) ?_⟩
  simp only [XV, XA, Nat.reduceAdd]
  refine st_whole (cs := [w0, w1', w2', w3, w4, w5, w6, w7, w8, mA, nA, dA, qq1, qq2, qq3, .bool (ng (sOf l j)), ss2, ss3]) shapeT_87 rfl rfl rfl hone9 ?_
  simp only [XA]
  refine hK _ ?_
  refine Gx.c (by kernel_rfl) fun K hK => ?_
  simp only [XV, XA, XB, Nat.reduceAdd, Nat.reduceLeDiff, ↓reduceIte]
  refine bs_go (by kernel_rfl) #[(0, .agg #[.bool (ng (sOf l j)), ss2, ss3])] (by simp [ev_tmp, SV.val]) (bs_rat elemT_24) fun bq hbq1 hbq2 => ?_
  simp only [XA, Nat.reduceAdd]
  refine ap_go elemT_24 (by kernel_rfl) zeroT_49 rfl (by omega) (own_upd hown hbq1) (src3 (upd_at _ _ _) rfl p1 p2) (by omega) (by omega) fun v' H' hres => ?_
  simp only [XA]
  refine st_one shapeT_24 rfl (own_one hres.1) (by simp) ?_
  simp only [XA]
  refine hK _ ?_
  refine Gx.c (by kernel_rfl) fun K hK => ?_
  simp only [XA, XB, i64_succ j (by omega)]
  exact hK _ ⟨n - 1, by omega, fun f => ⟨j + 1, V4, H', v', _, StIs.of (by exact rfl), by omega, hV4, hres.1, by rw [heiL_succ]; exact hrow.snoc rfl p1 p2 es9⟩⟩
 clear own0 hrow0 h3 o1 o2
 rintro s ⟨V4, H4, sv, cells, hs', hV4, hown, hrow⟩
 obtain ⟨z, rfl⟩ := hs'.out
 try dsimp only
 clear hs'
 rcases own_parts hown with ⟨_, h0, _⟩ | ⟨g, cap, rfl, hg, hle, hcap, hcl⟩
 ·omega
 refine XWP.row1 (bx := [_, _]) fun b5 e5 hb5 _ => ?_
 simp only [List.map_cons, List.map_nil, rowS_p, List.length_nil, List.length_cons, Nat.reduceAdd, Nat.reduceEqDiff, ↓reduceIte]
 refine XWP.row1 (bx := [_]) fun b4 e4 hb4' _ => ?_
 simp only [List.map_cons, List.map_nil, rowS_v, rowS_p, List.length_nil, List.length_cons, Nat.reduceAdd, Nat.reduceEqDiff, ↓reduceIte]
 have n1 : g ≠ b5 := fun e => by rw [e, hb5] at hg; cases hg
 have n2 : b4 ≠ b5 := fun e => by rw [e, upd_at] at hb4'; cases hb4'
 have hb4 : H4 b4 = none := by
  have := hb4'
  unfold upd at this
  rw [if_neg n2] at this
  exact this
 have n3 : g ≠ b4 := fun e => by rw [e, hb4] at hg; cases hg
 clear hb4'
 generalize hH5 : upd (upd H4 b5 (some ⟨e5, [.slice (some ⟨g, 0, none⟩) (l.length + 1) cap], ([.slice (some ⟨g, 0, none⟩) (l.length + 1) cap] : List Value).length⟩)) b4 (some ⟨e4, [.slice (some ⟨bL, oL, none⟩) l.length c2], ([.slice (some ⟨bL, oL, none⟩) l.length c2] : List Value).length⟩) = H5
 have hg5 : H5 g = some ⟨49, cells, cap * 3⟩ := by subst hH5; rw [upd_off n3, upd_off n1]; exact hg
 have hh5 : H5 b5 = some ⟨e5, [.slice (some ⟨g, 0, none⟩) (l.length + 1) cap], 1⟩ := by subst hH5; rw [upd_off (fun e => n2 e.symm), upd_at]; rfl
 have hx5 : H5 b4 = some ⟨e4, [.slice (some ⟨bL, oL, none⟩) l.length c2], 1⟩ := by subst hH5; rw [upd_at]; rfl
 clear hH5
 have hel : (heiL l l.length).length = l.length + 1 := heiL_len _ _
 have hQ : ∀ q ∈ heiL l l.length, QF q := fun q hq => by
  rcases (mem_heiL _ _ _).1 hq with rfl | ⟨j, hj, rfl⟩
  ·exact QF_zero
  ·exact (sOf_small g3 hj).1.qf (by omega)
 refine Gx.oa 1 hΓ rfl (by kernel_rfl) fun K hK => ?_
 simp only [XA, Nat.reduceAdd]
 refine ld_mem (ldH1 hh5 rfl shapeT_24) ?_
 simp only [XA]
 rw [← hel]
 refine mopO_call rfl (by kernel_rfl) rfl (csort_m _ H5 V4 g cap cells _ _ _ hg5 hrow hQ (by omega) (by omega)) fun v6 H6 V6 h6 => ?_
 obtain ⟨rfl, rfl, cells6, m, rfl, hcl6, hrow6, hperm, hsrt⟩ := h6
 simp only [XA]
 refine hK _ ?_
 have hml : m.length = l.length + 1 := hperm.length_eq.trans hel
 have hhs := hs_ok hperm hsrt
 have hg6 : upd H5 g (some ⟨49, cells6, cap * 3⟩) g = some ⟨49, cells6, cap * 3⟩ := upd_at _ _ _
 have hh6 : upd H5 g (some ⟨49, cells6, cap * 3⟩) b5 = some ⟨e5, [.slice (some ⟨g, 0, none⟩) (l.length + 1) cap], 1⟩ := by rw [upd_off (fun e => n1 e.symm)]; exact hh5
 have hx6 : upd H5 g (some ⟨49, cells6, cap * 3⟩) b4 = some ⟨e4, [.slice (some ⟨bL, oL, none⟩) l.length c2], 1⟩ := by rw [upd_off (fun e => n3 e.symm)]; exact hx5
 generalize upd H5 g (some ⟨49, cells6, cap * 3⟩) = H6 at *
 refine Gx.oa 1 hΓ rfl (by kernel_rfl) fun K hK => ?_
 simp only [XA, Nat.reduceAdd]
 refine ld_mem (ldH1 hh6 rfl shapeT_24) ?_
 simp only [XA]
 rw [← hml]
 refine mopO_call rfl (by kernel_rfl) rfl (ccompact_b H6 _ g cap _ _ cells6 _ m hg6 rfl hrow6 (fun q hq => hQ q (hperm.mem_iff.1 hq)) (by omega) (by omega)) fun v7 H7 V7 h7 => ?_
 obtain ⟨hV7, rfl, cells7, rest, rfl, hrow7⟩ := h7
 have hh7 : upd H6 g (some ⟨49, cells7 ++ rest, cap * 3⟩) b5 = some ⟨e5, [.slice (some ⟨g, 0, none⟩) (l.length + 1) cap], 1⟩ := by rw [upd_off (fun e => n1 e.symm)]; exact hh6
 have hx7 : upd H6 g (some ⟨49, cells7 ++ rest, cap * 3⟩) b4 = some ⟨e4, [.slice (some ⟨bL, oL, none⟩) l.length c2], 1⟩ := by rw [upd_off (fun e => n3 e.symm)]; exact hx6
 have hg7 : upd H6 g (some ⟨49, cells7 ++ rest, cap * 3⟩) g = some ⟨49, cells7 ++ rest, cap * 3⟩ := upd_at _ _ _
 generalize upd H6 g (some ⟨49, cells7 ++ rest, cap * 3⟩) = H7 at *
 generalize hhl : ddN m m.length = hs at *
 simp only [XA]
 refine st_row shapeT_24 rfl rfl hh7 (by simp) ?_
 simp only [XA]
 refine hK _ ?_
 have hh8 : upd H7 b5 (some ⟨e5, [.slice (some ⟨g, 0, none⟩) hs.length cap], 1⟩) b5 = some ⟨e5, [.slice (some ⟨g, 0, none⟩) hs.length cap], 1⟩ := upd_at _ _ _
 have hx8 : upd H7 b5 (some ⟨e5, [.slice (some ⟨g, 0, none⟩) hs.length cap], 1⟩) b4 = some ⟨e4, [.slice (some ⟨bL, oL, none⟩) l.length c2], 1⟩ := by rw [upd_off n2]; exact hx7
 have hg8 : upd H7 b5 (some ⟨e5, [.slice (some ⟨g, 0, none⟩) hs.length cap], 1⟩) g = some ⟨49, cells7 ++ rest, cap * 3⟩ := by rw [upd_off n1]; exact hg7
 generalize upd H7 b5 (some ⟨e5, [.slice (some ⟨g, 0, none⟩) hs.length cap], 1⟩) = H8 at *
 have hsl := hhs.len
 refine XWP.pub g _ hg8 fun o ho hle => ?_
 have hR : Rats (addV V7 g o) (.slice (some ⟨g, 0, none⟩) hs.length cap) hs := RowAt.pub ratE_ok hrow7 (rowobj_less ho) hle rfl (by omega) (by unfold maxLen at hcap; omega)
 have hh9 : upd H8 g none b5 = some ⟨e5, [.slice (some ⟨g, 0, none⟩) hs.length cap], 1⟩ := by rw [upd_off (fun e => n1 e.symm)]; exact hh8
 have hx9 : upd H8 g none b4 = some ⟨e4, [.slice (some ⟨bL, oL, none⟩) l.length c2], 1⟩ := by rw [upd_off (fun e => n3 e.symm)]; exact hx8
 have hV2g : V2.le (addV V7 g o) := View.le_trans hV4 (View.le_trans hV7 hle)
 clear ho hg8
 generalize upd H8 g none = H9 at *
 generalize addV V7 g o = V9 at *
 refine XWP.pub b5 _ hh9 fun o5 ho5 hle5 => ?_
 have eo5 := row_obj (vs := [.slice (some ⟨g, 0, none⟩) hs.length cap]) ho5
 subst eo5
 have hbH := addV_at V9 b5 (.cells ([.slice (some ⟨g, 0, none⟩) hs.length cap] : List Value).toArray e5 (0, 0))
 have hR := hR.up hle5
 have hx10 : upd H9 b5 none b4 = some ⟨e4, [.slice (some ⟨bL, oL, none⟩) l.length c2], 1⟩ := by rw [upd_off n2]; exact hx9
 have hV2h := View.le_trans hV2g hle5
 clear ho5
 generalize upd H9 b5 none = HA at *
 generalize addV V9 b5 _ = VA at *
 refine XWP.pub b4 _ hx10 fun o4 ho4 hle4 => ?_
 have eo4 := row_obj (vs := [.slice (some ⟨bL, oL, none⟩) l.length c2]) ho4
 subst eo4
 have hbX := addV_at VA b4 (.cells ([.slice (some ⟨bL, oL, none⟩) l.length c2] : List Value).toArray e4 (0, 0))
 have hR := hR.up hle4
 have hbH := hle4 _ _ hbH
 have h2 := h2.mono stE_ok (View.le_trans hV2h hle4)
 clear ho4
 generalize addV VA b4 _ = VB at *
 refine Gx.a (by kernel_rfl) fun K hK => ?_
 simp only [XA]
 refine ld_mem (ldV1 (off := 0) hbX rfl shapeT_83 _) ?_
 simp only [XA]
 refine mkf_go [.pointer (some ⟨b5, 0, none⟩), .pointer (some ⟨b4, 0, none⟩)] rfl ?_
 simp only [XA]
 refine call_go (by kernel_rfl) rfl (cmoves_c VB (some ⟨bL, oL, none⟩) l.length c2 73 560000 [.pointer (some ⟨b5, 0, none⟩), .pointer (some ⟨b4, 0, none⟩)] (sliQ l hs) g2 (by kernel_rfl) (fun i k hi hk _ => sliQ_QB hhs g3 g2 hi hk) (by omega) fun V' i k hV hi hk _ => cslice1_c V' b4 e4 b5 e5 i k _ _ l hs (hV _ _ hbX) (hV _ _ hbH) (h2.mono stE_ok hV) (hR.up hV) g3 g2 (hhs.qb g3) hhs.pos (by omega) hhs.le hi hk) fun v4 VC hVC h4 => ?_
 obtain ⟨s, rfl, hs'⟩ := h4
 obtain ⟨As, cs, rfl, _, _⟩ := hs'.form
 simp only [XA]
 refine st_mat shapeT_26 rfl rfl rfl rfl rfl ?_
 simp only [XA]
 refine hK _ (XWP.ret ?_)
 try simp only [thenX_ret, inBlockX_ret]
 exact ret_mat2C rfl rfl rfl rfl ⟨fun h => absurd h (by rw [hr]; simp), fun _ => ⟨hs, _, hhs, rfl, hs'⟩⟩
theorem and3 (a : Int) : andI .i64 a 3 = 0 ∨ andI .i64 a 3 = 1 ∨ andI .i64 a 3 = 2 ∨ andI .i64 a 3 = 3 := by
 have h : ((BitVec.ofInt 64 a &&& BitVec.ofInt 64 3).toNat) ≤ 3 := by
  rw [BitVec.toNat_and]
  have h3 : (BitVec.ofInt 64 3).toNat = 3 := by decide
  rw [h3]
  exact Nat.and_le_right
 unfold andI
 show IntKind.i64.wrap (((BitVec.ofInt 64 a &&& BitVec.ofInt 64 3).toNat : Nat) : Int) = 0 ∨ IntKind.i64.wrap (((BitVec.ofInt 64 a &&& BitVec.ofInt 64 3).toNat : Nat) : Int) = 1 ∨ IntKind.i64.wrap (((BitVec.ofInt 64 a &&& BitVec.ofInt 64 3).toNat : Nat) : Int) = 2 ∨ IntKind.i64.wrap (((BitVec.ofInt 64 a &&& BitVec.ofInt 64 3).toNat : Nat) : Int) = 3
 rw [wrap_id (by omega) (by omega)]
 omega
def OfR (l : List Rn) (c : Int) (od : Nat → Nat → Rat) : Prop :=
 (c = 0 ∧ od = anewQ l) ∨ (c = 1 ∧ od = suffQ l) ∨ (c = 2 ∧ od = siteQ l) ∨ (c = 3 ∧ ∃ hs, HsOk l hs ∧ od = sliQ l hs)
set_option maxHeartbeats 4000000 in
set_option maxRecDepth 100000 in
theorem cof_c (V : View) (v : Value) (kv : Int) (l : List Rn) (h : SlK 9 rnE V v l) (f : ∀ r ∈ l, r.fits) (fs : ∀ r ∈ l, r.ds.length ≤ 8 ∧ (r.w.ok = true → QB 128 r.w.q)) (ll : l.length ≤ 1000000) : Spec Tryz.prog 8 [v, .int .i64 kv] V fun v' V' => (rightR l = false → v' = .tuple #[.agg #[.int .i64 0, .int .i64 0, .slice none 0 0], .int .i64 1]) ∧ (rightR l = true → ∃ od s, OfR l (andI .i64 kv 3) od ∧ v' = .tuple #[.agg #[.int .i64 (l.length : Int), .int .i64 (l.length : Int), s], .int .i64 0] ∧ Rats V' s (flatG (moveG od l.length) l.length l.length)) := by
 obtain ⟨A, cL, rfl, _, _⟩ := h.form
 refine (Spec.enter Tryz.func8 rfl fun Γ => ?_)
 simp only [Tryz.ntmps8, List.map_cons, List.map_nil, List.length_cons, List.length_nil, Nat.reduceAdd, Nat.reduceSub, List.replicate_succ, List.replicate_zero, List.cons_append, List.nil_append]
 refine Gx.a (by kernel_rfl) fun K hK => ?_
 simp only [XM, XA]
 refine hK _ ?_
 refine XWP.seq ?_
 refine Gx.a (by kernel_rfl) fun K hK => ?_
 simp only [XA, XB]
 have hc := and3 kv
 generalize andI .i64 kv 3 = c at *
 refine hK _ ?_
 refine XWP.block ?_
 by_cases e0 : c = 0
 ·subst e0
  refine Gx.a (by kernel_rfl) fun K hK => ?_
  simp only [XA, XB]
  refine hK _ ?_
  refine Gx.t rfl ?_
  refine Gx.a (by kernel_rfl) fun K hK => ?_
  simp only [XA]
  refine call_go (by kernel_rfl) rfl (canew_c _ _ l h f fs ll) fun v1 V1 hV1 h1 => ?_
  obtain ⟨h1a, h1b⟩ := h1
  cases hr : rightR l
  ·obtain rfl := h1a hr
   simp only [XA]
   refine st_mat shapeT_26 rfl rfl rfl rfl rfl ?_
   simp only [XA]
   refine hK _ (XWP.ret ?_)
   try simp only [thenX_ret, inBlockX_ret]
   exact ret_mat2C rfl rfl rfl rfl ⟨fun _ => rfl, fun h => absurd h (by rw [hr]; simp)⟩
  obtain ⟨s, rfl, hs'⟩ := h1b hr
  obtain ⟨As, cs, rfl, _, _⟩ := hs'.form
  simp only [XA]
  refine st_mat shapeT_26 rfl rfl rfl rfl rfl ?_
  simp only [XA]
  refine hK _ (XWP.ret ?_)
  try simp only [thenX_ret, inBlockX_ret]
  exact ret_mat2C rfl rfl rfl rfl ⟨fun h => absurd h (by rw [hr]; simp), fun _ => ⟨_, _, .inl ⟨rfl, rfl⟩, rfl, hs'⟩⟩
 have b0 : decide (c = 0) = false := decide_eq_false e0
 refine Gx.a (by kernel_rfl) fun K hK => ?_
 simp only [XA, XB, b0]
 refine hK _ ?_
 refine Gx.f rfl ?_
 by_cases e1 : c = 1
 ·subst e1
  refine Gx.a (by kernel_rfl) fun K hK => ?_
  simp only [XA, XB]
  refine hK _ ?_
  refine Gx.t rfl ?_
  refine Gx.a (by kernel_rfl) fun K hK => ?_
  simp only [XA]
  refine call_go (by kernel_rfl) rfl (csuff_c _ _ l h f fs ll) fun v1 V1 hV1 h1 => ?_
  obtain ⟨h1a, h1b⟩ := h1
  cases hr : rightR l
  ·obtain rfl := h1a hr
   simp only [XA]
   refine st_mat shapeT_26 rfl rfl rfl rfl rfl ?_
   simp only [XA]
   refine hK _ (XWP.ret ?_)
   try simp only [thenX_ret, inBlockX_ret]
   exact ret_mat2C rfl rfl rfl rfl ⟨fun _ => rfl, fun h => absurd h (by rw [hr]; simp)⟩
  obtain ⟨s, rfl, hs'⟩ := h1b hr
  obtain ⟨As, cs, rfl, _, _⟩ := hs'.form
  simp only [XA]
  refine st_mat shapeT_26 rfl rfl rfl rfl rfl ?_
  simp only [XA]
  refine hK _ (XWP.ret ?_)
  try simp only [thenX_ret, inBlockX_ret]
  exact ret_mat2C rfl rfl rfl rfl ⟨fun h => absurd h (by rw [hr]; simp), fun _ => ⟨_, _, .inr (.inl ⟨rfl, rfl⟩), rfl, hs'⟩⟩
 have b1 : decide (c = 1) = false := decide_eq_false e1
 refine Gx.a (by kernel_rfl) fun K hK => ?_
 simp only [XA, XB, b1]
 refine hK _ ?_
 refine Gx.f rfl ?_
 by_cases e2 : c = 2
 ·subst e2
  refine Gx.a (by kernel_rfl) fun K hK => ?_
  simp only [XA, XB]
  refine hK _ ?_
  refine Gx.t rfl ?_
  refine Gx.a (by kernel_rfl) fun K hK => ?_
  simp only [XA]
  refine call_go (by kernel_rfl) rfl (csite_c _ _ l h f fs ll) fun v1 V1 hV1 h1 => ?_
  obtain ⟨h1a, h1b⟩ := h1
  cases hr : rightR l
  ·obtain rfl := h1a hr
   simp only [XA]
   refine st_mat shapeT_26 rfl rfl rfl rfl rfl ?_
   simp only [XA]
   refine hK _ (XWP.ret ?_)
   try simp only [thenX_ret, inBlockX_ret]
   exact ret_mat2C rfl rfl rfl rfl ⟨fun _ => rfl, fun h => absurd h (by rw [hr]; simp)⟩
  obtain ⟨s, rfl, hs'⟩ := h1b hr
  obtain ⟨As, cs, rfl, _, _⟩ := hs'.form
  simp only [XA]
  refine st_mat shapeT_26 rfl rfl rfl rfl rfl ?_
  simp only [XA]
  refine hK _ (XWP.ret ?_)
  try simp only [thenX_ret, inBlockX_ret]
  exact ret_mat2C rfl rfl rfl rfl ⟨fun h => absurd h (by rw [hr]; simp), fun _ => ⟨_, _, .inr (.inr (.inl ⟨rfl, rfl⟩)), rfl, hs'⟩⟩
 have b2 : decide (c = 2) = false := decide_eq_false e2
 refine Gx.a (by kernel_rfl) fun K hK => ?_
 simp only [XA, XB, b2]
 refine hK _ ?_
 refine Gx.f rfl ?_
 refine XWP.skip ?_
 obtain rfl : c = 3 := by omega
 refine Gx.a (by kernel_rfl) fun K hK => ?_
 simp only [XA]
 refine call_go (by kernel_rfl) rfl (cslice_c _ _ l h f fs ll) fun v1 V1 hV1 h1 => ?_
 obtain ⟨h1a, h1b⟩ := h1
 cases hr : rightR l
 ·obtain rfl := h1a hr
  simp only [XA]
  refine st_mat shapeT_26 rfl rfl rfl rfl rfl ?_
  simp only [XA]
  refine hK _ (XWP.ret ?_)
  try simp only [thenX_ret, inBlockX_ret]
  exact ret_mat2C rfl rfl rfl rfl ⟨fun _ => rfl, fun h => absurd h (by rw [hr]; simp)⟩
 obtain ⟨hs, s, hhs, rfl, hs'⟩ := h1b hr
 obtain ⟨As, cs, rfl, _, _⟩ := hs'.form
 simp only [XA]
 refine st_mat shapeT_26 rfl rfl rfl rfl rfl ?_
 simp only [XA]
 refine hK _ (XWP.ret ?_)
 try simp only [thenX_ret, inBlockX_ret]
 exact ret_mat2C rfl rfl rfl rfl ⟨fun h => absurd h (by rw [hr]; simp), fun _ => ⟨_, _, .inr (.inr (.inr ⟨rfl, hs, hhs, rfl⟩)), rfl, hs'⟩⟩
theorem div_posK {p q : Rat} (hp : 0 < p) (hq : 0 < q) : 0 < p / q := by
 rw [Rat.div_def]; exact Rat.mul_pos hp (Rat.inv_pos.2 hq)
theorem ltQ_pos {p q : Rat} (hp : 0 < p) (hq : 0 < q) : 0 < ltQ p q := by
 unfold ltQ
 split
 ·exact hq
 ·exact hp
theorem rv_pos {a b : Nat} (ha : 0 < a) (hb : 0 < b) : 0 < rv false a b := by
 rw [rv_quo]; exact div_posK (natCast_pos ha) (natCast_pos hb)
theorem anew_pos {l : List Rn} (hs : ∀ r ∈ l, r.small) {i k : Nat} (hi : i < l.length) (hk : k < l.length) : 0 < anewQ l i k := by
 unfold anewQ
 exact Rat.mul_pos (qOf_small hs hk).2 (ltQ_pos (by decide) (div_posK (sOf_small hs hk).2 (sOf_small hs hi).2))
theorem dq_pos {l : List Dr} (h : ∀ d ∈ l, d.good) (k : Nat) : 0 < dq l k := by
 unfold dq
 cases hk : l[k]? with
 | none => show (0 : Rat) < 1; decide
 | some d =>
  obtain ⟨_, g2, g3, g4⟩ := h d (List.mem_of_getElem? hk)
  exact rv_pos (by omega) (by omega)
theorem tlQ_pos {l : List Dr} (h : ∀ d ∈ l, d.good) : ∀ k, 0 < tlQ l k
 | 0 => by show (0 : Rat) < 1; decide
 | k + 1 => Rat.mul_pos (tlQ_pos h k) (dq_pos h k)
theorem dsOf_good {l : List Rn} (hs : ∀ r ∈ l, r.small) {k : Nat} (hk : k < l.length) : ∀ d ∈ dsOf l k, d.good := by
 obtain ⟨r, hr⟩ : ∃ r, l[k]? = some r := ⟨_, List.getElem?_eq_getElem hk⟩
 rw [dsOf_at hr]
 exact (hs r (List.mem_of_getElem? hr)).good
theorem HsOk.cf0 {l : List Rn} {hs : List Rat} (h : HsOk l hs) (hl : ∀ r ∈ l, r.small) : cf hs 0 = 0 := by
 obtain ⟨j, hj, e⟩ := List.mem_iff_getElem.1 ((h.mem 0).2 (.inl rfl))
 rw [cf_get hj] at e
 by_cases h0 : j = 0
 ·rw [h0] at e; exact e
 have h1 : cf hs 0 < cf hs j := by
  rw [← cf_get hj, ← cf_get (show 0 < hs.length by omega)]
  exact List.pairwise_iff_getElem.1 h.srt 0 j (by omega) hj (by omega)
 rw [e] at h1
 rcases (h.mem (cf hs 0)).1 (cf_mem (by omega)) with h2 | ⟨k, hk, h2⟩
 ·exact h2
 ·have := (sOf_small hl hk).2
  rw [← h2] at this
  grind
theorem HsOk.step {l : List Rn} {hs : List Rat} (h : HsOk l hs) {j : Nat} (h0 : j ≠ 0) (hj : j < hs.length) : cf hs (j - 1) < cf hs j := by
 rw [← cf_get hj, ← cf_get (show j - 1 < hs.length by omega)]
 exact List.pairwise_iff_getElem.1 h.srt (j - 1) j (by omega) hj (by omega)
theorem sliF_nn {l : List Rn} {hs : List Rat} (h : HsOk l hs) (hl : ∀ r ∈ l, r.small) {i k : Nat} (hi : i < l.length) (hk : k < l.length) {j : Nat} (hj : j < hs.length) : 0 ≤ sliF l hs i k j ∧ (j ≠ 0 → cf hs j ≤ sOf l i → cf hs j ≤ sOf l k → 0 < sliF l hs i k j) := by
 unfold sliF
 by_cases hc : j ≠ 0 ∧ cf hs j ≤ sOf l i ∧ cf hs j ≤ sOf l k
 ·rw [if_pos hc]
  have h1 := h.step hc.1 hj
  have hp : 0 < sliT l hs i k j := by
   unfold sliT
   exact Rat.mul_pos (div_posK (by grind) (sOf_small hl hi).2) (div_posK (qOf_small hl hk).2 (heiS_pos hl hk hc.2.2))
  exact ⟨Rat.le_of_lt hp, fun _ _ _ => hp⟩
 ·rw [if_neg hc]
  exact ⟨Rat.le_refl, fun a b c => absurd ⟨a, b, c⟩ hc⟩
theorem HsOk.one {l : List Rn} {hs : List Rat} (h : HsOk l hs) (hl : ∀ r ∈ l, r.small) {k : Nat} (hk : k < l.length) : 1 < hs.length ∧ cf hs 1 ≤ sOf l k := by
 obtain ⟨j, hj, e⟩ := List.mem_iff_getElem.1 ((h.mem (sOf l k)).2 (.inr ⟨k, hk, rfl⟩))
 rw [cf_get hj] at e
 have h0 := h.cf0 hl
 have hp := (sOf_small hl hk).2
 have hj0 : j ≠ 0 := fun e0 => by
  rw [e0, h0] at e
  rw [← e] at hp
  exact absurd hp (by decide)
 refine ⟨by omega, ?_⟩
 rw [← e]
 exact sorted_cf h.le (by omega) hj
theorem sli_pos {l : List Rn} {hs : List Rat} (h : HsOk l hs) (hl : ∀ r ∈ l, r.small) {i k : Nat} (hi : i < l.length) (hk : k < l.length) : 0 < sliQ l hs i k := by
 have h1 := h.one hl hi
 have h2 := h.one hl hk
 exact Sm_posK (i := 1) (fun j hj => (sliF_nn h hl hi hk hj).1) h1.1 ((sliF_nn h hl hi hk h1.1).2 (by omega) h1.2 h2.2)
theorem OfR.qb {l : List Rn} {c : Int} {od : Nat → Nat → Rat} (h : OfR l c od) (hl : ∀ r ∈ l, r.small) (ll : l.length ≤ 60) : ∀ i k, i < l.length → k < l.length → QB 600000 (od i k) := fun i k hi hk => by
 rcases h with ⟨_, rfl⟩ | ⟨_, rfl⟩ | ⟨_, rfl⟩ | ⟨_, hs, hh, rfl⟩
 ·exact (anewQ_QB hl hi hk).mono (by omega)
 ·exact (suffQ_QB hl hi hk).mono (by omega)
 ·exact (siteQ_QB hl ll hi hk).mono (by omega)
 ·exact (sliQ_QB hh hl ll hi hk).mono (by omega)
def lsum : List Rat → Rat
 | [] => 0
 | x :: l => x + lsum l
theorem lsum_app : ∀ a b, lsum (a ++ b) = lsum a + lsum b
 | [], b => by simp only [List.nil_append, lsum]; grind
 | x :: a, b => by simp only [List.cons_append, lsum, lsum_app a b]; grind
theorem lsum_le {α : Type} {f g : α → Rat} : ∀ (l : List α), (∀ x ∈ l, f x ≤ g x) → lsum (l.map f) ≤ lsum (l.map g)
 | [], _ => Rat.le_refl
 | x :: l, h => by
  have h1 := h x (by simp)
  have h2 := lsum_le l (fun y hy => h y (by simp [hy]))
  simp only [List.map_cons, lsum]
  grind
theorem lsum_congr {α : Type} {f g : α → Rat} (l : List α) (h : ∀ x ∈ l, f x = g x) : lsum (l.map f) = lsum (l.map g) := by rw [List.map_congr_left h]
theorem lsum_mul {α : Type} (c : Rat) (f : α → Rat) : ∀ (l : List α), lsum (l.map fun x => c * f x) = c * lsum (l.map f)
 | [] => by simp only [List.map_nil, lsum]; grind
 | x :: l => by simp only [List.map_cons, lsum, lsum_mul c f l]; grind
theorem lsum_add {α : Type} (f g : α → Rat) : ∀ (l : List α), lsum (l.map fun x => f x + g x) = lsum (l.map f) + lsum (l.map g)
 | [] => by simp only [List.map_nil, lsum]; grind
 | x :: l => by simp only [List.map_cons, lsum, lsum_add f g l]; grind
theorem lsum_none {α : Type} {f : α → Rat} : ∀ (l : List α), (∀ x ∈ l, f x = 0) → lsum (l.map f) = 0
 | [], _ => rfl
 | x :: l, h => by
  simp only [List.map_cons, lsum, h x (by simp), lsum_none l (fun y hy => h y (by simp [hy]))]
  grind
theorem lsum_one {β : Type} [DecidableEq β] {k : β} {v : Rat} : ∀ (D : List β), D.Nodup → k ∈ D → lsum (D.map fun d => if d = k then v else 0) = v
 | [], _, h => by cases h
 | d :: D, hn, h => by
  obtain ⟨h1, h2⟩ := List.nodup_cons.1 hn
  simp only [List.map_cons, lsum]
  by_cases e : d = k
  ·rw [if_pos e, lsum_none D fun x hx => by
    rw [if_neg]
    intro e2
    exact h1 (by rw [e, ← e2]; exact hx)]
   grind
  ·rw [if_neg e, lsum_one D h2 (by
    rcases List.mem_cons.1 h with h | h
    ·exact absurd h.symm e
    ·exact h)]
   grind
theorem lsum_parts {α β : Type} [DecidableEq β] (key : α → Option β) (f : α → Rat) (D : List β) (hn : D.Nodup) : ∀ (W : List α), (∀ r ∈ W, ∃ d ∈ D, key r = some d) → lsum (W.map f) = lsum (D.map fun d => lsum ((W.filter fun r => decide (key r = some d)).map f))
 | [], _ => (lsum_none D fun x _ => rfl).symm
 | r :: W, h => by
  obtain ⟨d0, hd0, e0⟩ := h r (by simp)
  have ih := lsum_parts key f D hn W (fun x hx => h x (by simp [hx]))
  have e1 : ∀ d, lsum (((r :: W).filter fun r => decide (key r = some d)).map f) = (if d = d0 then f r else 0) + lsum ((W.filter fun r => decide (key r = some d)).map f) := fun d => by
   rw [List.filter_cons]
   by_cases e : d = d0
   ·subst e
    rw [decide_eq_true e0, if_pos rfl, if_pos rfl]; rfl
   ·rw [if_neg e, decide_eq_false (fun e2 => e (by rw [e0] at e2; exact (Option.some.inj e2).symm)), if_neg (by simp)]
    grind
  rw [lsum_congr D (fun d _ => e1 d), lsum_add, lsum_one D hn hd0, ← ih]
  rfl
def dvQ (d : Dr) : Rat := rv false d.odds.toNat d.whole.toNat
def tlP (r : Rn) (n : Nat) : Rat := tlQ (r.ds.drop n) (r.ds.length - n)
theorem tlQ_cons (d : Dr) (l : List Dr) : ∀ k, tlQ (d :: l) (k + 1) = dvQ d * tlQ l k
 | 0 => by
  show (1 : Rat) * dq (d :: l) 0 = dvQ d * 1
  have : dq (d :: l) 0 = dvQ d := rfl
  rw [this]; grind
 | k + 1 => by
  have ih := tlQ_cons d l k
  show tlQ (d :: l) (k + 1) * dq (d :: l) (k + 1) = dvQ d * (tlQ l k * dq l k)
  have : dq (d :: l) (k + 1) = dq l k := rfl
  rw [ih, this]; grind
theorem tlP_step {r : Rn} {n : Nat} {d : Dr} (h : r.ds[n]? = some d) : tlP r n = dvQ d * tlP r (n + 1) := by
 obtain ⟨hlt, e⟩ := List.getElem?_eq_some_iff.1 h
 unfold tlP
 rw [List.drop_eq_getElem_cons hlt, e, show r.ds.length - n = (r.ds.length - (n + 1)) + 1 by omega, tlQ_cons]
theorem tlP_end {r : Rn} {n : Nat} (h : r.ds.length ≤ n) : tlP r n = 1 := by
 unfold tlP
 rw [show r.ds.length - n = 0 by omega]; rfl
theorem prior_tl (ds : List Dr) : ∀ k, k ≤ ds.length → rv false (pnum ds k) (pden ds k) = tlQ ds k
 | 0, _ => by
  show rv false 1 1 = 1
  rw [rv_quo]; grind
 | k + 1, hk => by
  have ih := prior_tl ds k (by omega)
  obtain ⟨d, hd⟩ : ∃ d, ds[k]? = some d := ⟨_, List.getElem?_eq_getElem (show k < ds.length by omega)⟩
  show rv false (pnum ds k * ((ds[k]?).map fun d => d.odds.toNat).getD 1) (pden ds k * ((ds[k]?).map fun d => d.whole.toNat).getD 1) = tlQ ds k * dq ds k
  have e1 : dq ds k = rv false d.odds.toNat d.whole.toNat := by unfold dq; rw [hd]; rfl
  rw [e1, ← ih, hd, rv_mul]
  rfl
theorem prior_tlP (r : Rn) : priorQ r.ds = tlP r 0 := by
 unfold priorQ tlP
 rw [prior_tl _ _ (Nat.le_refl _)]; rfl
structure MtOk (W : List Rn) (n k : Nat) (met : List Dr) (odds : Int) : Prop where
 all : ∀ r ∈ W.take k, ∃ d ∈ met, r.ds[n]? = some d
 from_ : ∀ d ∈ met, ∃ r ∈ W, r.ds[n]? = some d
 idx : met.Pairwise fun x y => x.index ≠ y.index
 whl : ∀ x ∈ met, ∀ y ∈ met, x.whole = y.whole
 sum : odds = (met.map (·.odds)).sum
theorem met_ok {W : List Rn} {n : Nat} : ∀ k, k ≤ W.length → ∀ met odds, metI W n k = some (met, odds) → MtOk W n k met odds
 | 0, _, met, odds, h => by
  cases h
  exact ⟨fun r hr => (by simp at hr), fun d hd => (by cases hd), List.Pairwise.nil, fun x hx => (by cases hx), rfl⟩
 | k + 1, hk, met, odds, h => by
  unfold metI at h
  cases h0 : metI W n k with
  | none => rw [h0] at h; cases h
  | some st =>
   obtain ⟨m0, o0⟩ := st
   have ih := met_ok k (by omega) m0 o0 h0
   obtain ⟨r, hr⟩ : ∃ r, W[k]? = some r := ⟨_, List.getElem?_eq_getElem (show k < W.length by omega)⟩
   have hrm := List.mem_of_getElem? hr
   rw [h0, hr] at h
   simp only [Option.bind_some] at h
   unfold metStep at h
   have etk : W.take (k + 1) = W.take k ++ [r] := by rw [List.take_add_one, hr]; rfl
   cases hd : r.ds[n]? with
   | none => rw [hd] at h; cases h
   | some d =>
    rw [hd] at h
    dsimp only at h
    split at h
    ·cases h
    ·rename_i hbad
     have hgood : ∀ x ∈ m0, x.site = d.site ∧ x.whole = d.whole ∧ (x.index = d.index → x.odds = d.odds) := fun x hx => by
      have : metBad d x = false := by
       cases e : metBad d x
       ·rfl
       ·exact absurd (List.any_eq_true.2 ⟨x, hx, e⟩) hbad
      unfold metBad at this
      simp only [Bool.or_eq_false_iff, Bool.and_eq_false_iff, decide_eq_false_iff_not, Decidable.not_not] at this
      obtain ⟨⟨h1, h2⟩, h3⟩ := this
      refine ⟨h1, h2, fun e => ?_⟩
      rcases h3 with h3 | h3
      ·exact absurd e h3
      ·exact h3
     split at h
     ·rename_i hin
      cases h
      obtain ⟨x, hx, ex⟩ := List.any_eq_true.1 hin
      have ex := of_decide_eq_true ex
      obtain ⟨q1, q2, q3⟩ := hgood x hx
      have exd : x = d := by
       cases x; cases d
       simp only at ex q1 q2 q3
       subst ex q1 q2
       rw [q3 rfl]
      refine ⟨fun y hy => ?_, ih.from_, ih.idx, ih.whl, ih.sum⟩
      rw [etk, List.mem_append, List.mem_singleton] at hy
      rcases hy with hy | rfl
      ·exact ih.all y hy
      ·exact ⟨x, hx, by rw [exd]; exact hd⟩
     ·rename_i hin
      cases h
      have hne : ∀ x ∈ m0, x.index ≠ d.index := fun x hx e => hin (List.any_eq_true.2 ⟨x, hx, decide_eq_true e⟩)
      refine ⟨fun y hy => ?_, fun y hy => ?_, List.pairwise_append.2 ⟨ih.idx, List.pairwise_singleton _ _, fun a ha b hb => ?_⟩, fun x hx y hy => ?_, ?_⟩
      ·rw [etk, List.mem_append, List.mem_singleton] at hy
       rcases hy with hy | rfl
       ·obtain ⟨d', h1, h2⟩ := ih.all y hy
        exact ⟨d', List.mem_append_left _ h1, h2⟩
       ·exact ⟨d, by simp, hd⟩
      ·rw [List.mem_append, List.mem_singleton] at hy
       rcases hy with hy | rfl
       ·exact ih.from_ y hy
       ·exact ⟨r, hrm, hd⟩
      ·rw [List.mem_singleton] at hb
       subst hb
       exact hne a ha
      ·have w : ∀ z ∈ m0 ++ [d], z.whole = d.whole := fun z hz => by
        rw [List.mem_append, List.mem_singleton] at hz
        rcases hz with hz | rfl
        ·exact (hgood z hz).2.1
        ·rfl
       rw [w x hx, w y hy]
      ·rw [List.map_append, List.sum_append, ← ih.sum]; simp
theorem tlP_pos {r : Rn} (h : ∀ d ∈ r.ds, d.good) (n : Nat) : 0 < tlP r n := tlQ_pos (drop_good h n) _
theorem dvQ_quo (d : Dr) : dvQ d = (d.odds.toNat : Rat) / (d.whole.toNat : Rat) := by unfold dvQ; rw [rv_quo]
theorem dvQ_nn {d : Dr} (h : d.good) : 0 ≤ dvQ d := by
 obtain ⟨_, g2, g3, _⟩ := h
 exact Rat.le_of_lt (rv_pos (by omega) (by omega))
theorem dv_sum {w : Nat} (hw : 0 < w) : ∀ (met : List Dr), (∀ d ∈ met, d.good ∧ d.whole.toNat = w) → lsum (met.map dvQ) = ((met.map Dr.odds).sum.toNat : Rat) / (w : Rat) ∧ 0 ≤ (met.map Dr.odds).sum
 | [], _ => ⟨by
  show (0 : Rat) = ((0 : Nat) : Rat) / (w : Rat)
  rw [Rat.div_def]; grind, by simp⟩
 | d :: met, h => by
  obtain ⟨ih, i0⟩ := dv_sum hw met (fun x hx => h x (by simp [hx]))
  obtain ⟨⟨_, g2, _, _⟩, hd⟩ := h d (by simp)
  refine ⟨?_, by simp only [List.map_cons, List.sum_cons]; omega⟩
  simp only [List.map_cons, lsum, List.sum_cons]
  rw [ih, dvQ_quo, hd]
  have e : ((d.odds + (met.map Dr.odds).sum).toNat : Rat) = (d.odds.toNat : Rat) + ((met.map Dr.odds).sum.toNat : Rat) := by
   rw [Int.toNat_add (by omega) i0, Rat.natCast_add]
  rw [e, Rat.div_def, Rat.div_def, Rat.div_def]
  grind
theorem withL_snoc (L : List Rn) (p : List Dr) (d : Dr) : (withL L p).filter (fun r => decide (r.ds[p.length]? = some d)) = withL L (p ++ [d]) := by
 unfold withL
 rw [List.filter_filter]
 refine List.filter_congr fun r _ => ?_
 cases hb : begB p r
 ·simp only [Bool.and_false]
  cases hc : begB (p ++ [d]) r
  ·rfl
  ·exfalso
   obtain ⟨h1, h2⟩ := begB_iff.1 hc
   rw [List.length_append, List.length_singleton] at h1 h2
   have h3 : r.ds.take p.length = p := by
    have := congrArg (List.take p.length) h2
    rw [List.take_take, Nat.min_eq_left (by omega), List.take_left'] at this
    ·exact this
    ·rfl
   rw [begB_iff.2 ⟨by omega, h3⟩] at hb
   cases hb
 ·simp only [Bool.and_true]
  by_cases hd : r.ds[p.length]? = some d
  ·rw [decide_eq_true hd, begB_snoc hb hd]
  ·rw [decide_eq_false hd]
   cases hc : begB (p ++ [d]) r
   ·rfl
   ·exfalso
    have := begB_get hc (i := p.length) (by rw [List.length_append, List.length_singleton]; omega)
    rw [List.getElem?_append_right (Nat.le_refl _), Nat.sub_self] at this
    exact hd this
theorem mem_withL {L : List Rn} {p : List Dr} {r : Rn} : r ∈ withL L p ↔ r ∈ L ∧ begB p r = true := List.mem_filter
theorem kraft {L : List Rn} (hg : ∀ r ∈ L, ∀ d ∈ r.ds, d.good) (hp : ∀ r ∈ L, ∀ n, n ≤ r.ds.length → partsB L (r.ds.take n) = true) : ∀ (m : Nat) (p : List Dr), (∀ r ∈ L, r.ds.length + 1 ≤ p.length + m) → lsum ((withL L p).map fun r => tlP r p.length) ≤ 1 := by
 intro m
 induction m with
 | zero =>
  intro p hm
  rw [lsum_none _ fun r hr => by
   obtain ⟨h1, h2⟩ := mem_withL.1 hr
   have := hm r h1
   have := (begB_iff.1 h2).1
   omega]
  decide
 | succ m ih =>
  intro p hm
  cases hW : withL L p with
  | nil => show (0 : Rat) ≤ 1; decide
  | cons r0 W0 =>
   have hr0 : r0 ∈ withL L p := by rw [hW]; simp
   obtain ⟨hr0L, hb0⟩ := mem_withL.1 hr0
   obtain ⟨hl0, ht0⟩ := begB_iff.1 hb0
   have hpb := hp r0 hr0L p.length hl0
   rw [ht0] at hpb
   unfold partsB at hpb
   rw [← hW]
   generalize hWe : withL L p = W at *
   unfold partsW at hpb
   split at hpb
   ·rename_i h1
    obtain ⟨x, rfl⟩ := List.length_eq_one_iff.1 h1.1
    have hx : x.ds.length = p.length := by simpa using h1.2
    show tlP x p.length + 0 ≤ 1
    rw [tlP_end (by omega), Rat.add_zero]; exact Rat.le_refl
   ·cases hmt : metI W p.length W.length with
    | none => rw [hmt] at hpb; cases hpb
    | some st =>
     obtain ⟨met, odds⟩ := st
     rw [hmt] at hpb
     have hle := of_decide_eq_true hpb
     dsimp only at hle
     have ok := met_ok W.length (Nat.le_refl _) met odds hmt
     have hall : ∀ r ∈ W, ∃ d ∈ met, r.ds[p.length]? = some d := fun r hr => ok.all r (by rw [List.take_length]; exact hr)
     have hWL : ∀ r ∈ W, r ∈ L := fun r hr => (mem_withL.1 (by rw [hWe]; exact hr)).1
     have hnd : met.Nodup := ok.idx.imp fun h e => h (by rw [e])
     have hgd : ∀ d ∈ met, d.good := fun d hd => by
      obtain ⟨r, hr, e⟩ := ok.from_ d hd
      exact hg r (hWL r hr) d (List.mem_of_getElem? e)
     obtain ⟨d0, hd0, e0⟩ := hall r0 hr0
     have hdw : draw0 W p.length = d0 := by
      refine draw0_at (r := r0) ?_ e0
      rw [hW]; rfl
     rw [hdw] at hle
     have gd0 := hgd d0 hd0
     obtain ⟨_, k2, k3, _⟩ := gd0
     obtain ⟨hsum, hs0⟩ := dv_sum (w := d0.whole.toNat) (by omega) met (fun d hd => ⟨hgd d hd, by rw [ok.whl d hd d0 hd0]⟩)
     rw [lsum_parts (fun r => r.ds[p.length]?) _ met hnd W hall]
     have hstep : lsum (met.map fun d => lsum ((W.filter fun r => decide (r.ds[p.length]? = some d)).map fun r => tlP r p.length)) ≤ lsum (met.map dvQ) := by
      refine lsum_le met fun d hd => ?_
      have e1 : W.filter (fun r => decide (r.ds[p.length]? = some d)) = withL L (p ++ [d]) := by rw [← hWe]; exact withL_snoc L p d
      rw [e1, lsum_congr (g := fun r => dvQ d * tlP r (p ++ [d]).length) _ fun r hr => by
       rw [← e1] at hr
       have := of_decide_eq_true (List.mem_filter.1 hr).2
       rw [List.length_append, List.length_singleton]
       exact tlP_step this, lsum_mul]
      have := ih (p ++ [d]) (fun r hr => by
       have := hm r hr
       rw [List.length_append, List.length_singleton]; omega)
      have h0 := dvQ_nn (hgd d hd)
      have := Rat.mul_le_mul_of_nonneg_left this h0
      rw [Rat.mul_one] at this
      exact this
     refine Rat.le_trans hstep ?_
     rw [hsum, ← ok.sum]
     have h1 : ((odds.toNat : Nat) : Rat) ≤ ((d0.whole.toNat : Nat) : Rat) := Rat.natCast_le_natCast.2 (by omega)
     have h2 := natCast_pos (show 0 < d0.whole.toNat by omega)
     rw [Rat.div_def]
     have h3 := Rat.mul_le_mul_of_nonneg_right h1 (Rat.le_of_lt (Rat.inv_pos.2 h2))
     rw [Rat.mul_inv_cancel _ (fun e => by rw [e] at h2; exact absurd h2 (by decide))] at h3
     exact h3
theorem right_kraft {l : List Rn} (h : rightR l = true) (hs : ∀ r ∈ l, r.small) (p : List Dr) : lsum ((withL l p).map fun r => tlP r p.length) ≤ 1 := by
 unfold rightR at h
 rw [Bool.and_eq_true, Bool.and_eq_true, Bool.and_eq_true] at h
 have h1 := of_decide_eq_true h.1.1.1
 have hlen : ∀ r ∈ l, r.ds.length + 1 ≤ 0 + 102 := fun r hr => by have := (hs r hr).len; omega
 have hp := (fork_parts 102 l 0 [] rfl (by omega) (fun r _ => begB_iff.2 ⟨Nat.zero_le _, rfl⟩) (fun r hr => (hs r hr).good) hlen).1 h.2
 exact kraft (fun r hr => (hs r hr).good) (fun r hr n hn => hp r hr n (Nat.zero_le _) hn) 102 p (fun r hr => by have := hlen r hr; omega)
theorem Sm_take (F : Rn → Rat) (f : Nat → Rat) (l : List Rn) (hf : ∀ k r, l[k]? = some r → f k = F r) : ∀ n, n ≤ l.length → Sm f n = lsum ((l.take n).map F)
 | 0, _ => by simp only [List.take_zero, List.map_nil, lsum]; rfl
 | n + 1, hn => by
  obtain ⟨r, hr⟩ : ∃ r, l[n]? = some r := ⟨_, List.getElem?_eq_getElem (show n < l.length by omega)⟩
  rw [List.take_add_one, hr]
  show Sm f n + f n = _
  rw [Sm_take F f l hf n (by omega), hf n r hr, Option.toList_some, List.map_append, lsum_app]
  simp only [List.map_cons, List.map_nil, lsum]
  rw [Rat.add_zero]
theorem Sm_lsum (F : Rn → Rat) (f : Nat → Rat) (l : List Rn) (hf : ∀ k r, l[k]? = some r → f k = F r) : Sm f l.length = lsum (l.map F) := by
 have := Sm_take F f l hf l.length (Nat.le_refl _)
 rw [List.take_length] at this
 exact this
theorem Sm_withL (F : Rn → Rat) (f : Nat → Rat) (l : List Rn) (p : List Dr) (hf : ∀ k r, l[k]? = some r → f k = if begB p r = true then F r else 0) : Sm f l.length = lsum ((withL l p).map F) := by
 rw [Sm_lsum (fun r => if begB p r = true then F r else 0) f l hf]
 clear hf f
 induction l with
 | nil => rfl
 | cons r l ih =>
  unfold withL at ih ⊢
  simp only [List.map_cons, lsum, List.filter_cons]
  by_cases h : begB p r = true
  ·rw [if_pos h, if_pos h, ih]; rfl
  ·rw [if_neg h, if_neg h, ih]; grind
theorem q_sum {l : List Rn} (h : rightR l = true) (hs : ∀ r ∈ l, r.small) : Sm (qOf l) l.length ≤ 1 := by
 rw [Sm_withL (fun r => tlP r 0) (qOf l) l [] fun k r hr => by
  rw [qOf_at hr, prior_tlP, if_pos]
  exact begB_iff.2 ⟨Nat.zero_le _, rfl⟩]
 exact right_kraft h hs []
theorem ltQ_le1 (p q : Rat) : ltQ p q ≤ p := by
 unfold ltQ
 split <;> grind
theorem off_le {od : Nat → Nat → Rat} {f : Nat → Rat} {n i : Nat} (h0 : ∀ k, k < n → 0 ≤ f k) (h : ∀ k, k < n → k ≠ i → od i k ≤ f k) : offQ od i n ≤ Sm f n := by
 unfold offQ
 refine Sm_le n fun k hk => ?_
 split
 ·exact h0 k hk
 ·rename_i e; exact h k hk e
theorem anew_row {l : List Rn} (h : rightR l = true) (hs : ∀ r ∈ l, r.small) {i : Nat} (hi : i < l.length) : offQ (anewQ l) i l.length ≤ 1 := by
 refine Rat.le_trans (off_le (f := qOf l) (fun k hk => Rat.le_of_lt (qOf_small hs hk).2) fun k hk _ => ?_) (q_sum h hs)
 unfold anewQ
 have := Rat.mul_le_mul_of_nonneg_left (ltQ_le1 1 (sOf l k / sOf l i)) (Rat.le_of_lt (qOf_small hs hk).2)
 rw [Rat.mul_one] at this
 exact this
theorem com_take : ∀ (a b : List Dr) (m : Nat), m ≤ comN a b → a.take m = b.take m
 | _, _, 0, _ => by simp
 | [], b, m + 1, h => by simp [comN] at h
 | d :: a, [], m + 1, h => by simp [comN] at h
 | d :: a, e :: b, m + 1, h => by
  unfold comN at h
  split at h
  ·rename_i he
   subst he
   rw [List.take_succ_cons, List.take_succ_cons, com_take a b m (by omega)]
  ·omega
theorem rv_one {n : Nat} (h : 0 < n) : (n : Rat) * rv false 1 n = 1 := by
 rw [rv_quo]
 have hp := natCast_pos h
 have : ((1 : Nat) : Rat) = 1 := rfl
 rw [this, Rat.div_def, Rat.one_mul, Rat.mul_inv_cancel _ (fun e => by rw [e] at hp; exact absurd hp (by decide))]
theorem Sm_const (c : Rat) : ∀ n : Nat, Sm (fun _ => c) n = (n : Rat) * c
 | 0 => by show (0 : Rat) = ((0 : Nat) : Rat) * c; grind
 | n + 1 => by
  show Sm (fun _ => c) n + c = _
  rw [Sm_const c n, Rat.natCast_add]
  have : ((1 : Nat) : Rat) = 1 := rfl
  rw [this]; grind
def sufF (l : List Rn) (a : List Dr) (k m : Nat) : Rat := if m < propM a (dsOf l k) then propF a (dsOf l k) m else 0
theorem suff_sum {l : List Rn} (h : rightR l = true) (hs : ∀ r ∈ l, r.small) (a : List Dr) : Sm (fun k => propQ a (dsOf l k)) l.length ≤ 1 := by
 have e1 : ∀ k, k < l.length → propQ a (dsOf l k) = Sm (sufF l a k) a.length := fun k hk => by
  unfold propQ
  rw [Sm_stop (f := sufF l a k) (h := propM a (dsOf l k)) a.length (fun j h1 _ => by unfold sufF; rw [if_neg (by omega)]) (by unfold propM; omega)]
  exact Sm_congr _ fun j hj => by unfold sufF; rw [if_pos hj]
 rw [Sm_congr l.length e1, Sm_swap]
 by_cases ha : a.length = 0
 ·rw [ha]; show (0 : Rat) ≤ 1; decide
 have hr0 : 0 ≤ rv false 1 a.length := Rat.le_of_lt (rv_pos (by omega) (by omega))
 have e2 : ∀ m, m < a.length → Sm (fun k => sufF l a k m) l.length ≤ rv false 1 a.length := fun m hm => by
  have e3 : Sm (fun k => sufF l a k m) l.length ≤ rv false 1 a.length * Sm (fun k => (l[k]?.map fun r => if begB (a.take m) r = true then tlP r m else 0).getD 0) l.length := by
   rw [← Sm_mul]
   refine Sm_le _ fun k hk => ?_
   obtain ⟨r, hr⟩ : ∃ r, l[k]? = some r := ⟨_, List.getElem?_eq_getElem hk⟩
   have hrs := hs r (List.mem_of_getElem? hr)
   rw [hr]
   show sufF l a k m ≤ rv false 1 a.length * (if begB (a.take m) r = true then tlP r m else 0)
   unfold sufF
   rw [dsOf_at hr]
   by_cases hc : m < propM a r.ds
   ·rw [if_pos hc]
    have hm2 : m ≤ comN a r.ds := by unfold propM at hc; omega
    have hm3 := (comN_le a r.ds).2
    rw [if_pos (begB_iff.2 ⟨by rw [List.length_take]; omega, by rw [List.length_take, Nat.min_eq_left (by omega)]; exact (com_take _ _ _ hm2).symm⟩)]
    unfold propF tlP
    rw [Rat.mul_comm]; exact Rat.le_refl
   ·rw [if_neg hc]
    refine Rat.mul_nonneg hr0 ?_
    split
    ·exact Rat.le_of_lt (tlP_pos hrs.good m)
    ·exact Rat.le_refl
  refine Rat.le_trans e3 ?_
  have e4 : Sm (fun k => (l[k]?.map fun r => if begB (a.take m) r = true then tlP r m else 0).getD 0) l.length ≤ 1 := by
   rw [Sm_withL (fun r => tlP r m) _ l (a.take m) fun k r hr => by rw [hr]; rfl]
   have := right_kraft h hs (a.take m)
   rw [List.length_take, Nat.min_eq_left (by omega)] at this
   exact this
  have := Rat.mul_le_mul_of_nonneg_left e4 hr0
  rw [Rat.mul_one] at this
  exact this
 refine Rat.le_trans (Sm_le _ e2) ?_
 rw [Sm_const, rv_one (by omega)]
 exact Rat.le_refl
theorem prop_nn {a b : List Dr} (hb : ∀ d ∈ b, d.good) : 0 ≤ propQ a b := Sm_nonneg _ fun m hm => by
 unfold propM at hm
 exact Rat.mul_nonneg (Rat.le_of_lt (tlQ_pos (drop_good hb m) _)) (Rat.le_of_lt (rv_pos (by omega) (by omega)))
theorem suff_row {l : List Rn} (h : rightR l = true) (hs : ∀ r ∈ l, r.small) {i : Nat} : offQ (suffQ l) i l.length ≤ 1 := by
 refine Rat.le_trans (off_le (f := fun k => propQ (dsOf l i) (dsOf l k)) (fun k hk => prop_nn (dsOf_good hs hk)) fun k hk _ => ?_) (suff_sum h hs (dsOf l i))
 unfold suffQ
 exact ltQ_le1 _ _
theorem site_nn {l : List Rn} (hs : ∀ r ∈ l, r.small) {i k : Nat} (hi : i < l.length) (hk : k < l.length) {m : Nat} (hm : m < (dsOf l i).length) : 0 ≤ siteF l i k m := by
 unfold siteF
 split
 ·exact Rat.mul_nonneg (Rat.le_of_lt (div_posK (wOf_small hs hk).2 (besS_pos hs hi m))) (Rat.le_of_lt (rv_pos (by omega) (by omega)))
 ·exact Rat.le_refl
theorem site_row {l : List Rn} (hs : ∀ r ∈ l, r.small) {i : Nat} (hi : i < l.length) : offQ (siteQ l) i l.length ≤ 1 := by
 refine Rat.le_trans (off_le (f := siteQ l i) (fun k hk => Sm_nonneg _ fun m hm => site_nn hs hi hk hm) fun k _ _ => Rat.le_refl) ?_
 unfold siteQ
 rw [Sm_swap]
 by_cases ha : (dsOf l i).length = 0
 ·rw [ha]; show (0 : Rat) ≤ 1; decide
 have e2 : ∀ m, m < (dsOf l i).length → Sm (fun k => siteF l i k m) l.length = rv false 1 (dsOf l i).length := fun m hm => by
  have hb := besS_pos hs hi m
  have hb0 : besS l (dsOf l i) m ≠ 0 := fun e => by rw [e] at hb; exact absurd hb (by decide)
  have e3 : ∀ k, k < l.length → siteF l i k m = ((besS l (dsOf l i) m)⁻¹ * rv false 1 (dsOf l i).length) * besF l (dsOf l i) m k := fun k _ => by
   unfold siteF besF
   by_cases hc : besB (dsOf l i) (dsOf l k) m = true
   ·rw [if_pos hc, if_pos hc, Rat.div_def]; grind
   ·rw [if_neg hc, if_neg hc]; grind
  rw [Sm_congr _ e3, Sm_mul]
  show (besS l (dsOf l i) m)⁻¹ * rv false 1 (dsOf l i).length * besS l (dsOf l i) m = _
  have := Rat.mul_inv_cancel _ hb0
  grind
 rw [Sm_congr _ e2, Sm_const, rv_one (by omega)]
 exact Rat.le_refl
def stpF (l : List Rn) (hs : List Rat) (i h : Nat) : Rat := if h ≠ 0 ∧ cf hs h ≤ sOf l i then (cf hs h - cf hs (h - 1)) / sOf l i else 0
theorem stp_sum {l : List Rn} {hs : List Rat} (hh : HsOk l hs) (hl : ∀ r ∈ l, r.small) {i : Nat} (hi : i < l.length) : ∀ m, m < hs.length → Sm (stpF l hs i) (m + 1) * sOf l i ≤ sOf l i ∧ Sm (stpF l hs i) (m + 1) * sOf l i ≤ cf hs m
 | 0, _ => by
  have hp := (sOf_small hl hi).2
  have e : Sm (stpF l hs i) (0 + 1) = 0 := by
   show (0 : Rat) + stpF l hs i 0 = 0
   unfold stpF
   rw [if_neg (fun e => e.1 rfl), Rat.add_zero]
  rw [e, hh.cf0 hl, Rat.zero_mul]
  exact ⟨Rat.le_of_lt hp, Rat.le_refl⟩
 | m + 1, hm => by
  obtain ⟨h1, h2⟩ := stp_sum hh hl hi m (by omega)
  have hp := (sOf_small hl hi).2
  have h0 : sOf l i ≠ 0 := fun e => by rw [e] at hp; exact absurd hp (by decide)
  have hst := hh.step (j := m + 1) (by omega) hm
  rw [Nat.add_sub_cancel] at hst
  have e : Sm (stpF l hs i) (m + 1 + 1) = Sm (stpF l hs i) (m + 1) + stpF l hs i (m + 1) := rfl
  by_cases hc : cf hs (m + 1) ≤ sOf l i
  ·have e2 : stpF l hs i (m + 1) * sOf l i = cf hs (m + 1) - cf hs m := by
    unfold stpF
    rw [if_pos ⟨by omega, hc⟩, Nat.add_sub_cancel, Rat.div_def, Rat.mul_assoc, Rat.inv_mul_cancel _ h0, Rat.mul_one]
   rw [e, Rat.add_mul, e2]
   constructor <;> grind
  ·have e2 : stpF l hs i (m + 1) = 0 := by unfold stpF; rw [if_neg (fun e => hc e.2)]
   rw [e, e2, Rat.add_zero]
   constructor
   ·exact h1
   ·grind
theorem sli_row {l : List Rn} {hs : List Rat} (hh : HsOk l hs) (hl : ∀ r ∈ l, r.small) {i : Nat} (hi : i < l.length) : offQ (sliQ l hs) i l.length ≤ 1 := by
 refine Rat.le_trans (off_le (f := sliQ l hs i) (fun k hk => Sm_nonneg _ fun m hm => (sliF_nn hh hl hi hk hm).1) fun k _ _ => Rat.le_refl) ?_
 unfold sliQ
 rw [Sm_swap]
 have hp := (sOf_small hl hi).2
 have e2 : ∀ h, h < hs.length → Sm (fun k => sliF l hs i k h) l.length = stpF l hs i h := fun h _ => by
  unfold stpF
  by_cases hc : h ≠ 0 ∧ cf hs h ≤ sOf l i
  ·rw [if_pos hc]
   have hb := heiS_pos hl hi hc.2
   have hb0 : heiS l (cf hs h) ≠ 0 := fun e => by rw [e] at hb; exact absurd hb (by decide)
   have e3 : ∀ k, k < l.length → sliF l hs i k h = ((cf hs h - cf hs (h - 1)) / sOf l i * (heiS l (cf hs h))⁻¹) * heiF l (cf hs h) k := fun k _ => by
    unfold sliF heiF sliT
    by_cases hk : cf hs h ≤ sOf l k
    ·rw [if_pos ⟨hc.1, hc.2, hk⟩, if_pos hk, Rat.div_def (qOf l k)]; grind
    ·rw [if_neg (fun e => hk e.2.2), if_neg hk]; grind
   rw [Sm_congr _ e3, Sm_mul]
   show (cf hs h - cf hs (h - 1)) / sOf l i * (heiS l (cf hs h))⁻¹ * heiS l (cf hs h) = _
   rw [Rat.mul_assoc, Rat.inv_mul_cancel _ hb0, Rat.mul_one]
  ·rw [if_neg hc]
   exact Sm_zero _ fun k _ => by unfold sliF; rw [if_neg (fun e => hc ⟨e.1, e.2.1⟩)]
 rw [Sm_congr _ e2]
 have hpos := hh.pos
 have h1 := (stp_sum hh hl hi (hs.length - 1) (by omega)).1
 rw [show hs.length - 1 + 1 = hs.length by omega] at h1
 refine Rat.le_of_mul_le_mul_right ?_ hp
 rw [Rat.one_mul]; exact h1
theorem OfR.nn {l : List Rn} {c : Int} {od : Nat → Nat → Rat} (h : OfR l c od) (hr : rightR l = true) (hl : ∀ r ∈ l, r.small) : ∀ i k, i < l.length → k < l.length → 0 ≤ od i k := fun i k hi hk => by
 rcases h with ⟨_, rfl⟩ | ⟨_, rfl⟩ | ⟨_, rfl⟩ | ⟨_, hs, hh, rfl⟩
 ·exact Rat.le_of_lt (anew_pos hl hi hk)
 ·unfold suffQ ltQ
  split
  ·exact Rat.mul_nonneg (prop_nn (dsOf_good hl hi)) (Rat.le_of_lt (div_posK (wOf_small hl hk).2 (wOf_small hl hi).2))
  ·exact prop_nn (dsOf_good hl hk)
 ·exact Sm_nonneg _ fun m hm => site_nn hl hi hk hm
 ·exact Rat.le_of_lt (sli_pos hh hl hi hk)
theorem OfR.row {l : List Rn} {c : Int} {od : Nat → Nat → Rat} (h : OfR l c od) (hr : rightR l = true) (hl : ∀ r ∈ l, r.small) {i : Nat} (hi : i < l.length) : offQ od i l.length ≤ 1 := by
 rcases h with ⟨_, rfl⟩ | ⟨_, rfl⟩ | ⟨_, rfl⟩ | ⟨_, hs, hh, rfl⟩
 ·exact anew_row hr hl hi
 ·exact suff_row hr hl
 ·exact site_row hl hi
 ·exact sli_row hh hl hi
end Go.Proofs.YtobjjdnfgamgcaaGreat
end
