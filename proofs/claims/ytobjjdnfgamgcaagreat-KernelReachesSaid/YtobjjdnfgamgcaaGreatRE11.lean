/- Under Anew, Suffix and Slice each execution of a valid state space reaches every other one in one move, and each of several executions has a draw, at every input. (part 11 of 11) -/
import Derived.OrdersHeld
import Derived.Below
import Derived.Tactics
import Derived.KernelRfl
import Derived.RangeFuncCalls
import Derived.RangeFuncFrom
import Derived.RangeFuncLeaves
import Derived.OrdersIn
import Derived.Laws.AppendOwn
import Derived.Laws.MakeOwn
import Derived.Laws.CopyRow
import Derived.Laws.Cells
import Derived.Laws.World
import Derived.Laws.Alloc2
import Derived.Laws.NewBlocks
import Derived.Maps.AppendAt
import Derived.Test.YtobjjdnfgamgcaaGreatProg
import Init.Data.List.Lemmas
import Init.Omega
import Derived.WalkKit
import Derived.ProofKit
import Derived.OpenShut
import Derived.ChangeOld
import Derived.SizedLaws
import Derived.ChangeSlices
import Derived.ChangeArms
import Derived.Deep.Slices
import Derived.MapKept
import Derived.Maps.RangeRun
import Derived.Shelf.SlSortCmp.WholeK
import Derived.Lib.QuietBelow
import Derived.Test.YtobjjdnfgamgcaaGreatRows
import Derived.ShutString
import Derived.Test.YtobjjdnfgamgcaaGreatRE10
section
namespace Go.Proofs.YtobjjdnfgamgcaaGreat
open Go Go.RowKit
set_option linter.unusedSimpArgs false
set_option linter.unusedVariables false
attribute [local irreducible] XWP Spec SpecO XPub XCall seqX clX apX stX ldX iaX slX
theorem begB_short {p : List Dr} {r : Rn} (h : r.ds.length < p.length) : begB p r = false := by
  unfold begB
  exact decide_eq_false fun e => by omega
theorem begB_all {p : List Dr} {r : Rn} (hl : p.length ≤ r.ds.length) (h : ∀ i, i < p.length → r.ds[i]? = p[i]?) : begB p r = true := by
  refine begB_iff.2 ⟨hl, List.ext_getElem? fun i => ?_⟩
  rw [List.getElem?_take]
  split
  · rename_i hi; exact h i hi
  · rename_i hi; rw [List.getElem?_eq_none (by omega)]
theorem begB_not {p : List Dr} {r : Rn} {i : Nat} (hi : i < p.length) (h : r.ds[i]? ≠ p[i]?) : begB p r = false := by
  cases e : begB p r
  · rfl
  · exact absurd (begB_get e hi) h
theorem rbegins_c (V : View) (cs : List Value) (r : Rn) (u : Value) (p : List Dr) (hcs : ElK 9 rnE V cs r) (hp : SlK 4 drE V u p) (hl : r.ds.length ≤ 1000) : Spec Tryz.prog 84 [.agg cs.toArray, u] V fun v' V' => v' = .bool (begB p r) := by
  obtain ⟨_, hone, c1, c2, c3, c4, dv, m, c7, c8, rfl, hds, hw⟩ := hcs
  obtain ⟨A, c, rfl, hc, hm⟩ := hds.form
  obtain ⟨A2, c2', rfl, hc2, hm2⟩ := hp.form
  refine (Spec.enter Tryz.func84 rfl fun Γ => ?_)
  simp only [Tryz.ntmps84, List.map_cons, List.map_nil, List.length_cons, List.length_nil, Nat.reduceAdd, Nat.reduceSub, List.replicate_succ, List.replicate_zero, List.cons_append, List.nil_append]
  refine Gx.a (by kernel_rfl) fun K hK => ?_
  simp only [XA]
  refine hK _ ?_
  refine XWP.seq ?_
  by_cases hlen : r.ds.length < p.length
  · have b1 : decide ((r.ds.length : Int) < (p.length : Int)) = true := decide_eq_true (by omega)
    refine Gx.a (by kernel_rfl) fun K hK => ?_
    simp only [XU, XA, XB, b1]
    refine hK _ ?_
    refine Gx.t rfl ?_
    refine Gx.a (by kernel_rfl) fun K hK => ?_
    simp only [XA]
    refine hK _ (XWP.ret ?_)
    try simp only [thenX_ret, inBlockX_ret]
    refine ret_go _ rfl ?_
    rw [begB_short hlen]; rfl
  have b1 : decide ((r.ds.length : Int) < (p.length : Int)) = false := decide_eq_false (by omega)
  refine Gx.a (by kernel_rfl) fun K hK => ?_
  simp only [XU, XA, XB, b1]
  refine hK _ ?_
  refine Gx.f rfl ?_
  refine XWP.skip ?_
  refine XWP.cutD 1 (fun s => StIs (fun Z => [Z 0, Z 1, .p 0 0, Z 3,Z 4,Z 5,Z 6,Z 7,Z 8,Z 9,Z 10,Z 11,Z 12,Z 13,Z 14,Z 15,Z 16,Z 17,Z 18,Z 19,Z 20,Z 21,Z 22,Z 23,Z 24,Z 25,Z 26,Z 27]) [[.int .i64 r.kind, c1, c2, c3, c4, .slice A r.ds.length c, m, c7, c8]] (fun _ => none) V s ∧ begB p r = true) ?_ ?_
  · refine Gx.a (by kernel_rfl) fun K hK => ?_
    simp only [XU, XA]
    refine hK _ ?_
    clear hK
    refine XWP.block ?_
    refine XWP.loopD 1 (fun q s => ∃ (k : Nat), StIs (fun Z => [Z 0, Z 1, .p 0 0, Z 3,Z 4,Z 5,Z 6,Z 7,Z 8,Z 9,Z 10,Z 11,Z 12, .v (.slice A2 p.length c2'), .v (.int .i64 (p.length : Int)), .v (.int .i64 (k : Int)), Z 16,Z 17,Z 18,Z 19,Z 20,Z 21,Z 22,Z 23,Z 24,Z 25,Z 26,Z 27]) [[.int .i64 r.kind, c1, c2, c3, c4, .slice A r.ds.length c, m, c7, c8]] (fun _ => none) V s ∧ q + k = p.length ∧ ∀ i, i < k → r.ds[i]? = p[i]?) p.length ⟨0, StIs.of (by exact rfl), by omega, fun i hi => by omega⟩ ?_
    rintro q s ⟨k, hs, hq, heq⟩
    obtain ⟨z, rfl⟩ := hs.out
    try dsimp only
    clear hs
    by_cases hk : k < p.length
    rotate_left
    · obtain rfl : k = p.length := by omega
      have b2 : decide (((p.length : Nat) : Int) < ((p.length : Nat) : Int)) = false := decide_eq_false (by omega)
      refine Gx.a (by kernel_rfl) fun K hK => ?_
      simp only [XA, XB, b2]
      refine hK _ ?_
      refine XWP.seq (Gx.f rfl ?_)
      refine XWP.exit ?_
      exact fun f => ⟨StIs.of (by exact rfl), begB_all (by omega) heq⟩
    have b2 : decide ((k : Int) < (p.length : Int)) = true := decide_eq_true (by omega)
    refine Gx.a (by kernel_rfl) fun K hK => ?_
    simp only [XA, XB, b2]
    refine hK _ ?_
    refine XWP.seq (Gx.t rfl ?_)
    refine XWP.skip ?_
    obtain ⟨b, o, rfl⟩ := SlK.addr hds (by omega)
    obtain ⟨bp, op, rfl⟩ := SlK.addr hp (by omega)
    obtain ⟨dc, ⟨d1, d2, d3⟩, hcell⟩ := SlK.get hds k (by omega)
    obtain ⟨ec, ⟨e1, e2, e3⟩, hcell2⟩ := SlK.get hp k hk
    have hkd : r.ds[k]? = some r.ds[k] := List.getElem?_eq_getElem (by omega)
    have hkp : p[k]? = some p[k] := List.getElem?_eq_getElem hk
    have d3 : dc = r.ds[k].cells := d3
    have e3 : ec = p[k].cells := e3
    generalize r.ds[k] = d at *
    generalize p[k] = e at *
    subst d3
    subst e3
    refine XWP.cutD 1 (fun s => StIs (fun Z => [Z 0, Z 1, .p 0 0, Z 3,Z 4,Z 5,Z 6,Z 7,Z 8,Z 9,Z 10,Z 11,Z 12, .v (.slice (some ⟨bp, op, none⟩) p.length c2'), .v (.int .i64 (p.length : Int)), .v (.int .i64 (k : Int)), Z 16,Z 17,Z 18,Z 19,Z 20,Z 21,Z 22,Z 23,Z 24,Z 25,Z 26,Z 27]) [[.int .i64 r.kind, c1, c2, c3, c4, .slice (some ⟨b, o, none⟩) r.ds.length c, m, c7, c8]] (fun _ => none) V s ∧ d = e) ?_ ?_
    rotate_left
    · rintro s ⟨hs, hde⟩
      obtain ⟨z, rfl⟩ := hs.out
      try dsimp only
      clear hs
      refine Gx.c (by kernel_rfl) fun K hK => ?_
      simp only [XA, XB, i64_succ k (by omega)]
      exact hK _ ⟨q - 1, by omega, fun f => ⟨k + 1, StIs.of (by exact rfl), by omega, fun i hi => by
        by_cases ei : i = k
        · subst ei; rw [hkd, hkp, hde]
        · exact heq i (by omega)⟩⟩
    clear hK
    refine XWP.block ?_
    refine Gx.a (by kernel_rfl) fun K hK => ?_
    simp only [XU, XA]
    refine ⟨by omega, by omega, ld_mem (loadsK shapeT_66 e1 (hcell2 _)) ?_⟩
    simp only [XU, XA]
    refine st_whole (cs := [.int .i64 e.site, .int .i64 e.index, .int .i64 e.odds, .int .i64 e.whole]) shapeT_66 rfl rfl rfl rfl ?_
    simp only [XA]
    refine hK _ ?_
    (refine XWP.drw [0, 1, 2, 3, 4, 5, 6] (by kernel_rfl) (by kernel_rfl) (by kernel_rfl) fun K hK => ?_) <;> dsimp only [pickOps, List.getElem?_cons_zero, List.getElem?_cons_succ]
    simp only [XU, XA]
    refine ⟨by omega, by omega, ld_mem (loadsK shapeT_66 d1 (hcell _)) ?_⟩
    simp only [XU, XA, Nat.reduceAdd, Nat.reduceLeDiff, ↓reduceIte]
    refine bin_own rfl (drawn_ne d e) ?_
    by_cases hde : d = e
    · have b3 : decide (d ≠ e) = false := decide_eq_false (fun h => h hde)
      simp only [XA, b3]
      refine hK _ ?_
      refine Gx.f rfl ?_
      refine XWP.skip ?_
      exact fun f => ⟨StIs.of (by exact rfl), hde⟩
    · have b3 : decide (d ≠ e) = true := decide_eq_true hde
      simp only [XA, b3]
      refine hK _ ?_
      refine Gx.t rfl ?_
      refine Gx.a (by kernel_rfl) fun K hK => ?_
      simp only [XA]
      refine hK _ (XWP.ret ?_)
      try simp only [thenX_ret, inBlockX_ret]
      refine ret_go _ rfl ?_
      rw [begB_not hk (by rw [hkd, hkp]; exact fun h => hde (Option.some.inj h))]; rfl
  rintro s ⟨hs, hb⟩
  obtain ⟨z, rfl⟩ := hs.out
  try dsimp only
  refine Gx.a (by kernel_rfl) fun K hK => ?_
  simp only [XA]
  refine hK _ (XWP.ret ?_)
  try simp only [thenX_ret, inBlockX_ret]
  refine ret_go _ rfl ?_
  rw [hb]; rfl
end Go.Proofs.YtobjjdnfgamgcaaGreat
end
section
namespace Go.Proofs.YtobjjdnfgamgcaaGreat
open Go Go.RowKit
set_option linter.unusedSimpArgs false
set_option linter.unusedVariables false
attribute [local irreducible] XWP Spec SpecO XPub XCall seqX clX apX stX ldX iaX slX
theorem metI_none {W : List Rn} {n k : Nat} (h : metI W n k = none) : ∀ m, k ≤ m → metI W n m = none := by
  intro m hm
  induction m with
  | zero => have : k = 0 := by omega
            subst this; exact h
  | succ m ih =>
    by_cases e : k = m + 1
    · subst e; exact h
    · unfold metI; rw [ih (by omega)]; rfl
theorem metI_succ {W : List Rn} {n k : Nat} {st : List Dr × Int} {r : Rn} (h : metI W n k = some st) (hr : W[k]? = some r) : metI W n (k + 1) = metStep n st r := by unfold metI; rw [h, hr]; rfl
theorem partsW_none {W : List Rn} {n k : Nat} (hk : k < W.length) (h1 : ¬ (W.length = 1 ∧ (W[0]?).map (·.ds.length) = some n)) (h : metI W n (k + 1) = none) : partsW W n = false := by
  unfold partsW
  rw [if_neg h1, metI_none h W.length (by omega)]
def metMem (H : Heap) (V : View) (mv : Value) (met : List Dr) : Prop := ∃ cells, Own H 66 4 mv met.length cells ∧ RowK 4 drE V cells met
theorem metMem.nil (H : Heap) (V : View) : metMem H V (.slice none 0 0) [] := ⟨[], own_nil, RowK.nil V⟩
theorem metMem.form {H : Heap} {V : View} {mv : Value} {met : List Dr} (h : metMem H V mv met) : ∃ A c, mv = .slice A met.length c := by
  obtain ⟨cells, ho, _⟩ := h
  rcases own_parts ho with ⟨rfl, h0, _⟩ | ⟨g, cap, rfl, _⟩
  · exact ⟨none, 0, by rw [h0]⟩
  · exact ⟨_, cap, rfl⟩
theorem metMem.get {H : Heap} {V : View} {b o n c : Nat} {met : List Dr} (h : metMem H V (.slice (some ⟨b, o, none⟩) n c) met) {j : Nat} {x : Dr} (hx : met[j]? = some x) : ∀ V' i u, x.cells[i]? = some u → CellAt H V' b (o + j * 4 + i) u := by
  obtain ⟨cells, ho, hr⟩ := h
  rcases own_parts ho with ⟨e, _⟩ | ⟨g, cap, e, hg, _⟩
  · cases e
  · cases e
    intro V' i u hu
    obtain ⟨cs, ⟨_, _, e3⟩, hc⟩ := hr.2 j x hx
    have e3 : cs = x.cells := e3
    subst e3
    exact .inl ⟨_, hg, by rw [Nat.zero_add]; exact hc i u hu⟩
theorem metMem.addr {H : Heap} {V : View} {A : Option Addr} {n c : Nat} {met : List Dr} (h : metMem H V (.slice A n c) met) (h0 : 0 < met.length) : ∃ b o, A = some ⟨b, o, none⟩ := by
  obtain ⟨cells, ho, _⟩ := h
  rcases own_parts ho with ⟨e, h1, _⟩ | ⟨g, cap, e, _⟩
  · omega
  · cases e; exact ⟨g, 0, rfl⟩
set_option maxHeartbeats 8000000 in
set_option maxRecDepth 100000 in
theorem rparts_c (V : View) (v u : Value) (L : List Rn) (p : List Dr) (h : SlK 9 rnE V v L) (hp : SlK 4 drE V u p) (hl : L.length ≤ 100) (hds : ∀ r ∈ L, r.ds.length ≤ 1000) (hg : ∀ r ∈ L, ∀ d ∈ r.ds, d.good) (h0 : 0 < (withL L p).length) : Spec Tryz.prog 36 [v, u] V fun v' V' => v' = .bool (partsB L p) := by
  have hL0 : 0 < L.length := Nat.lt_of_lt_of_le h0 (List.length_filter_le _ _)
  obtain ⟨A, cL, rfl, _, _⟩ := h.form
  obtain ⟨bL, oL, rfl⟩ := SlK.addr h hL0
  obtain ⟨A2, c2, rfl, _, _⟩ := hp.form
  refine (Spec.enter Tryz.func36 rfl fun Γ => ?_)
  simp only [Tryz.ntmps36, List.map_cons, List.map_nil, List.length_cons, List.length_nil, Nat.reduceAdd, Nat.reduceSub, List.replicate_succ, List.replicate_zero, List.cons_append, List.nil_append]
  refine Gx.a (by kernel_rfl) fun K hK => ?_
  simp only [XA]
  refine hK _ ?_
  refine Gx.a (by kernel_rfl) fun K hK => ?_
  simp only [XA]
  refine hK _ ?_
  refine XWP.cutD 0 (fun s => ∃ (V2 : View) (H2 : Heap) (sv : Value) (cells : List Value), StIs (fun Z => [.v (.slice (some ⟨bL, oL, none⟩) L.length cL), .v (.slice A2 p.length c2), Z 2,Z 3,Z 4, .v sv, Z 6,Z 7,Z 8,Z 9,Z 10,Z 11,Z 12,Z 13,Z 14,Z 15,Z 16,Z 17,Z 18,Z 19,Z 20,Z 21,Z 22,Z 23,Z 24,Z 25,Z 26,Z 27,Z 28,Z 29,Z 30,Z 31,Z 32,Z 33,Z 34,Z 35,Z 36,Z 37,Z 38,Z 39,Z 40,Z 41,Z 42,Z 43,Z 44,Z 45,Z 46,Z 47,Z 48,Z 49,Z 50,Z 51,Z 52,Z 53,Z 54,Z 55,Z 56,Z 57,Z 58,Z 59,Z 60,Z 61,Z 62,Z 63,Z 64,Z 65,Z 66,Z 67,Z 68,Z 69,Z 70,Z 71,Z 72,Z 73,Z 74,Z 75,Z 76,Z 77,Z 78,Z 79,Z 80,Z 81,Z 82,Z 83,Z 84,Z 85,Z 86,Z 87,Z 88,Z 89,Z 90,Z 91,Z 92,Z 93,Z 94,Z 95,Z 96,Z 97,Z 98,Z 99,Z 100,Z 101,Z 102,Z 103,Z 104,Z 105,Z 106,Z 107,Z 108,Z 109,Z 110,Z 111,Z 112,Z 113,Z 114,Z 115,Z 116,Z 117,Z 118,Z 119,Z 120,Z 121,Z 122]) [] H2 V2 s ∧ V.le V2 ∧ Own H2 51 9 sv (withL L p).length cells ∧ RowK 9 rnE V2 cells (withL L p)) ?_ ?_
  · refine Gx.a (by kernel_rfl) fun K hK => ?_
    simp only [XU, XA]
    refine hK _ ?_
    clear hK
    refine XWP.block ?_
    refine XWP.loopD 0 (fun q s => ∃ (k : Nat) (V2 : View) (H2 : Heap) (sv : Value) (cells : List Value), StIs (fun Z => [.v (.slice (some ⟨bL, oL, none⟩) L.length cL), .v (.slice A2 p.length c2), Z 2,Z 3,Z 4, .v sv, Z 6,Z 7,Z 8,Z 9,Z 10,Z 11,Z 12,Z 13,Z 14,Z 15,Z 16, .v (.slice (some ⟨bL, oL, none⟩) L.length cL), .v (.int .i64 (L.length : Int)), .v (.int .i64 (k : Int)), Z 20,Z 21,Z 22,Z 23,Z 24,Z 25,Z 26,Z 27,Z 28,Z 29,Z 30,Z 31,Z 32,Z 33,Z 34,Z 35,Z 36,Z 37,Z 38,Z 39,Z 40,Z 41,Z 42,Z 43,Z 44,Z 45,Z 46,Z 47,Z 48,Z 49,Z 50,Z 51,Z 52,Z 53,Z 54,Z 55,Z 56,Z 57,Z 58,Z 59,Z 60,Z 61,Z 62,Z 63,Z 64,Z 65,Z 66,Z 67,Z 68,Z 69,Z 70,Z 71,Z 72,Z 73,Z 74,Z 75,Z 76,Z 77,Z 78,Z 79,Z 80,Z 81,Z 82,Z 83,Z 84,Z 85,Z 86,Z 87,Z 88,Z 89,Z 90,Z 91,Z 92,Z 93,Z 94,Z 95,Z 96,Z 97,Z 98,Z 99,Z 100,Z 101,Z 102,Z 103,Z 104,Z 105,Z 106,Z 107,Z 108,Z 109,Z 110,Z 111,Z 112,Z 113,Z 114,Z 115,Z 116,Z 117,Z 118,Z 119,Z 120,Z 121,Z 122]) [] H2 V2 s ∧ q + k = L.length ∧ V.le V2 ∧ Own H2 51 9 sv (withL (L.take k) p).length cells ∧ RowK 9 rnE V2 cells (withL (L.take k) p)) L.length ⟨0, V, _, _, [], StIs.of (by exact rfl), by omega, View.le_refl _, own_nil, RowK.nil V⟩ ?_
    rintro q s ⟨k, V2, H2, sv, cells, hs, hq, hV2, ho, hr⟩
    obtain ⟨z, rfl⟩ := hs.out
    try dsimp only
    clear hs
    by_cases hk : k < L.length
    rotate_left
    · obtain rfl : k = L.length := by omega
      have bt1 : decide (((L.length : Nat) : Int) < ((L.length : Nat) : Int)) = false := decide_eq_false (by omega)
      refine Gx.a (by kernel_rfl) fun K hK => ?_
      simp only [XA, XB, bt1]
      refine hK _ ?_
      refine XWP.seq (Gx.f rfl ?_)
      refine XWP.exit ?_
      rw [List.take_length] at ho hr
      exact fun f => ⟨V2, H2, sv, cells, StIs.of (by exact rfl), hV2, ho, hr⟩
    have bt1 : decide ((k : Int) < (L.length : Int)) = true := decide_eq_true (by omega)
    refine Gx.a (by kernel_rfl) fun K hK => ?_
    simp only [XA, XB, bt1]
    refine hK _ ?_
    refine XWP.seq (Gx.t rfl ?_)
    refine XWP.skip ?_
    obtain ⟨r, hrk⟩ : ∃ r, L[k]? = some r := ⟨_, List.getElem?_eq_getElem hk⟩
    have er : L[k] = r := (List.getElem?_eq_some_iff.1 hrk).2
    have hrL : r ∈ L := List.mem_of_getElem? hrk
    have h2 := h.mono rnE_ok hV2
    obtain ⟨cs, hcs, hcell⟩ := SlK.get h2 k hk
    rw [er] at hcs
    have hcsE := hcs
    obtain ⟨v0, v1, v2, v3, v4, dv, v6, v7, v8, rfl, hdsr⟩ := rn_draws hcs
    obtain ⟨A1, q1, rfl, _, _⟩ := hdsr.form
    have hWk : (withL (L.take k) p).length ≤ 100 := by
      have := List.length_filter_le (begB p) (L.take k)
      rw [List.length_take] at this
      unfold withL
      omega
    have etk : withL (L.take (k + 1)) p = withL (L.take k) p ++ if begB p r = true then [r] else [] := by
      unfold withL
      rw [List.take_add_one, hrk, Option.toList_some, List.filter_append]
      cases hb : begB p r <;> simp [hb]
    refine XWP.cutD 0 (fun s => ∃ (V3 : View) (H3 : Heap) (sv : Value) (cells : List Value), StIs (fun Z => [.v (.slice (some ⟨bL, oL, none⟩) L.length cL), .v (.slice A2 p.length c2), Z 2,Z 3,Z 4, .v sv, Z 6,Z 7,Z 8,Z 9,Z 10,Z 11,Z 12,Z 13,Z 14,Z 15,Z 16, .v (.slice (some ⟨bL, oL, none⟩) L.length cL), .v (.int .i64 (L.length : Int)), .v (.int .i64 (k : Int)), Z 20,Z 21,Z 22,Z 23,Z 24,Z 25,Z 26,Z 27,Z 28,Z 29,Z 30,Z 31,Z 32,Z 33,Z 34,Z 35,Z 36,Z 37,Z 38,Z 39,Z 40,Z 41,Z 42,Z 43,Z 44,Z 45,Z 46,Z 47,Z 48,Z 49,Z 50,Z 51,Z 52,Z 53,Z 54,Z 55,Z 56,Z 57,Z 58,Z 59,Z 60,Z 61,Z 62,Z 63,Z 64,Z 65,Z 66,Z 67,Z 68,Z 69,Z 70,Z 71,Z 72,Z 73,Z 74,Z 75,Z 76,Z 77,Z 78,Z 79,Z 80,Z 81,Z 82,Z 83,Z 84,Z 85,Z 86,Z 87,Z 88,Z 89,Z 90,Z 91,Z 92,Z 93,Z 94,Z 95,Z 96,Z 97,Z 98,Z 99,Z 100,Z 101,Z 102,Z 103,Z 104,Z 105,Z 106,Z 107,Z 108,Z 109,Z 110,Z 111,Z 112,Z 113,Z 114,Z 115,Z 116,Z 117,Z 118,Z 119,Z 120,Z 121,Z 122]) [] H3 V3 s ∧ V.le V3 ∧ Own H3 51 9 sv (withL (L.take (k + 1)) p).length cells ∧ RowK 9 rnE V3 cells (withL (L.take (k + 1)) p)) ?_ ?_
    rotate_left
    · rintro s ⟨V3, H3, sv, cells, hs, hV3, ho, hr⟩
      obtain ⟨z, rfl⟩ := hs.out
      try dsimp only
      clear hs
      refine Gx.c (by kernel_rfl) fun K hK => ?_
      simp only [XA, XB, i64_succ k (by omega)]
      exact hK _ ⟨q - 1, by omega, fun f => ⟨k + 1, V3, H3, sv, cells, StIs.of (by exact rfl), by omega, hV3, ho, hr⟩⟩
    clear hK
    refine XWP.block ?_
    refine Gx.a (by kernel_rfl) fun K hK => ?_
    simp only [XU, XA]
    refine ⟨by omega, by omega, ld_mem (loadsK shapeT_51 rfl fun j u hj => hcell _ j u hj) ?_⟩
    simp only [XU, XA]
    refine st_whole (cs := [v0, v1, v2, v3, v4, .slice A1 r.ds.length q1, v6, v7, v8]) shapeT_51 rfl rfl rfl hcsE.2.1 ?_
    simp only [XA]
    refine hK _ ?_
    refine Gx.a (by kernel_rfl) fun K hK => ?_
    simp only [XU, XA, Nat.reduceAdd, Nat.reduceLeDiff, ↓reduceIte]
    refine call_go (by kernel_rfl) rfl (rbegins_c _ _ r _ p hcsE (hp.mono drE_ok hV2) (hds r hrL)) fun v3 V3 hV3 h3 => ?_
    subst h3
    cases hb : begB p r
    · simp only [XA]
      refine hK _ ?_
      refine Gx.f rfl ?_
      refine XWP.skip ?_
      rw [etk, hb]
      simp only [Bool.false_eq_true, if_false, List.append_nil]
      exact fun f => ⟨V3, H2, sv, cells, StIs.of (by exact rfl), View.le_trans hV2 hV3, ho, hr.mono rnE_ok hV3⟩
    · simp only [XA]
      refine hK _ ?_
      refine Gx.t rfl ?_
      refine Gx.c (by kernel_rfl) fun K hK => ?_
      simp only [XU, XA, Nat.reduceAdd, Nat.reduceLeDiff, ↓reduceIte]
      refine bs_go (by kernel_rfl) #[(0, .agg ([v0, v1, v2, v3, v4, .slice A1 r.ds.length q1, v6, v7, v8] : List Value).toArray)] (by simp [ev_tmp, SV.val]) (bs_agg elemT_22 zeroT_51 rfl (by omega) (by omega) rfl) fun bq hbq1 hbq2 => ?_
      simp only [XA, Nat.reduceAdd]
      refine ap_go elemT_22 (by kernel_rfl) zeroT_51 rfl (by omega) (own_upd ho hbq1) (srcK (upd_at _ _ _) hcsE.2.1) (by omega) (by omega) fun v' H' hres => ?_
      simp only [XA]
      rw [hb, if_pos rfl] at etk
      refine hK _ fun f => ⟨V3, H', v', _, StIs.of (by exact rfl), View.le_trans hV2 hV3, ?_, by rw [etk]; exact (hr.mono rnE_ok hV3).snoc (hcsE.mono rnE_ok hV3)⟩
      rw [etk, List.length_append, List.length_singleton]
      exact hres.1
  rintro s ⟨V2, H2, sv, cells, hs, hV2, ho, hr⟩
  obtain ⟨z, rfl⟩ := hs.out
  try dsimp only
  clear hs
  have hWL : ∀ r ∈ withL L p, r ∈ L ∧ p.length ≤ r.ds.length := fun r hr => by
    unfold withL at hr
    rw [List.mem_filter] at hr
    exact ⟨hr.1, (begB_iff.1 hr.2).1⟩
  have hWl : (withL L p).length ≤ 100 := by
    have := List.length_filter_le (begB p) L
    unfold withL
    omega
  have ePB : partsB L p = partsW (withL L p) p.length := rfl
  rw [ePB]
  generalize withL L p = W at *
  refine XWP.pubK rnE_ok (by omega) ho hr fun H3 V3 hV3 hW _ => ?_
  have hV03 := View.le_trans hV2 hV3
  clear ho hr
  obtain ⟨AW, cW, rfl, _, _⟩ := hW.form
  obtain ⟨bW, oW, rfl⟩ := SlK.addr hW h0
  obtain ⟨r0, hr0⟩ : ∃ r, W[0]? = some r := ⟨_, List.getElem?_eq_getElem h0⟩
  have e0 : W[0] = r0 := (List.getElem?_eq_some_iff.1 hr0).2
  obtain ⟨cs0, hcs0, hcell0⟩ := SlK.get hW 0 h0
  rw [e0] at hcs0
  obtain ⟨u0, u1, u2, u3, u4, dv0, u6, u7, u8, rfl, hds0⟩ := rn_draws hcs0
  obtain ⟨A0, q0, rfl, _, _⟩ := hds0.form
  have hd0cell : ∀ H, CellAt H V3 bW (oW + 5) (.slice A0 r0.ds.length q0) := fun H => by
    have := hcell0 H 5 _ rfl
    rw [Nat.zero_mul, Nat.add_zero] at this
    exact this
  have y0 := fun H => loads1 (H := H) shapeT_45 (hd0cell H)
  refine Gx.a (by kernel_rfl) fun K hK => ?_
  simp only [XU, XA]
  refine hK _ ?_
  refine XWP.cut (fun s => StIs (fun Z => [.v (.slice (some ⟨bL, oL, none⟩) L.length cL), .v (.slice A2 p.length c2), Z 2,Z 3,Z 4, .v (.slice (some ⟨bW, oW, none⟩) W.length cW), Z 6,Z 7, .v (.int .i64 (p.length : Int)), Z 9,Z 10,Z 11,Z 12,Z 13,Z 14,Z 15,Z 16,Z 17,Z 18,Z 19,Z 20,Z 21,Z 22,Z 23,Z 24,Z 25,Z 26,Z 27,Z 28,Z 29,Z 30,Z 31,Z 32,Z 33,Z 34,Z 35,Z 36,Z 37,Z 38,Z 39,Z 40,Z 41,Z 42,Z 43,Z 44,Z 45,Z 46,Z 47,Z 48,Z 49,Z 50,Z 51,Z 52,Z 53,Z 54,Z 55,Z 56,Z 57,Z 58,Z 59,Z 60,Z 61,Z 62,Z 63,Z 64,Z 65,Z 66,Z 67,Z 68,Z 69,Z 70,Z 71,Z 72,Z 73,Z 74,Z 75,Z 76,Z 77,Z 78,Z 79,Z 80,Z 81,Z 82,Z 83,Z 84,Z 85,Z 86,Z 87,Z 88,Z 89,Z 90,Z 91,Z 92,Z 93,Z 94,Z 95,Z 96,Z 97,Z 98,Z 99,Z 100,Z 101,Z 102,Z 103,Z 104,Z 105,Z 106,Z 107,Z 108,Z 109,Z 110,Z 111,Z 112,Z 113,Z 114,Z 115,Z 116,Z 117,Z 118,Z 119,Z 120,Z 121,Z 122]) [] H3 V3 s ∧ ¬ (W.length = 1 ∧ (W[0]?).map (·.ds.length) = some p.length)) ?_ ?_
  · by_cases h1 : W.length = 1
    · have b1 : decide ((W.length : Int) = 1) = true := decide_eq_true (by omega)
      by_cases h2 : r0.ds.length = p.length
      · have b2 : decide ((r0.ds.length : Int) = (p.length : Int)) = true := decide_eq_true (by omega)
        refine Gx.a (by kernel_rfl) fun K hK => ?_
        simp only [XU, XA, XB, gateX, Nat.reduceMul, ↓reduceIte, Int.reduceLE, beq_self_eq_true, b1]
        refine ⟨by omega, ld_mem (y0 _) ?_⟩
        simp only [XU, XA, XB, gateX, ↓reduceIte, beq_self_eq_true, b2]
        refine hK _ ?_
        refine Gx.t rfl ?_
        refine Gx.a (by kernel_rfl) fun K hK => ?_
        simp only [XA]
        refine hK _ (XWP.ret ?_)
        try simp only [thenX_ret, inBlockX_ret]
        refine ret_go _ rfl ?_
        unfold partsW
        rw [if_pos ⟨h1, by rw [hr0, ← h2]; rfl⟩]; rfl
      · have b2 : decide ((r0.ds.length : Int) = (p.length : Int)) = false := decide_eq_false (by omega)
        refine Gx.a (by kernel_rfl) fun K hK => ?_
        simp only [XU, XA, XB, gateX, Nat.reduceMul, ↓reduceIte, Int.reduceLE, beq_self_eq_true, b1]
        refine ⟨by omega, ld_mem (y0 _) ?_⟩
        simp only [XU, XA, XB, gateX, ↓reduceIte, beq_self_eq_true, b2]
        refine hK _ ?_
        refine Gx.f rfl ?_
        refine XWP.skip ?_
        exact ⟨StIs.of (by exact rfl), fun e => h2 (by have := e.2; rw [hr0] at this; simpa using this)⟩
    · have b1 : decide ((W.length : Int) = 1) = false := decide_eq_false (by omega)
      refine Gx.a (by kernel_rfl) fun K hK => ?_
      simp only [XU, XA, XB, gateX, ↓reduceIte, b1]
      refine hK _ ?_
      refine Gx.f rfl ?_
      refine XWP.skip ?_
      exact ⟨StIs.of (by exact rfl), fun e => h1 e.1⟩
  rintro s ⟨hs, hn1⟩
  obtain ⟨z, rfl⟩ := hs.out
  try dsimp only
  clear hs
  refine Gx.a (by kernel_rfl) fun K hK => ?_
  simp only [XA]
  refine hK _ ?_
  refine Gx.a (by kernel_rfl) fun K hK => ?_
  simp only [XA]
  refine hK _ ?_
  refine XWP.cutD 0 (fun s => ∃ (met : List Dr) (odds : Int) (H4 : Heap), StIs (fun Z => [.v (.slice (some ⟨bL, oL, none⟩) L.length cL), .v (.slice A2 p.length c2), Z 2,Z 3,Z 4, .v (.slice (some ⟨bW, oW, none⟩) W.length cW), Z 6,Z 7, .v (.int .i64 (p.length : Int)), Z 9, .v (.int .i64 odds), Z 11,Z 12,Z 13,Z 14,Z 15,Z 16,Z 17,Z 18,Z 19,Z 20,Z 21,Z 22,Z 23,Z 24,Z 25,Z 26,Z 27,Z 28,Z 29,Z 30,Z 31,Z 32,Z 33,Z 34,Z 35,Z 36,Z 37,Z 38,Z 39,Z 40,Z 41,Z 42,Z 43,Z 44,Z 45,Z 46,Z 47,Z 48,Z 49,Z 50,Z 51,Z 52,Z 53,Z 54,Z 55,Z 56,Z 57,Z 58,Z 59,Z 60,Z 61,Z 62,Z 63,Z 64,Z 65,Z 66,Z 67,Z 68,Z 69,Z 70,Z 71,Z 72,Z 73,Z 74,Z 75,Z 76,Z 77,Z 78,Z 79,Z 80,Z 81,Z 82,Z 83,Z 84,Z 85,Z 86,Z 87,Z 88,Z 89,Z 90,Z 91,Z 92,Z 93,Z 94,Z 95,Z 96,Z 97,Z 98,Z 99,Z 100,Z 101,Z 102,Z 103,Z 104,Z 105,Z 106,Z 107,Z 108,Z 109,Z 110,Z 111,Z 112,Z 113,Z 114,Z 115,Z 116,Z 117,Z 118,Z 119,Z 120,Z 121,Z 122]) [] H4 V3 s ∧ metI W p.length W.length = some (met, odds)) ?_ ?_
  · refine Gx.a (by kernel_rfl) fun K hK => ?_
    simp only [XU, XA]
    refine hK _ ?_
    clear hK
    refine XWP.block ?_
    refine XWP.loopD 0 (fun q s => ∃ (k : Nat) (met : List Dr) (odds : Int) (mv : Value) (H4 : Heap), StIs (fun Z => [.v (.slice (some ⟨bL, oL, none⟩) L.length cL), .v (.slice A2 p.length c2), Z 2,Z 3,Z 4, .v (.slice (some ⟨bW, oW, none⟩) W.length cW), Z 6,Z 7, .v (.int .i64 (p.length : Int)), .v mv, .v (.int .i64 odds), Z 11,Z 12,Z 13,Z 14,Z 15,Z 16,Z 17,Z 18,Z 19,Z 20,Z 21,Z 22,Z 23,Z 24,Z 25,Z 26,Z 27,Z 28,Z 29,Z 30,Z 31,Z 32,Z 33,Z 34,Z 35,Z 36,Z 37,Z 38,Z 39,Z 40,Z 41,Z 42,Z 43,Z 44, .v (.slice (some ⟨bW, oW, none⟩) W.length cW), .v (.int .i64 (W.length : Int)), .v (.int .i64 (k : Int)), Z 48,Z 49,Z 50,Z 51,Z 52,Z 53,Z 54,Z 55,Z 56,Z 57,Z 58,Z 59,Z 60,Z 61,Z 62,Z 63,Z 64,Z 65,Z 66,Z 67,Z 68,Z 69,Z 70,Z 71,Z 72,Z 73,Z 74,Z 75,Z 76,Z 77,Z 78,Z 79,Z 80,Z 81,Z 82,Z 83,Z 84,Z 85,Z 86,Z 87,Z 88,Z 89,Z 90,Z 91,Z 92,Z 93,Z 94,Z 95,Z 96,Z 97,Z 98,Z 99,Z 100,Z 101,Z 102,Z 103,Z 104,Z 105,Z 106,Z 107,Z 108,Z 109,Z 110,Z 111,Z 112,Z 113,Z 114,Z 115,Z 116,Z 117,Z 118,Z 119,Z 120,Z 121,Z 122]) [] H4 V3 s ∧ q + k = W.length ∧ metI W p.length k = some (met, odds) ∧ metMem H4 V3 mv met ∧ met.length ≤ k ∧ 0 ≤ odds ∧ odds ≤ 64000 * k) W.length ⟨0, [], 0, _, _, StIs.of (by exact rfl), by omega, rfl, metMem.nil _ _, by simp, by omega, by omega⟩ ?_
    rintro q s ⟨k, met, odds, mv, H4, hs, hq, hmet, hmm, hml, ho1, ho2⟩
    obtain ⟨z, rfl⟩ := hs.out
    try dsimp only
    clear hs
    by_cases hk : k < W.length
    rotate_left
    · obtain rfl : k = W.length := by omega
      have bt1 : decide (((W.length : Nat) : Int) < ((W.length : Nat) : Int)) = false := decide_eq_false (by omega)
      refine Gx.a (by kernel_rfl) fun K hK => ?_
      simp only [XA, XB, bt1]
      refine hK _ ?_
      refine XWP.seq (Gx.f rfl ?_)
      refine XWP.exit ?_
      exact fun f => ⟨met, odds, H4, StIs.of (by exact rfl), hmet⟩
    have bt1 : decide ((k : Int) < (W.length : Int)) = true := decide_eq_true (by omega)
    refine Gx.a (by kernel_rfl) fun K hK => ?_
    simp only [XA, XB, bt1]
    refine hK _ ?_
    refine XWP.seq (Gx.t rfl ?_)
    refine XWP.skip ?_
    obtain ⟨r, hrk⟩ : ∃ r, W[k]? = some r := ⟨_, List.getElem?_eq_getElem hk⟩
    have er : W[k] = r := (List.getElem?_eq_some_iff.1 hrk).2
    have hrW := hWL r (List.mem_of_getElem? hrk)
    have hgr := hg r hrW.1
    have hlr := hds r hrW.1
    obtain ⟨cs, hcs, hcell⟩ := SlK.get hW k hk
    rw [er] at hcs
    have hcsE := hcs
    obtain ⟨v0, v1, v2, v3, v4, dv, v6, v7, v8, rfl, hdsr⟩ := rn_draws hcs
    obtain ⟨A1, q1, rfl, _, _⟩ := hdsr.form
    have hstep := metI_succ hmet hrk
    refine XWP.cutD 0 (fun s => ∃ (met : List Dr) (odds : Int) (mv : Value) (H4 : Heap), StIs (fun Z => [.v (.slice (some ⟨bL, oL, none⟩) L.length cL), .v (.slice A2 p.length c2), Z 2,Z 3,Z 4, .v (.slice (some ⟨bW, oW, none⟩) W.length cW), Z 6,Z 7, .v (.int .i64 (p.length : Int)), .v mv, .v (.int .i64 odds), Z 11,Z 12,Z 13,Z 14,Z 15,Z 16,Z 17,Z 18,Z 19,Z 20,Z 21,Z 22,Z 23,Z 24,Z 25,Z 26,Z 27,Z 28,Z 29,Z 30,Z 31,Z 32,Z 33,Z 34,Z 35,Z 36,Z 37,Z 38,Z 39,Z 40,Z 41,Z 42,Z 43,Z 44, .v (.slice (some ⟨bW, oW, none⟩) W.length cW), .v (.int .i64 (W.length : Int)), .v (.int .i64 (k : Int)), Z 48,Z 49,Z 50,Z 51,Z 52,Z 53,Z 54,Z 55,Z 56,Z 57,Z 58,Z 59,Z 60,Z 61,Z 62,Z 63,Z 64,Z 65,Z 66,Z 67,Z 68,Z 69,Z 70,Z 71,Z 72,Z 73,Z 74,Z 75,Z 76,Z 77,Z 78,Z 79,Z 80,Z 81,Z 82,Z 83,Z 84,Z 85,Z 86,Z 87,Z 88,Z 89,Z 90,Z 91,Z 92,Z 93,Z 94,Z 95,Z 96,Z 97,Z 98,Z 99,Z 100,Z 101,Z 102,Z 103,Z 104,Z 105,Z 106,Z 107,Z 108,Z 109,Z 110,Z 111,Z 112,Z 113,Z 114,Z 115,Z 116,Z 117,Z 118,Z 119,Z 120,Z 121,Z 122]) [] H4 V3 s ∧ metI W p.length (k + 1) = some (met, odds) ∧ metMem H4 V3 mv met ∧ met.length ≤ k + 1 ∧ 0 ≤ odds ∧ odds ≤ 64000 * (k + 1 : Nat)) ?_ ?_
    rotate_left
    · rintro s ⟨met, odds, mv, H4, hs, hmet, hmm, hml, ho1, ho2⟩
      obtain ⟨z, rfl⟩ := hs.out
      try dsimp only
      clear hs
      refine Gx.c (by kernel_rfl) fun K hK => ?_
      simp only [XA, XB, i64_succ k (by omega)]
      exact hK _ ⟨q - 1, by omega, fun f => ⟨k + 1, met, odds, mv, H4, StIs.of (by exact rfl), by omega, hmet, hmm, hml, ho1, ho2⟩⟩
    clear hK
    refine XWP.block ?_
    refine Gx.a (by kernel_rfl) fun K hK => ?_
    simp only [XU, XA]
    refine ⟨by omega, by omega, ld_mem (loadsK shapeT_51 rfl fun j u hj => hcell _ j u hj) ?_⟩
    simp only [XU, XA]
    refine st_whole (cs := [v0, v1, v2, v3, v4, .slice A1 r.ds.length q1, v6, v7, v8]) shapeT_51 rfl rfl rfl hcsE.2.1 ?_
    simp only [XA]
    refine hK _ ?_
    refine XWP.seq ?_
    by_cases hlen : r.ds.length = p.length
    · have b3 : decide ((r.ds.length : Int) = (p.length : Int)) = true := decide_eq_true (by omega)
      refine Gx.a (by kernel_rfl) fun K hK => ?_
      simp only [XU, XA, XB, b3]
      refine hK _ ?_
      refine Gx.t rfl ?_
      refine Gx.a (by kernel_rfl) fun K hK => ?_
      simp only [XA]
      refine hK _ (XWP.ret ?_)
      try simp only [thenX_ret, inBlockX_ret]
      refine ret_go _ rfl ?_
      have : metI W p.length (k + 1) = none := by
        rw [hstep]
        unfold metStep
        rw [List.getElem?_eq_none (by omega)]
      rw [partsW_none hk hn1 this]; rfl
    have b3 : decide ((r.ds.length : Int) = (p.length : Int)) = false := decide_eq_false (by omega)
    refine Gx.a (by kernel_rfl) fun K hK => ?_
    simp only [XU, XA, XB, b3]
    refine hK _ ?_
    refine Gx.f rfl ?_
    refine XWP.skip ?_
    obtain ⟨d, hd⟩ : ∃ d, r.ds[p.length]? = some d := ⟨_, List.getElem?_eq_getElem (by omega)⟩
    obtain ⟨b1, o1, c1, eq1, hdc⟩ := dr_get hdsr hd
    cases eq1
    have hstep2 : metI W p.length (k + 1) = if met.any (metBad d) then none else if met.any (fun x => decide (x.index = d.index)) then some (met, odds) else some (met ++ [d], odds + d.odds) := by
      rw [hstep]
      unfold metStep
      rw [hd]
    have hgd := hgr d (List.mem_of_getElem? hd)
    refine Gx.a (by kernel_rfl) fun K hK => ?_
    simp only [XU, XA]
    refine ⟨by omega, by omega, ld_mem (loadsK (cs := d.cells) shapeT_66 rfl fun j u hj => ?_) ?_⟩
    · match j, hj with
      | 0, hj => cases hj; exact (hdc _).1
      | 1, hj => cases hj; exact (hdc _).2.1
      | 2, hj => cases hj; exact (hdc _).2.2.1
      | 3, hj => cases hj; exact (hdc _).2.2.2
    simp only [XU, XA]
    refine st_whole (cs := [.int .i64 d.site, .int .i64 d.index, .int .i64 d.odds, .int .i64 d.whole]) shapeT_66 rfl rfl rfl rfl ?_
    simp only [XA]
    refine hK _ ?_
    refine Gx.a (by kernel_rfl) fun K hK => ?_
    simp only [XA]
    refine hK _ ?_
    obtain ⟨AM, cM, rfl⟩ := hmm.form
    refine XWP.cutD 2 (fun s => StIs (fun Z => [.v (.slice (some ⟨bL, oL, none⟩) L.length cL), .v (.slice A2 p.length c2), Z 2,Z 3,Z 4, .v (.slice (some ⟨bW, oW, none⟩) W.length cW), Z 6,Z 7, .v (.int .i64 (p.length : Int)), .v (.slice AM met.length cM), .v (.int .i64 odds), Z 11, .p 0 0, .p 1 0, .v (.bool (met.any fun x => decide (x.index = d.index))), Z 15,Z 16,Z 17,Z 18,Z 19,Z 20,Z 21,Z 22,Z 23,Z 24,Z 25,Z 26,Z 27,Z 28,Z 29,Z 30,Z 31,Z 32,Z 33,Z 34,Z 35,Z 36,Z 37,Z 38,Z 39,Z 40,Z 41,Z 42,Z 43,Z 44, .v (.slice (some ⟨bW, oW, none⟩) W.length cW), .v (.int .i64 (W.length : Int)), .v (.int .i64 (k : Int)), Z 48,Z 49,Z 50,Z 51,Z 52,Z 53,Z 54,Z 55,Z 56,Z 57,Z 58,Z 59,Z 60,Z 61,Z 62,Z 63,Z 64,Z 65,Z 66,Z 67,Z 68,Z 69,Z 70,Z 71,Z 72,Z 73,Z 74,Z 75,Z 76,Z 77,Z 78,Z 79,Z 80,Z 81,Z 82,Z 83,Z 84,Z 85,Z 86,Z 87,Z 88,Z 89,Z 90,Z 91,Z 92,Z 93,Z 94,Z 95,Z 96,Z 97,Z 98,Z 99,Z 100,Z 101,Z 102,Z 103,Z 104,Z 105,Z 106,Z 107,Z 108,Z 109,Z 110,Z 111,Z 112,Z 113,Z 114,Z 115,Z 116,Z 117,Z 118,Z 119,Z 120,Z 121,Z 122]) [[v0, v1, v2, v3, v4, .slice (some ⟨b1, o1, none⟩) r.ds.length q1, v6, v7, v8], [.int .i64 d.site, .int .i64 d.index, .int .i64 d.odds, .int .i64 d.whole]] H4 V3 s ∧ met.any (metBad d) = false) ?_ ?_
    · refine Gx.a (by kernel_rfl) fun K hK => ?_
      simp only [XU, XA]
      refine hK _ ?_
      clear hK
      refine XWP.block ?_
      refine XWP.loopD 2 (fun n s => ∃ (j : Nat), StIs (fun Z => [.v (.slice (some ⟨bL, oL, none⟩) L.length cL), .v (.slice A2 p.length c2), Z 2,Z 3,Z 4, .v (.slice (some ⟨bW, oW, none⟩) W.length cW), Z 6,Z 7, .v (.int .i64 (p.length : Int)), .v (.slice AM met.length cM), .v (.int .i64 odds), Z 11, .p 0 0, .p 1 0, .v (.bool ((met.take j).any fun x => decide (x.index = d.index))), Z 15,Z 16,Z 17,Z 18,Z 19,Z 20,Z 21,Z 22,Z 23,Z 24,Z 25,Z 26,Z 27,Z 28,Z 29,Z 30,Z 31,Z 32,Z 33,Z 34,Z 35,Z 36,Z 37,Z 38,Z 39,Z 40,Z 41,Z 42,Z 43,Z 44, .v (.slice (some ⟨bW, oW, none⟩) W.length cW), .v (.int .i64 (W.length : Int)), .v (.int .i64 (k : Int)), Z 48,Z 49,Z 50,Z 51,Z 52,Z 53,Z 54,Z 55,Z 56,Z 57,Z 58,Z 59,Z 60, .v (.slice AM met.length cM), .v (.int .i64 (met.length : Int)), .v (.int .i64 (j : Int)), Z 64,Z 65,Z 66,Z 67,Z 68,Z 69,Z 70,Z 71,Z 72,Z 73,Z 74,Z 75,Z 76,Z 77,Z 78,Z 79,Z 80,Z 81,Z 82,Z 83,Z 84,Z 85,Z 86,Z 87,Z 88,Z 89,Z 90,Z 91,Z 92,Z 93,Z 94,Z 95,Z 96,Z 97,Z 98,Z 99,Z 100,Z 101,Z 102,Z 103,Z 104,Z 105,Z 106,Z 107,Z 108,Z 109,Z 110,Z 111,Z 112,Z 113,Z 114,Z 115,Z 116,Z 117,Z 118,Z 119,Z 120,Z 121,Z 122]) [[v0, v1, v2, v3, v4, .slice (some ⟨b1, o1, none⟩) r.ds.length q1, v6, v7, v8], [.int .i64 d.site, .int .i64 d.index, .int .i64 d.odds, .int .i64 d.whole]] H4 V3 s ∧ n + j = met.length ∧ (met.take j).any (metBad d) = false) met.length ⟨0, StIs.of (by exact rfl), by omega, by simp⟩ ?_
      rintro n s ⟨j, hs, hn, hbad⟩
      obtain ⟨y, rfl⟩ := hs.out
      try dsimp only
      clear hs
      by_cases hj : j < met.length
      rotate_left
      · obtain rfl : j = met.length := by omega
        have bt2 : decide (((met.length : Nat) : Int) < ((met.length : Nat) : Int)) = false := decide_eq_false (by omega)
        refine Gx.a (by kernel_rfl) fun K hK => ?_
        simp only [XA, XB, bt2]
        refine hK _ ?_
        refine XWP.seq (Gx.f rfl ?_)
        refine XWP.exit ?_
        rw [List.take_length] at hbad ⊢
        exact fun f => ⟨StIs.of (by exact rfl), hbad⟩
      have bt2 : decide ((j : Int) < (met.length : Int)) = true := decide_eq_true (by omega)
      refine Gx.a (by kernel_rfl) fun K hK => ?_
      simp only [XA, XB, bt2]
      refine hK _ ?_
      refine XWP.seq (Gx.t rfl ?_)
      refine XWP.skip ?_
      obtain ⟨x, hx⟩ : ∃ x, met[j]? = some x := ⟨_, List.getElem?_eq_getElem hj⟩
      have etj : met.take (j + 1) = met.take j ++ [x] := by rw [List.take_add_one, hx]; rfl
      obtain ⟨bM, oM, rfl⟩ := hmm.addr (by omega)
      have hxc := hmm.get hx V3
      refine XWP.cutD 2 (fun s => StIs (fun Z => [.v (.slice (some ⟨bL, oL, none⟩) L.length cL), .v (.slice A2 p.length c2), Z 2,Z 3,Z 4, .v (.slice (some ⟨bW, oW, none⟩) W.length cW), Z 6,Z 7, .v (.int .i64 (p.length : Int)), .v (.slice (some ⟨bM, oM, none⟩) met.length cM), .v (.int .i64 odds), Z 11, .p 0 0, .p 1 0, .v (.bool ((met.take (j + 1)).any fun x => decide (x.index = d.index))), Z 15,Z 16,Z 17,Z 18,Z 19,Z 20,Z 21,Z 22,Z 23,Z 24,Z 25,Z 26,Z 27,Z 28,Z 29,Z 30,Z 31,Z 32,Z 33,Z 34,Z 35,Z 36,Z 37,Z 38,Z 39,Z 40,Z 41,Z 42,Z 43,Z 44, .v (.slice (some ⟨bW, oW, none⟩) W.length cW), .v (.int .i64 (W.length : Int)), .v (.int .i64 (k : Int)), Z 48,Z 49,Z 50,Z 51,Z 52,Z 53,Z 54,Z 55,Z 56,Z 57,Z 58,Z 59,Z 60, .v (.slice (some ⟨bM, oM, none⟩) met.length cM), .v (.int .i64 (met.length : Int)), .v (.int .i64 (j : Int)), Z 64,Z 65,Z 66,Z 67,Z 68,Z 69,Z 70,Z 71,Z 72,Z 73,Z 74,Z 75,Z 76,Z 77,Z 78,Z 79,Z 80,Z 81,Z 82,Z 83,Z 84,Z 85,Z 86,Z 87,Z 88,Z 89,Z 90,Z 91,Z 92,Z 93,Z 94,Z 95,Z 96,Z 97,Z 98,Z 99,Z 100,Z 101,Z 102,Z 103,Z 104,Z 105,Z 106,Z 107,Z 108,Z 109,Z 110,Z 111,Z 112,Z 113,Z 114,Z 115,Z 116,Z 117,Z 118,Z 119,Z 120,Z 121,Z 122]) [[v0, v1, v2, v3, v4, .slice (some ⟨b1, o1, none⟩) r.ds.length q1, v6, v7, v8], [.int .i64 d.site, .int .i64 d.index, .int .i64 d.odds, .int .i64 d.whole]] H4 V3 s ∧ (met.take (j + 1)).any (metBad d) = false) ?_ ?_
      rotate_left
      · rintro s ⟨hs, hbad⟩
        obtain ⟨y, rfl⟩ := hs.out
        try dsimp only
        clear hs
        refine Gx.c (by kernel_rfl) fun K hK => ?_
        simp only [XA, XB, i64_succ j (by omega)]
        exact hK _ ⟨n - 1, by omega, fun f => ⟨j + 1, StIs.of (by exact rfl), by omega, hbad⟩⟩
      clear hK
      refine XWP.block ?_
      refine Gx.a (by kernel_rfl) fun K hK => ?_
      simp only [XU, XA]
      refine ⟨by omega, by omega, ld_mem (loadsK (cs := x.cells) shapeT_66 rfl hxc) ?_⟩
      simp only [XU, XA, Nat.reduceAdd]
      refine st_whole (cs := [.int .i64 x.site, .int .i64 x.index, .int .i64 x.odds, .int .i64 x.whole]) shapeT_66 rfl rfl rfl rfl ?_
      simp only [XA]
      refine hK _ ?_
      have hfin : metBad d x = true → partsW W p.length = false := fun hb => by
        refine partsW_none hk hn1 ?_
        rw [hstep2, if_pos]
        rw [List.any_eq_true]
        exact ⟨x, List.mem_of_getElem? hx, hb⟩
      have hbS : (met.take (j + 1)).any (metBad d) = metBad d x := by
        rw [etj, List.any_append, hbad]; simp
      have hkS : (met.take (j + 1)).any (fun x => decide (x.index = d.index)) = ((met.take j).any (fun x => decide (x.index = d.index)) || decide (x.index = d.index)) := by
        rw [etj, List.any_append]; simp
      rw [hbS, hkS]
      have eBad : metBad d x = (!decide (x.site = d.site) || !decide (x.whole = d.whole) || (decide (x.index = d.index) && !decide (x.odds = d.odds))) := by
        unfold metBad
        simp only [ne_eq, decide_not]
      refine XWP.cut (fun s => StIs (fun Z => [.v (.slice (some ⟨bL, oL, none⟩) L.length cL), .v (.slice A2 p.length c2), Z 2,Z 3,Z 4, .v (.slice (some ⟨bW, oW, none⟩) W.length cW), Z 6,Z 7, .v (.int .i64 (p.length : Int)), .v (.slice (some ⟨bM, oM, none⟩) met.length cM), .v (.int .i64 odds), Z 11, .p 0 0, .p 1 0, .v (.bool ((met.take j).any fun x => decide (x.index = d.index))), Z 15, .p 2 0, Z 17,Z 18,Z 19,Z 20,Z 21,Z 22,Z 23,Z 24,Z 25,Z 26,Z 27,Z 28,Z 29,Z 30,Z 31,Z 32,Z 33,Z 34,Z 35,Z 36,Z 37,Z 38,Z 39,Z 40,Z 41,Z 42,Z 43,Z 44, .v (.slice (some ⟨bW, oW, none⟩) W.length cW), .v (.int .i64 (W.length : Int)), .v (.int .i64 (k : Int)), Z 48,Z 49,Z 50,Z 51,Z 52,Z 53,Z 54,Z 55,Z 56,Z 57,Z 58,Z 59,Z 60, .v (.slice (some ⟨bM, oM, none⟩) met.length cM), .v (.int .i64 (met.length : Int)), .v (.int .i64 (j : Int)), Z 64,Z 65,Z 66,Z 67,Z 68,Z 69,Z 70,Z 71,Z 72,Z 73,Z 74,Z 75,Z 76,Z 77,Z 78,Z 79,Z 80,Z 81,Z 82,Z 83,Z 84,Z 85,Z 86,Z 87,Z 88,Z 89,Z 90,Z 91,Z 92,Z 93,Z 94,Z 95,Z 96,Z 97,Z 98,Z 99,Z 100,Z 101,Z 102,Z 103,Z 104,Z 105,Z 106,Z 107,Z 108,Z 109,Z 110,Z 111,Z 112,Z 113,Z 114,Z 115,Z 116,Z 117,Z 118,Z 119,Z 120,Z 121,Z 122]) [[v0, v1, v2, v3, v4, .slice (some ⟨b1, o1, none⟩) r.ds.length q1, v6, v7, v8], [.int .i64 d.site, .int .i64 d.index, .int .i64 d.odds, .int .i64 d.whole], [.int .i64 x.site, .int .i64 x.index, .int .i64 x.odds, .int .i64 x.whole]] H4 V3 s ∧ metBad d x = false) ?_ ?_
      · cases s1 : decide (x.site = d.site)
        · have e := hfin (by rw [eBad, s1]; rfl)
          refine Gx.a (by kernel_rfl) fun K hK => ?_
          simp only [XU, XA, XB, gateX, ↓reduceIte, s1]
          refine hK _ ?_
          refine Gx.t rfl ?_
          refine Gx.a (by kernel_rfl) fun K hK => ?_
          simp only [XA]
          refine hK _ (XWP.ret ?_)
          try simp only [thenX_ret, inBlockX_ret]
          refine ret_go _ rfl ?_
          rw [e]; rfl
        cases s2 : decide (x.whole = d.whole)
        · have e := hfin (by rw [eBad, s1, s2]; rfl)
          refine Gx.a (by kernel_rfl) fun K hK => ?_
          simp only [XU, XA, XB, gateX, ↓reduceIte, beq_self_eq_true, s1, s2]
          refine hK _ ?_
          refine Gx.t rfl ?_
          refine Gx.a (by kernel_rfl) fun K hK => ?_
          simp only [XA]
          refine hK _ (XWP.ret ?_)
          try simp only [thenX_ret, inBlockX_ret]
          refine ret_go _ rfl ?_
          rw [e]; rfl
        cases s3 : decide (x.index = d.index)
        · refine Gx.a (by kernel_rfl) fun K hK => ?_
          simp only [XU, XA, XB, gateX, ↓reduceIte, beq_self_eq_true, s1, s2, s3]
          refine hK _ ?_
          refine Gx.f rfl ?_
          refine XWP.skip ?_
          exact ⟨StIs.of (by exact rfl), by rw [eBad, s1, s2, s3]; rfl⟩
        cases s4 : decide (x.odds = d.odds)
        · have e := hfin (by rw [eBad, s1, s2, s3, s4]; rfl)
          refine Gx.a (by kernel_rfl) fun K hK => ?_
          simp only [XU, XA, XB, gateX, ↓reduceIte, beq_self_eq_true, s1, s2, s3, s4]
          refine hK _ ?_
          refine Gx.t rfl ?_
          refine Gx.a (by kernel_rfl) fun K hK => ?_
          simp only [XA]
          refine hK _ (XWP.ret ?_)
          try simp only [thenX_ret, inBlockX_ret]
          refine ret_go _ rfl ?_
          rw [e]; rfl
        · refine Gx.a (by kernel_rfl) fun K hK => ?_
          simp only [XU, XA, XB, gateX, ↓reduceIte, beq_self_eq_true, s1, s2, s3, s4]
          refine hK _ ?_
          refine Gx.f rfl ?_
          refine XWP.skip ?_
          exact ⟨StIs.of (by exact rfl), by rw [eBad, s1, s2, s3, s4]; rfl⟩
      rintro s ⟨hs, hbx⟩
      obtain ⟨y, rfl⟩ := hs.out
      try dsimp only
      clear hs
      cases hkn : (met.take j).any (fun x => decide (x.index = d.index))
      · refine Gx.c (by kernel_rfl) fun K hK => ?_
        simp only [XU, XA, XB, gateX, ↓reduceIte, beq_self_eq_true]
        refine hK _ fun f => ⟨StIs.of (by simp only [Bool.false_or]; exact rfl), hbx⟩
      · refine Gx.c (by kernel_rfl) fun K hK => ?_
        simp only [XA, gateX, ↓reduceIte]
        exact hK _ fun f => ⟨StIs.of (by simp only [Bool.true_or]; exact rfl), hbx⟩
    rintro s ⟨hs, hbad⟩
    obtain ⟨y, rfl⟩ := hs.out
    try dsimp only
    clear hs
    rw [hbad, if_neg (by simp)] at hstep2
    cases hkn : met.any (fun x => decide (x.index = d.index))
    · rw [hkn, if_neg (by simp)] at hstep2
      refine Gx.a (by kernel_rfl) fun K hK => ?_
      simp only [XA]
      refine hK _ ?_
      refine Gx.t rfl ?_
      refine Gx.a (by kernel_rfl) fun K hK => ?_
      simp only [XU, XA, Nat.reduceAdd, Nat.reduceLeDiff, ↓reduceIte]
      obtain ⟨mcells, hmo, hmr⟩ := hmm
      refine bs_go (by kernel_rfl) #[(0, .agg ([.int .i64 d.site, .int .i64 d.index, .int .i64 d.odds, .int .i64 d.whole] : List Value).toArray)] (by simp [ev_tmp, SV.val]) (bs_agg elemT_45 zeroT_66 rfl (by omega) (by omega) rfl) fun bq hbq1 hbq2 => ?_
      simp only [XA, Nat.reduceAdd]
      refine ap_go elemT_45 (by kernel_rfl) zeroT_66 rfl (by omega) (own_upd hmo hbq1) (srcK (upd_at _ _ _) rfl) (by omega) (by omega) fun v' H' hres => ?_
      simp only [XA]
      refine hK _ ?_
      obtain ⟨g1, g2, g3, g4⟩ := hgd
      have wo : IntKind.i64.wrap (odds + d.odds) = odds + d.odds := wrap_id (by omega) (by omega)
      refine Gx.c (by kernel_rfl) fun K hK => ?_
      simp only [XU, XA, XB, wo]
      refine hK _ fun f => ⟨met ++ [d], odds + d.odds, v', H', StIs.of (by exact rfl), hstep2, ⟨_, ?_, hmr.snoc ⟨rfl, rfl, rfl⟩⟩, by simp; omega, by omega, by omega⟩
      rw [List.length_append, List.length_singleton]
      exact hres.1
    · rw [hkn, if_pos rfl] at hstep2
      refine Gx.a (by kernel_rfl) fun K hK => ?_
      simp only [XA]
      refine hK _ ?_
      refine Gx.f rfl ?_
      refine XWP.skip ?_
      exact fun f => ⟨met, odds, _, H4, StIs.of (by exact rfl), hstep2, hmm, by omega, by omega, by omega⟩
  rintro s ⟨met, odds, H4, hs, hmet⟩
  obtain ⟨z, rfl⟩ := hs.out
  try dsimp only
  clear hs
  have hlt : p.length < r0.ds.length := by
    refine Classical.byContradiction fun hn => ?_
    have : metI W p.length 1 = none := by
      rw [metI_succ (st := ([], 0)) rfl hr0]
      unfold metStep
      rw [List.getElem?_eq_none (by omega)]
    rw [metI_none this W.length (by omega)] at hmet
    cases hmet
  obtain ⟨d0, hd0⟩ : ∃ d, r0.ds[p.length]? = some d := ⟨_, List.getElem?_eq_getElem hlt⟩
  obtain ⟨b0, o0, c0, eq0, hdc0⟩ := dr_get hds0 hd0
  cases eq0
  have y4 := fun H => loads1 (H := H) shapeT_3 (hdc0 H).2.2.2
  refine Gx.a (by kernel_rfl) fun K hK => ?_
  simp only [XU, XA, Nat.reduceMul, Int.reduceLE]
  refine ⟨by omega, ld_mem (y0 _) ?_⟩
  simp only [XU, XA]
  refine ⟨by omega, by omega, ld_mem (y4 _) ?_⟩
  simp only [XA, XB]
  refine hK _ (XWP.ret ?_)
  try simp only [thenX_ret, inBlockX_ret]
  refine ret_go _ rfl ?_
  unfold partsW
  rw [if_neg hn1, hmet, draw0_at hr0 hd0]; rfl
end Go.Proofs.YtobjjdnfgamgcaaGreat
end
section
namespace Go.Proofs.YtobjjdnfgamgcaaGreat
open Go Go.RowKit
set_option linter.unusedSimpArgs false
set_option linter.unusedVariables false
attribute [local irreducible] XWP Spec SpecO XPub XCall seqX clX apX stX ldX iaX slX
theorem SlK.take {α : Type} {sz : Nat} {E : View → List Value → α → Prop} {V : View} {A : Option Addr} {m c : Nat} {xs : List α} (h : SlK sz E V (.slice A m c) xs) {n : Nat} (hn : n ≤ xs.length) : SlK sz E V (.slice A n c) (xs.take n) := by
  obtain ⟨A', c', e, h1, h2, h3⟩ := h
  cases e
  refine ⟨A, c, by rw [List.length_take, Nat.min_eq_left hn], by rw [List.length_take]; omega, h2, ?_⟩
  rcases h3 with rfl | ⟨b, o, arr, ty, fr, e1, e2, h4⟩
  · exact .inl (by simp)
  · refine .inr ⟨b, o, arr, ty, fr, e1, e2, fun i x hx => h4 i x ?_⟩
    rw [List.getElem?_take] at hx
    split at hx
    · exact hx
    · cases hx
theorem withL_self {L : List Rn} {r : Rn} {n : Nat} (hr : r ∈ L) (hn : n ≤ r.ds.length) : 0 < (withL L (r.ds.take n)).length := by
  refine List.length_pos_of_mem (a := r) ?_
  unfold withL
  rw [List.mem_filter]
  exact ⟨hr, begB_take hn⟩
/-- the reference's answer -/
def downB (l : List Rn) : Bool := l.all fun r => (List.range (r.ds.length + 1)).all fun n => partsB l (r.ds.take n)
theorem right_down {l : List Rn} (h1 : 1 ≤ l.length) (hd : l.all drawsB = true) (hl : ∀ r ∈ l, r.ds.length ≤ 100) : forkB 102 l 0 = downB l := by
  have hgood : ∀ r ∈ l, ∀ d ∈ r.ds, d.good := fun r hr d hd' => by
    have h1 := List.all_eq_true.1 hd r hr
    unfold drawsB at h1
    simp only [Bool.and_eq_true] at h1
    exact (Dr.goodB_iff d).1 (List.all_eq_true.1 h1.1.2 d hd')
  have key := fork_parts 102 l 0 [] rfl (by omega) (fun r _ => by rw [begB_iff]; exact ⟨Nat.zero_le _, rfl⟩) hgood (fun r hr => by have := hl r hr; omega)
  have : downB l = true ↔ ∀ r ∈ l, ∀ n, 0 ≤ n → n ≤ r.ds.length → partsB l (r.ds.take n) = true := by
    unfold downB
    rw [List.all_eq_true]
    constructor
    · intro h r hr n _ hn
      exact List.all_eq_true.1 (h r hr) n (List.mem_range.2 (by omega))
    · intro h r hr
      rw [List.all_eq_true]
      intro n hn
      exact h r hr n (Nat.zero_le _) (by have := List.mem_range.1 hn; omega)
  cases e : forkB 102 l 0 <;> cases e' : downB l
  · rfl
  · rw [key.2 (this.1 e')] at e; cases e
  · rw [this.2 (key.1 e)] at e'; cases e'
  · rfl
theorem rightR_def {l : List Rn} (hl : ∀ r ∈ l, r.ds.length ≤ 100) : rightR l = (decide (1 ≤ l.length) && decide (l.length ≤ 60) && l.all drawsB && downB l) := by
  unfold rightR
  by_cases h1 : 1 ≤ l.length
  · cases hd : l.all drawsB
    · simp
    · rw [right_down h1 hd hl]
  · rw [decide_eq_false h1]; simp
theorem rightR_bad {l : List Rn} {r : Rn} (hr : r ∈ l) (hb : drawsB r = false) : rightR l = false := by
  unfold rightR
  have : l.all drawsB = false := by
    rw [List.all_eq_false]
    exact ⟨r, hr, by rw [hb]; simp⟩
  rw [this]; simp
set_option maxHeartbeats 8000000 in
set_option maxRecDepth 100000 in
theorem kref_right_c (V : View) (v : Value) (l : List Rn) (h : SlK 9 rnE V v l) (f : ∀ r ∈ l, r.fits) (ll : l.length ≤ 1000000) : Spec Tryz.prog 12 [v] V fun v' V' => v' = .bool (rightR l) := by
  have hlen : ∀ r ∈ l, r.ds.length ≤ 100 := fun r hr => (f r hr).1
  obtain ⟨AL, cL, rfl, _, _⟩ := h.form
  refine (Spec.enter Tryz.func12 rfl fun Γ => ?_)
  simp only [Tryz.ntmps12, List.map_cons, List.map_nil, List.length_cons, List.length_nil, Nat.reduceAdd, Nat.reduceSub, List.replicate_succ, List.replicate_zero, List.cons_append, List.nil_append]
  refine Gx.a (by kernel_rfl) fun K hK => ?_
  simp only [XA]
  refine hK _ ?_
  refine XWP.seq ?_
  by_cases h1 : 1 ≤ l.length
  rotate_left
  · have b1 : decide ((l.length : Int) < 1) = true := decide_eq_true (by omega)
    refine Gx.a (by kernel_rfl) fun K hK => ?_
    simp only [XU, XA, XB, gateX, ↓reduceIte, b1]
    refine hK _ ?_
    refine Gx.t rfl ?_
    refine Gx.a (by kernel_rfl) fun K hK => ?_
    simp only [XA]
    refine hK _ (XWP.ret ?_)
    try simp only [thenX_ret, inBlockX_ret]
    refine ret_go _ rfl ?_
    rw [rightR_def hlen, decide_eq_false h1]; rfl
  have b1 : decide ((l.length : Int) < 1) = false := decide_eq_false (by omega)
  by_cases h2 : l.length ≤ 60
  rotate_left
  · have b2 : decide ((60 : Int) < (l.length : Int)) = true := decide_eq_true (by omega)
    refine Gx.a (by kernel_rfl) fun K hK => ?_
    simp only [XU, XA, XB, gateX, ↓reduceIte, beq_self_eq_true, b1, b2]
    refine hK _ ?_
    refine Gx.t rfl ?_
    refine Gx.a (by kernel_rfl) fun K hK => ?_
    simp only [XA]
    refine hK _ (XWP.ret ?_)
    try simp only [thenX_ret, inBlockX_ret]
    refine ret_go _ rfl ?_
    rw [rightR_def hlen, decide_eq_false h2]; simp
    rfl
  have b2 : decide ((60 : Int) < (l.length : Int)) = false := decide_eq_false (by omega)
  refine Gx.a (by kernel_rfl) fun K hK => ?_
  simp only [XU, XA, XB, gateX, ↓reduceIte, beq_self_eq_true, b1, b2]
  refine hK _ ?_
  refine Gx.f rfl ?_
  refine XWP.skip ?_
  obtain ⟨bL, oL, rfl⟩ := SlK.addr h (by omega)
  refine XWP.cutD 0 (fun s => ∃ (V2 : View), StIs (fun Z => [.v (.slice (some ⟨bL, oL, none⟩) l.length cL), Z 1,Z 2,Z 3,Z 4,Z 5,Z 6,Z 7,Z 8,Z 9,Z 10,Z 11,Z 12,Z 13,Z 14,Z 15,Z 16,Z 17,Z 18,Z 19,Z 20,Z 21,Z 22,Z 23,Z 24,Z 25,Z 26,Z 27,Z 28,Z 29,Z 30,Z 31,Z 32,Z 33,Z 34,Z 35,Z 36,Z 37,Z 38,Z 39,Z 40,Z 41,Z 42,Z 43,Z 44,Z 45,Z 46,Z 47,Z 48,Z 49,Z 50,Z 51,Z 52,Z 53,Z 54,Z 55,Z 56,Z 57,Z 58,Z 59,Z 60,Z 61,Z 62,Z 63,Z 64,Z 65,Z 66,Z 67,Z 68,Z 69,Z 70,Z 71,Z 72,Z 73,Z 74,Z 75,Z 76,Z 77,Z 78,Z 79,Z 80,Z 81,Z 82,Z 83,Z 84,Z 85,Z 86,Z 87,Z 88,Z 89,Z 90,Z 91,Z 92,Z 93,Z 94,Z 95,Z 96,Z 97,Z 98,Z 99,Z 100,Z 101,Z 102,Z 103,Z 104,Z 105]) [] (fun _ => none) V2 s ∧ V.le V2 ∧ l.all drawsB = true) ?_ ?_
  · refine Gx.a (by kernel_rfl) fun K hK => ?_
    simp only [XU, XA]
    refine hK _ ?_
    clear hK
    refine XWP.block ?_
    refine XWP.loopD 0 (fun q s => ∃ (k : Nat) (V2 : View), StIs (fun Z => [.v (.slice (some ⟨bL, oL, none⟩) l.length cL), Z 1,Z 2,Z 3,Z 4,Z 5,Z 6,Z 7,Z 8,Z 9,Z 10,Z 11,Z 12,Z 13,Z 14,Z 15,Z 16,Z 17,Z 18,Z 19, .v (.slice (some ⟨bL, oL, none⟩) l.length cL), .v (.int .i64 (l.length : Int)), .v (.int .i64 (k : Int)), Z 23,Z 24,Z 25,Z 26,Z 27,Z 28,Z 29,Z 30,Z 31,Z 32,Z 33,Z 34,Z 35,Z 36,Z 37,Z 38,Z 39,Z 40,Z 41,Z 42,Z 43,Z 44,Z 45,Z 46,Z 47,Z 48,Z 49,Z 50,Z 51,Z 52,Z 53,Z 54,Z 55,Z 56,Z 57,Z 58,Z 59,Z 60,Z 61,Z 62,Z 63,Z 64,Z 65,Z 66,Z 67,Z 68,Z 69,Z 70,Z 71,Z 72,Z 73,Z 74,Z 75,Z 76,Z 77,Z 78,Z 79,Z 80,Z 81,Z 82,Z 83,Z 84,Z 85,Z 86,Z 87,Z 88,Z 89,Z 90,Z 91,Z 92,Z 93,Z 94,Z 95,Z 96,Z 97,Z 98,Z 99,Z 100,Z 101,Z 102,Z 103,Z 104,Z 105]) [] (fun _ => none) V2 s ∧ q + k = l.length ∧ V.le V2 ∧ (l.take k).all drawsB = true) l.length ⟨0, V, StIs.of (by exact rfl), by omega, View.le_refl _, by simp⟩ ?_
    rintro q s ⟨k, V2, hs, hq, hV2, hall⟩
    obtain ⟨z, rfl⟩ := hs.out
    try dsimp only
    clear hs
    by_cases hk : k < l.length
    rotate_left
    · obtain rfl : k = l.length := by omega
      have bt1 : decide (((l.length : Nat) : Int) < ((l.length : Nat) : Int)) = false := decide_eq_false (by omega)
      refine Gx.a (by kernel_rfl) fun K hK => ?_
      simp only [XA, XB, bt1]
      refine hK _ ?_
      refine XWP.seq (Gx.f rfl ?_)
      refine XWP.exit ?_
      rw [List.take_length] at hall
      exact fun f => ⟨V2, StIs.of (by exact rfl), hV2, hall⟩
    have bt1 : decide ((k : Int) < (l.length : Int)) = true := decide_eq_true (by omega)
    refine Gx.a (by kernel_rfl) fun K hK => ?_
    simp only [XA, XB, bt1]
    refine hK _ ?_
    refine XWP.seq (Gx.t rfl ?_)
    refine XWP.skip ?_
    obtain ⟨r, hrk⟩ : ∃ r, l[k]? = some r := ⟨_, List.getElem?_eq_getElem hk⟩
    have er : l[k] = r := (List.getElem?_eq_some_iff.1 hrk).2
    have hrL : r ∈ l := List.mem_of_getElem? hrk
    obtain ⟨hrl, hrf, hrq⟩ := f r hrL
    have h2' := h.mono rnE_ok hV2
    obtain ⟨cs, hcs, hcell⟩ := SlK.get h2' k hk
    rw [er] at hcs
    have hcsE := hcs
    obtain ⟨_, hone, c1, c2, c3, c4, dv, m, c7, c8, rfl, hds, hwr⟩ := hcs
    obtain ⟨A, c, rfl, hc, hm⟩ := hds.form
    have hwr0 : RawAt V2 (.agg #[m, c7, c8]) r.w.m r.w.nd r.w.dd := hwr
    have etk : l.take (k + 1) = l.take k ++ [r] := by rw [List.take_add_one, hrk]; rfl
    refine XWP.cutD 0 (fun s => ∃ (V3 : View), StIs (fun Z => [.v (.slice (some ⟨bL, oL, none⟩) l.length cL), Z 1,Z 2,Z 3,Z 4,Z 5,Z 6,Z 7,Z 8,Z 9,Z 10,Z 11,Z 12,Z 13,Z 14,Z 15,Z 16,Z 17,Z 18,Z 19, .v (.slice (some ⟨bL, oL, none⟩) l.length cL), .v (.int .i64 (l.length : Int)), .v (.int .i64 (k : Int)), Z 23,Z 24,Z 25,Z 26,Z 27,Z 28,Z 29,Z 30,Z 31,Z 32,Z 33,Z 34,Z 35,Z 36,Z 37,Z 38,Z 39,Z 40,Z 41,Z 42,Z 43,Z 44,Z 45,Z 46,Z 47,Z 48,Z 49,Z 50,Z 51,Z 52,Z 53,Z 54,Z 55,Z 56,Z 57,Z 58,Z 59,Z 60,Z 61,Z 62,Z 63,Z 64,Z 65,Z 66,Z 67,Z 68,Z 69,Z 70,Z 71,Z 72,Z 73,Z 74,Z 75,Z 76,Z 77,Z 78,Z 79,Z 80,Z 81,Z 82,Z 83,Z 84,Z 85,Z 86,Z 87,Z 88,Z 89,Z 90,Z 91,Z 92,Z 93,Z 94,Z 95,Z 96,Z 97,Z 98,Z 99,Z 100,Z 101,Z 102,Z 103,Z 104,Z 105]) [] (fun _ => none) V3 s ∧ V.le V3 ∧ drawsB r = true) ?_ ?_
    rotate_left
    · rintro s ⟨V3, hs, hV3, hdr⟩
      obtain ⟨z, rfl⟩ := hs.out
      try dsimp only
      clear hs
      refine Gx.c (by kernel_rfl) fun K hK => ?_
      simp only [XA, XB, i64_succ k (by omega)]
      exact hK _ ⟨q - 1, by omega, fun f => ⟨k + 1, V3, StIs.of (by exact rfl), by omega, hV3, by rw [etk, List.all_append, hall]; simp [hdr]⟩⟩
    clear hK
    refine XWP.block ?_
    refine Gx.a (by kernel_rfl) fun K hK => ?_
    simp only [XU, XA]
    refine ⟨by omega, by omega, ld_mem (loadsK shapeT_51 rfl fun j u hj => hcell _ j u hj) ?_⟩
    simp only [XU, XA]
    refine st_whole (cs := [.int .i64 r.kind, c1, c2, c3, c4, .slice A r.ds.length c, m, c7, c8]) shapeT_51 rfl rfl rfl hcsE.2.1 ?_
    simp only [XA]
    refine hK _ ?_
    refine XWP.cutD 1 (fun s => ∃ (V3 : View), StIs (fun Z => [.v (.slice (some ⟨bL, oL, none⟩) l.length cL), Z 1,Z 2,Z 3, .p 0 0, Z 5,Z 6,Z 7,Z 8,Z 9,Z 10,Z 11,Z 12,Z 13,Z 14,Z 15,Z 16,Z 17,Z 18,Z 19, .v (.slice (some ⟨bL, oL, none⟩) l.length cL), .v (.int .i64 (l.length : Int)), .v (.int .i64 (k : Int)), Z 23,Z 24,Z 25,Z 26,Z 27,Z 28,Z 29,Z 30,Z 31,Z 32,Z 33,Z 34,Z 35,Z 36,Z 37,Z 38,Z 39,Z 40,Z 41,Z 42,Z 43,Z 44,Z 45,Z 46,Z 47,Z 48,Z 49,Z 50,Z 51,Z 52,Z 53,Z 54,Z 55,Z 56,Z 57,Z 58,Z 59,Z 60,Z 61,Z 62,Z 63,Z 64,Z 65,Z 66,Z 67,Z 68,Z 69,Z 70,Z 71,Z 72,Z 73,Z 74,Z 75,Z 76,Z 77,Z 78,Z 79,Z 80,Z 81,Z 82,Z 83,Z 84,Z 85,Z 86,Z 87,Z 88,Z 89,Z 90,Z 91,Z 92,Z 93,Z 94,Z 95,Z 96,Z 97,Z 98,Z 99,Z 100,Z 101,Z 102,Z 103,Z 104,Z 105]) [[.int .i64 r.kind, c1, c2, c3, c4, .slice A r.ds.length c, m, c7, c8]] (fun _ => none) V3 s ∧ V2.le V3 ∧ r.kind = 0 ∧ r.w.ok = true ∧ decide (0 < sgI r.w.q) = true) ?_ ?_
    · by_cases k0 : r.kind = 0
      rotate_left
      · have b1 : (!decide (r.kind = 0)) = true := by rw [decide_eq_false k0]; rfl
        refine Gx.a (by kernel_rfl) fun K hK => ?_
        simp only [XU, XA, XB, gateX, ↓reduceIte, b1]
        refine hK _ ?_
        refine Gx.t rfl ?_
        refine Gx.a (by kernel_rfl) fun K hK => ?_
        simp only [XA]
        refine hK _ (XWP.ret ?_)
        try simp only [thenX_ret, inBlockX_ret]
        refine ret_go _ rfl ?_
        rw [rightR_bad hrL (by unfold drawsB; rw [decide_eq_false k0]; rfl)]; rfl
      have b1 : (!decide (r.kind = 0)) = false := by rw [decide_eq_true k0]; rfl
      refine Gx.a (by kernel_rfl) fun K hK => ?_
      simp only [XU, XA, XB, gateX, Nat.reduceAdd, Nat.reduceLeDiff, ↓reduceIte, beq_self_eq_true, b1]
      refine call_go (by kernel_rfl) rfl (pright_c _ _ r.w.m r.w.nd r.w.dd hwr0 hrf.1 hrf.2) fun v1 V1 hV1 h1 => ?_
      have h1 : v1 = .bool r.w.ok := h1
      subst h1
      cases hok : r.w.ok
      · simp only [XA, gateX, ↓reduceIte, beq_self_eq_true]
        refine hK _ ?_
        refine Gx.t rfl ?_
        refine Gx.a (by kernel_rfl) fun K hK => ?_
        simp only [XA]
        refine hK _ (XWP.ret ?_)
        try simp only [thenX_ret, inBlockX_ret]
        refine ret_go _ rfl ?_
        rw [rightR_bad hrL (by unfold drawsB; rw [hok]; simp)]; rfl
      have hwc : RatC V2 (.agg #[m, c7, c8]) r.w.q := RawAt.rat hwr hok
      simp only [XU, XA, XB, gateX, Nat.reduceAdd, Nat.reduceLeDiff, ↓reduceIte, beq_self_eq_true]
      refine call_go (by kernel_rfl) rfl (psign_c _ _ _ ((hwc.mono hV1).toV (hrq hok))) fun v2 V3 hV3 h2 => ?_
      subst h2
      by_cases hs : 0 < sgI r.w.q
      · have b2 : decide (sgI r.w.q ≤ 0) = false := decide_eq_false (by omega)
        simp only [XA, XB, gateX, ↓reduceIte, beq_self_eq_true, b2]
        refine hK _ ?_
        refine Gx.f rfl ?_
        refine XWP.skip ?_
        exact fun f => ⟨V3, StIs.of (by exact rfl), View.le_trans hV1 hV3, k0, hok, decide_eq_true hs⟩
      · have b2 : decide (sgI r.w.q ≤ 0) = true := decide_eq_true (by omega)
        simp only [XA, XB, gateX, ↓reduceIte, beq_self_eq_true, b2]
        refine hK _ ?_
        refine Gx.t rfl ?_
        refine Gx.a (by kernel_rfl) fun K hK => ?_
        simp only [XA]
        refine hK _ (XWP.ret ?_)
        try simp only [thenX_ret, inBlockX_ret]
        refine ret_go _ rfl ?_
        rw [rightR_bad hrL (by unfold drawsB; rw [decide_eq_false hs]; simp)]; rfl
    rintro s ⟨V3, hs, hV3, k0, hok, hs0⟩
    obtain ⟨z, rfl⟩ := hs.out
    try dsimp only
    clear hs
    have hds3 := hds.mono drE_ok hV3
    refine XWP.cutD 1 (fun s => StIs (fun Z => [.v (.slice (some ⟨bL, oL, none⟩) l.length cL), Z 1,Z 2,Z 3, .p 0 0, Z 5,Z 6,Z 7,Z 8,Z 9,Z 10,Z 11,Z 12,Z 13,Z 14,Z 15,Z 16,Z 17,Z 18,Z 19, .v (.slice (some ⟨bL, oL, none⟩) l.length cL), .v (.int .i64 (l.length : Int)), .v (.int .i64 (k : Int)), Z 23,Z 24,Z 25,Z 26,Z 27,Z 28,Z 29,Z 30,Z 31,Z 32,Z 33,Z 34,Z 35,Z 36,Z 37,Z 38,Z 39,Z 40,Z 41,Z 42,Z 43,Z 44,Z 45,Z 46,Z 47,Z 48,Z 49,Z 50,Z 51,Z 52,Z 53,Z 54,Z 55,Z 56,Z 57,Z 58,Z 59,Z 60,Z 61,Z 62,Z 63,Z 64,Z 65,Z 66,Z 67,Z 68,Z 69,Z 70,Z 71,Z 72,Z 73,Z 74,Z 75,Z 76,Z 77,Z 78,Z 79,Z 80,Z 81,Z 82,Z 83,Z 84,Z 85,Z 86,Z 87,Z 88,Z 89,Z 90,Z 91,Z 92,Z 93,Z 94,Z 95,Z 96,Z 97,Z 98,Z 99,Z 100,Z 101,Z 102,Z 103,Z 104,Z 105]) [[.int .i64 r.kind, c1, c2, c3, c4, .slice A r.ds.length c, m, c7, c8]] (fun _ => none) V3 s ∧ ∀ d ∈ r.ds, d.good) ?_ ?_
    · refine Gx.a (by kernel_rfl) fun K hK => ?_
      simp only [XU, XA]
      refine hK _ ?_
      clear hK
      refine XWP.block ?_
      refine XWP.loopD 1 (fun n s => ∃ (j : Nat), StIs (fun Z => [.v (.slice (some ⟨bL, oL, none⟩) l.length cL), Z 1,Z 2,Z 3, .p 0 0, Z 5,Z 6,Z 7,Z 8,Z 9,Z 10,Z 11,Z 12,Z 13,Z 14,Z 15,Z 16,Z 17,Z 18,Z 19, .v (.slice (some ⟨bL, oL, none⟩) l.length cL), .v (.int .i64 (l.length : Int)), .v (.int .i64 (k : Int)), Z 23,Z 24,Z 25,Z 26,Z 27,Z 28,Z 29,Z 30,Z 31,Z 32,Z 33,Z 34,Z 35,Z 36,Z 37,Z 38,Z 39,Z 40,Z 41,Z 42, .v (.slice A r.ds.length c), .v (.int .i64 (r.ds.length : Int)), .v (.int .i64 (j : Int)), Z 46,Z 47,Z 48,Z 49,Z 50,Z 51,Z 52,Z 53,Z 54,Z 55,Z 56,Z 57,Z 58,Z 59,Z 60,Z 61,Z 62,Z 63,Z 64,Z 65,Z 66,Z 67,Z 68,Z 69,Z 70,Z 71,Z 72,Z 73,Z 74,Z 75,Z 76,Z 77,Z 78,Z 79,Z 80,Z 81,Z 82,Z 83,Z 84,Z 85,Z 86,Z 87,Z 88,Z 89,Z 90,Z 91,Z 92,Z 93,Z 94,Z 95,Z 96,Z 97,Z 98,Z 99,Z 100,Z 101,Z 102,Z 103,Z 104,Z 105]) [[.int .i64 r.kind, c1, c2, c3, c4, .slice A r.ds.length c, m, c7, c8]] (fun _ => none) V3 s ∧ n + j = r.ds.length ∧ ∀ (i : Nat) (d : Dr), r.ds[i]? = some d → i < j → d.good) r.ds.length ⟨0, StIs.of (by exact rfl), by omega, fun j d _ h => by omega⟩ ?_
      rintro n s ⟨j, hs, hn, hg⟩
      obtain ⟨y, rfl⟩ := hs.out
      try dsimp only
      clear hs
      by_cases hj : j < r.ds.length
      rotate_left
      · obtain rfl : j = r.ds.length := by omega
        have b1 : decide (((r.ds.length : Nat) : Int) < ((r.ds.length : Nat) : Int)) = false := decide_eq_false (by omega)
        refine Gx.a (by kernel_rfl) fun K hK => ?_
        simp only [XA, XB, b1]
        refine hK _ ?_
        refine XWP.seq (Gx.f rfl ?_)
        refine XWP.exit ?_
        refine fun f => ⟨StIs.of (by exact rfl), fun d hd => ?_⟩
        obtain ⟨i, hi⟩ := List.getElem?_of_mem hd
        exact hg i d hi (List.getElem?_eq_some_iff.1 hi).1
      have b1 : decide ((j : Int) < (r.ds.length : Int)) = true := decide_eq_true (by omega)
      refine Gx.a (by kernel_rfl) fun K hK => ?_
      simp only [XA, XB, b1]
      refine hK _ ?_
      refine XWP.seq (Gx.t rfl ?_)
      refine XWP.skip ?_
      obtain ⟨b, o, rfl⟩ := SlK.addr hds3 (by omega)
      obtain ⟨dc, ⟨d1, d2, d3⟩, hcellD⟩ := SlK.get hds3 j hj
      have hmem := List.getElem_mem hj
      have hkd : r.ds[j]? = some r.ds[j] := List.getElem?_eq_getElem hj
      have d3 : dc = r.ds[j].cells := d3
      generalize r.ds[j] = d at *
      subst d3
      refine XWP.cutD 1 (fun s => StIs (fun Z => [.v (.slice (some ⟨bL, oL, none⟩) l.length cL), Z 1,Z 2,Z 3, .p 0 0, Z 5,Z 6,Z 7,Z 8,Z 9,Z 10,Z 11,Z 12,Z 13,Z 14,Z 15,Z 16,Z 17,Z 18,Z 19, .v (.slice (some ⟨bL, oL, none⟩) l.length cL), .v (.int .i64 (l.length : Int)), .v (.int .i64 (k : Int)), Z 23,Z 24,Z 25,Z 26,Z 27,Z 28,Z 29,Z 30,Z 31,Z 32,Z 33,Z 34,Z 35,Z 36,Z 37,Z 38,Z 39,Z 40,Z 41,Z 42, .v (.slice (some ⟨b, o, none⟩) r.ds.length c), .v (.int .i64 (r.ds.length : Int)), .v (.int .i64 (j : Int)), Z 46,Z 47,Z 48,Z 49,Z 50,Z 51,Z 52,Z 53,Z 54,Z 55,Z 56,Z 57,Z 58,Z 59,Z 60,Z 61,Z 62,Z 63,Z 64,Z 65,Z 66,Z 67,Z 68,Z 69,Z 70,Z 71,Z 72,Z 73,Z 74,Z 75,Z 76,Z 77,Z 78,Z 79,Z 80,Z 81,Z 82,Z 83,Z 84,Z 85,Z 86,Z 87,Z 88,Z 89,Z 90,Z 91,Z 92,Z 93,Z 94,Z 95,Z 96,Z 97,Z 98,Z 99,Z 100,Z 101,Z 102,Z 103,Z 104,Z 105]) [[.int .i64 r.kind, c1, c2, c3, c4, .slice (some ⟨b, o, none⟩) r.ds.length c, m, c7, c8]] (fun _ => none) V3 s ∧ d.good) ?_ ?_
      rotate_left
      · rintro s ⟨hs, hgd⟩
        obtain ⟨y, rfl⟩ := hs.out
        try dsimp only
        clear hs
        refine Gx.c (by kernel_rfl) fun K hK => ?_
        simp only [XA, XB, i64_succ j (by omega)]
        refine hK _ ⟨n - 1, by omega, fun f => ⟨j + 1, StIs.of (by exact rfl), by omega, fun i e hi hlt => ?_⟩⟩
        by_cases ej : i = j
        · subst ej
          rw [hkd] at hi
          cases hi
          exact hgd
        · exact hg i e hi (by omega)
      clear hK
      refine XWP.block ?_
      refine Gx.a (by kernel_rfl) fun K hK => ?_
      simp only [XU, XA]
      refine ⟨by omega, by omega, ld_mem (loadsK shapeT_66 d1 (hcellD _)) ?_⟩
      simp only [XU, XA]
      refine st_whole (cs := [.int .i64 d.site, .int .i64 d.index, .int .i64 d.odds, .int .i64 d.whole]) shapeT_66 rfl rfl rfl rfl ?_
      simp only [XA]
      refine hK _ ?_
      by_cases y1 : d.index < 0
      · have t1 : decide (d.index < 0) = true := decide_eq_true y1
        refine Gx.a (by kernel_rfl) fun K hK => ?_
        simp only [XU, XA, XB, gateX, ↓reduceIte, t1]
        refine hK _ ?_
        refine Gx.t rfl ?_
        refine Gx.a (by kernel_rfl) fun K hK => ?_
        simp only [XA]
        refine hK _ (XWP.ret ?_)
        try simp only [thenX_ret, inBlockX_ret]
        refine ret_go _ rfl ?_
        rw [rightR_bad hrL (drawsB_bad hmem fun g => by have := g.1; omega)]; rfl
      have t1 : decide (d.index < 0) = false := decide_eq_false y1
      by_cases y2 : d.odds < 1
      · have t2 : decide (d.odds < 1) = true := decide_eq_true y2
        refine Gx.a (by kernel_rfl) fun K hK => ?_
        simp only [XU, XA, XB, gateX, ↓reduceIte, beq_self_eq_true, t1, t2]
        refine hK _ ?_
        refine Gx.t rfl ?_
        refine Gx.a (by kernel_rfl) fun K hK => ?_
        simp only [XA]
        refine hK _ (XWP.ret ?_)
        try simp only [thenX_ret, inBlockX_ret]
        refine ret_go _ rfl ?_
        rw [rightR_bad hrL (drawsB_bad hmem fun g => by have := g.2.1; omega)]; rfl
      have t2 : decide (d.odds < 1) = false := decide_eq_false y2
      by_cases y3 : d.whole < d.odds
      · have t3 : decide (d.whole < d.odds) = true := decide_eq_true y3
        refine Gx.a (by kernel_rfl) fun K hK => ?_
        simp only [XU, XA, XB, gateX, ↓reduceIte, beq_self_eq_true, t1, t2, t3]
        refine hK _ ?_
        refine Gx.t rfl ?_
        refine Gx.a (by kernel_rfl) fun K hK => ?_
        simp only [XA]
        refine hK _ (XWP.ret ?_)
        try simp only [thenX_ret, inBlockX_ret]
        refine ret_go _ rfl ?_
        rw [rightR_bad hrL (drawsB_bad hmem fun g => by have := g.2.2.1; omega)]; rfl
      have t3 : decide (d.whole < d.odds) = false := decide_eq_false y3
      by_cases y4 : 64000 < d.whole
      · have t4 : decide (64000 < d.whole) = true := decide_eq_true y4
        refine Gx.a (by kernel_rfl) fun K hK => ?_
        simp only [XU, XA, XB, gateX, ↓reduceIte, beq_self_eq_true, t1, t2, t3, t4]
        refine hK _ ?_
        refine Gx.t rfl ?_
        refine Gx.a (by kernel_rfl) fun K hK => ?_
        simp only [XA]
        refine hK _ (XWP.ret ?_)
        try simp only [thenX_ret, inBlockX_ret]
        refine ret_go _ rfl ?_
        rw [rightR_bad hrL (drawsB_bad hmem fun g => by have := g.2.2.2; omega)]; rfl
      have t4 : decide (64000 < d.whole) = false := decide_eq_false y4
      refine Gx.a (by kernel_rfl) fun K hK => ?_
      simp only [XU, XA, XB, gateX, ↓reduceIte, beq_self_eq_true, t1, t2, t3, t4]
      refine hK _ ?_
      refine Gx.f rfl ?_
      refine XWP.skip ?_
      exact fun f => ⟨StIs.of (by exact rfl), by omega, by omega, by omega, by omega⟩
    rintro s ⟨hs, hg⟩
    obtain ⟨z, rfl⟩ := hs.out
    try dsimp only
    clear hs
    have hcs3 : ElK 9 rnE V3 [.int .i64 r.kind, c1, c2, c3, c4, .slice A r.ds.length c, m, c7, c8] r := hcsE.mono rnE_ok hV3
    have hwc : RatC V3 (.agg #[m, c7, c8]) r.w.q := (RawAt.rat hwr hok).mono hV3
    refine Gx.a (by kernel_rfl) fun K hK => ?_
    simp only [XU, XA, Nat.reduceAdd, Nat.reduceLeDiff, ↓reduceIte]
    refine call_go (by kernel_rfl) rfl (rprior_c _ _ r hcs3 hrl hg) fun v4 V4 hV4 h4 => ?_
    obtain ⟨w4, rfl, h4⟩ := h4
    obtain ⟨x4, y4, rfl, p1, p2⟩ := h4.form
    simp only [XA, XB]
    refine st_rat rfl rfl rfl p1 p2 ?_
    simp only [XA]
    refine hK _ ?_
    have hqp := (priorQ_QB hg).qf (by omega)
    have eD : drawsB r = decide (sgI (r.w.q - priorQ r.ds) ≤ 0) := by
      unfold drawsB
      rw [decide_eq_true k0, hok, hs0]
      have : r.ds.all Dr.goodB = true := List.all_eq_true.2 fun d hd => (Dr.goodB_iff d).2 (hg d hd)
      rw [this]; simp
    refine Gx.a (by kernel_rfl) fun K hK => ?_
    simp only [XU, XA, XB, gateX, Nat.reduceAdd, Nat.reduceLeDiff, ↓reduceIte, beq_self_eq_true, decide_true]
    refine call_go (by kernel_rfl) rfl (pcompare_c _ _ _ _ _ ((hwc.mono hV4).toV (hrq hok)) (h4.toV hqp) (hrq hok) hqp) fun v5 V5 hV5 h5 => ?_
    subst h5
    by_cases hcmp : 0 < sgI (r.w.q - priorQ r.ds)
    · have b5 : decide (0 < sgI (r.w.q - priorQ r.ds)) = true := decide_eq_true hcmp
      simp only [XA, XB, gateX, ↓reduceIte, beq_self_eq_true, b5]
      refine hK _ ?_
      refine Gx.t rfl ?_
      refine Gx.a (by kernel_rfl) fun K hK => ?_
      simp only [XA]
      refine hK _ (XWP.ret ?_)
      try simp only [thenX_ret, inBlockX_ret]
      refine ret_go _ rfl ?_
      rw [rightR_bad hrL (by rw [eD]; exact decide_eq_false (by omega))]; rfl
    · have b5 : decide (0 < sgI (r.w.q - priorQ r.ds)) = false := decide_eq_false hcmp
      simp only [XA, XB, gateX, ↓reduceIte, beq_self_eq_true, b5]
      refine hK _ ?_
      refine Gx.f rfl ?_
      refine XWP.skip ?_
      exact fun f => ⟨V5, StIs.of (by exact rfl), View.le_trans hV2 (View.le_trans hV3 (View.le_trans hV4 hV5)), by rw [eD]; exact decide_eq_true (by omega)⟩
  rintro s ⟨V2, hs, hV2, hall⟩
  obtain ⟨z, rfl⟩ := hs.out
  try dsimp only
  clear hs
  have hgood : ∀ r ∈ l, ∀ d ∈ r.ds, d.good := fun r hr d hd' => by
    have h1 := List.all_eq_true.1 hall r hr
    unfold drawsB at h1
    simp only [Bool.and_eq_true] at h1
    exact (Dr.goodB_iff d).1 (List.all_eq_true.1 h1.1.2 d hd')
  have eR : rightR l = downB l := by
    rw [rightR_def hlen, decide_eq_true h1, decide_eq_true h2, hall]; simp
  rw [eR]
  have hL2 := h.mono rnE_ok hV2
  refine XWP.cutD 0 (fun s => ∃ (V3 : View), StIs (fun Z => [Z 0,Z 1,Z 2,Z 3,Z 4,Z 5,Z 6,Z 7,Z 8,Z 9,Z 10,Z 11,Z 12,Z 13,Z 14,Z 15,Z 16,Z 17,Z 18,Z 19,Z 20,Z 21,Z 22,Z 23,Z 24,Z 25,Z 26,Z 27,Z 28,Z 29,Z 30,Z 31,Z 32,Z 33,Z 34,Z 35,Z 36,Z 37,Z 38,Z 39,Z 40,Z 41,Z 42,Z 43,Z 44,Z 45,Z 46,Z 47,Z 48,Z 49,Z 50,Z 51,Z 52,Z 53,Z 54,Z 55,Z 56,Z 57,Z 58,Z 59,Z 60,Z 61,Z 62,Z 63,Z 64,Z 65,Z 66,Z 67,Z 68,Z 69,Z 70,Z 71,Z 72,Z 73,Z 74,Z 75,Z 76,Z 77,Z 78,Z 79,Z 80,Z 81,Z 82,Z 83,Z 84,Z 85,Z 86,Z 87,Z 88,Z 89,Z 90,Z 91,Z 92,Z 93,Z 94,Z 95,Z 96,Z 97,Z 98,Z 99,Z 100,Z 101,Z 102,Z 103,Z 104,Z 105]) [] (fun _ => none) V3 s ∧ downB l = true) ?_ ?_
  · refine Gx.a (by kernel_rfl) fun K hK => ?_
    simp only [XU, XA]
    refine hK _ ?_
    clear hK
    refine XWP.block ?_
    refine XWP.loopD 0 (fun q s => ∃ (k : Nat) (V3 : View), StIs (fun Z => [.v (.slice (some ⟨bL, oL, none⟩) l.length cL), Z 1,Z 2,Z 3,Z 4,Z 5,Z 6,Z 7,Z 8,Z 9,Z 10,Z 11,Z 12,Z 13,Z 14,Z 15,Z 16,Z 17,Z 18,Z 19,Z 20,Z 21,Z 22,Z 23,Z 24,Z 25,Z 26,Z 27,Z 28,Z 29,Z 30,Z 31,Z 32,Z 33,Z 34,Z 35,Z 36,Z 37,Z 38,Z 39,Z 40,Z 41,Z 42,Z 43,Z 44,Z 45,Z 46,Z 47,Z 48,Z 49,Z 50,Z 51,Z 52,Z 53,Z 54,Z 55,Z 56,Z 57,Z 58,Z 59,Z 60,Z 61,Z 62,Z 63,Z 64,Z 65,Z 66,Z 67,Z 68,Z 69,Z 70,Z 71,Z 72,Z 73,Z 74,Z 75,Z 76,Z 77,Z 78,Z 79,Z 80,Z 81,Z 82,Z 83,Z 84, .v (.slice (some ⟨bL, oL, none⟩) l.length cL), .v (.int .i64 (l.length : Int)), .v (.int .i64 (k : Int)), Z 88,Z 89,Z 90,Z 91,Z 92,Z 93,Z 94,Z 95,Z 96,Z 97,Z 98,Z 99,Z 100,Z 101,Z 102,Z 103,Z 104,Z 105]) [] (fun _ => none) V3 s ∧ q + k = l.length ∧ V2.le V3 ∧ (l.take k).all (fun r => (List.range (r.ds.length + 1)).all fun n => partsB l (r.ds.take n)) = true) l.length ⟨0, V2, StIs.of (by exact rfl), by omega, View.le_refl _, by simp⟩ ?_
    rintro q s ⟨k, V3, hs, hq, hV3, hdn⟩
    obtain ⟨z, rfl⟩ := hs.out
    try dsimp only
    clear hs
    by_cases hk : k < l.length
    rotate_left
    · obtain rfl : k = l.length := by omega
      have bt1 : decide (((l.length : Nat) : Int) < ((l.length : Nat) : Int)) = false := decide_eq_false (by omega)
      refine Gx.a (by kernel_rfl) fun K hK => ?_
      simp only [XA, XB, bt1]
      refine hK _ ?_
      refine XWP.seq (Gx.f rfl ?_)
      refine XWP.exit ?_
      rw [List.take_length] at hdn
      exact fun f => ⟨V3, StIs.of (by exact rfl), hdn⟩
    have bt1 : decide ((k : Int) < (l.length : Int)) = true := decide_eq_true (by omega)
    refine Gx.a (by kernel_rfl) fun K hK => ?_
    simp only [XA, XB, bt1]
    refine hK _ ?_
    refine XWP.seq (Gx.t rfl ?_)
    refine XWP.skip ?_
    obtain ⟨r, hrk⟩ : ∃ r, l[k]? = some r := ⟨_, List.getElem?_eq_getElem hk⟩
    have er : l[k] = r := (List.getElem?_eq_some_iff.1 hrk).2
    have hrL : r ∈ l := List.mem_of_getElem? hrk
    have hrl := hlen r hrL
    have h3' := hL2.mono rnE_ok hV3
    obtain ⟨cs, hcs, hcell⟩ := SlK.get h3' k hk
    rw [er] at hcs
    have hcsE := hcs
    obtain ⟨_, hone, c1, c2, c3, c4, dv, m, c7, c8, rfl, hds, hwr⟩ := hcs
    obtain ⟨A, c, rfl, hc, hm⟩ := hds.form
    have etk : l.take (k + 1) = l.take k ++ [r] := by rw [List.take_add_one, hrk]; rfl
    refine XWP.cutD 0 (fun s => ∃ (V4 : View), StIs (fun Z => [.v (.slice (some ⟨bL, oL, none⟩) l.length cL), Z 1,Z 2,Z 3,Z 4,Z 5,Z 6,Z 7,Z 8,Z 9,Z 10,Z 11,Z 12,Z 13,Z 14,Z 15,Z 16,Z 17,Z 18,Z 19,Z 20,Z 21,Z 22,Z 23,Z 24,Z 25,Z 26,Z 27,Z 28,Z 29,Z 30,Z 31,Z 32,Z 33,Z 34,Z 35,Z 36,Z 37,Z 38,Z 39,Z 40,Z 41,Z 42,Z 43,Z 44,Z 45,Z 46,Z 47,Z 48,Z 49,Z 50,Z 51,Z 52,Z 53,Z 54,Z 55,Z 56,Z 57,Z 58,Z 59,Z 60,Z 61,Z 62,Z 63,Z 64,Z 65,Z 66,Z 67,Z 68,Z 69,Z 70,Z 71,Z 72,Z 73,Z 74,Z 75,Z 76,Z 77,Z 78,Z 79,Z 80,Z 81,Z 82,Z 83,Z 84, .v (.slice (some ⟨bL, oL, none⟩) l.length cL), .v (.int .i64 (l.length : Int)), .v (.int .i64 (k : Int)), Z 88,Z 89,Z 90,Z 91,Z 92,Z 93,Z 94,Z 95,Z 96,Z 97,Z 98,Z 99,Z 100,Z 101,Z 102,Z 103,Z 104,Z 105]) [] (fun _ => none) V4 s ∧ V2.le V4 ∧ ((List.range (r.ds.length + 1)).all fun n => partsB l (r.ds.take n)) = true) ?_ ?_
    rotate_left
    · rintro s ⟨V4, hs, hV4, hdr⟩
      obtain ⟨z, rfl⟩ := hs.out
      try dsimp only
      clear hs
      refine Gx.c (by kernel_rfl) fun K hK => ?_
      simp only [XA, XB, i64_succ k (by omega)]
      exact hK _ ⟨q - 1, by omega, fun f => ⟨k + 1, V4, StIs.of (by exact rfl), by omega, hV4, by rw [etk, List.all_append, hdn, List.all_cons, List.all_nil, hdr]; rfl⟩⟩
    clear hK
    refine XWP.block ?_
    refine Gx.a (by kernel_rfl) fun K hK => ?_
    simp only [XU, XA]
    refine ⟨by omega, by omega, ld_mem (loadsK shapeT_51 rfl fun j u hj => hcell _ j u hj) ?_⟩
    simp only [XU, XA]
    refine st_whole (cs := [.int .i64 r.kind, c1, c2, c3, c4, .slice A r.ds.length c, m, c7, c8]) shapeT_51 rfl rfl rfl hcsE.2.1 ?_
    simp only [XA]
    refine hK _ ?_
    refine Gx.a (by kernel_rfl) fun K hK => ?_
    simp only [XA]
    refine hK _ ?_
    refine XWP.block ?_
    refine XWP.loop (fun n s => ∃ (j : Nat) (V4 : View), StIs (fun Z => [.v (.slice (some ⟨bL, oL, none⟩) l.length cL), Z 1,Z 2,Z 3,Z 4,Z 5,Z 6,Z 7,Z 8,Z 9, .p 0 0, .v (.int .i64 (j : Int)), Z 12,Z 13,Z 14,Z 15,Z 16,Z 17,Z 18,Z 19,Z 20,Z 21,Z 22,Z 23,Z 24,Z 25,Z 26,Z 27,Z 28,Z 29,Z 30,Z 31,Z 32,Z 33,Z 34,Z 35,Z 36,Z 37,Z 38,Z 39,Z 40,Z 41,Z 42,Z 43,Z 44,Z 45,Z 46,Z 47,Z 48,Z 49,Z 50,Z 51,Z 52,Z 53,Z 54,Z 55,Z 56,Z 57,Z 58,Z 59,Z 60,Z 61,Z 62,Z 63,Z 64,Z 65,Z 66,Z 67,Z 68,Z 69,Z 70,Z 71,Z 72,Z 73,Z 74,Z 75,Z 76,Z 77,Z 78,Z 79,Z 80,Z 81,Z 82,Z 83,Z 84, .v (.slice (some ⟨bL, oL, none⟩) l.length cL), .v (.int .i64 (l.length : Int)), .v (.int .i64 (k : Int)), Z 88,Z 89,Z 90,Z 91,Z 92,Z 93,Z 94,Z 95,Z 96,Z 97,Z 98,Z 99,Z 100,Z 101,Z 102,Z 103,Z 104,Z 105]) [[.int .i64 r.kind, c1, c2, c3, c4, .slice A r.ds.length c, m, c7, c8]] (fun _ => none) V4 s ∧ n + j = r.ds.length + 1 ∧ V3.le V4 ∧ ∀ i, i < j → partsB l (r.ds.take i) = true) (r.ds.length + 1) ⟨0, V3, StIs.of (by exact rfl), by omega, View.le_refl _, fun i hi => by omega⟩ ?_
    rintro n s ⟨j, V4, hs, hn, hV4, hpb⟩
    obtain ⟨y, rfl⟩ := hs.out
    try dsimp only
    clear hs
    refine XWP.seq ?_
    by_cases hj : j ≤ r.ds.length
    rotate_left
    · have b1 : decide ((j : Int) ≤ (r.ds.length : Int)) = false := decide_eq_false (by omega)
      refine Gx.a (by kernel_rfl) fun K hK => ?_
      simp only [XU, XA, XB, b1]
      refine hK _ ?_
      refine Gx.f rfl ?_
      refine XWP.exit ?_
      refine fun f => ⟨V4, StIs.of (by exact rfl), View.le_trans hV3 hV4, ?_⟩
      rw [List.all_eq_true]
      intro i hi
      exact hpb i (by have := List.mem_range.1 hi; omega)
    have b1 : decide ((j : Int) ≤ (r.ds.length : Int)) = true := decide_eq_true (by omega)
    refine Gx.a (by kernel_rfl) fun K hK => ?_
    simp only [XU, XA, XB, b1]
    refine hK _ ?_
    refine Gx.t rfl ?_
    refine XWP.skip ?_
    have hds4 := (hds.mono drE_ok hV4).take hj
    refine XWP.cut (fun s => ∃ (V5 : View), StIs (fun Z => [.v (.slice (some ⟨bL, oL, none⟩) l.length cL), Z 1,Z 2,Z 3,Z 4,Z 5,Z 6,Z 7,Z 8,Z 9, .p 0 0, .v (.int .i64 (j : Int)), Z 12,Z 13,Z 14,Z 15,Z 16,Z 17,Z 18,Z 19,Z 20,Z 21,Z 22,Z 23,Z 24,Z 25,Z 26,Z 27,Z 28,Z 29,Z 30,Z 31,Z 32,Z 33,Z 34,Z 35,Z 36,Z 37,Z 38,Z 39,Z 40,Z 41,Z 42,Z 43,Z 44,Z 45,Z 46,Z 47,Z 48,Z 49,Z 50,Z 51,Z 52,Z 53,Z 54,Z 55,Z 56,Z 57,Z 58,Z 59,Z 60,Z 61,Z 62,Z 63,Z 64,Z 65,Z 66,Z 67,Z 68,Z 69,Z 70,Z 71,Z 72,Z 73,Z 74,Z 75,Z 76,Z 77,Z 78,Z 79,Z 80,Z 81,Z 82,Z 83,Z 84, .v (.slice (some ⟨bL, oL, none⟩) l.length cL), .v (.int .i64 (l.length : Int)), .v (.int .i64 (k : Int)), Z 88,Z 89,Z 90,Z 91,Z 92,Z 93,Z 94,Z 95,Z 96,Z 97,Z 98,Z 99,Z 100,Z 101,Z 102,Z 103,Z 104,Z 105]) [[.int .i64 r.kind, c1, c2, c3, c4, .slice A r.ds.length c, m, c7, c8]] (fun _ => none) V5 s ∧ V4.le V5 ∧ partsB l (r.ds.take j) = true) ?_ ?_
    rotate_left
    · rintro s ⟨V5, hs, hV5, hdr⟩
      obtain ⟨y, rfl⟩ := hs.out
      try dsimp only
      clear hs
      refine Gx.c (by kernel_rfl) fun K hK => ?_
      simp only [XA, XB, i64_succ j (by omega)]
      exact hK _ ⟨n - 1, by omega, j + 1, V5, StIs.of (by exact rfl), by omega, View.le_trans hV4 hV5, fun i hi => by
        by_cases ei : i = j
        · subst ei; exact hdr
        · exact hpb i (by omega)⟩
    clear hK
    refine XWP.block ?_
    refine Gx.a (by kernel_rfl) fun K hK => ?_
    simp only [XU, XA]
    refine ⟨by omega, by omega, by omega, ?_⟩
    refine call_go (by kernel_rfl) rfl (rparts_c _ _ _ l (r.ds.take j) (h3'.mono rnE_ok hV4) hds4 (by omega) (fun x hx => by have := hlen x hx; omega) hgood (withL_self hrL hj)) fun v5 V5 hV5 h5 => ?_
    subst h5
    cases hpj : partsB l (r.ds.take j)
    · simp only [XA]
      refine hK _ ?_
      refine Gx.t rfl ?_
      refine Gx.a (by kernel_rfl) fun K hK => ?_
      simp only [XA]
      refine hK _ (XWP.ret ?_)
      try simp only [thenX_ret, inBlockX_ret]
      refine ret_go _ rfl ?_
      have : downB l = false := by
        unfold downB
        rw [List.all_eq_false]
        refine ⟨r, hrL, ?_⟩
        rw [Bool.not_eq_true, List.all_eq_false]
        exact ⟨j, List.mem_range.2 (by omega), by rw [hpj]; simp⟩
      rw [this]; rfl
    · simp only [XA]
      refine hK _ ?_
      refine Gx.f rfl ?_
      refine XWP.skip ?_
      exact ⟨V5, StIs.of (by exact rfl), hV5, hpj⟩
  rintro s ⟨V3, hs, hdn⟩
  obtain ⟨z, rfl⟩ := hs.out
  try dsimp only
  refine Gx.a (by kernel_rfl) fun K hK => ?_
  simp only [XA]
  refine hK _ (XWP.ret ?_)
  try simp only [thenX_ret, inBlockX_ret]
  refine ret_go _ rfl ?_
  rw [hdn]; rfl
end Go.Proofs.YtobjjdnfgamgcaaGreat
end
section
namespace Go.Proofs.YtobjjdnfgamgcaaGreat
open Go Go.RowKit
set_option linter.unusedSimpArgs false
set_option linter.unusedVariables false
attribute [local irreducible] XWP Spec SpecO XPub XCall seqX clX apX stX ldX iaX slX
theorem dig4 {ds : List Nat} (h : Dig ds) (hl : ds.length ≤ 4) : nv ds ≤ 2 ^ 128 := by
  have h1 := nv_lt h
  have h2 : BB ^ ds.length ≤ BB ^ 4 := Nat.pow_le_pow_right (by unfold BB; omega) hl
  have h3 : BB ^ 4 = 2 ^ 128 := by rw [show BB = 2 ^ 32 from rfl, ← Nat.pow_mul]
  omega
theorem SlK.dig {V : View} {v : Value} {l : List Rn} (h : SlK 9 rnE V v l) : ∀ r ∈ l, Dig r.w.nd ∧ Dig r.w.dd := fun r hr => by
  obtain ⟨A, c, rfl, h1, h2, h3⟩ := h
  rcases h3 with rfl | ⟨b, o, arr, ty, fr, e1, e2, h4⟩
  · cases hr
  · obtain ⟨i, hi⟩ := List.getElem?_of_mem hr
    obtain ⟨cs, ⟨_, _, _, _, _, _, _, _, _, _, _, _, _, _, _, k1, k2⟩, _⟩ := h4 i r hi
    exact ⟨k1.dig, k2.dig⟩
theorem short_fits {V : View} {v : Value} {l : List Rn} (h : SlK 9 rnE V v l) (hs : shortP l) : (∀ r ∈ l, r.fits) ∧ (∀ r ∈ l, r.ds.length ≤ 8 ∧ (r.w.ok = true → QB 128 r.w.q)) ∧ l.length ≤ 1000000 := by
  have hq : ∀ r ∈ l, QB 128 r.w.q := fun r hr => by
    obtain ⟨_, _, g3, g4⟩ := hs.2 r hr
    obtain ⟨d1, d2⟩ := h.dig r hr
    exact QB_rv _ (dig4 d1 g3) (dig4 d2 g4)
  refine ⟨fun r hr => ?_, fun r hr => ⟨(hs.2 r hr).1, fun _ => hq r hr⟩, by have := hs.1; omega⟩
  obtain ⟨g1, _, g3, g4⟩ := hs.2 r hr
  exact ⟨by omega, ⟨by omega, by omega⟩, fun _ => (hq r hr).qf (by omega)⟩
end Go.Proofs.YtobjjdnfgamgcaaGreat
end
section
namespace Go.Proofs.YtobjjdnfgamgcaaGreat
open Go Go.RowKit
set_option linter.unusedSimpArgs false
set_option linter.unusedVariables false
attribute [local irreducible] XWP Spec SpecO XPub XCall seqX clX apX stX ldX iaX slX
theorem and255 (a : Int) : ∃ x : Nat, x ≤ 255 ∧ andI .i64 a 255 = x := by
  have h : (BitVec.ofInt IntKind.i64.bits a &&& BitVec.ofInt IntKind.i64.bits 255).toNat ≤ 255 := by
    rw [BitVec.toNat_and]; exact Nat.le_trans Nat.and_le_right (by decide)
  refine ⟨_, h, ?_⟩
  unfold andI
  exact wrap_id (by omega) (by omega)
theorem bs_int3 {a b d : Int} : BuildsSlice Tryz.prog 39 3 #[(0, .int .i64 a), (1, .int .i64 b), (2, .int .i64 d)] 3 [.int .i64 a, .int .i64 b, .int .i64 d] := by
  obtain ⟨i, zv, hi, hzv, e1, e2, _⟩ := zero_parts (P := Tryz.prog) (t := 3) (z := [.int .i64 0]) (n := 1) (b := 8) (by kernel_rfl)
  have hc : zv.cells = #[.int .i64 0] := Array.toList_inj.1 e1
  refine bs_run (cells := #[.int .i64 a, .int .i64 b, .int .i64 d]) (by kernel_rfl) hi hzv (by omega) (by omega) ?_
  rw [e2, hc]
  have : madeCells #[.int .i64 0] (3 * 1) = #[.int .i64 0, .int .i64 0, .int .i64 0] := Array.toList_inj.1 (by rw [made_flat (#[.int .i64 0] : Array Value) 1 rfl (by omega) 3]; rfl)
  rw [this]
  rfl
theorem pick3 (y : Nat) : (if y = 0 then 0 else if y = 1 then 1 else 3) = 0 ∨ (if y = 0 then 0 else if y = 1 then 1 else 3) = 1 ∨ (if y = 0 then 0 else if y = 1 then 1 else 3) = 3 := by
  split
  · exact .inl rfl
  · split
    · exact .inr (.inl rfl)
    · exact .inr (.inr rfl)
set_option maxHeartbeats 4000000 in
set_option maxRecDepth 100000 in
theorem kreaches_c (V : View) (v : Value) (l : List Rn) (kv : Int) (h : SlK 9 rvE V v l) : Spec Tryz.prog 5 [v, .int .i64 kv] V fun v' V' => v' = .bool true := by
  obtain ⟨A, cL, rfl, hc, hm⟩ := h.form
  have hr := h.rn
  refine (Spec.enter Tryz.func5 rfl fun Γ => ?_)
  simp only [Tryz.ntmps5, List.map_cons, List.map_nil, List.length_cons, List.length_nil, Nat.reduceAdd, Nat.reduceSub, List.replicate_succ, List.replicate_zero, List.cons_append, List.nil_append]
  refine Gx.a (by kernel_rfl) fun K hK => ?_
  simp only [XA]
  refine hK _ ?_
  obtain ⟨x, hx, ex⟩ := and255 kv
  have etm : ((x : Int).tmod 3) = ((x % 3 : Nat) : Int) := rfl
  refine XWP.cutD 0 (fun s => ∃ (H2 : Heap) (c : Nat), StIs (fun Z => [.v (.slice A l.length cL), .v (.int .i64 (c : Int)), Z 2,Z 3,Z 4,Z 5,Z 6,Z 7,Z 8,Z 9,Z 10,Z 11,Z 12,Z 13,Z 14,Z 15,Z 16,Z 17,Z 18,Z 19,Z 20,Z 21,Z 22,Z 23,Z 24,Z 25,Z 26,Z 27,Z 28,Z 29,Z 30,Z 31,Z 32,Z 33,Z 34,Z 35,Z 36,Z 37,Z 38,Z 39,Z 40,Z 41,Z 42,Z 43,Z 44,Z 45,Z 46,Z 47,Z 48,Z 49,Z 50,Z 51,Z 52,Z 53,Z 54,Z 55,Z 56,Z 57,Z 58,Z 59,Z 60,Z 61,Z 62,Z 63,Z 64,Z 65,Z 66,Z 67,Z 68,Z 69,Z 70,Z 71,Z 72,Z 73,Z 74,Z 75,Z 76,Z 77,Z 78,Z 79,Z 80,Z 81,Z 82,Z 83,Z 84,Z 85,Z 86]) [] H2 V s ∧ (c = 0 ∨ c = 1 ∨ c = 3)) ?_ ?_
  · refine Gx.c (by kernel_rfl) fun K hK => ?_
    simp only []
    refine bs_go (by kernel_rfl) #[(0, .int .i64 0), (1, .int .i64 1), (2, .int .i64 3)] (by simp [ev_const, SV.val]) bs_int3 fun b hb1 hb2 => ?_
    have hso : shapeO Tryz.prog (elemT Tryz.prog 39) = some (false, 1) := by kernel_rfl
    simp only [XA, XB, Nat.reduceAdd, ex, bin_rem _ _ (x : Int) 3 (by decide), etm, hso]
    refine ⟨by omega, by omega, ?_⟩
    try simp only [Nat.zero_add]
    have hx3 : x % 3 < 3 := Nat.mod_lt _ (by omega)
    have hld : Loads Tryz.prog (upd (fun _ => none) b (some ⟨3, [.int .i64 0, .int .i64 1, .int .i64 3], 3⟩)) V 3 b (x % 3) (.int .i64 (((if x % 3 = 0 then 0 else if x % 3 = 1 then 1 else 3 : Nat) : Int))) := by
      refine ldH1 (upd_at _ _ _) ?_ shapeT_3
      generalize x % 3 = y at *
      match y, hx3 with
      | 0, _ => rfl
      | 1, _ => rfl
      | 2, _ => rfl
    refine ld_mem hld ?_
    simp only [XA]
    exact hK _ fun f => ⟨_, _, StIs.of (by exact rfl), pick3 _⟩
  rintro s ⟨H2, c, hs, hcc⟩
  obtain ⟨z, rfl⟩ := hs.out
  try dsimp only
  clear hs
  refine XWP.seq ?_
  refine Gx.a (by kernel_rfl) fun K hK => ?_
  simp only [XA]
  refine call_go (by kernel_rfl) rfl (short33_c _ _ l h) fun v1 V1 hV1 h1 => ?_
  obtain ⟨b, rfl, hb⟩ := h1
  cases b
  · simp only [XA, gateX, ↓reduceIte]
    refine hK _ ?_
    refine Gx.t rfl ?_
    refine Gx.a (by kernel_rfl) fun K hK => ?_
    simp only [XA]
    refine hK _ (XWP.ret ?_)
    try simp only [thenX_ret, inBlockX_ret]
    refine ret_go _ rfl ?_
    rfl
  obtain ⟨f1, f2, f3⟩ := short_fits hr (hb rfl)
  by_cases h8 : 8 < l.length
  · have b8 : decide ((8 : Int) < (l.length : Int)) = true := decide_eq_true (by omega)
    simp only [XU, XA, XB, gateX, ↓reduceIte, beq_self_eq_true, b8]
    refine hK _ ?_
    refine Gx.t rfl ?_
    refine Gx.a (by kernel_rfl) fun K hK => ?_
    simp only [XA]
    refine hK _ (XWP.ret ?_)
    try simp only [thenX_ret, inBlockX_ret]
    refine ret_go _ rfl ?_
    rfl
  have b8 : decide ((8 : Int) < (l.length : Int)) = false := decide_eq_false (by omega)
  simp only [XU, XA, XB, gateX, ↓reduceIte, beq_self_eq_true, b8]
  refine call_go (by kernel_rfl) rfl (kref_right_c _ _ l (hr.mono rnE_ok hV1) f1 f3) fun v2 V2 hV2 h2 => ?_
  subst h2
  have hV02 := View.le_trans hV1 hV2
  cases hrr : rightR l
  · simp only [XA, gateX, ↓reduceIte, beq_self_eq_true]
    refine hK _ ?_
    refine Gx.t rfl ?_
    refine Gx.a (by kernel_rfl) fun K hK => ?_
    simp only [XA]
    refine hK _ (XWP.ret ?_)
    try simp only [thenX_ret, inBlockX_ret]
    refine ret_go _ rfl ?_
    rfl
  obtain ⟨g1, g2, g3⟩ := right_small hrr f2
  simp only [XA, gateX, ↓reduceIte, beq_self_eq_true]
  refine hK _ ?_
  refine Gx.f rfl ?_
  refine XWP.skip ?_
  refine Gx.a (by kernel_rfl) fun K hK => ?_
  simp only [XA]
  refine call_go (by kernel_rfl) rfl (cof_c _ _ (c : Int) l (hr.mono rnE_ok hV02) f1 f2 f3) fun v3 V3 hV3 h3 => ?_
  obtain ⟨od, sv, hod, rfl, hM⟩ := h3.2 hrr
  have hne2 : andI .i64 (c : Int) 3 ≠ 2 := by
    rcases hcc with rfl | rfl | rfl <;> decide
  have hpos := hod.pos hrr g3 hne2
  have hqb := hod.qb g3 g2
  obtain ⟨As, cs, rfl, _, _⟩ := hM.form
  simp only [XM, XA]
  refine st_mat shapeT_26 rfl rfl rfl rfl rfl ?_
  simp only [XA]
  refine hK _ ?_
  refine XWP.seq ?_
  refine Gx.a (by kernel_rfl) fun K hK => ?_
  simp only [XA, XB]
  refine hK _ ?_
  refine Gx.f rfl ?_
  refine XWP.skip ?_
  refine XWP.cutD 1 (fun s => ∃ (V4 : View), StIs (fun Z => [.v (.slice A l.length cL), .v (.int .i64 (c : Int)), Z 2,Z 3,Z 4, .p 0 0, Z 6,Z 7,Z 8,Z 9,Z 10,Z 11,Z 12,Z 13,Z 14,Z 15,Z 16,Z 17,Z 18,Z 19,Z 20,Z 21,Z 22,Z 23,Z 24,Z 25,Z 26,Z 27,Z 28,Z 29,Z 30,Z 31,Z 32,Z 33,Z 34,Z 35,Z 36,Z 37,Z 38,Z 39,Z 40,Z 41,Z 42,Z 43,Z 44,Z 45,Z 46,Z 47,Z 48,Z 49,Z 50,Z 51,Z 52,Z 53,Z 54,Z 55,Z 56,Z 57,Z 58,Z 59,Z 60,Z 61,Z 62,Z 63,Z 64,Z 65,Z 66,Z 67,Z 68,Z 69,Z 70,Z 71,Z 72,Z 73,Z 74,Z 75,Z 76,Z 77,Z 78,Z 79,Z 80,Z 81,Z 82,Z 83,Z 84,Z 85,Z 86]) [[.int .i64 (l.length : Int), .int .i64 (l.length : Int), .slice As (flatG (moveG od l.length) l.length l.length).length cs]] H2 V4 s ∧ V3.le V4) ?_ ?_
  · have e1 : decide ((l.length : Int) > 1) = decide (1 < l.length) := by rw [decide_eq_decide]; omega
    by_cases hk1 : (c : Int) = 1
    rotate_left
    · have bk : decide ((c : Int) = 1) = false := decide_eq_false hk1
      refine Gx.a (by kernel_rfl) fun K hK => ?_
      simp only [XA, XB, gateX, ↓reduceIte, bk]
      refine hK _ ?_
      refine Gx.f rfl ?_
      refine XWP.skip ?_
      exact fun f => ⟨V3, StIs.of (by exact rfl), View.le_refl _⟩
    have bk : decide ((c : Int) = 1) = true := decide_eq_true hk1
    by_cases hl1 : 1 < l.length
    rotate_left
    · have bl : decide ((1 : Int) < (l.length : Int)) = false := decide_eq_false (by omega)
      refine Gx.a (by kernel_rfl) fun K hK => ?_
      simp only [XU, XA, XB, gateX, ↓reduceIte, beq_self_eq_true, bk, bl]
      refine hK _ ?_
      refine Gx.f rfl ?_
      refine XWP.skip ?_
      exact fun f => ⟨V3, StIs.of (by exact rfl), View.le_refl _⟩
    have bl : decide ((1 : Int) < (l.length : Int)) = true := decide_eq_true (by omega)
    refine Gx.a (by kernel_rfl) fun K hK => ?_
    simp only [XU, XA, XB, gateX, ↓reduceIte, beq_self_eq_true, bk, bl]
    refine hK _ ?_
    refine Gx.t rfl ?_
    have hdr := right_draws hrr hl1
    obtain ⟨bL, oL, rfl⟩ := SlK.addr hr (by omega)
    refine Gx.a (by kernel_rfl) fun K hK => ?_
    simp only [XU, XA]
    refine hK _ ?_
    clear hK
    refine XWP.block ?_
    refine XWP.loopD 1 (fun q s => ∃ (j : Nat), StIs (fun Z => [.v (.slice (some ⟨bL, oL, none⟩) l.length cL), .v (.int .i64 (c : Int)), Z 2,Z 3,Z 4, .p 0 0, Z 6,Z 7,Z 8,Z 9,Z 10,Z 11,Z 12,Z 13,Z 14,Z 15,Z 16,Z 17,Z 18,Z 19,Z 20,Z 21,Z 22,Z 23,Z 24,Z 25,Z 26,Z 27,Z 28,Z 29,Z 30,Z 31,Z 32,Z 33,Z 34,Z 35,Z 36,Z 37,Z 38,Z 39,Z 40,Z 41,Z 42,Z 43,Z 44, .v (.int .i64 (l.length : Int)), .v (.int .i64 (j : Int)), Z 47,Z 48,Z 49,Z 50,Z 51,Z 52,Z 53,Z 54,Z 55,Z 56,Z 57,Z 58,Z 59,Z 60,Z 61,Z 62,Z 63,Z 64,Z 65,Z 66,Z 67,Z 68,Z 69,Z 70,Z 71,Z 72,Z 73,Z 74,Z 75,Z 76,Z 77,Z 78,Z 79,Z 80,Z 81,Z 82,Z 83,Z 84,Z 85,Z 86]) [[.int .i64 (l.length : Int), .int .i64 (l.length : Int), .slice As (flatG (moveG od l.length) l.length l.length).length cs]] H2 V3 s ∧ q + j = l.length) l.length ⟨0, StIs.of (by exact rfl), by omega⟩ ?_
    rintro q s ⟨j, hs', hq⟩
    obtain ⟨z, rfl⟩ := hs'.out
    try dsimp only
    clear hs'
    by_cases hj : j < l.length
    rotate_left
    · obtain rfl : j = l.length := by omega
      have bj : decide (((l.length : Nat) : Int) < ((l.length : Nat) : Int)) = false := decide_eq_false (by omega)
      refine Gx.a (by kernel_rfl) fun K hK => ?_
      simp only [XA, XB, bj]
      refine hK _ ?_
      refine XWP.seq (Gx.f rfl ?_)
      refine XWP.exit ?_
      exact fun f => ⟨V3, StIs.of (by exact rfl), View.le_refl _⟩
    have bj : decide ((j : Int) < (l.length : Int)) = true := decide_eq_true (by omega)
    refine Gx.a (by kernel_rfl) fun K hK => ?_
    simp only [XA, XB, bj]
    refine hK _ ?_
    refine XWP.seq (Gx.t rfl ?_)
    refine XWP.skip ?_
    obtain ⟨r, hrj⟩ : ∃ r, l[j]? = some r := ⟨_, List.getElem?_eq_getElem hj⟩
    have hrm := List.mem_of_getElem? hrj
    have hV03 := View.le_trans hV02 hV3
    obtain ⟨u0, u1, u2, u3, u4, dv, m, x', y', _, hds, _, _, hld, _⟩ := SlK.rnAt (hr.mono rnE_ok hV03) hrj (g3 r hrm).ok
    obtain ⟨Ad, cd, rfl, _, _⟩ := hds.form
    have hd0 := hdr r hrm
    refine XWP.seq ?_
    refine XWP.block ?_
    refine Gx.a (by kernel_rfl) fun K hK => ?_
    simp only [XA]
    refine hK _ ?_
    have bd : decide ((r.ds.length : Int) = 0) = false := decide_eq_false (by omega)
    refine Gx.a (by kernel_rfl) fun K hK => ?_
    simp only [XU, XA]
    refine ⟨by omega, by omega, ?_⟩
    refine ld_mem (hld _) ?_
    simp only [XU, XA, XB, bd]
    refine hK _ ?_
    refine Gx.f rfl ?_
    refine XWP.skip ?_
    refine Gx.c (by kernel_rfl) fun K hK => ?_
    simp only [XA, XB, i64_succ j (by omega)]
    exact hK _ ⟨q - 1, by omega, fun f => ⟨j + 1, StIs.of (by exact rfl), by omega⟩⟩
  rintro s ⟨V4, hs', hV4⟩
  obtain ⟨z, rfl⟩ := hs'.out
  try dsimp only
  clear hs'
  have hflen := flatG_len (moveG od l.length) l.length l.length
  have hnn : l.length * l.length ≤ 3600 := Nat.le_trans (Nat.mul_le_mul g2 g2) (by decide)
  have hM4 := hM.up hV4
  obtain ⟨bM, oM, rfl⟩ := SlAt.addr hM4 (by rw [hflen]; exact Nat.mul_pos (by omega) (by omega))
  refine XWP.cutD 1 (fun s => ∃ (V5 : View), StIs (fun Z => [.v (.slice A l.length cL), .v (.int .i64 (c : Int)), Z 2,Z 3,Z 4,Z 5,Z 6,Z 7,Z 8,Z 9,Z 10,Z 11,Z 12,Z 13,Z 14,Z 15,Z 16,Z 17,Z 18,Z 19,Z 20,Z 21,Z 22,Z 23,Z 24,Z 25,Z 26,Z 27,Z 28,Z 29,Z 30,Z 31,Z 32,Z 33,Z 34,Z 35,Z 36,Z 37,Z 38,Z 39,Z 40,Z 41,Z 42,Z 43,Z 44,Z 45,Z 46,Z 47,Z 48,Z 49,Z 50,Z 51,Z 52,Z 53,Z 54,Z 55,Z 56,Z 57,Z 58,Z 59,Z 60,Z 61,Z 62,Z 63,Z 64,Z 65,Z 66,Z 67,Z 68,Z 69,Z 70,Z 71,Z 72,Z 73,Z 74,Z 75,Z 76,Z 77,Z 78,Z 79,Z 80,Z 81,Z 82,Z 83,Z 84,Z 85,Z 86]) [[.int .i64 (l.length : Int), .int .i64 (l.length : Int), .slice (some ⟨bM, oM, none⟩) (flatG (moveG od l.length) l.length l.length).length cs]] H2 V5 s) ?_ ?_
  rotate_left
  · rintro s ⟨V5, hs'⟩
    obtain ⟨z, rfl⟩ := hs'.out
    try dsimp only
    refine Gx.a (by kernel_rfl) fun K hK => ?_
    simp only [XA]
    refine call_go (by kernel_rfl) rfl (alive33_c _) fun v6 V6 hV6 h6 => ?_
    subst h6
    simp only [XA]
    refine hK _ (XWP.ret ?_)
    try simp only [thenX_ret, inBlockX_ret]
    refine ret_go _ rfl ?_
    rfl
  refine Gx.a (by kernel_rfl) fun K hK => ?_
  simp only [XA]
  refine hK _ ?_
  clear hK
  refine XWP.block ?_
  refine XWP.loopD 1 (fun q s => ∃ (i : Nat) (V5 : View), StIs (fun Z => [.v (.slice A l.length cL), .v (.int .i64 (c : Int)), Z 2,Z 3,Z 4, .p 0 0, Z 6,Z 7, .v (.int .i64 (i : Int)), Z 9,Z 10,Z 11,Z 12,Z 13,Z 14,Z 15,Z 16,Z 17,Z 18,Z 19,Z 20,Z 21,Z 22,Z 23,Z 24,Z 25,Z 26,Z 27,Z 28,Z 29,Z 30,Z 31,Z 32,Z 33,Z 34,Z 35,Z 36,Z 37,Z 38,Z 39,Z 40,Z 41,Z 42,Z 43,Z 44,Z 45,Z 46,Z 47,Z 48,Z 49,Z 50,Z 51,Z 52,Z 53,Z 54,Z 55,Z 56,Z 57,Z 58,Z 59,Z 60,Z 61,Z 62,Z 63,Z 64,Z 65,Z 66,Z 67,Z 68,Z 69,Z 70,Z 71,Z 72,Z 73,Z 74,Z 75,Z 76,Z 77,Z 78,Z 79,Z 80,Z 81,Z 82,Z 83,Z 84,Z 85,Z 86]) [[.int .i64 (l.length : Int), .int .i64 (l.length : Int), .slice (some ⟨bM, oM, none⟩) (flatG (moveG od l.length) l.length l.length).length cs]] H2 V5 s ∧ q + i = l.length ∧ V4.le V5) l.length ⟨0, V4, StIs.of (by exact rfl), by omega, View.le_refl _⟩ ?_
  rintro q s ⟨i, V5, hs', hq, hV5⟩
  obtain ⟨z, rfl⟩ := hs'.out
  try dsimp only
  clear hs'
  refine XWP.seq ?_
  by_cases hi : i < l.length
  rotate_left
  · obtain rfl : i = l.length := by omega
    have bi : decide (((l.length : Nat) : Int) < ((l.length : Nat) : Int)) = false := decide_eq_false (by omega)
    refine Gx.a (by kernel_rfl) fun K hK => ?_
    simp only [XU, XA, XB, bi]
    refine hK _ ?_
    refine Gx.f rfl ?_
    refine XWP.exit ?_
    exact fun f => ⟨V5, StIs.of (by exact rfl)⟩
  have bi : decide ((i : Int) < (l.length : Int)) = true := decide_eq_true (by omega)
  refine Gx.a (by kernel_rfl) fun K hK => ?_
  simp only [XU, XA, XB, bi]
  refine hK _ ?_
  refine Gx.t rfl ?_
  refine XWP.skip ?_
  refine XWP.cutD 1 (fun s => ∃ (V6 : View), StIs (fun Z => [.v (.slice A l.length cL), .v (.int .i64 (c : Int)), Z 2,Z 3,Z 4, .p 0 0, Z 6,Z 7, .v (.int .i64 (i : Int)), Z 9,Z 10,Z 11,Z 12,Z 13,Z 14,Z 15,Z 16,Z 17,Z 18,Z 19,Z 20,Z 21,Z 22,Z 23,Z 24,Z 25,Z 26,Z 27,Z 28,Z 29,Z 30,Z 31,Z 32,Z 33,Z 34,Z 35,Z 36,Z 37,Z 38,Z 39,Z 40,Z 41,Z 42,Z 43,Z 44,Z 45,Z 46,Z 47,Z 48,Z 49,Z 50,Z 51,Z 52,Z 53,Z 54,Z 55,Z 56,Z 57,Z 58,Z 59,Z 60,Z 61,Z 62,Z 63,Z 64,Z 65,Z 66,Z 67,Z 68,Z 69,Z 70,Z 71,Z 72,Z 73,Z 74,Z 75,Z 76,Z 77,Z 78,Z 79,Z 80,Z 81,Z 82,Z 83,Z 84,Z 85,Z 86]) [[.int .i64 (l.length : Int), .int .i64 (l.length : Int), .slice (some ⟨bM, oM, none⟩) (flatG (moveG od l.length) l.length l.length).length cs]] H2 V6 s ∧ V5.le V6) ?_ ?_
  rotate_left
  · rintro s ⟨V6, hs', hV6⟩
    obtain ⟨z, rfl⟩ := hs'.out
    try dsimp only
    clear hs'
    refine Gx.c (by kernel_rfl) fun K hK => ?_
    simp only [XA, XB, i64_succ i (by omega)]
    exact hK _ ⟨q - 1, by omega, fun f => ⟨i + 1, V6, StIs.of (by exact rfl), by omega, View.le_trans hV5 hV6⟩⟩
  clear hK
  refine XWP.block ?_
  refine Gx.a (by kernel_rfl) fun K hK => ?_
  simp only [XA]
  refine hK _ ?_
  refine XWP.block ?_
  refine XWP.loopD 1 (fun n s => ∃ (k : Nat) (V6 : View), StIs (fun Z => [.v (.slice A l.length cL), .v (.int .i64 (c : Int)), Z 2,Z 3,Z 4, .p 0 0, Z 6,Z 7, .v (.int .i64 (i : Int)), .v (.int .i64 (k : Int)), Z 10,Z 11,Z 12,Z 13,Z 14,Z 15,Z 16,Z 17,Z 18,Z 19,Z 20,Z 21,Z 22,Z 23,Z 24,Z 25,Z 26,Z 27,Z 28,Z 29,Z 30,Z 31,Z 32,Z 33,Z 34,Z 35,Z 36,Z 37,Z 38,Z 39,Z 40,Z 41,Z 42,Z 43,Z 44,Z 45,Z 46,Z 47,Z 48,Z 49,Z 50,Z 51,Z 52,Z 53,Z 54,Z 55,Z 56,Z 57,Z 58,Z 59,Z 60,Z 61,Z 62,Z 63,Z 64,Z 65,Z 66,Z 67,Z 68,Z 69,Z 70,Z 71,Z 72,Z 73,Z 74,Z 75,Z 76,Z 77,Z 78,Z 79,Z 80,Z 81,Z 82,Z 83,Z 84,Z 85,Z 86]) [[.int .i64 (l.length : Int), .int .i64 (l.length : Int), .slice (some ⟨bM, oM, none⟩) (flatG (moveG od l.length) l.length l.length).length cs]] H2 V6 s ∧ n + k = l.length ∧ V5.le V6) l.length ⟨0, V5, StIs.of (by exact rfl), by omega, View.le_refl _⟩ ?_
  rintro n s ⟨k, V6, hs', hn, hV6⟩
  obtain ⟨z, rfl⟩ := hs'.out
  try dsimp only
  clear hs'
  refine XWP.seq ?_
  by_cases hk : k < l.length
  rotate_left
  · obtain rfl : k = l.length := by omega
    have bk : decide (((l.length : Nat) : Int) < ((l.length : Nat) : Int)) = false := decide_eq_false (by omega)
    refine Gx.a (by kernel_rfl) fun K hK => ?_
    simp only [XU, XA, XB, bk]
    refine hK _ ?_
    refine Gx.f rfl ?_
    refine XWP.exit ?_
    exact fun f => ⟨V6, StIs.of (by exact rfl), hV6⟩
  have bk : decide ((k : Int) < (l.length : Int)) = true := decide_eq_true (by omega)
  refine Gx.a (by kernel_rfl) fun K hK => ?_
  simp only [XU, XA, XB, bk]
  refine hK _ ?_
  refine Gx.t rfl ?_
  refine XWP.skip ?_
  refine XWP.cutD 1 (fun s => ∃ (V7 : View), StIs (fun Z => [.v (.slice A l.length cL), .v (.int .i64 (c : Int)), Z 2,Z 3,Z 4, .p 0 0, Z 6,Z 7, .v (.int .i64 (i : Int)), .v (.int .i64 (k : Int)), Z 10,Z 11,Z 12,Z 13,Z 14,Z 15,Z 16,Z 17,Z 18,Z 19,Z 20,Z 21,Z 22,Z 23,Z 24,Z 25,Z 26,Z 27,Z 28,Z 29,Z 30,Z 31,Z 32,Z 33,Z 34,Z 35,Z 36,Z 37,Z 38,Z 39,Z 40,Z 41,Z 42,Z 43,Z 44,Z 45,Z 46,Z 47,Z 48,Z 49,Z 50,Z 51,Z 52,Z 53,Z 54,Z 55,Z 56,Z 57,Z 58,Z 59,Z 60,Z 61,Z 62,Z 63,Z 64,Z 65,Z 66,Z 67,Z 68,Z 69,Z 70,Z 71,Z 72,Z 73,Z 74,Z 75,Z 76,Z 77,Z 78,Z 79,Z 80,Z 81,Z 82,Z 83,Z 84,Z 85,Z 86]) [[.int .i64 (l.length : Int), .int .i64 (l.length : Int), .slice (some ⟨bM, oM, none⟩) (flatG (moveG od l.length) l.length l.length).length cs]] H2 V7 s ∧ V6.le V7) ?_ ?_
  rotate_left
  · rintro s ⟨V7, hs', hV7⟩
    obtain ⟨z, rfl⟩ := hs'.out
    try dsimp only
    clear hs'
    refine Gx.c (by kernel_rfl) fun K hK => ?_
    simp only [XA, XB, i64_succ k (by omega)]
    exact hK _ ⟨n - 1, by omega, fun f => ⟨k + 1, V7, StIs.of (by exact rfl), by omega, View.le_trans hV6 hV7⟩⟩
  clear hK
  refine XWP.block ?_
  by_cases hik : i = k
  · have be : decide ((i : Int) = (k : Int)) = true := decide_eq_true (by omega)
    refine Gx.a (by kernel_rfl) fun K hK => ?_
    simp only [XA, XB, gateX, ↓reduceIte, be]
    refine hK _ ?_
    refine Gx.f rfl ?_
    refine XWP.skip ?_
    exact fun f => ⟨V6, StIs.of (by exact rfl), View.le_refl _⟩
  have be : decide ((i : Int) = (k : Int)) = false := decide_eq_false (by omega)
  have hV46 := View.le_trans hV5 hV6
  have hplt := pos_lt hi hk
  have w1 := wr_mul (i := i) (C := l.length) (by omega) (by omega)
  have w2 := wr_add (p := i * l.length) (k := k) (by omega) (by omega)
  obtain ⟨m7, n7, d7, hx7, _, hld7⟩ := Rats.get (hM4.up hV46) (i * l.length + k) (by rw [hflen]; exact hplt)
  rw [flatG_at _ hi hk] at hx7
  have em : moveG od l.length i k = od i k := by unfold moveG; rw [if_neg (fun e => hik e.symm)]
  rw [em] at hx7
  refine Gx.a (by kernel_rfl) fun K hK => ?_
  simp only [XM, XU, XA, XB, gateX, ↓reduceIte, beq_self_eq_true, be, w1, w2]
  refine ⟨by omega, by rw [hflen]; omega, ld_mem (hld7 _) ?_⟩
  simp only [XA, gateX, ↓reduceIte, beq_self_eq_true]
  refine call_go (by kernel_rfl) rfl (psign_c _ _ _ (RatC.toV hx7 ((hqb i k hi hk).qf (by omega)))) fun v8 V8 hV8 h8 => ?_
  subst h8
  have hsg : decide (sgI (od i k) ≤ 0) = false := decide_eq_false fun e => by
    have h1 := hpos i k hi hk hik
    have h2 := (sgI_pos_iff (od i k) 0).2 h1
    rw [show od i k - 0 = od i k by grind] at h2
    omega
  simp only [XA, XB, gateX, ↓reduceIte, beq_self_eq_true, hsg]
  refine hK _ ?_
  refine Gx.f rfl ?_
  refine XWP.skip ?_
  exact fun f => ⟨V8, StIs.of (by exact rfl), hV8⟩
end Go.Proofs.YtobjjdnfgamgcaaGreat
end
section
namespace Go.Proofs.YtobjjdnfgamgcaaGreat.kernelReaches
open Go.ChangeShapes Go.WideShapes Go.ChangeAt Go.RowKit
set_option linter.unusedVariables false
theorem own : ownKnob Tryz.prog.godebug = none := by kernel_rfl
theorem laidOut : laidOutB Tryz.prog = true := by kernel_rfl
set_option maxHeartbeats 4000000 in
set_option maxRecDepth 100000 in
theorem lifted (os : Os) (started : os.Started) (H : Type) (enc : TypeId × Value → H) :
    ReturnsInHanded {} Tryz.checked os 5 .any (Rows.kernelReachesSpec.pre6 enc Tryz.prog Tryz.f5 Rows.kernelReachesRow.domain false) (Rows.kernelReachesSpec.post enc Tryz.prog Tryz.f5 false true false false) := by
  refine returnsInHanded_of_change_sized (C := Tryz.checked) own started (by kernel_rfl) Tryz.func5
    (ChangeSpec.witness6 (enc := enc) (C := Tryz.checked) false ⟨#[], #[.slice none 0 0, .int .i64 0], []⟩ 8 (by kernel_rfl) (by kernel_rfl) (by kernel_rfl) (by kernel_rfl)) ?_
  intro W base args ds gs before hval0 hW hcnd hsz0 _
  have hval : ∀ (j : Nat) t v, Tryz.f5.params[j]? = some t → args[j]? = some v → Value.okWide Tryz.prog W .any base t v := hval0
  have hW' := hW
  obtain ⟨p, q, hA0, hV, rfl, hfz, hnd⟩ := hW
  have hA : DataW.TrodAll enc Tryz.prog W 0 (fun _ => true) true Tryz.f5.params.toList args.toList ds p := hA0
  rw [Tryz.params5] at hA hval
  obtain ⟨v0, vs0, d0, ds0, p0, q0, hargs, rfl, rfl, h0, r0⟩ := trodAll_cons hA
  obtain ⟨v1, vs1, d1, ds1, p1, q1, rfl, rfl, rfl, h1, r1⟩ := trodAll_cons r0
  obtain ⟨rfl, rfl, rfl⟩ := trodAll_nil r1
  obtain rfl : args = #[v0, v1] := by cases args; simp_all
  obtain ⟨rfl, rfl⟩ := trodVars_none hV
  obtain ⟨a0, len0, cap0, rfl⟩ := okWide_slice (und_elem (P := Tryz.prog) (e := 51) (by kernel_rfl)) (hval 0 22 v0 rfl rfl)
  have k0 := h0
  have lt0 : ∀ x ∈ p0, x.block < W.heap.size := by obtain ⟨m, hm⟩ := k0; exact DataW.trod_lt m _ _ _ hm
  obtain ⟨fuel0, hf0⟩ := h0
  obtain ⟨L0, hL0⟩ := open_runs (by kernel_rfl) hf0
  obtain ⟨a1, rfl, rfl, rfl, w1⟩ := open_int (k := .i64) (by kernel_rfl) (hval 1 3 v1 rfl rfl) h1
  clear hA0 hval0 hsz0
  refine (kreaches_c (viewW W) _ L0 a1 hL0 W (viewW_sub W)).mono fun e W' ⟨v, V', he, _, _, _, bel, hv⟩ => ?_
  subst hv
  subst he
  exact ⟨_, rfl, _, _, _, [], _, [], hW', trodAll_mk1 (shut_bool Tryz.underlying4 _), (trodAll_cons_mk (Below.trod laidOut (by kernel_rfl) (of_decide_eq_true (by kernel_rfl)) k0 bel.toBelow lt0) (trodAll_cons_mk (shut_int (k := .i64) (by kernel_rfl) w1) trodAll_mk0)), rfl, bel.frame _, fun h => by cases h⟩
theorem over : Rows.kernelReachesRow.holds Tryz.pinned (OpenSpec.ofChange Rows.kernelReachesSpec) :=
  OpenClaim.holds_of_wide 5 Tryz.f5 rfl rfl rfl rfl rfl rfl rfl ⟨rfl, rfl, rfl, rfl, rfl⟩ rfl rfl rfl rfl rfl (by kernel_rfl) Tryz.func5 (by kernel_rfl)
    (of_decide_eq_true (by kernel_rfl)) (by unfold Func.isWrapper; first | (rw [if_pos (by decide +kernel)]; kernel_rfl) | (rw [if_neg (by decide +kernel)]; exact ⟨rfl, rfl⟩))
    (fun os started H enc _ => lifted os started H enc)
theorem proved : Rows.KernelReachesSaid := over
#print axioms proved
end Go.Proofs.YtobjjdnfgamgcaaGreat.kernelReaches
namespace Go.Proofs.YtobjjdnfgamgcaaGreat
/-- The row, under a short name, for the claim. -/
theorem kernelReaches_holds : Rows.KernelReachesSaid := kernelReaches.proved
end Go.Proofs.YtobjjdnfgamgcaaGreat
end
