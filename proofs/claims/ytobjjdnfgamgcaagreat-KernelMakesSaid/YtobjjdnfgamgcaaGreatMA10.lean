/- The transition matrices of the four kernels over executions agree with the reference, errors included, at every input. (part 10 of 13) -/
import Derived.OrdersHeld
import Derived.Below
import Derived.Tactics
import Derived.KernelRfl
import Derived.RangeFuncCalls
import Derived.RangeFuncFrom
import Derived.RangeFuncLeaves
import Derived.OrdersIn
import Derived.Laws.AppendOwn
import Derived.Laws.MakeOwn
import Derived.Laws.CopyRow
import Derived.Laws.Cells
import Derived.Laws.World
import Derived.Laws.Alloc2
import Derived.Laws.NewBlocks
import Derived.Maps.AppendAt
import Derived.Test.YtobjjdnfgamgcaaGreatProg
import Init.Data.List.Lemmas
import Init.Omega
import Derived.WalkKit
import Derived.ProofKit
import Derived.OpenShut
import Derived.ChangeOld
import Derived.SizedLaws
import Derived.ChangeSlices
import Derived.ChangeArms
import Derived.Deep.Slices
import Derived.MapKept
import Derived.Maps.RangeRun
import Derived.Shelf.SlSortCmp.WholeK
import Derived.Lib.QuietBelow
import Derived.Test.YtobjjdnfgamgcaaGreatMA9
section
namespace Go.Proofs.YtobjjdnfgamgcaaGreat
open Go Go.RowKit
set_option linter.unusedSimpArgs false
set_option linter.unusedVariables false
attribute [local irreducible] XWP Spec SpecO XPub XCall seqX clX apX stX ldX iaX slX
/-- how many draws are the same, from the first on -/
def comN : List Dr → List Dr → Nat
  | d :: ds, e :: es => if d = e then comN ds es + 1 else 0
  | _, _ => 0
theorem comN_le : ∀ a b, comN a b ≤ a.length ∧ comN a b ≤ b.length
  | [], b => by simp [comN]
  | d :: ds, [] => by simp [comN]
  | d :: ds, e :: es => by
    unfold comN
    split
    · have := comN_le ds es
      simp only [List.length_cons]; omega
    · simp
theorem comN_stop : ∀ (n : Nat) (a b : List Dr), n ≤ a.length → n ≤ b.length → (∀ i, i < n → a[i]? = b[i]?) → (n = a.length ∨ n = b.length ∨ a[n]? ≠ b[n]?) → comN a b = n
  | 0, [], b, _, _, _, _ => by simp [comN]
  | 0, d :: ds, [], _, _, _, _ => by simp [comN]
  | 0, d :: ds, e :: es, _, _, _, h => by
    unfold comN
    rw [if_neg]
    rcases h with h | h | h
    · simp at h
    · simp at h
    · intro e'
      exact h (by simp [e'])
  | n + 1, [], b, h, _, _, _ => by simp at h
  | n + 1, d :: ds, [], _, h, _, _ => by simp at h
  | n + 1, d :: ds, e :: es, h1, h2, h3, h4 => by
    have h0 := h3 0 (by omega)
    have h0 : d = e := by simpa using h0
    unfold comN
    rw [if_pos h0]
    rw [comN_stop n ds es (by simpa using h1) (by simpa using h2) (fun i hi => by have := h3 (i + 1) (by omega); simpa using this) (by simpa using h4)]
theorem ccommon_c (V : View) (cs1 cs2 : List Value) (r t : Rn) (h1 : ElK 9 rnE V cs1 r) (h2 : ElK 9 rnE V cs2 t) (l1 : r.ds.length ≤ 1000) (l2 : t.ds.length ≤ 1000) : Spec Tryz.prog 108 [.agg cs1.toArray, .agg cs2.toArray] V fun v' V' => v' = .int .i64 (comN r.ds t.ds : Nat) := by
  obtain ⟨u0, u1, u2, u3, u4, dv1, u6, u7, u8, rfl, hd1⟩ := rn_draws h1
  obtain ⟨v0, v1, v2, v3, v4, dv2, v6, v7, v8, rfl, hd2⟩ := rn_draws h2
  obtain ⟨A1, q1, rfl, _, _⟩ := hd1.form
  obtain ⟨A2, q2, rfl, _, _⟩ := hd2.form
  refine (Spec.enter Tryz.func108 rfl fun Γ => ?_)
  simp only [Tryz.ntmps108, List.map_cons, List.map_nil, List.length_cons, List.length_nil, Nat.reduceAdd, Nat.reduceSub, List.replicate_succ, List.replicate_zero, List.cons_append, List.nil_append]
  refine Gx.a (by kernel_rfl) fun K hK => ?_
  simp only [XA]
  refine hK _ ?_
  refine Gx.a (by kernel_rfl) fun K hK => ?_
  simp only [XA]
  refine hK _ ?_
  refine XWP.cut (fun s => ∃ (N : Nat), StIs (fun Z => [Z 0,Z 1, .p 0 0, .p 1 0, Z 4, .v (.int .i64 (N : Int)), Z 6,Z 7,Z 8,Z 9,Z 10,Z 11,Z 12,Z 13,Z 14,Z 15,Z 16,Z 17,Z 18,Z 19,Z 20,Z 21,Z 22,Z 23,Z 24,Z 25,Z 26,Z 27,Z 28,Z 29,Z 30,Z 31,Z 32,Z 33]) [[u0, u1, u2, u3, u4, .slice A1 r.ds.length q1, u6, u7, u8], [v0, v1, v2, v3, v4, .slice A2 t.ds.length q2, v6, v7, v8]] (fun _ => none) V s ∧ comN r.ds t.ds = N) ?_ ?_
  rotate_left
  · rintro s ⟨N, hs, rfl⟩
    obtain ⟨z, rfl⟩ := hs.out
    try dsimp only
    refine Gx.a (by kernel_rfl) fun K hK => ?_
    simp only [XA]
    refine hK _ (XWP.ret ?_)
    try simp only [thenX_ret, inBlockX_ret]
    refine ret_go _ rfl ?_
    rfl
  refine XWP.block ?_
  refine XWP.loop (fun q s => ∃ (n : Nat), StIs (fun Z => [Z 0,Z 1, .p 0 0, .p 1 0, Z 4, .v (.int .i64 (n : Int)), Z 6,Z 7,Z 8,Z 9,Z 10,Z 11,Z 12,Z 13,Z 14,Z 15,Z 16,Z 17,Z 18,Z 19,Z 20,Z 21,Z 22,Z 23,Z 24,Z 25,Z 26,Z 27,Z 28,Z 29,Z 30,Z 31,Z 32,Z 33]) [[u0, u1, u2, u3, u4, .slice A1 r.ds.length q1, u6, u7, u8], [v0, v1, v2, v3, v4, .slice A2 t.ds.length q2, v6, v7, v8]] (fun _ => none) V s ∧ q + n = r.ds.length ∧ n ≤ t.ds.length ∧ ∀ i, i < n → r.ds[i]? = t.ds[i]?) r.ds.length ⟨0, StIs.of (by exact rfl), by omega, by omega, fun i hi => by omega⟩ ?_
  rintro q s ⟨n, hs, hq, hnt, heq⟩
  obtain ⟨z, rfl⟩ := hs.out
  try dsimp only
  clear hs
  refine XWP.seq ?_
  by_cases c1 : n < r.ds.length
  rotate_left
  · have t1 : decide ((n : Int) < (r.ds.length : Int)) = false := decide_eq_false (by omega)
    (refine XWP.drw [0, 1, 2, 3, 4, 5, 6, 7, 8, 9, 10, 11, 12, 13, 14, 15, 16, 17, 18, 19, 20, 21, 22, 23, 24] (by kernel_rfl) (by kernel_rfl) (by kernel_rfl) fun K hK => ?_) <;> dsimp only [pickOps, List.getElem?_cons_zero, List.getElem?_cons_succ]
    simp only [XU, XA, XB, gateX, ↓reduceIte, t1]
    refine hK _ ?_
    refine Gx.f rfl ?_
    refine XWP.exit ?_
    exact ⟨n, StIs.of (by exact rfl), comN_stop n r.ds t.ds (by omega) hnt heq (.inl (by omega))⟩
  have t1 : decide ((n : Int) < (r.ds.length : Int)) = true := decide_eq_true (by omega)
  by_cases c2 : n < t.ds.length
  rotate_left
  · have t2 : decide ((n : Int) < (t.ds.length : Int)) = false := decide_eq_false (by omega)
    (refine XWP.drw [0, 1, 2, 3, 4, 5, 6, 7, 8, 9, 10, 11, 12, 13, 14, 15, 16, 17, 18, 19, 20, 21, 22, 23, 24] (by kernel_rfl) (by kernel_rfl) (by kernel_rfl) fun K hK => ?_) <;> dsimp only [pickOps, List.getElem?_cons_zero, List.getElem?_cons_succ]
    simp only [XU, XA, XB, gateX, ↓reduceIte, beq_self_eq_true, t1, t2]
    refine hK _ ?_
    refine Gx.f rfl ?_
    refine XWP.exit ?_
    exact ⟨n, StIs.of (by exact rfl), comN_stop n r.ds t.ds (by omega) hnt heq (.inr (.inl (by omega)))⟩
  have t2 : decide ((n : Int) < (t.ds.length : Int)) = true := decide_eq_true (by omega)
  obtain ⟨b1, o1, rfl⟩ := SlK.addr hd1 (by omega)
  obtain ⟨b2, o2, rfl⟩ := SlK.addr hd2 (by omega)
  obtain ⟨dc, ⟨d1, _, d3⟩, hcell⟩ := SlK.get hd1 n c1
  obtain ⟨ec, ⟨e1, _, e3⟩, hcell2⟩ := SlK.get hd2 n c2
  have hkd : r.ds[n]? = some r.ds[n] := List.getElem?_eq_getElem c1
  have hke : t.ds[n]? = some t.ds[n] := List.getElem?_eq_getElem c2
  have d3 : dc = r.ds[n].cells := d3
  have e3 : ec = t.ds[n].cells := e3
  generalize r.ds[n] = d at *
  generalize t.ds[n] = e at *
  subst d3
  subst e3
  (refine XWP.drw [0, 1, 2, 3, 4, 5, 6, 7, 8, 9, 10, 11, 12, 13, 14, 15, 16, 17, 18, 19, 20, 21, 22, 23, 24] (by kernel_rfl) (by kernel_rfl) (by kernel_rfl) fun K hK => ?_) <;> dsimp only [pickOps, List.getElem?_cons_zero, List.getElem?_cons_succ]
  simp only [XU, XA, XB, gateX, ↓reduceIte, beq_self_eq_true, t1, t2]
  refine ⟨by omega, by omega, ld_mem (loadsK shapeT_66 d1 (hcell _)) ?_⟩
  simp only [XU, XA, gateX, ↓reduceIte, beq_self_eq_true]
  refine ⟨by omega, by omega, ld_mem (loadsK shapeT_66 e1 (hcell2 _)) ?_⟩
  simp only [XA, gateX, ↓reduceIte, beq_self_eq_true]
  refine bin_own rfl (drawn_eq d e) ?_
  by_cases hde : d = e
  · have b3 : decide (d = e) = true := decide_eq_true hde
    simp only [XA, ↓reduceIte, b3]
    refine hK _ ?_
    refine Gx.t rfl ?_
    refine XWP.skip ?_
    refine XWP.block ?_
    refine Gx.c (by kernel_rfl) fun K hK => ?_
    simp only [XA, XB, i64_succ n (by omega)]
    refine hK _ ⟨q - 1, by omega, n + 1, StIs.of (by exact rfl), by omega, by omega, fun i hi => ?_⟩
    by_cases ei : i = n
    · subst ei; rw [hkd, hke, hde]
    · exact heq i (by omega)
  · have b3 : decide (d = e) = false := decide_eq_false hde
    simp only [XA, ↓reduceIte, b3]
    refine hK _ ?_
    refine Gx.f rfl ?_
    refine XWP.exit ?_
    exact ⟨n, StIs.of (by exact rfl), comN_stop n r.ds t.ds (by omega) hnt heq (.inr (.inr (by rw [hkd, hke]; exact fun h => hde (Option.some.inj h))))⟩
theorem kpart_c (V : View) (a b : Int) (ha : 0 ≤ a) (hb : 0 < b) (la : a < 4611686018427387904) (lb : b < 4611686018427387904) : Spec Tryz.prog 69 [.int .i64 a, .int .i64 b] V fun v' V' => RatC V' v' (rv false a.toNat b.toNat) := by
  refine (Spec.enter Tryz.func69 rfl fun Γ => ?_)
  simp only [Tryz.ntmps69, List.map_cons, List.map_nil, List.length_cons, List.length_nil, Nat.reduceAdd, Nat.reduceSub, List.replicate_succ, List.replicate_zero, List.cons_append, List.nil_append]
  refine Gx.a (by kernel_rfl) fun K hK => ?_
  simp only [XA, XB]
  refine hK _ ?_
  refine Gx.a (by kernel_rfl) fun K hK => ?_
  simp only [XA]
  refine call_go (by kernel_rfl) rfl (qmake_i _ a b ha hb la lb) fun v1 V1 hV1 h1 => ?_
  obtain ⟨w, rfl, h1⟩ := h1
  obtain ⟨x, y, rfl, p1, p2⟩ := h1.form
  simp only [XA, XB]
  refine st_rat rfl rfl rfl p1 p2 ?_
  simp only [XA]
  refine hK _ ?_
  refine Gx.a (by kernel_rfl) fun K hK => ?_
  simp only [XA, XB, Nat.reduceAdd, Nat.reduceLeDiff, ↓reduceIte]
  refine st_rat rfl rfl rfl p1 p2 ?_
  simp only [XA]
  refine hK _ (XWP.ret ?_)
  try simp only [thenX_ret, inBlockX_ret]
  exact ret_rat1 rfl rfl rfl h1
/-- the odds of a draw; of draws one after the other -/
def dq (l : List Dr) (k : Nat) : Rat := ((l[k]?).map fun d => rv false d.odds.toNat d.whole.toNat).getD 1
def tlQ (l : List Dr) : Nat → Rat
  | 0 => 1
  | k + 1 => tlQ l k * dq l k
theorem dq_QB {l : List Dr} (h : ∀ d ∈ l, d.good) (k : Nat) : QB 16 (dq l k) := by
  unfold dq
  cases hk : l[k]? with
  | none => exact QB_one 16
  | some d =>
    obtain ⟨_, g2, g3, g4⟩ := h d (List.mem_of_getElem? hk)
    exact QB_rv _ (by omega) (by omega)
theorem tlQ_QB {l : List Dr} (h : ∀ d ∈ l, d.good) : ∀ k, QB (16 * k) (tlQ l k)
  | 0 => QB_one _
  | k + 1 => ((tlQ_QB h k).mul (dq_QB h k)).mono (by omega)
/-- what is proposed from one to another -/
def propM (a b : List Dr) : Nat := min (comN a b + 1) (min a.length b.length)
def propF (a b : List Dr) (m : Nat) : Rat := tlQ (b.drop m) (b.length - m) * rv false 1 a.length
def propQ (a b : List Dr) : Rat := Sm (propF a b) (propM a b)
theorem drop_good {l : List Dr} (h : ∀ d ∈ l, d.good) (m : Nat) : ∀ d ∈ l.drop m, d.good := fun d hd => h d (List.mem_of_mem_drop hd)
theorem propF_QB {a b : List Dr} (hb : ∀ d ∈ b, d.good) (la : a.length ≤ 8) (lb : b.length ≤ 8) (m : Nat) : QB 132 (propF a b m) :=
  (((tlQ_QB (drop_good hb m) (b.length - m)).mono (show 16 * (b.length - m) ≤ 128 by omega)).mul (QB_rv (B := 4) false (by omega) (by omega))).mono (by omega)
theorem propS_QB {a b : List Dr} (hb : ∀ d ∈ b, d.good) (la : a.length ≤ 8) (lb : b.length ≤ 8) : ∀ m, QB (m * 133) (Sm (propF a b) m)
  | 0 => QB_zero _
  | m + 1 => ((propS_QB hb la lb m).add (propF_QB hb la lb m)).mono (by omega)
theorem propQ_QB {a b : List Dr} (hb : ∀ d ∈ b, d.good) (la : a.length ≤ 8) (lb : b.length ≤ 8) : QB 1064 (propQ a b) :=
  (propS_QB hb la lb _).mono (by unfold propM; omega)
theorem SlK.drop {α : Type} {sz : Nat} {E : View → List Value → α → Prop} {V : View} {A : Option Addr} {n c : Nat} {xs : List α} (h : SlK sz E V (.slice A n c) xs) {m : Nat} (hm : m ≤ xs.length) : SlK sz E V (sliceV A c sz m n) (xs.drop m) := by
  obtain ⟨A', c', e, h1, h2, h3⟩ := h
  cases e
  unfold sliceV
  by_cases hc : c = m
  · have : xs.drop m = [] := by rw [List.drop_eq_nil_iff]; omega
    rw [if_pos hc, this]
    exact ⟨A, c - m, by rw [show xs.length - m = 0 by omega]; rfl, by simp, by omega, .inl rfl⟩
  · rw [if_neg hc]
    refine ⟨_, c - m, by rw [List.length_drop], by rw [List.length_drop]; omega, by omega, ?_⟩
    rcases h3 with rfl | ⟨b, o, arr, ty, fr, e1, e2, h4⟩
    · exact .inl (by simp)
    · refine .inr ⟨b, o + m * sz, arr, ty, fr, by rw [e1, Option.map_some, addr_add], e2, fun i x hx => ?_⟩
      rw [List.getElem?_drop] at hx
      obtain ⟨cs, k1, k2⟩ := h4 (m + i) x hx
      refine ⟨cs, k1, fun j u hj => ?_⟩
      have := k2 j u hj
      rw [Nat.add_mul] at this
      rw [show o + m * sz + i * sz + j = o + (m * sz + i * sz) + j by omega]
      exact this
end Go.Proofs.YtobjjdnfgamgcaaGreat
end
section
namespace Go.Proofs.YtobjjdnfgamgcaaGreat
open Go Go.RowKit
set_option linter.unusedSimpArgs false
set_option linter.unusedVariables false
attribute [local irreducible] XWP Spec SpecO XPub XCall seqX clX apX stX ldX iaX slX
/-- a state's cells -/
theorem st_draws {V : View} {cs : List Value} {r : Rn} (h : ElK 18 stE V cs r) : ∃ x0 x1 x2 x3 x4 dv x6 x7 x8 x9 x10 x11 x12 x13 x14 x15 x16 x17, cs = [x0, x1, x2, x3, x4, dv, x6, x7, x8, x9, x10, x11, x12, x13, x14, x15, x16, x17] ∧ SlK 4 drE V dv r.ds ∧ ElK 9 rnE V [x0, x1, x2, x3, x4, dv, x6, x7, x8] r := by
  obtain ⟨_, _, v0, v1, v2, v3, v4, v5, v6, v7, v8, m, n, d, q1, q2, q3, s1, s2, s3, rfl, h1, _⟩ := h
  obtain ⟨u0, u1, u2, u3, u4, dv, u6, u7, u8, e, hd⟩ := rn_draws h1
  cases e
  exact ⟨_, _, _, _, _, _, _, _, _, _, _, _, _, _, _, _, _, _, rfl, hd, h1⟩
set_option maxHeartbeats 4000000 in
set_option maxRecDepth 100000 in
theorem cproposed_c (V : View) (cs1 cs2 : List Value) (r t : Rn) (h1 : ElK 18 stE V cs1 r) (h2 : ElK 18 stE V cs2 t) (hr : r.small) (ht : t.small) : Spec Tryz.prog 64 [.agg cs1.toArray, .agg cs2.toArray] V fun v' V' => RatC V' v' (propQ r.ds t.ds) := by
  have l1 := hr.len
  have l2 := ht.len
  obtain ⟨x0, x1, x2, x3, x4, dv1, x6, x7, x8, x9, x10, x11, x12, x13, x14, x15, x16, x17, rfl, hd1, hr1⟩ := st_draws h1
  obtain ⟨y0, y1, y2, y3, y4, dv2, y6, y7, y8, y9, y10, y11, y12, y13, y14, y15, y16, y17, rfl, hd2, hr2⟩ := st_draws h2
  obtain ⟨A1, q1, rfl, _, _⟩ := hd1.form
  obtain ⟨A2, q2, rfl, _, _⟩ := hd2.form
  have hcm := comN_le r.ds t.ds
  refine (Spec.enter Tryz.func64 rfl fun Γ => ?_)
  simp only [Tryz.ntmps64, List.map_cons, List.map_nil, List.length_cons, List.length_nil, Nat.reduceAdd, Nat.reduceSub, List.replicate_succ, List.replicate_zero, List.cons_append, List.nil_append]
  refine Gx.a (by kernel_rfl) fun K hK => ?_
  simp only [XA, XB, Nat.reduceAdd]
  refine hK _ ?_
  refine Gx.a (by kernel_rfl) fun K hK => ?_
  simp only [XA]
  refine call_go (by kernel_rfl) rfl (qzero_c _) fun v3 V3 hV3 h3 => ?_
  obtain ⟨x, y, rfl, o1, o2⟩ := h3.form
  simp only [XA, XB, Nat.reduceAdd]
  refine st_rat rfl rfl rfl o1 o2 ?_
  simp only [XA]
  refine hK _ ?_
  refine Gx.a (by kernel_rfl) fun K hK => ?_
  simp only [XU, XV, XA, Nat.reduceAdd, Nat.reduceLeDiff, ↓reduceIte]
  refine call_go (by kernel_rfl) rfl (ccommon_c _ _ _ r t (hr1.mono rnE_ok hV3) (hr2.mono rnE_ok hV3) (by omega) (by omega)) fun v4 V4 hV4 h4 => ?_
  subst h4
  simp only [XA]
  refine hK _ ?_
  have hV04 := View.le_trans hV3 hV4
  have h3 : RatC V4 (.agg #[.bool (ng 0), x, y]) (Sm (propF r.ds t.ds) 0) := h3.mono hV4
  refine XWP.cutD 4 (fun s => ∃ (V5 : View) (b x y : Value), StIs (fun Z => [Z 0,Z 1, .p 0 0, .p 1 0, .p 2 0, .p 3 0, .v (.int .i64 (comN r.ds t.ds : Nat)), Z 7,Z 8,Z 9,Z 10,Z 11,Z 12,Z 13,Z 14,Z 15,Z 16,Z 17,Z 18,Z 19,Z 20,Z 21,Z 22,Z 23,Z 24,Z 25,Z 26,Z 27,Z 28,Z 29,Z 30,Z 31,Z 32,Z 33,Z 34,Z 35,Z 36,Z 37,Z 38,Z 39,Z 40,Z 41,Z 42,Z 43,Z 44,Z 45,Z 46,Z 47,Z 48,Z 49,Z 50,Z 51,Z 52,Z 53,Z 54,Z 55,Z 56,Z 57,Z 58,Z 59,Z 60,Z 61,Z 62,Z 63,Z 64,Z 65,Z 66]) [[x0, x1, x2, x3, x4, .slice A1 r.ds.length q1, x6, x7, x8, x9, x10, x11, x12, x13, x14, x15, x16, x17], [y0, y1, y2, y3, y4, .slice A2 t.ds.length q2, y6, y7, y8, y9, y10, y11, y12, y13, y14, y15, y16, y17], [.bool false, .slice none 0 0, .slice none 0 0], [b, x, y]] (fun _ => none) V5 s ∧ RatC V5 (.agg #[b, x, y]) (propQ r.ds t.ds)) ?_ ?_
  rotate_left
  · rintro s ⟨V5, b, x, y, hs, hx⟩
    obtain ⟨z, rfl⟩ := hs.out
    try dsimp only
    clear hs
    obtain ⟨x', y', e, p1, p2⟩ := hx.form
    cases e
    refine Gx.a (by kernel_rfl) fun K hK => ?_
    simp only [XA, XB, Nat.reduceAdd, Nat.reduceLeDiff, ↓reduceIte]
    refine st_rat rfl rfl rfl p1 p2 ?_
    simp only [XA]
    refine hK _ (XWP.ret ?_)
    try simp only [thenX_ret, inBlockX_ret]
    exact ret_rat1 rfl rfl rfl hx
  refine Gx.a (by kernel_rfl) fun K hK => ?_
  simp only [XA]
  refine hK _ ?_
  clear hK
  refine XWP.block ?_
  refine XWP.loopD 4 (fun q s => ∃ (m : Nat) (V5 : View) (b x y : Value), StIs (fun Z => [Z 0,Z 1, .p 0 0, .p 1 0, .p 2 0, .p 3 0, .v (.int .i64 (comN r.ds t.ds : Nat)), .v (.int .i64 (m : Int)), Z 8,Z 9,Z 10,Z 11,Z 12,Z 13,Z 14,Z 15,Z 16,Z 17,Z 18,Z 19,Z 20,Z 21,Z 22,Z 23,Z 24,Z 25,Z 26,Z 27,Z 28,Z 29,Z 30,Z 31,Z 32,Z 33,Z 34,Z 35,Z 36,Z 37,Z 38,Z 39,Z 40,Z 41,Z 42,Z 43,Z 44,Z 45,Z 46,Z 47,Z 48,Z 49,Z 50,Z 51,Z 52,Z 53,Z 54,Z 55,Z 56,Z 57,Z 58,Z 59,Z 60,Z 61,Z 62,Z 63,Z 64,Z 65,Z 66]) [[x0, x1, x2, x3, x4, .slice A1 r.ds.length q1, x6, x7, x8, x9, x10, x11, x12, x13, x14, x15, x16, x17], [y0, y1, y2, y3, y4, .slice A2 t.ds.length q2, y6, y7, y8, y9, y10, y11, y12, y13, y14, y15, y16, y17], [.bool false, .slice none 0 0, .slice none 0 0], [b, x, y]] (fun _ => none) V5 s ∧ q + m = propM r.ds t.ds ∧ V4.le V5 ∧ RatC V5 (.agg #[b, x, y]) (Sm (propF r.ds t.ds) m)) (propM r.ds t.ds) ⟨0, V4, _, x, y, StIs.of (by exact rfl), by omega, View.le_refl _, h3⟩ ?_
  clear h3 o1 o2
  rintro q s ⟨m, V5, b, x, y, hs, hq, hV5, hx⟩
  obtain ⟨z, rfl⟩ := hs.out
  try dsimp only
  clear hs
  refine XWP.seq ?_
  have eM : propM r.ds t.ds = min (comN r.ds t.ds + 1) (min r.ds.length t.ds.length) := rfl
  have hend : m = propM r.ds t.ds → RatC V5 (.agg #[b, x, y]) (propQ r.ds t.ds) := fun e => by unfold propQ; rw [← e]; exact hx
  by_cases c1 : m ≤ comN r.ds t.ds
  rotate_left
  · have t1 : decide ((m : Int) ≤ ((comN r.ds t.ds : Nat) : Int)) = false := decide_eq_false (by omega)
    refine Gx.a (by kernel_rfl) fun K hK => ?_
    simp only [XA, XB, gateX, ↓reduceIte, t1]
    refine hK _ ?_
    refine Gx.f rfl ?_
    refine XWP.exit ?_
    exact fun f => ⟨V5, b, x, y, StIs.of (by exact rfl), hend (by omega)⟩
  have t1 : decide ((m : Int) ≤ ((comN r.ds t.ds : Nat) : Int)) = true := decide_eq_true (by omega)
  by_cases c2 : m < r.ds.length
  rotate_left
  · have t2 : decide ((m : Int) < (r.ds.length : Int)) = false := decide_eq_false (by omega)
    refine Gx.a (by kernel_rfl) fun K hK => ?_
    simp only [XU, XV, XA, XB, gateX, ↓reduceIte, beq_self_eq_true, t1, t2]
    refine hK _ ?_
    refine Gx.f rfl ?_
    refine XWP.exit ?_
    exact fun f => ⟨V5, b, x, y, StIs.of (by exact rfl), hend (by omega)⟩
  have t2 : decide ((m : Int) < (r.ds.length : Int)) = true := decide_eq_true (by omega)
  by_cases c3 : m < t.ds.length
  rotate_left
  · have t3 : decide ((m : Int) < (t.ds.length : Int)) = false := decide_eq_false (by omega)
    refine Gx.a (by kernel_rfl) fun K hK => ?_
    simp only [XU, XV, XA, XB, gateX, ↓reduceIte, beq_self_eq_true, t1, t2, t3]
    refine hK _ ?_
    refine Gx.f rfl ?_
    refine XWP.exit ?_
    exact fun f => ⟨V5, b, x, y, StIs.of (by exact rfl), hend (by omega)⟩
  have t3 : decide ((m : Int) < (t.ds.length : Int)) = true := decide_eq_true (by omega)
  refine Gx.a (by kernel_rfl) fun K hK => ?_
  simp only [XU, XV, XA, XB, gateX, ↓reduceIte, beq_self_eq_true, t1, t2, t3]
  refine hK _ ?_
  refine Gx.t rfl ?_
  refine XWP.skip ?_
  refine XWP.cutD 4 (fun s => ∃ (V6 : View) (b x y : Value), StIs (fun Z => [Z 0,Z 1, .p 0 0, .p 1 0, .p 2 0, .p 3 0, .v (.int .i64 (comN r.ds t.ds : Nat)), .v (.int .i64 (m : Int)), Z 8,Z 9,Z 10,Z 11,Z 12,Z 13,Z 14,Z 15,Z 16,Z 17,Z 18,Z 19,Z 20,Z 21,Z 22,Z 23,Z 24,Z 25,Z 26,Z 27,Z 28,Z 29,Z 30,Z 31,Z 32,Z 33,Z 34,Z 35,Z 36,Z 37,Z 38,Z 39,Z 40,Z 41,Z 42,Z 43,Z 44,Z 45,Z 46,Z 47,Z 48,Z 49,Z 50,Z 51,Z 52,Z 53,Z 54,Z 55,Z 56,Z 57,Z 58,Z 59,Z 60,Z 61,Z 62,Z 63,Z 64,Z 65,Z 66]) [[x0, x1, x2, x3, x4, .slice A1 r.ds.length q1, x6, x7, x8, x9, x10, x11, x12, x13, x14, x15, x16, x17], [y0, y1, y2, y3, y4, .slice A2 t.ds.length q2, y6, y7, y8, y9, y10, y11, y12, y13, y14, y15, y16, y17], [.bool false, .slice none 0 0, .slice none 0 0], [b, x, y]] (fun _ => none) V6 s ∧ V5.le V6 ∧ RatC V6 (.agg #[b, x, y]) (Sm (propF r.ds t.ds) (m + 1))) ?_ ?_
  rotate_left
  · rintro s ⟨V6, b, x, y, hs, hV6, hx⟩
    obtain ⟨z, rfl⟩ := hs.out
    try dsimp only
    clear hs
    refine Gx.c (by kernel_rfl) fun K hK => ?_
    simp only [XA, XB, i64_succ m (by omega)]
    exact hK _ ⟨q - 1, by omega, fun f => ⟨m + 1, V6, b, x, y, StIs.of (by exact rfl), by omega, View.le_trans hV5 hV6, hx⟩⟩
  clear hK
  refine XWP.block ?_
  refine Gx.a (by kernel_rfl) fun K hK => ?_
  simp only [XA]
  refine call_go (by kernel_rfl) rfl (qone_c _) fun v6 V6 hV6 h6 => ?_
  obtain ⟨x6', y6', rfl, o3, o4⟩ := h6.form
  simp only [XA, XB, Nat.reduceAdd]
  refine st_rat rfl rfl rfl o3 o4 ?_
  simp only [XA]
  refine hK _ ?_
  have hds6 := (hd2.mono drE_ok (View.le_trans hV04 (View.le_trans hV5 hV6))).drop (m := m) (by omega)
  obtain ⟨A3, q3, e3, hq3, hm3⟩ := hds6.form
  have hl3 : (t.ds.drop m).length = t.ds.length - m := List.length_drop
  have hg3 := drop_good ht.good m
  rw [e3] at hds6
  have h6 : RatC V6 (.agg #[.bool (ng 1), x6', y6']) (tlQ (t.ds.drop m) 0) := h6
  have hQ3 : ∀ k, k ≤ 8 → QF (tlQ (t.ds.drop m) k) := fun k hk => (tlQ_QB hg3 k).qf (by omega)
  refine XWP.cutD 5 (fun s => ∃ (V7 : View) (b7 x7' y7' : Value), StIs (fun Z => [Z 0,Z 1, .p 0 0, .p 1 0, .p 2 0, .p 3 0, .v (.int .i64 (comN r.ds t.ds : Nat)), .v (.int .i64 (m : Int)), .p 4 0, Z 9,Z 10,Z 11,Z 12,Z 13,Z 14,Z 15,Z 16,Z 17,Z 18,Z 19,Z 20,Z 21,Z 22,Z 23,Z 24,Z 25,Z 26,Z 27,Z 28,Z 29,Z 30,Z 31,Z 32,Z 33,Z 34,Z 35,Z 36,Z 37,Z 38,Z 39,Z 40,Z 41,Z 42,Z 43,Z 44,Z 45,Z 46,Z 47,Z 48,Z 49,Z 50,Z 51,Z 52,Z 53,Z 54,Z 55,Z 56,Z 57,Z 58,Z 59,Z 60,Z 61,Z 62,Z 63,Z 64,Z 65,Z 66]) [[x0, x1, x2, x3, x4, .slice A1 r.ds.length q1, x6, x7, x8, x9, x10, x11, x12, x13, x14, x15, x16, x17], [y0, y1, y2, y3, y4, .slice A2 t.ds.length q2, y6, y7, y8, y9, y10, y11, y12, y13, y14, y15, y16, y17], [.bool false, .slice none 0 0, .slice none 0 0], [b, x, y], [b7, x7', y7']] (fun _ => none) V7 s ∧ V6.le V7 ∧ RatC V7 (.agg #[b7, x7', y7']) (tlQ (t.ds.drop m) (t.ds.length - m))) ?_ ?_
  · refine Gx.a (by kernel_rfl) fun K hK => ?_
    simp only [XU, XV, XA]
    refine ⟨by omega, by omega, by omega, ?_⟩
    rw [e3]
    simp only [XA]
    refine hK _ ?_
    clear hK
    refine XWP.block ?_
    refine XWP.loopD 5 (fun n s => ∃ (k : Nat) (V7 : View) (b7 x7' y7' : Value), StIs (fun Z => [Z 0,Z 1, .p 0 0, .p 1 0, .p 2 0, .p 3 0, .v (.int .i64 (comN r.ds t.ds : Nat)), .v (.int .i64 (m : Int)), .p 4 0, Z 9,Z 10,Z 11,Z 12,Z 13,Z 14,Z 15,Z 16,Z 17,Z 18,Z 19,Z 20,Z 21,Z 22,Z 23,Z 24,Z 25,Z 26,Z 27,Z 28,Z 29,Z 30,Z 31,Z 32,Z 33,Z 34,Z 35,Z 36,Z 37,Z 38,Z 39,Z 40,Z 41,Z 42, .v (.slice A3 (t.ds.drop m).length q3), .v (.int .i64 ((t.ds.drop m).length : Int)), .v (.int .i64 (k : Int)), Z 46,Z 47,Z 48,Z 49,Z 50,Z 51,Z 52,Z 53,Z 54,Z 55,Z 56,Z 57,Z 58,Z 59,Z 60,Z 61,Z 62,Z 63,Z 64,Z 65,Z 66]) [[x0, x1, x2, x3, x4, .slice A1 r.ds.length q1, x6, x7, x8, x9, x10, x11, x12, x13, x14, x15, x16, x17], [y0, y1, y2, y3, y4, .slice A2 t.ds.length q2, y6, y7, y8, y9, y10, y11, y12, y13, y14, y15, y16, y17], [.bool false, .slice none 0 0, .slice none 0 0], [b, x, y], [b7, x7', y7']] (fun _ => none) V7 s ∧ n + k = (t.ds.drop m).length ∧ V6.le V7 ∧ RatC V7 (.agg #[b7, x7', y7']) (tlQ (t.ds.drop m) k)) (t.ds.drop m).length ⟨0, V6, _, x6', y6', StIs.of (by exact rfl), by omega, View.le_refl _, h6⟩ ?_
    clear h6 o3 o4
    rintro n s ⟨k, V7, b7, x7', y7', hs, hn, hV7, h7⟩
    obtain ⟨z, rfl⟩ := hs.out
    try dsimp only
    clear hs
    by_cases hk : k < (t.ds.drop m).length
    rotate_left
    · obtain rfl : k = (t.ds.drop m).length := by omega
      have b8 : decide ((((t.ds.drop m).length : Nat) : Int) < (((t.ds.drop m).length : Nat) : Int)) = false := decide_eq_false (by omega)
      refine Gx.a (by kernel_rfl) fun K hK => ?_
      simp only [XA, XB, b8]
      refine hK _ ?_
      refine XWP.seq (Gx.f rfl ?_)
      refine XWP.exit ?_
      rw [hl3] at h7
      exact fun f => ⟨V7, b7, x7', y7', StIs.of (by exact rfl), hV7, h7⟩
    have b8 : decide ((k : Int) < ((t.ds.drop m).length : Int)) = true := decide_eq_true (by omega)
    refine Gx.a (by kernel_rfl) fun K hK => ?_
    simp only [XA, XB, b8]
    refine hK _ ?_
    refine XWP.seq (Gx.t rfl ?_)
    refine XWP.skip ?_
    have hds7 := hds6.mono drE_ok hV7
    obtain ⟨b3, o3, rfl⟩ := SlK.addr hds7 (by omega)
    obtain ⟨dc, ⟨d1, d2, d3⟩, hcell⟩ := SlK.get hds7 k hk
    have dgd := hg3 _ (List.getElem_mem hk)
    have hkd : (t.ds.drop m)[k]? = some (t.ds.drop m)[k] := List.getElem?_eq_getElem hk
    have d3 : dc = (t.ds.drop m)[k].cells := d3
    have edq : dq (t.ds.drop m) k = rv false ((t.ds.drop m)[k]).odds.toNat ((t.ds.drop m)[k]).whole.toNat := by unfold dq; rw [hkd]; rfl
    generalize (t.ds.drop m)[k] = d at *
    subst d3
    obtain ⟨g1, g2, g3, g4⟩ := dgd
    refine XWP.cutD 5 (fun s => ∃ (V8 : View) (b7 x7' y7' : Value), StIs (fun Z => [Z 0,Z 1, .p 0 0, .p 1 0, .p 2 0, .p 3 0, .v (.int .i64 (comN r.ds t.ds : Nat)), .v (.int .i64 (m : Int)), .p 4 0, Z 9,Z 10,Z 11,Z 12,Z 13,Z 14,Z 15,Z 16,Z 17,Z 18,Z 19,Z 20,Z 21,Z 22,Z 23,Z 24,Z 25,Z 26,Z 27,Z 28,Z 29,Z 30,Z 31,Z 32,Z 33,Z 34,Z 35,Z 36,Z 37,Z 38,Z 39,Z 40,Z 41,Z 42, .v (.slice (some ⟨b3, o3, none⟩) (t.ds.drop m).length q3), .v (.int .i64 ((t.ds.drop m).length : Int)), .v (.int .i64 (k : Int)), Z 46,Z 47,Z 48,Z 49,Z 50,Z 51,Z 52,Z 53,Z 54,Z 55,Z 56,Z 57,Z 58,Z 59,Z 60,Z 61,Z 62,Z 63,Z 64,Z 65,Z 66]) [[x0, x1, x2, x3, x4, .slice A1 r.ds.length q1, x6, x7, x8, x9, x10, x11, x12, x13, x14, x15, x16, x17], [y0, y1, y2, y3, y4, .slice A2 t.ds.length q2, y6, y7, y8, y9, y10, y11, y12, y13, y14, y15, y16, y17], [.bool false, .slice none 0 0, .slice none 0 0], [b, x, y], [b7, x7', y7']] (fun _ => none) V8 s ∧ V7.le V8 ∧ RatC V8 (.agg #[b7, x7', y7']) (tlQ (t.ds.drop m) (k + 1))) ?_ ?_
    rotate_left
    · rintro s ⟨V8, b7, x7', y7', hs, hV8, h7⟩
      obtain ⟨z, rfl⟩ := hs.out
      try dsimp only
      clear hs
      refine Gx.c (by kernel_rfl) fun K hK => ?_
      simp only [XA, XB, i64_succ k (by omega)]
      exact hK _ ⟨n - 1, by omega, fun f => ⟨k + 1, V8, b7, x7', y7', StIs.of (by exact rfl), by omega, View.le_trans hV7 hV8, h7⟩⟩
    clear hK
    obtain ⟨x9', y9', e9, p3, p4⟩ := h7.form
    cases e9
    refine XWP.block ?_
    refine Gx.a (by kernel_rfl) fun K hK => ?_
    simp only [XU, XA]
    refine ⟨by omega, by omega, ld_mem (loadsK shapeT_66 d1 (hcell _)) ?_⟩
    simp only [XU, XA, Nat.reduceAdd]
    refine st_whole (cs := [.int .i64 d.site, .int .i64 d.index, .int .i64 d.odds, .int .i64 d.whole]) shapeT_66 rfl rfl rfl rfl ?_
    simp only [XA]
    refine hK _ ?_
    have hq9 : QF (rv false d.odds.toNat d.whole.toNat) := (QB_rv (B := 16) _ (by omega) (by omega)).qf (by omega)
    (refine XWP.drw1 [0, 1, 2, 3, 4, 5, 6, 7] (by kernel_rfl) (by kernel_rfl) (by kernel_rfl) fun K hK => ?_) <;> dsimp only [pickOps, List.getElem?_cons_zero, List.getElem?_cons_succ]
    simp only [XU, XA, XB, Nat.reduceAdd, Nat.reduceLeDiff, ↓reduceIte]
    refine call_go (by kernel_rfl) rfl (kpart_c _ d.odds d.whole (by omega) (by omega) (by omega) (by omega)) fun v8 V8 hV8 h8 => ?_
    simp only [XA]
    refine call_go (by kernel_rfl) rfl (qmul_c _ _ _ _ _ (h7.mono hV8) h8 (hQ3 k (by omega)) hq9) fun v9 V9 hV9 h9 => ?_
    rw [← edq] at h9
    have h9 : RatC V9 v9 (tlQ (t.ds.drop m) (k + 1)) := h9
    obtain ⟨x10', y10', rfl, p5, p6⟩ := h9.form
    simp only [XA]
    refine st_rat rfl rfl rfl p5 p6 ?_
    simp only [XA]
    exact hK _ fun f => ⟨V9, _, x10', y10', StIs.of (by exact rfl), View.le_trans hV8 hV9, h9⟩
  rintro s ⟨V7, b7, x7', y7', hs, hV7, h7⟩
  obtain ⟨z, rfl⟩ := hs.out
  try dsimp only
  clear hs
  obtain ⟨x9', y9', e9, p3, p4⟩ := h7.form
  cases e9
  have hqL : QF (rv false 1 r.ds.length) := (QB_rv (B := 4) false (by omega) (by omega)).qf (by omega)
  have hS := propS_QB (a := r.ds) ht.good l1 l2
  (refine XWP.drw1 [0, 1, 2, 3, 4, 5, 6, 7, 8, 9] (by kernel_rfl) (by kernel_rfl) (by kernel_rfl) fun K hK => ?_) <;> dsimp only [pickOps, List.getElem?_cons_zero, List.getElem?_cons_succ]
  simp only [XU, XV, XA, XB, Nat.reduceAdd, Nat.reduceLeDiff, ↓reduceIte]
  refine call_go (by kernel_rfl) rfl (kpart_c _ 1 (r.ds.length : Int) (by omega) (by omega) (by omega) (by omega)) fun v8 V8 hV8 h8 => ?_
  rw [show (1 : Int).toNat = 1 from rfl, Int.toNat_natCast] at h8
  simp only [XA]
  refine call_go (by kernel_rfl) rfl (qmul_c _ _ _ _ _ (h7.mono hV8) h8 (hQ3 _ (by omega)) hqL) fun v9 V9 hV9 h9 => ?_
  have h9 : RatC V9 v9 (propF r.ds t.ds m) := h9
  simp only [XA]
  refine call_go (by kernel_rfl) rfl (qadd_c _ _ _ _ _ (((hx.mono (View.le_trans hV6 hV7)).mono hV8).mono hV9) h9 ((hS m).qf (by omega)) ((propF_QB ht.good l1 l2 m).qf (by omega))) fun v10 V10 hV10 h10 => ?_
  have h10 : RatC V10 v10 (Sm (propF r.ds t.ds) (m + 1)) := h10
  obtain ⟨x10', y10', rfl, p5, p6⟩ := h10.form
  simp only [XA]
  refine st_rat rfl rfl rfl p5 p6 ?_
  simp only [XA]
  exact hK _ fun f => ⟨V10, _, x10', y10', StIs.of (by exact rfl), View.le_trans (View.le_trans hV6 hV7) (View.le_trans hV8 (View.le_trans hV9 hV10)), h10⟩
end Go.Proofs.YtobjjdnfgamgcaaGreat
end
section
namespace Go.Proofs.YtobjjdnfgamgcaaGreat
open Go Go.RowKit
set_option linter.unusedSimpArgs false
set_option linter.unusedVariables false
attribute [local irreducible] XWP Spec SpecO XPub XCall seqX clX apX stX ldX iaX slX
def dsOf (l : List Rn) (k : Nat) : List Dr := ((l[k]?).map fun r => r.ds).getD []
theorem dsOf_at {l : List Rn} {k : Nat} {r : Rn} (h : l[k]? = some r) : dsOf l k = r.ds := by unfold dsOf; rw [h]; rfl
theorem SlK.st2 {V : View} {b o n c i : Nat} {l : List Rn} {r : Rn} (h : SlK 18 stE V (.slice (some ⟨b, o, none⟩) n c) l) (hi : l[i]? = some r) : ∃ cs : List Value, ElK 18 stE V cs r ∧ ∀ H, Loads Tryz.prog H V 87 b (o + i * 18) (.agg cs.toArray) := by
  have hl := (List.getElem?_eq_some_iff.1 hi).1
  obtain ⟨cs, he, hcell⟩ := SlK.get h i hl
  rw [(List.getElem?_eq_some_iff.1 hi).2] at he
  exact ⟨cs, he, fun H => loadsK shapeT_87 he.1 fun j u hj => hcell H j u hj⟩
def suffQ (l : List Rn) (i k : Nat) : Rat := ltQ (propQ (dsOf l i) (dsOf l k)) (propQ (dsOf l k) (dsOf l i) * (wOf l k / wOf l i))
theorem suffQ_QB {l : List Rn} (hs : ∀ r ∈ l, r.small) {i k : Nat} (hi : i < l.length) (hk : k < l.length) : QB 2400 (suffQ l i k) := by
  obtain ⟨r, hr⟩ : ∃ r, l[i]? = some r := ⟨_, List.getElem?_eq_getElem hi⟩
  obtain ⟨t, ht⟩ : ∃ r, l[k]? = some r := ⟨_, List.getElem?_eq_getElem hk⟩
  have h1 := hs r (List.mem_of_getElem? hr)
  have h2 := hs t (List.mem_of_getElem? ht)
  unfold suffQ
  rw [dsOf_at hr, dsOf_at ht, wOf_at hr, wOf_at ht]
  exact (QB_lt (propQ_QB h2.good h1.len h2.len) ((propQ_QB h1.good h2.len h1.len).mul (h2.qb.div h1.qb))).mono (by omega)
set_option maxHeartbeats 2000000 in
theorem csuff1_c (V : View) (b e i k : Nat) (x : Value) (l : List Rn) (hb : V b = some (.cells ([x] : List Value).toArray e (0, 0))) (hx : SlK 18 stE V x l) (hs : ∀ r ∈ l, r.small) (hi : i < l.length) (hk : k < l.length) :
    Spec Tryz.prog 63 [.int .i64 (i : Int), .int .i64 (k : Int), .pointer (some ⟨b, 0, none⟩)] V fun v' V' => RatC V' v' (suffQ l i k) := by
  obtain ⟨A, c, rfl, _, _⟩ := hx.form
  obtain ⟨bL, oL, rfl⟩ := SlK.addr hx (by omega)
  obtain ⟨r, hr⟩ : ∃ r, l[i]? = some r := ⟨_, List.getElem?_eq_getElem hi⟩
  obtain ⟨t, ht⟩ : ∃ r, l[k]? = some r := ⟨_, List.getElem?_eq_getElem hk⟩
  have h1 := hs r (List.mem_of_getElem? hr)
  have h2 := hs t (List.mem_of_getElem? ht)
  obtain ⟨rc1, w1, q1, s1, e1, ew1, eq1, es1, ld1⟩ := hx.st hr
  obtain ⟨rc2, w2, q2, s2, e2, ew2, eq2, es2, ld2⟩ := hx.st ht
  obtain ⟨cs1, ec1, lc1⟩ := hx.st2 hr
  obtain ⟨cs2, ec2, lc2⟩ := hx.st2 ht
  have hld := ldV1 (off := 0) hb rfl shapeT_83 (fun _ => none)
  refine (Spec.enter Tryz.func63 rfl fun Γ => ?_)
  simp only [Tryz.ntmps63, List.map_cons, List.map_nil, List.length_cons, List.length_nil, Nat.reduceAdd, Nat.reduceSub, List.replicate_succ, List.replicate_zero, List.cons_append, List.nil_append]
  refine Gx.a (by kernel_rfl) fun K hK => ?_
  simp only [XA, XB]
  refine hK _ ?_
  (refine XWP.drw [0, 1, 2, 3, 4, 5, 6, 7, 9, 10, 11, 12, 13, 14, 15, 16, 18, 19, 20, 21, 22, 23, 24, 25, 26, 27, 8, 17, 28, 29, 30, 31] (by kernel_rfl) (by kernel_rfl) (by kernel_rfl) fun K hK => ?_) <;> dsimp only [pickOps, List.getElem?_cons_zero, List.getElem?_cons_succ]
  simp only [XA]
  refine ld_mem hld ?_
  simp only [XV, XA]
  refine ⟨by omega, by omega, ld_mem (lc1 _) ?_⟩
  simp only [XA]
  refine ld_mem hld ?_
  simp only [XV, XA]
  refine ⟨by omega, by omega, ld_mem (lc2 _) ?_⟩
  simp only [XA]
  refine ld_mem hld ?_
  simp only [XV, XA]
  refine ⟨by omega, by omega, ld_mem (lc2 _) ?_⟩
  simp only [XA]
  refine ld_mem hld ?_
  simp only [XV, XA]
  refine ⟨by omega, by omega, ld_mem (lc1 _) ?_⟩
  simp only [XA]
  refine ld_mem hld ?_
  simp only [XV, XA]
  refine ⟨by omega, by omega, ld_mem (ld2 _).2.1 ?_⟩
  simp only [XA]
  refine ld_mem hld ?_
  simp only [XV, XA]
  refine ⟨by omega, by omega, ld_mem (ld1 _).2.1 ?_⟩
  simp only [XA]
  refine call_go (by kernel_rfl) rfl (cproposed_c _ _ _ r t ec1 ec2 h1 h2) fun v3 V3 hV3 h3 => ?_
  simp only [XA]
  refine call_go (by kernel_rfl) rfl (cproposed_c _ _ _ t r (ec2.mono stE_ok hV3) (ec1.mono stE_ok hV3) h2 h1) fun v4 V4 hV4 h4 => ?_
  simp only [XA]
  have hV34 := View.le_trans hV3 hV4
  have n1 : r.w.q ≠ 0 := fun e => by have := h1.pos; rw [e] at this; exact absurd this (by decide)
  refine call_go (by kernel_rfl) rfl (kby_c _ _ _ _ _ (ew2.mono hV34) (ew1.mono hV34) (h2.qb.qf (by omega)) (h1.qb.qf (by omega)) n1) fun v5 V5 hV5 h5 => ?_
  simp only [XA]
  have qb4 := propQ_QB h1.good h2.len h1.len
  have qb5 := h2.qb.div h1.qb
  have qb3 := propQ_QB h2.good h1.len h2.len
  refine call_go (by kernel_rfl) rfl (qmul_c _ _ _ _ _ (h4.mono hV5) h5 (qb4.qf (by omega)) (qb5.qf (by omega))) fun v6 V6 hV6 h6 => ?_
  simp only [XA]
  refine call_go (by kernel_rfl) rfl (qleast_c _ _ _ _ _ (h3.mono (View.le_trans hV4 (View.le_trans hV5 hV6))) h6 (qb3.qf (by omega)) ((qb4.mul qb5).qf (by omega))) fun v7 V7 hV7 h7 => ?_
  obtain ⟨x6, y6, rfl, p1, p2⟩ := h7.form
  simp only [XA]
  refine st_rat rfl rfl rfl p1 p2 ?_
  simp only [XA]
  refine hK _ (XWP.ret ?_)
  try simp only [thenX_ret, inBlockX_ret]
  refine ret_rat1 rfl rfl rfl ?_
  unfold suffQ
  rw [dsOf_at hr, dsOf_at ht, wOf_at hr, wOf_at ht]
  exact h7
theorem csuff_c (V : View) (v : Value) (l : List Rn) (h : SlK 9 rnE V v l) (f : ∀ r ∈ l, r.fits) (fs : ∀ r ∈ l, r.ds.length ≤ 8 ∧ (r.w.ok = true → QB 128 r.w.q)) (ll : l.length ≤ 1000000) : Spec Tryz.prog 23 [v] V fun v' V' => (rightR l = false → v' = .tuple #[.agg #[.int .i64 0, .int .i64 0, .slice none 0 0], .int .i64 1]) ∧ (rightR l = true → ∃ s, v' = .tuple #[.agg #[.int .i64 (l.length : Int), .int .i64 (l.length : Int), s], .int .i64 0] ∧ Rats V' s (flatG (moveG (suffQ l) l.length) l.length l.length)) := by
  obtain ⟨A, cL, rfl, _, _⟩ := h.form
  refine (Spec.enter Tryz.func23 rfl fun Γ => ?_)
  simp only [Tryz.ntmps23, List.map_cons, List.map_nil, List.length_cons, List.length_nil, Nat.reduceAdd, Nat.reduceSub, List.replicate_succ, List.replicate_zero, List.cons_append, List.nil_append]
  refine Gx.a (by kernel_rfl) fun K hK => ?_
  simp only [XM, XA]
  refine hK _ ?_
  refine XWP.seq ?_
  refine Gx.a (by kernel_rfl) fun K hK => ?_
  simp only [XA]
  refine call_go (by kernel_rfl) rfl (kright_c _ _ l h f ll) fun v1 V1 hV1 h1 => ?_
  subst h1
  cases hr : rightR l
  · simp only [XA]
    refine hK _ ?_
    refine Gx.t rfl ?_
    refine Gx.a (by kernel_rfl) fun K hK => ?_
    simp only []
    refine bd_go (by kernel_rfl) #[] (by simp) bd_mtx0 ?_
    simp only [XA]
    refine st_mat shapeT_26 rfl rfl rfl rfl rfl ?_
    simp only [XA]
    refine hK _ (XWP.ret ?_)
    try simp only [thenX_ret, inBlockX_ret]
    exact ret_mat2C rfl rfl rfl rfl ⟨fun _ => rfl, fun h => absurd h (by rw [hr]; simp)⟩
  obtain ⟨g1, g2, g3⟩ := right_small hr fs
  simp only [XA]
  refine hK _ ?_
  refine Gx.f rfl ?_
  refine XWP.skip ?_
  refine Gx.a (by kernel_rfl) fun K hK => ?_
  simp only [XA]
  refine call_go (by kernel_rfl) rfl (cstates_c _ _ l (h.mono rnE_ok hV1) (by omega) (by omega) (fun r hr => (g3 r hr).fine)) fun v2 V2 hV2 h2 => ?_
  obtain ⟨A2, c2, rfl, _, _⟩ := h2.form
  simp only [XV, XA]
  refine st_one shapeT_83 rfl rfl (by simp) ?_
  simp only [XA]
  refine hK _ ?_
  refine XWP.row1 (bx := [_]) fun b e hb _ => ?_
  simp only [List.map_cons, List.map_nil, rowS_v, rowS_p, List.length_nil, List.length_cons, Nat.reduceAdd, Nat.reduceEqDiff, ↓reduceIte]
  refine XWP.pub b _ (upd_at _ _ _) fun o ho hle => ?_
  have eo := row_obj ho
  subst eo
  have hbv := addV_at V2 b (.cells ([.slice A2 l.length c2] : List Value).toArray e (0, 0))
  have h2 := h2.mono stE_ok hle
  generalize addV V2 b _ = V3 at *
  refine Gx.a (by kernel_rfl) fun K hK => ?_
  simp only [XA]
  refine ld_mem (ldV1 (off := 0) hbv rfl shapeT_83 _) ?_
  simp only [XA]
  refine mkf_go [.pointer (some ⟨b, 0, none⟩)] rfl ?_
  simp only [XA]
  refine call_go (by kernel_rfl) rfl (cmoves_c V3 A2 l.length c2 63 2400 [.pointer (some ⟨b, 0, none⟩)] (suffQ l) g2 (by kernel_rfl) (fun i k hi hk _ => suffQ_QB g3 hi hk) (by omega) fun V' i k hV hi hk _ => csuff1_c V' b e i k _ l (hV _ _ hbv) (h2.mono stE_ok hV) g3 hi hk) fun v4 V4 hV4 h4 => ?_
  obtain ⟨s, rfl, hs⟩ := h4
  obtain ⟨As, cs, rfl, _, _⟩ := hs.form
  simp only [XA]
  refine st_mat shapeT_26 rfl rfl rfl rfl rfl ?_
  simp only [XA]
  refine hK _ (XWP.ret ?_)
  try simp only [thenX_ret, inBlockX_ret]
  exact ret_mat2C rfl rfl rfl rfl ⟨fun h => absurd h (by rw [hr]; simp), fun _ => ⟨_, rfl, hs⟩⟩
end Go.Proofs.YtobjjdnfgamgcaaGreat
end
section
namespace Go.Proofs.YtobjjdnfgamgcaaGreat
open Go Go.RowKit
set_option linter.unusedSimpArgs false
set_option linter.unusedVariables false
attribute [local irreducible] XWP Spec SpecO XPub XCall seqX clX apX stX ldX iaX slX
/-- two draws are the same but for the alternative, there -/
def besD (m i : Nat) (d e : Dr) : Bool := decide (d.site = e.site) && decide (d.whole = e.whole) && (decide (i = m) || (decide (d.index = e.index) && decide (d.odds = e.odds)))
def besAt (a b : List Dr) (m i : Nat) : Bool := ((a[i]?).bind fun d => (b[i]?).map fun e => besD m i d e).getD false
/-- two lists of draws are the same but for the alternative at a place -/
def besB (a b : List Dr) (m : Nat) : Bool := decide (a.length = b.length) && (List.range a.length).all (besAt a b m)
theorem besAt_at {a b : List Dr} {m i : Nat} {d e : Dr} (h1 : a[i]? = some d) (h2 : b[i]? = some e) : besAt a b m i = besD m i d e := by unfold besAt; rw [h1, h2]; rfl
theorem besB_bad {a b : List Dr} {m i : Nat} (hi : i < a.length) (h : besAt a b m i = false) : besB a b m = false := by
  unfold besB
  have : (List.range a.length).all (besAt a b m) = false := by
    rw [List.all_eq_false]
    exact ⟨i, List.mem_range.2 hi, by rw [h]; simp⟩
  rw [this]; simp
set_option maxHeartbeats 2000000 in
theorem cbeside_c (V : View) (cs1 cs2 : List Value) (r t : Rn) (m : Nat) (h1 : ElK 9 rnE V cs1 r) (h2 : ElK 9 rnE V cs2 t) (l1 : r.ds.length ≤ 1000) : Spec Tryz.prog 67 [.agg cs1.toArray, .agg cs2.toArray, .int .i64 (m : Int)] V fun v' V' => v' = .bool (besB r.ds t.ds m) := by
  obtain ⟨u0, u1, u2, u3, u4, dv1, u6, u7, u8, rfl, hd1⟩ := rn_draws h1
  obtain ⟨v0, v1, v2, v3, v4, dv2, v6, v7, v8, rfl, hd2⟩ := rn_draws h2
  obtain ⟨A1, q1, rfl, _, _⟩ := hd1.form
  obtain ⟨A2, q2, rfl, _, _⟩ := hd2.form
  refine (Spec.enter Tryz.func67 rfl fun Γ => ?_)
  simp only [Tryz.ntmps67, List.map_cons, List.map_nil, List.length_cons, List.length_nil, Nat.reduceAdd, Nat.reduceSub, List.replicate_succ, List.replicate_zero, List.cons_append, List.nil_append]
  refine Gx.a (by kernel_rfl) fun K hK => ?_
  simp only [XA]
  refine hK _ ?_
  refine XWP.seq ?_
  by_cases hl : r.ds.length = t.ds.length
  rotate_left
  · have t1 : (!decide ((r.ds.length : Int) = (t.ds.length : Int))) = true := by rw [decide_eq_false (by omega)]; rfl
    refine Gx.a (by kernel_rfl) fun K hK => ?_
    simp only [XU, XA, XB, t1]
    refine hK _ ?_
    refine Gx.t rfl ?_
    refine Gx.a (by kernel_rfl) fun K hK => ?_
    simp only [XA]
    refine hK _ (XWP.ret ?_)
    try simp only [thenX_ret, inBlockX_ret]
    refine ret_go _ rfl ?_
    unfold besB
    rw [decide_eq_false hl]; rfl
  have t1 : (!decide ((r.ds.length : Int) = (t.ds.length : Int))) = false := by rw [decide_eq_true (by omega)]; rfl
  refine Gx.a (by kernel_rfl) fun K hK => ?_
  simp only [XU, XA, XB, t1]
  refine hK _ ?_
  refine Gx.f rfl ?_
  refine XWP.skip ?_
  refine XWP.cutD 2 (fun s => StIs (fun Z => [Z 0,Z 1,Z 2,Z 3,Z 4,Z 5,Z 6,Z 7,Z 8,Z 9,Z 10,Z 11,Z 12,Z 13,Z 14,Z 15,Z 16,Z 17,Z 18,Z 19,Z 20,Z 21,Z 22,Z 23,Z 24,Z 25,Z 26,Z 27,Z 28,Z 29,Z 30,Z 31,Z 32,Z 33,Z 34,Z 35,Z 36,Z 37,Z 38,Z 39,Z 40,Z 41,Z 42,Z 43,Z 44,Z 45,Z 46,Z 47,Z 48,Z 49,Z 50,Z 51,Z 52,Z 53,Z 54,Z 55,Z 56,Z 57,Z 58,Z 59,Z 60,Z 61]) [[u0, u1, u2, u3, u4, .slice A1 r.ds.length q1, u6, u7, u8], [v0, v1, v2, v3, v4, .slice A2 t.ds.length q2, v6, v7, v8]] (fun _ => none) V s ∧ besB r.ds t.ds m = true) ?_ ?_
  rotate_left
  · rintro s ⟨hs, hb⟩
    obtain ⟨z, rfl⟩ := hs.out
    try dsimp only
    refine Gx.a (by kernel_rfl) fun K hK => ?_
    simp only [XA]
    refine hK _ (XWP.ret ?_)
    try simp only [thenX_ret, inBlockX_ret]
    refine ret_go _ rfl ?_
    rw [hb]; rfl
  refine Gx.a (by kernel_rfl) fun K hK => ?_
  simp only [XU, XA]
  refine hK _ ?_
  clear hK
  refine XWP.block ?_
  refine XWP.loopD 2 (fun q s => ∃ (k : Nat), StIs (fun Z => [Z 0,Z 1, .v (.int .i64 (m : Int)), .p 0 0, .p 1 0, Z 5,Z 6,Z 7,Z 8,Z 9,Z 10,Z 11,Z 12,Z 13,Z 14,Z 15,Z 16,Z 17, .v (.slice A1 r.ds.length q1), .v (.int .i64 (r.ds.length : Int)), .v (.int .i64 (k : Int)), Z 21,Z 22,Z 23,Z 24,Z 25,Z 26,Z 27,Z 28,Z 29,Z 30,Z 31,Z 32,Z 33,Z 34,Z 35,Z 36,Z 37,Z 38,Z 39,Z 40,Z 41,Z 42,Z 43,Z 44,Z 45,Z 46,Z 47,Z 48,Z 49,Z 50,Z 51,Z 52,Z 53,Z 54,Z 55,Z 56,Z 57,Z 58,Z 59,Z 60,Z 61]) [[u0, u1, u2, u3, u4, .slice A1 r.ds.length q1, u6, u7, u8], [v0, v1, v2, v3, v4, .slice A2 t.ds.length q2, v6, v7, v8]] (fun _ => none) V s ∧ q + k = r.ds.length ∧ ∀ i, i < k → besAt r.ds t.ds m i = true) r.ds.length ⟨0, StIs.of (by exact rfl), by omega, fun i hi => by omega⟩ ?_
  rintro q s ⟨k, hs, hq, hall⟩
  obtain ⟨z, rfl⟩ := hs.out
  try dsimp only
  clear hs
  by_cases hk : k < r.ds.length
  rotate_left
  · obtain rfl : k = r.ds.length := by omega
    have b1 : decide (((r.ds.length : Nat) : Int) < ((r.ds.length : Nat) : Int)) = false := decide_eq_false (by omega)
    refine Gx.a (by kernel_rfl) fun K hK => ?_
    simp only [XA, XB, b1]
    refine hK _ ?_
    refine XWP.seq (Gx.f rfl ?_)
    refine XWP.exit ?_
    refine fun f => ⟨StIs.of (by exact rfl), ?_⟩
    unfold besB
    rw [decide_eq_true hl, Bool.true_and, List.all_eq_true]
    exact fun i hi => hall i (List.mem_range.1 hi)
  have b1 : decide ((k : Int) < (r.ds.length : Int)) = true := decide_eq_true (by omega)
  refine Gx.a (by kernel_rfl) fun K hK => ?_
  simp only [XA, XB, b1]
  refine hK _ ?_
  refine XWP.seq (Gx.t rfl ?_)
  refine XWP.skip ?_
  obtain ⟨b1, o1, rfl⟩ := SlK.addr hd1 (by omega)
  obtain ⟨b2, o2, rfl⟩ := SlK.addr hd2 (by omega)
  obtain ⟨dc, ⟨d1, _, d3⟩, hcell⟩ := SlK.get hd1 k hk
  obtain ⟨ec, ⟨e1, _, e3⟩, hcell2⟩ := SlK.get hd2 k (by omega)
  have hkd : r.ds[k]? = some r.ds[k] := List.getElem?_eq_getElem hk
  have hke : t.ds[k]? = some (t.ds[k]'(by omega)) := List.getElem?_eq_getElem (by omega)
  have d3 : dc = r.ds[k].cells := d3
  have e3 : ec = (t.ds[k]'(by omega)).cells := e3
  generalize r.ds[k] = d at *
  generalize (t.ds[k]'(by omega)) = e at *
  subst d3
  subst e3
  have hat := besAt_at (m := m) hkd hke
  refine XWP.cutD 2 (fun s => StIs (fun Z => [Z 0,Z 1, .v (.int .i64 (m : Int)), .p 0 0, .p 1 0, Z 5,Z 6,Z 7,Z 8,Z 9,Z 10,Z 11,Z 12,Z 13,Z 14,Z 15,Z 16,Z 17, .v (.slice (some ⟨b1, o1, none⟩) r.ds.length q1), .v (.int .i64 (r.ds.length : Int)), .v (.int .i64 (k : Int)), Z 21,Z 22,Z 23,Z 24,Z 25,Z 26,Z 27,Z 28,Z 29,Z 30,Z 31,Z 32,Z 33,Z 34,Z 35,Z 36,Z 37,Z 38,Z 39,Z 40,Z 41,Z 42,Z 43,Z 44,Z 45,Z 46,Z 47,Z 48,Z 49,Z 50,Z 51,Z 52,Z 53,Z 54,Z 55,Z 56,Z 57,Z 58,Z 59,Z 60,Z 61]) [[u0, u1, u2, u3, u4, .slice (some ⟨b1, o1, none⟩) r.ds.length q1, u6, u7, u8], [v0, v1, v2, v3, v4, .slice (some ⟨b2, o2, none⟩) t.ds.length q2, v6, v7, v8]] (fun _ => none) V s ∧ besAt r.ds t.ds m k = true) ?_ ?_
  rotate_left
  · rintro s ⟨hs, hg⟩
    obtain ⟨z, rfl⟩ := hs.out
    try dsimp only
    clear hs
    refine Gx.c (by kernel_rfl) fun K hK => ?_
    simp only [XA, XB, i64_succ k (by omega)]
    exact hK _ ⟨q - 1, by omega, fun f => ⟨k + 1, StIs.of (by exact rfl), by omega, fun i hi => by
      by_cases ei : i = k
      · subst ei; exact hg
      · exact hall i (by omega)⟩⟩
  clear hK
  refine XWP.block ?_
  refine Gx.a (by kernel_rfl) fun K hK => ?_
  simp only [XU, XA]
  refine ⟨by omega, by omega, ld_mem (loadsK shapeT_66 d1 (hcell _)) ?_⟩
  simp only [XU, XA, Nat.reduceAdd]
  refine st_whole (cs := [.int .i64 d.site, .int .i64 d.index, .int .i64 d.odds, .int .i64 d.whole]) shapeT_66 rfl rfl rfl rfl ?_
  simp only [XA]
  refine hK _ ?_
  refine Gx.a (by kernel_rfl) fun K hK => ?_
  simp only [XU, XA]
  refine ⟨by omega, by omega, ld_mem (loadsK shapeT_66 e1 (hcell2 _)) ?_⟩
  simp only [XU, XA, Nat.reduceAdd]
  refine st_whole (cs := [.int .i64 e.site, .int .i64 e.index, .int .i64 e.odds, .int .i64 e.whole]) shapeT_66 rfl rfl rfl rfl ?_
  simp only [XA]
  refine hK _ ?_
  have eB : besD m k d e = (decide (d.site = e.site) && decide (d.whole = e.whole) && (decide (k = m) || (decide (d.index = e.index) && decide (d.odds = e.odds)))) := rfl
  have hfin : besD m k d e = false → besB r.ds t.ds m = false := fun h => besB_bad hk (by rw [hat, h])
  have ekm : decide ((k : Int) = (m : Int)) = decide (k = m) := by
    by_cases e : k = m
    · rw [decide_eq_true e, decide_eq_true (by omega)]
    · rw [decide_eq_false e, decide_eq_false (by omega)]
  cases s1 : decide (d.site = e.site)
  · have e := hfin (by rw [eB, s1]; rfl)
    refine Gx.a (by kernel_rfl) fun K hK => ?_
    simp only [XU, XA, XB, gateX, ↓reduceIte, s1]
    refine hK _ ?_
    refine Gx.t rfl ?_
    refine Gx.a (by kernel_rfl) fun K hK => ?_
    simp only [XA]
    refine hK _ (XWP.ret ?_)
    try simp only [thenX_ret, inBlockX_ret]
    refine ret_go _ rfl ?_
    rw [e]; rfl
  cases s2 : decide (d.whole = e.whole)
  · have e := hfin (by rw [eB, s1, s2]; rfl)
    refine Gx.a (by kernel_rfl) fun K hK => ?_
    simp only [XU, XA, XB, gateX, ↓reduceIte, beq_self_eq_true, s1, s2]
    refine hK _ ?_
    refine Gx.t rfl ?_
    refine Gx.a (by kernel_rfl) fun K hK => ?_
    simp only [XA]
    refine hK _ (XWP.ret ?_)
    try simp only [thenX_ret, inBlockX_ret]
    refine ret_go _ rfl ?_
    rw [e]; rfl
  cases s3 : decide (k = m)
  rotate_left
  · rw [s3] at ekm
    refine Gx.a (by kernel_rfl) fun K hK => ?_
    simp only [XU, XA, XB, gateX, ↓reduceIte, beq_self_eq_true, s1, s2, ekm]
    refine hK _ ?_
    refine Gx.f rfl ?_
    refine XWP.skip ?_
    exact fun f => ⟨StIs.of (by exact rfl), by rw [hat, eB, s1, s2, s3]; rfl⟩
  rw [s3] at ekm
  cases s4 : decide (d.index = e.index)
  · have e := hfin (by rw [eB, s1, s2, s3, s4]; rfl)
    refine Gx.a (by kernel_rfl) fun K hK => ?_
    simp only [XU, XA, XB, gateX, ↓reduceIte, beq_self_eq_true, s1, s2, ekm, s4]
    refine hK _ ?_
    refine Gx.t rfl ?_
    refine Gx.a (by kernel_rfl) fun K hK => ?_
    simp only [XA]
    refine hK _ (XWP.ret ?_)
    try simp only [thenX_ret, inBlockX_ret]
    refine ret_go _ rfl ?_
    rw [e]; rfl
  cases s5 : decide (d.odds = e.odds)
  · have e := hfin (by rw [eB, s1, s2, s3, s4, s5]; rfl)
    refine Gx.a (by kernel_rfl) fun K hK => ?_
    simp only [XU, XA, XB, gateX, ↓reduceIte, beq_self_eq_true, s1, s2, ekm, s4, s5]
    refine hK _ ?_
    refine Gx.t rfl ?_
    refine Gx.a (by kernel_rfl) fun K hK => ?_
    simp only [XA]
    refine hK _ (XWP.ret ?_)
    try simp only [thenX_ret, inBlockX_ret]
    refine ret_go _ rfl ?_
    rw [e]; rfl
  · refine Gx.a (by kernel_rfl) fun K hK => ?_
    simp only [XU, XA, XB, gateX, ↓reduceIte, beq_self_eq_true, s1, s2, ekm, s4, s5]
    refine hK _ ?_
    refine Gx.f rfl ?_
    refine XWP.skip ?_
    exact fun f => ⟨StIs.of (by exact rfl), by rw [hat, eB, s1, s2, s3, s4, s5]; rfl⟩
theorem besB_self (a : List Dr) (m : Nat) : besB a a m = true := by
  unfold besB
  rw [decide_eq_true rfl, Bool.true_and, List.all_eq_true]
  intro i hi
  have hi := List.mem_range.1 hi
  rw [besAt_at (List.getElem?_eq_getElem hi) (List.getElem?_eq_getElem hi)]
  unfold besD
  simp
/-- the weights of those beside one at a place -/
def besF (l : List Rn) (a : List Dr) (m j : Nat) : Rat := if besB a (dsOf l j) m = true then wOf l j else 0
def besS (l : List Rn) (a : List Dr) (m : Nat) : Rat := Sm (besF l a m) l.length
def siteF (l : List Rn) (i k m : Nat) : Rat := if besB (dsOf l i) (dsOf l k) m = true then wOf l k / besS l (dsOf l i) m * rv false 1 (dsOf l i).length else 0
def siteQ (l : List Rn) (i k : Nat) : Rat := Sm (siteF l i k) (dsOf l i).length
theorem wOf_small {l : List Rn} (hs : ∀ r ∈ l, r.small) {k : Nat} (hk : k < l.length) : QB 128 (wOf l k) ∧ 0 < wOf l k := by
  obtain ⟨r, hr⟩ : ∃ r, l[k]? = some r := ⟨_, List.getElem?_eq_getElem hk⟩
  have := hs r (List.mem_of_getElem? hr)
  rw [wOf_at hr]
  exact ⟨this.qb, this.pos⟩
theorem besS_QB {l : List Rn} (hs : ∀ r ∈ l, r.small) (a : List Dr) (m : Nat) : ∀ j, j ≤ l.length → QB (j * 129) (Sm (besF l a m) j)
  | 0, _ => QB_zero _
  | j + 1, hj => by
    have ih := besS_QB hs a m j (by omega)
    have h1 : QB 128 (besF l a m j) := by
      unfold besF
      split
      · exact (wOf_small hs (by omega)).1
      · exact QB_zero _
    exact (ih.add h1).mono (by omega)
theorem besS_pos {l : List Rn} (hs : ∀ r ∈ l, r.small) {i : Nat} (hi : i < l.length) (m : Nat) : 0 < besS l (dsOf l i) m := by
  have h0 : ∀ j, j < l.length → 0 ≤ besF l (dsOf l i) m j := fun j hj => by
    unfold besF
    split
    · exact Rat.le_of_lt (wOf_small hs hj).2
    · exact Rat.le_refl
  have h1 : ∀ n, n ≤ l.length → 0 ≤ Sm (besF l (dsOf l i) m) n ∧ (i < n → 0 < Sm (besF l (dsOf l i) m) n) := by
    intro n
    induction n with
    | zero => exact fun _ => ⟨Rat.le_refl, fun h => by omega⟩
    | succ n ih =>
      intro hn
      obtain ⟨a, b⟩ := ih (by omega)
      have hz := h0 n (by omega)
      have e : Sm (besF l (dsOf l i) m) (n + 1) = Sm (besF l (dsOf l i) m) n + besF l (dsOf l i) m n := rfl
      refine ⟨by rw [e]; grind, fun hin => ?_⟩
      rw [e]
      by_cases hi' : i = n
      · subst hi'
        have : besF l (dsOf l i) m i = wOf l i := by unfold besF; rw [if_pos (besB_self _ _)]
        have := (wOf_small hs hi).2
        grind
      · have := b (by omega)
        grind
  exact (h1 l.length (Nat.le_refl _)).2 hi
theorem siteF_QB {l : List Rn} (hs : ∀ r ∈ l, r.small) (ll : l.length ≤ 60) {i k : Nat} (hi : i < l.length) (hk : k < l.length) (m : Nat) : QB 8000 (siteF l i k m) := by
  obtain ⟨r, hr⟩ : ∃ r, l[i]? = some r := ⟨_, List.getElem?_eq_getElem hi⟩
  have hl := (hs r (List.mem_of_getElem? hr)).len
  unfold siteF
  split
  · have h1 := (besS_QB hs (dsOf l i) m l.length (Nat.le_refl _)).mono (show l.length * 129 ≤ 7740 by omega)
    have h2 := (wOf_small hs hk).1.div h1
    rw [dsOf_at hr] at *
    exact (h2.mul (QB_rv (B := 4) (b := r.ds.length) false (by omega) (by omega))).mono (by omega)
  · exact QB_zero _
theorem siteS_QB {l : List Rn} (hs : ∀ r ∈ l, r.small) (ll : l.length ≤ 60) {i k : Nat} (hi : i < l.length) (hk : k < l.length) : ∀ m, QB (m * 8001) (Sm (siteF l i k) m)
  | 0 => QB_zero _
  | m + 1 => ((siteS_QB hs ll hi hk m).add (siteF_QB hs ll hi hk m)).mono (by omega)
theorem siteQ_QB {l : List Rn} (hs : ∀ r ∈ l, r.small) (ll : l.length ≤ 60) {i k : Nat} (hi : i < l.length) (hk : k < l.length) : QB 64008 (siteQ l i k) := by
  obtain ⟨r, hr⟩ : ∃ r, l[i]? = some r := ⟨_, List.getElem?_eq_getElem hi⟩
  have hl := (hs r (List.mem_of_getElem? hr)).len
  have := siteS_QB hs ll hi hk (dsOf l i).length
  rw [dsOf_at hr] at this
  unfold siteQ
  rw [dsOf_at hr]
  exact this.mono (by omega)
set_option maxHeartbeats 4000000 in
set_option maxRecDepth 100000 in
theorem csite1_c (V : View) (b e i k : Nat) (x : Value) (l : List Rn) (hb : V b = some (.cells ([x] : List Value).toArray e (0, 0))) (hx : SlK 18 stE V x l) (hs : ∀ r ∈ l, r.small) (ll : l.length ≤ 60) (hi : i < l.length) (hk : k < l.length) :
    Spec Tryz.prog 65 [.int .i64 (i : Int), .int .i64 (k : Int), .pointer (some ⟨b, 0, none⟩)] V fun v' V' => RatC V' v' (siteQ l i k) := by
  obtain ⟨A, c, rfl, _, _⟩ := hx.form
  obtain ⟨bL, oL, rfl⟩ := SlK.addr hx (by omega)
  obtain ⟨r, hr⟩ : ∃ r, l[i]? = some r := ⟨_, List.getElem?_eq_getElem hi⟩
  obtain ⟨t, ht⟩ : ∃ r, l[k]? = some r := ⟨_, List.getElem?_eq_getElem hk⟩
  have h1 := hs r (List.mem_of_getElem? hr)
  have h2 := hs t (List.mem_of_getElem? ht)
  have hl1 := h1.len
  obtain ⟨rc1, w1, q1, s1, e1, ew1, eq1, es1, ld1⟩ := hx.st hr
  obtain ⟨rc2, w2, q2, s2, e2, ew2, eq2, es2, ld2⟩ := hx.st ht
  have eds1 := dsOf_at hr
  have eds2 := dsOf_at ht
  have ew := wOf_at ht
  have hld := fun (V' : View) (h : V.le V') => ldV1 (off := 0) (h _ _ hb) rfl shapeT_83 (fun _ => none)
  have e1' := e1
  obtain ⟨u0, u1, u2, u3, u4, dv1, u6, u7, u8, rfl, hd1⟩ := rn_draws e1'
  obtain ⟨A1, q1', rfl, _, _⟩ := hd1.form
  have hdl : Loads Tryz.prog (fun _ => none) V 45 bL (oL + i * 18 + 5) (.slice A1 r.ds.length q1') := by
    obtain ⟨ag, n, es, hh⟩ := (ld1 (fun _ => none)).1
    rcases hh with ⟨rfl, cs, _, hc, ev⟩ | ⟨rfl, _⟩
    · have : cs = [u0, u1, u2, u3, u4, .slice A1 r.ds.length q1', u6, u7, u8] := by
        have := congrArg Value.cells ev
        simpa [Value.cells] using this.symm
      subst this
      exact loads1 shapeT_45 (hc 5 _ rfl)
    · rw [shapeT_51] at es; cases es
  have ldm : ∀ {V' : View} {ty b o : Nat} {v : Value}, V.le V' → Loads Tryz.prog (fun _ => none) V ty b o v → Loads Tryz.prog (fun _ => none) V' ty b o v := fun hV ⟨ag, n, es, hh⟩ => ⟨ag, n, es, hh.imp (fun ⟨a, cs, c1, c2, c3⟩ => ⟨a, cs, c1, fun j u hj => cellV (fun H => by
      rcases c2 j u hj with ⟨q, hq, _⟩ | hq
      · cases hq
      · exact .inr hq) hV _, c3⟩) (fun ⟨a, c⟩ => ⟨a, cellV (fun H => by
      rcases c with ⟨q, hq, _⟩ | hq
      · cases hq
      · exact .inr hq) hV _⟩)⟩
  refine (Spec.enter Tryz.func65 rfl fun Γ => ?_)
  simp only [Tryz.ntmps65, List.map_cons, List.map_nil, List.length_cons, List.length_nil, Nat.reduceAdd, Nat.reduceSub, List.replicate_succ, List.replicate_zero, List.cons_append, List.nil_append]
  refine Gx.a (by kernel_rfl) fun K hK => ?_
  simp only [XA, XB]
  refine hK _ ?_
  refine Gx.a (by kernel_rfl) fun K hK => ?_
  simp only [XA]
  refine call_go (by kernel_rfl) rfl (qzero_c _) fun v3 V3 hV3 h3 => ?_
  obtain ⟨x3, y3, rfl, o1, o2⟩ := h3.form
  simp only [XA, XB]
  refine st_rat rfl rfl rfl o1 o2 ?_
  simp only [XA]
  refine hK _ ?_
  have h3 : RatC V3 (.agg #[.bool (ng 0), x3, y3]) (Sm (siteF l i k) 0) := h3
  refine XWP.cutD 2 (fun s => ∃ (V5 : View) (bb x y : Value), StIs (fun Z => [Z 0,Z 1,Z 2,Z 3,Z 4, .p 0 0, .p 1 0, Z 7,Z 8,Z 9,Z 10,Z 11,Z 12,Z 13,Z 14,Z 15,Z 16,Z 17,Z 18,Z 19,Z 20,Z 21,Z 22,Z 23,Z 24,Z 25,Z 26,Z 27,Z 28,Z 29,Z 30,Z 31,Z 32,Z 33,Z 34,Z 35,Z 36,Z 37,Z 38,Z 39,Z 40,Z 41,Z 42,Z 43,Z 44,Z 45,Z 46,Z 47,Z 48,Z 49,Z 50,Z 51,Z 52,Z 53,Z 54,Z 55,Z 56,Z 57,Z 58,Z 59,Z 60,Z 61,Z 62,Z 63,Z 64,Z 65,Z 66,Z 67,Z 68,Z 69,Z 70,Z 71,Z 72,Z 73,Z 74,Z 75]) [[.bool false, .slice none 0 0, .slice none 0 0], [bb, x, y]] (fun _ => none) V5 s ∧ RatC V5 (.agg #[bb, x, y]) (siteQ l i k)) ?_ ?_
  rotate_left
  · rintro s ⟨V5, bb, x, y, hs, hx⟩
    obtain ⟨z, rfl⟩ := hs.out
    try dsimp only
    clear hs
    obtain ⟨x', y', e, p1, p2⟩ := hx.form
    cases e
    refine Gx.a (by kernel_rfl) fun K hK => ?_
    simp only [XA, XB, Nat.reduceAdd, Nat.reduceLeDiff, ↓reduceIte]
    refine st_rat rfl rfl rfl p1 p2 ?_
    simp only [XA]
    refine hK _ (XWP.ret ?_)
    try simp only [thenX_ret, inBlockX_ret]
    exact ret_rat1 rfl rfl rfl hx
  refine Gx.a (by kernel_rfl) fun K hK => ?_
  simp only [XA]
  refine ld_mem (hld _ hV3) ?_
  simp only [XU, XV, XA]
  refine ⟨by omega, by omega, ld_mem (ldm hV3 hdl) ?_⟩
  simp only [XU, XA]
  refine hK _ ?_
  clear hK
  refine XWP.block ?_
  refine XWP.loopD 2 (fun q s => ∃ (m : Nat) (V5 : View) (bb x y : Value), StIs (fun Z => [.v (.int .i64 (i : Int)), .v (.int .i64 (k : Int)), .v (.pointer (some ⟨b, 0, none⟩)), Z 3,Z 4, .p 0 0, .p 1 0, Z 7,Z 8,Z 9,Z 10,Z 11,Z 12,Z 13,Z 14,Z 15,Z 16,Z 17, .v (.int .i64 (r.ds.length : Int)), .v (.int .i64 (m : Int)), Z 20,Z 21,Z 22,Z 23,Z 24,Z 25,Z 26,Z 27,Z 28,Z 29,Z 30,Z 31,Z 32,Z 33,Z 34,Z 35,Z 36,Z 37,Z 38,Z 39,Z 40,Z 41,Z 42,Z 43,Z 44,Z 45,Z 46,Z 47,Z 48,Z 49,Z 50,Z 51,Z 52,Z 53,Z 54,Z 55,Z 56,Z 57,Z 58,Z 59,Z 60,Z 61,Z 62,Z 63,Z 64,Z 65,Z 66,Z 67,Z 68,Z 69,Z 70,Z 71,Z 72,Z 73,Z 74,Z 75]) [[.bool false, .slice none 0 0, .slice none 0 0], [bb, x, y]] (fun _ => none) V5 s ∧ q + m = r.ds.length ∧ V3.le V5 ∧ RatC V5 (.agg #[bb, x, y]) (Sm (siteF l i k) m)) r.ds.length ⟨0, V3, _, x3, y3, StIs.of (by exact rfl), by omega, View.le_refl _, h3⟩ ?_
  clear h3 o1 o2
  rintro q s ⟨m, V5, bb, x, y, hs', hq, hV5, hx5⟩
  obtain ⟨z, rfl⟩ := hs'.out
  try dsimp only
  clear hs'
  by_cases hm : m < r.ds.length
  rotate_left
  · obtain rfl : m = r.ds.length := by omega
    have b1 : decide (((r.ds.length : Nat) : Int) < ((r.ds.length : Nat) : Int)) = false := decide_eq_false (by omega)
    refine Gx.a (by kernel_rfl) fun K hK => ?_
    simp only [XA, XB, b1]
    refine hK _ ?_
    refine XWP.seq (Gx.f rfl ?_)
    refine XWP.exit ?_
    refine fun f => ⟨V5, bb, x, y, StIs.of (by exact rfl), ?_⟩
    unfold siteQ
    rw [eds1]; exact hx5
  have b1 : decide ((m : Int) < (r.ds.length : Int)) = true := decide_eq_true (by omega)
  refine Gx.a (by kernel_rfl) fun K hK => ?_
  simp only [XA, XB, b1]
  refine hK _ ?_
  refine XWP.seq (Gx.t rfl ?_)
  refine XWP.skip ?_
  have hV05 := View.le_trans hV3 hV5
  refine XWP.cutD 2 (fun s => ∃ (V6 : View) (bb x y : Value), StIs (fun Z => [.v (.int .i64 (i : Int)), .v (.int .i64 (k : Int)), .v (.pointer (some ⟨b, 0, none⟩)), Z 3,Z 4, .p 0 0, .p 1 0, Z 7,Z 8,Z 9,Z 10,Z 11,Z 12,Z 13,Z 14,Z 15,Z 16,Z 17, .v (.int .i64 (r.ds.length : Int)), .v (.int .i64 (m : Int)), Z 20,Z 21,Z 22,Z 23,Z 24,Z 25,Z 26,Z 27,Z 28,Z 29,Z 30,Z 31,Z 32,Z 33,Z 34,Z 35,Z 36,Z 37,Z 38,Z 39,Z 40,Z 41,Z 42,Z 43,Z 44,Z 45,Z 46,Z 47,Z 48,Z 49,Z 50,Z 51,Z 52,Z 53,Z 54,Z 55,Z 56,Z 57,Z 58,Z 59,Z 60,Z 61,Z 62,Z 63,Z 64,Z 65,Z 66,Z 67,Z 68,Z 69,Z 70,Z 71,Z 72,Z 73,Z 74,Z 75]) [[.bool false, .slice none 0 0, .slice none 0 0], [bb, x, y]] (fun _ => none) V6 s ∧ V5.le V6 ∧ RatC V6 (.agg #[bb, x, y]) (Sm (siteF l i k) (m + 1))) ?_ ?_
  rotate_left
  · rintro s ⟨V6, bb, x, y, hs, hV6, hx⟩
    obtain ⟨z, rfl⟩ := hs.out
    try dsimp only
    clear hs
    refine Gx.c (by kernel_rfl) fun K hK => ?_
    simp only [XA, XB, i64_succ m (by omega)]
    exact hK _ ⟨q - 1, by omega, fun f => ⟨m + 1, V6, bb, x, y, StIs.of (by exact rfl), by omega, View.le_trans hV5 hV6, hx⟩⟩
  clear hK
  refine XWP.block ?_
  refine Gx.a (by kernel_rfl) fun K hK => ?_
  simp only [XA]
  refine hK _ ?_
  refine XWP.seq ?_
  (refine XWP.drw [0, 1, 2, 3, 4, 5, 6, 7, 8, 9, 10, 11, 12] (by kernel_rfl) (by kernel_rfl) (by kernel_rfl) fun K hK => ?_) <;> dsimp only [pickOps, List.getElem?_cons_zero, List.getElem?_cons_succ]
  simp only [XA]
  refine ld_mem (hld _ hV05) ?_
  simp only [XV, XA]
  refine ⟨by omega, by omega, ld_mem (ldm hV05 (ld1 _).1) ?_⟩
  simp only [XA]
  refine ld_mem (hld _ hV05) ?_
  simp only [XV, XA]
  refine ⟨by omega, by omega, ld_mem (ldm hV05 (ld2 _).1) ?_⟩
  simp only [XA]
  refine call_go (by kernel_rfl) rfl (cbeside_c _ _ _ r t m (e1.mono rnE_ok hV05) (e2.mono rnE_ok hV05) (by omega)) fun v6 V6 hV6 h6 => ?_
  subst h6
  have eSm : Sm (siteF l i k) (m + 1) = Sm (siteF l i k) m + siteF l i k m := rfl
  cases hbe : besB r.ds t.ds m
  · simp only [XA]
    refine hK _ ?_
    refine Gx.t rfl ?_
    refine XWP.exit ?_
    refine fun f => ⟨V6, bb, x, y, StIs.of (by exact rfl), hV6, ?_⟩
    have : siteF l i k m = 0 := by unfold siteF; rw [eds1, eds2, if_neg (by rw [hbe]; simp)]
    rw [eSm, this, Rat.add_zero]
    exact hx5.mono hV6
  simp only [XA]
  refine hK _ ?_
  refine Gx.f rfl ?_
  refine XWP.skip ?_
  have hV06 := View.le_trans hV05 hV6
  refine Gx.a (by kernel_rfl) fun K hK => ?_
  simp only [XA]
  refine call_go (by kernel_rfl) rfl (qzero_c _) fun v7 V7 hV7 h7 => ?_
  obtain ⟨x7, y7, rfl, o3, o4⟩ := h7.form
  simp only [XA, XB, Nat.reduceAdd]
  refine st_rat rfl rfl rfl o3 o4 ?_
  simp only [XA]
  refine hK _ ?_
  have hV07 := View.le_trans hV06 hV7
  have h7 : RatC V7 (.agg #[.bool (ng 0), x7, y7]) (Sm (besF l r.ds m) 0) := h7
  have hqS : ∀ j, j ≤ l.length → QF (Sm (besF l r.ds m) j) := fun j hj => (besS_QB hs r.ds m j hj).qf (by omega)
  refine XWP.cutD 3 (fun s => ∃ (V8 : View) (b8 x8 y8 : Value), StIs (fun Z => [.v (.int .i64 (i : Int)), .v (.int .i64 (k : Int)), .v (.pointer (some ⟨b, 0, none⟩)), Z 3,Z 4, .p 0 0, .p 1 0, .v (.int .i64 (m : Int)), .p 2 0, Z 9,Z 10,Z 11,Z 12,Z 13,Z 14,Z 15,Z 16,Z 17, .v (.int .i64 (r.ds.length : Int)), .v (.int .i64 (m : Int)), Z 20,Z 21,Z 22,Z 23,Z 24,Z 25,Z 26,Z 27,Z 28,Z 29,Z 30,Z 31,Z 32,Z 33,Z 34,Z 35,Z 36,Z 37,Z 38,Z 39,Z 40,Z 41,Z 42,Z 43,Z 44,Z 45,Z 46,Z 47,Z 48,Z 49,Z 50,Z 51,Z 52,Z 53,Z 54,Z 55,Z 56,Z 57,Z 58,Z 59,Z 60,Z 61,Z 62,Z 63,Z 64,Z 65,Z 66,Z 67,Z 68,Z 69,Z 70,Z 71,Z 72,Z 73,Z 74,Z 75]) [[.bool false, .slice none 0 0, .slice none 0 0], [bb, x, y], [b8, x8, y8]] (fun _ => none) V8 s ∧ V7.le V8 ∧ RatC V8 (.agg #[b8, x8, y8]) (besS l r.ds m)) ?_ ?_
  · refine Gx.a (by kernel_rfl) fun K hK => ?_
    simp only [XA]
    refine ld_mem (hld _ hV07) ?_
    simp only [XV, XA]
    refine hK _ ?_
    clear hK
    refine XWP.block ?_
    refine XWP.loopD 3 (fun n s => ∃ (j : Nat) (V8 : View) (b8 x8 y8 : Value), StIs (fun Z => [.v (.int .i64 (i : Int)), .v (.int .i64 (k : Int)), .v (.pointer (some ⟨b, 0, none⟩)), Z 3,Z 4, .p 0 0, .p 1 0, .v (.int .i64 (m : Int)), .p 2 0, Z 9,Z 10,Z 11,Z 12,Z 13,Z 14,Z 15,Z 16,Z 17, .v (.int .i64 (r.ds.length : Int)), .v (.int .i64 (m : Int)), Z 20,Z 21,Z 22,Z 23,Z 24,Z 25,Z 26,Z 27,Z 28,Z 29,Z 30,Z 31,Z 32,Z 33,Z 34,Z 35, .v (.slice (some ⟨bL, oL, none⟩) l.length c), .v (.int .i64 (l.length : Int)), .v (.int .i64 (j : Int)), Z 39,Z 40,Z 41,Z 42,Z 43,Z 44,Z 45,Z 46,Z 47,Z 48,Z 49,Z 50,Z 51,Z 52,Z 53,Z 54,Z 55,Z 56,Z 57,Z 58,Z 59,Z 60,Z 61,Z 62,Z 63,Z 64,Z 65,Z 66,Z 67,Z 68,Z 69,Z 70,Z 71,Z 72,Z 73,Z 74,Z 75]) [[.bool false, .slice none 0 0, .slice none 0 0], [bb, x, y], [b8, x8, y8]] (fun _ => none) V8 s ∧ n + j = l.length ∧ V7.le V8 ∧ RatC V8 (.agg #[b8, x8, y8]) (Sm (besF l r.ds m) j)) l.length ⟨0, V7, _, x7, y7, StIs.of (by exact rfl), by omega, View.le_refl _, h7⟩ ?_
    clear h7 o3 o4
    rintro n s ⟨j, V8, b8, x8, y8, hs', hn, hV8, h8⟩
    obtain ⟨z, rfl⟩ := hs'.out
    try dsimp only
    clear hs'
    by_cases hj : j < l.length
    rotate_left
    · obtain rfl : j = l.length := by omega
      have bj : decide (((l.length : Nat) : Int) < ((l.length : Nat) : Int)) = false := decide_eq_false (by omega)
      refine Gx.a (by kernel_rfl) fun K hK => ?_
      simp only [XA, XB, bj]
      refine hK _ ?_
      refine XWP.seq (Gx.f rfl ?_)
      refine XWP.exit ?_
      exact fun f => ⟨V8, b8, x8, y8, StIs.of (by exact rfl), hV8, h8⟩
    have bj : decide ((j : Int) < (l.length : Int)) = true := decide_eq_true (by omega)
    refine Gx.a (by kernel_rfl) fun K hK => ?_
    simp only [XA, XB, bj]
    refine hK _ ?_
    refine XWP.seq (Gx.t rfl ?_)
    refine XWP.skip ?_
    have hV08 := View.le_trans hV07 hV8
    obtain ⟨g, hg⟩ : ∃ r, l[j]? = some r := ⟨_, List.getElem?_eq_getElem hj⟩
    have hgs := hs g (List.mem_of_getElem? hg)
    obtain ⟨cs9, ec9, lc9⟩ := (hx.mono stE_ok hV08).st2 hg
    obtain ⟨_, hone9, w0, w1', w2', w3, w4, w5, w6, w7, w8, m9, n9, d9, qq1, qq2, qq3, ss1, ss2, ss3, rfl, er9, ew9, _⟩ := ec9
    have eF : besF l r.ds m j = if besB r.ds g.ds m = true then g.w.q else 0 := by unfold besF; rw [dsOf_at hg, wOf_at hg]
    refine XWP.cutD 3 (fun s => ∃ (V9 : View) (b8 x8 y8 : Value), StIs (fun Z => [.v (.int .i64 (i : Int)), .v (.int .i64 (k : Int)), .v (.pointer (some ⟨b, 0, none⟩)), Z 3,Z 4, .p 0 0, .p 1 0, .v (.int .i64 (m : Int)), .p 2 0, Z 9,Z 10,Z 11,Z 12,Z 13,Z 14,Z 15,Z 16,Z 17, .v (.int .i64 (r.ds.length : Int)), .v (.int .i64 (m : Int)), Z 20,Z 21,Z 22,Z 23,Z 24,Z 25,Z 26,Z 27,Z 28,Z 29,Z 30,Z 31,Z 32,Z 33,Z 34,Z 35, .v (.slice (some ⟨bL, oL, none⟩) l.length c), .v (.int .i64 (l.length : Int)), .v (.int .i64 (j : Int)), Z 39,Z 40,Z 41,Z 42,Z 43,Z 44,Z 45,Z 46,Z 47,Z 48,Z 49,Z 50,Z 51,Z 52,Z 53,Z 54,Z 55,Z 56,Z 57,Z 58,Z 59,Z 60,Z 61,Z 62,Z 63,Z 64,Z 65,Z 66,Z 67,Z 68,Z 69,Z 70,Z 71,Z 72,Z 73,Z 74,Z 75]) [[.bool false, .slice none 0 0, .slice none 0 0], [bb, x, y], [b8, x8, y8]] (fun _ => none) V9 s ∧ V8.le V9 ∧ RatC V9 (.agg #[b8, x8, y8]) (Sm (besF l r.ds m) (j + 1))) ?_ ?_
    rotate_left
    · rintro s ⟨V9, b8, x8, y8, hs, hV9, h8⟩
      obtain ⟨z, rfl⟩ := hs.out
      try dsimp only
      clear hs
      refine Gx.c (by kernel_rfl) fun K hK => ?_
      simp only [XA, XB, i64_succ j (by omega)]
      exact hK _ ⟨n - 1, by omega, fun f => ⟨j + 1, V9, b8, x8, y8, StIs.of (by exact rfl), by omega, View.le_trans hV8 hV9, h8⟩⟩
    clear hK
    have eS : Sm (besF l r.ds m) (j + 1) = Sm (besF l r.ds m) j + besF l r.ds m j := rfl
    refine XWP.block ?_
    refine Gx.a (by kernel_rfl) fun K hK => ?_
    simp only [XV, XA]
    refine ⟨by omega, by omega, ld_mem (lc9 _) ?_⟩
    simp only [XV, XA, Nat.reduceAdd]
    refine st_whole (cs := [w0, w1', w2', w3, w4, w5, w6, w7, w8, m9, n9, d9, qq1, qq2, qq3, ss1, ss2, ss3]) shapeT_87 rfl rfl rfl hone9 ?_
    simp only [XA]
    refine hK _ ?_
    (refine XWP.drw [0, 1, 2, 3, 4, 5, 6, 7, 8] (by kernel_rfl) (by kernel_rfl) (by kernel_rfl) fun K hK => ?_) <;> dsimp only [pickOps, List.getElem?_cons_zero, List.getElem?_cons_succ]
    simp only [XA]
    refine ld_mem (hld _ hV08) ?_
    simp only [XV, XA]
    refine ⟨by omega, by omega, ld_mem (ldm hV08 (ld1 _).1) ?_⟩
    simp only [XU, XV, XA, Nat.reduceAdd, Nat.reduceLeDiff, ↓reduceIte]
    refine call_go (by kernel_rfl) rfl (cbeside_c _ _ _ r g m (e1.mono rnE_ok hV08) er9 (by omega)) fun v9 V9 hV9 h9 => ?_
    subst h9
    cases hbg : besB r.ds g.ds m
    · simp only [XA]
      refine hK _ ?_
      refine Gx.f rfl ?_
      refine XWP.skip ?_
      refine fun f => ⟨V9, b8, x8, y8, StIs.of (by exact rfl), hV9, ?_⟩
      rw [eS, eF, if_neg (by rw [hbg]; simp), Rat.add_zero]
      exact h8.mono hV9
    · simp only [XA]
      refine hK _ ?_
      refine Gx.t rfl ?_
      refine Gx.c (by kernel_rfl) fun K hK => ?_
      simp only [XV, XA, XB, Nat.reduceAdd, Nat.reduceLeDiff, ↓reduceIte]
      refine call_go (by kernel_rfl) rfl (qadd_c _ _ _ _ _ (h8.mono hV9) (ew9.mono hV9) (hqS j (by omega)) (hgs.qb.qf (by omega))) fun v10 V10 hV10 h10 => ?_
      obtain ⟨x10, y10, rfl, p5, p6⟩ := h10.form
      simp only [XA]
      refine st_rat rfl rfl rfl p5 p6 ?_
      simp only [XA]
      refine hK _ fun f => ⟨V10, _, x10, y10, StIs.of (by exact rfl), View.le_trans hV9 hV10, ?_⟩
      rw [eS, eF, if_pos hbg]
      exact h10
  clear h7 o3 o4
  rintro s ⟨V8, b8, x8, y8, hs', hV8, h8⟩
  obtain ⟨z, rfl⟩ := hs'.out
  try dsimp only
  clear hs'
  have hV08 := View.le_trans hV07 hV8
  have hqA := (besS_QB hs r.ds m l.length (Nat.le_refl _)).mono (show l.length * 129 ≤ 7740 by omega)
  have hpA := besS_pos hs hi m
  rw [eds1] at hpA
  have hnA : besS l r.ds m ≠ 0 := fun e => by rw [e] at hpA; exact absurd hpA (by decide)
  have hqd := h2.qb.div hqA
  have hql := QB_rv (B := 4) (b := r.ds.length) (a := 1) false (by omega) (by omega)
  have hqs := siteS_QB hs ll hi hk m
  (refine XWP.drw1 [0, 1, 2, 3, 4, 5, 6, 8, 9, 10, 11, 12, 13, 14, 7, 15, 16, 17, 18] (by kernel_rfl) (by kernel_rfl) (by kernel_rfl) fun K hK => ?_) <;> dsimp only [pickOps, List.getElem?_cons_zero, List.getElem?_cons_succ]
  simp only [XA, XB, Nat.reduceAdd, Nat.reduceLeDiff, ↓reduceIte]
  refine ld_mem (hld _ hV08) ?_
  simp only [XV, XA]
  refine ⟨by omega, by omega, ld_mem (ldm hV08 (ld2 _).2.1) ?_⟩
  simp only [XA, XB, Nat.reduceAdd, Nat.reduceLeDiff, ↓reduceIte]
  refine ld_mem (hld _ hV08) ?_
  simp only [XU, XV, XA]
  refine ⟨by omega, by omega, ld_mem (ldm hV08 hdl) ?_⟩
  simp only [XU, XA]
  refine call_go (by kernel_rfl) rfl (kby_c _ _ _ _ _ (ew2.mono hV08) h8 (h2.qb.qf (by omega)) (hqA.qf (by omega)) hnA) fun v9 V9 hV9 h9 => ?_
  simp only [XA]
  refine call_go (by kernel_rfl) rfl (kpart_c _ 1 (r.ds.length : Int) (by omega) (by omega) (by omega) (by omega)) fun v10 V10 hV10 h10 => ?_
  rw [show (1 : Int).toNat = 1 from rfl, Int.toNat_natCast] at h10
  simp only [XA]
  refine call_go (by kernel_rfl) rfl (qmul_c _ _ _ _ _ (h9.mono hV10) h10 (hqd.qf (by omega)) (hql.qf (by omega))) fun v11 V11 hV11 h11 => ?_
  simp only [XA]
  have hV5b := View.le_trans hV6 (View.le_trans hV7 hV8)
  refine call_go (by kernel_rfl) rfl (qadd_c _ _ _ _ _ ((((hx5.mono hV5b).mono hV9).mono hV10).mono hV11) h11 (hqs.qf (by omega)) ((hqd.mul hql).qf (by omega))) fun v12 V12 hV12 h12 => ?_
  obtain ⟨x12, y12, rfl, p5, p6⟩ := h12.form
  simp only [XA]
  refine st_rat rfl rfl rfl p5 p6 ?_
  simp only [XA]
  refine hK _ fun f => ⟨V12, _, x12, y12, StIs.of (by exact rfl), View.le_trans hV5b (View.le_trans hV9 (View.le_trans hV10 (View.le_trans hV11 hV12))), ?_⟩
  have : siteF l i k m = t.w.q / besS l r.ds m * rv false 1 r.ds.length := by unfold siteF; rw [eds1, eds2, if_pos hbe, ew]
  rw [eSm, this]
  exact h12
theorem csite_c (V : View) (v : Value) (l : List Rn) (h : SlK 9 rnE V v l) (f : ∀ r ∈ l, r.fits) (fs : ∀ r ∈ l, r.ds.length ≤ 8 ∧ (r.w.ok = true → QB 128 r.w.q)) (ll : l.length ≤ 1000000) : Spec Tryz.prog 24 [v] V fun v' V' => (rightR l = false → v' = .tuple #[.agg #[.int .i64 0, .int .i64 0, .slice none 0 0], .int .i64 1]) ∧ (rightR l = true → ∃ s, v' = .tuple #[.agg #[.int .i64 (l.length : Int), .int .i64 (l.length : Int), s], .int .i64 0] ∧ Rats V' s (flatG (moveG (siteQ l) l.length) l.length l.length)) := by
  obtain ⟨A, cL, rfl, _, _⟩ := h.form
  refine (Spec.enter Tryz.func24 rfl fun Γ => ?_)
  simp only [Tryz.ntmps24, List.map_cons, List.map_nil, List.length_cons, List.length_nil, Nat.reduceAdd, Nat.reduceSub, List.replicate_succ, List.replicate_zero, List.cons_append, List.nil_append]
  refine Gx.a (by kernel_rfl) fun K hK => ?_
  simp only [XM, XA]
  refine hK _ ?_
  refine XWP.seq ?_
  refine Gx.a (by kernel_rfl) fun K hK => ?_
  simp only [XA]
  refine call_go (by kernel_rfl) rfl (kright_c _ _ l h f ll) fun v1 V1 hV1 h1 => ?_
  subst h1
  cases hr : rightR l
  · simp only [XA]
    refine hK _ ?_
    refine Gx.t rfl ?_
    refine Gx.a (by kernel_rfl) fun K hK => ?_
    simp only []
    refine bd_go (by kernel_rfl) #[] (by simp) bd_mtx0 ?_
    simp only [XA]
    refine st_mat shapeT_26 rfl rfl rfl rfl rfl ?_
    simp only [XA]
    refine hK _ (XWP.ret ?_)
    try simp only [thenX_ret, inBlockX_ret]
    exact ret_mat2C rfl rfl rfl rfl ⟨fun _ => rfl, fun h => absurd h (by rw [hr]; simp)⟩
  obtain ⟨g1, g2, g3⟩ := right_small hr fs
  simp only [XA]
  refine hK _ ?_
  refine Gx.f rfl ?_
  refine XWP.skip ?_
  refine Gx.a (by kernel_rfl) fun K hK => ?_
  simp only [XA]
  refine call_go (by kernel_rfl) rfl (cstates_c _ _ l (h.mono rnE_ok hV1) (by omega) (by omega) (fun r hr => (g3 r hr).fine)) fun v2 V2 hV2 h2 => ?_
  obtain ⟨A2, c2, rfl, _, _⟩ := h2.form
  simp only [XV, XA]
  refine st_one shapeT_83 rfl rfl (by simp) ?_
  simp only [XA]
  refine hK _ ?_
  refine XWP.row1 (bx := [_]) fun b e hb _ => ?_
  simp only [List.map_cons, List.map_nil, rowS_v, rowS_p, List.length_nil, List.length_cons, Nat.reduceAdd, Nat.reduceEqDiff, ↓reduceIte]
  refine XWP.pub b _ (upd_at _ _ _) fun o ho hle => ?_
  have eo := row_obj ho
  subst eo
  have hbv := addV_at V2 b (.cells ([.slice A2 l.length c2] : List Value).toArray e (0, 0))
  have h2 := h2.mono stE_ok hle
  generalize addV V2 b _ = V3 at *
  refine Gx.a (by kernel_rfl) fun K hK => ?_
  simp only [XA]
  refine ld_mem (ldV1 (off := 0) hbv rfl shapeT_83 _) ?_
  simp only [XA]
  refine mkf_go [.pointer (some ⟨b, 0, none⟩)] rfl ?_
  simp only [XA]
  refine call_go (by kernel_rfl) rfl (cmoves_c V3 A2 l.length c2 65 64008 [.pointer (some ⟨b, 0, none⟩)] (siteQ l) g2 (by kernel_rfl) (fun i k hi hk _ => siteQ_QB g3 g2 hi hk) (by omega) fun V' i k hV hi hk _ => csite1_c V' b e i k _ l (hV _ _ hbv) (h2.mono stE_ok hV) g3 g2 hi hk) fun v4 V4 hV4 h4 => ?_
  obtain ⟨s, rfl, hs⟩ := h4
  obtain ⟨As, cs, rfl, _, _⟩ := hs.form
  simp only [XA]
  refine st_mat shapeT_26 rfl rfl rfl rfl rfl ?_
  simp only [XA]
  refine hK _ (XWP.ret ?_)
  try simp only [thenX_ret, inBlockX_ret]
  exact ret_mat2C rfl rfl rfl rfl ⟨fun h => absurd h (by rw [hr]; simp), fun _ => ⟨_, rfl, hs⟩⟩
end Go.Proofs.YtobjjdnfgamgcaaGreat
end
section
namespace Go.Proofs.YtobjjdnfgamgcaaGreat
open Go Go.RowKit
set_option linter.unusedSimpArgs false
set_option linter.unusedVariables false
attribute [local irreducible] XWP Spec SpecO XPub XCall seqX clX apX stX ldX iaX slX
theorem rleast_c (V : View) (v u : Value) (p q : Rat) (hv : RatC V v p) (hu : RatC V u q) (fp : QF p) (fq : QF q) : Spec Tryz.prog 145 [v, u] V fun v' V' => RatC V' v' (ltQ p q) := by
  have hv0 := hv
  have hu0 := hu
  obtain ⟨x1, y1, rfl, o1, o2⟩ := hv.form
  obtain ⟨x2, y2, rfl, o3, o4⟩ := hu.form
  refine (Spec.enter Tryz.func145 rfl fun Γ => ?_)
  simp only [Tryz.ntmps145, List.map_cons, List.map_nil, List.length_cons, List.length_nil, Nat.reduceAdd, Nat.reduceSub, List.replicate_succ, List.replicate_zero, List.cons_append, List.nil_append]
  refine Gx.a (by kernel_rfl) fun K hK => ?_
  simp only [XA, XB, Nat.reduceAdd]
  refine hK _ ?_
  refine XWP.seq ?_
  by_cases hlt : q < p
  · have b1 : decide (sgI (q - p) < 0) = true := by rw [sgI_sub, if_pos hlt]; rfl
    rw [show ltQ p q = q from if_pos hlt]
    refine Gx.a (by kernel_rfl) fun K hK => ?_
    simp only [XA, XB, Nat.reduceAdd, Nat.reduceLeDiff, ↓reduceIte]
    refine call_go (by kernel_rfl) rfl (pcompare_c _ _ _ _ _ (hu0.toV fq) (hv0.toV fp) fq fp) fun v1 V1 hV1 h1 => ?_
    subst h1
    simp only [XA, XB, b1]
    refine hK _ ?_
    refine Gx.t rfl ?_
    refine Gx.a (by kernel_rfl) fun K hK => ?_
    simp only [XA, XB, Nat.reduceAdd, Nat.reduceLeDiff, ↓reduceIte]
    refine call_go (by kernel_rfl) rfl (pvalid_c _ _ _ ((hu0.mono hV1).toV fq)) fun v2 V2 hV2 h2 => ?_
    obtain ⟨x, y, rfl, p1, p2⟩ := h2.form
    simp only [XA]
    refine st_rat rfl rfl rfl p1 p2 ?_
    simp only [XA]
    refine hK _ (XWP.ret ?_)
    try simp only [thenX_ret, inBlockX_ret]
    exact ret_rat1 rfl rfl rfl h2
  · have b1 : decide (sgI (q - p) < 0) = false := by
      rw [sgI_sub, if_neg hlt]
      split <;> rfl
    rw [show ltQ p q = p from if_neg hlt]
    refine Gx.a (by kernel_rfl) fun K hK => ?_
    simp only [XA, XB, Nat.reduceAdd, Nat.reduceLeDiff, ↓reduceIte]
    refine call_go (by kernel_rfl) rfl (pcompare_c _ _ _ _ _ (hu0.toV fq) (hv0.toV fp) fq fp) fun v1 V1 hV1 h1 => ?_
    subst h1
    simp only [XA, XB, b1]
    refine hK _ ?_
    refine Gx.f rfl ?_
    refine XWP.skip ?_
    refine Gx.a (by kernel_rfl) fun K hK => ?_
    simp only [XA, XB, Nat.reduceAdd, Nat.reduceLeDiff, ↓reduceIte]
    refine call_go (by kernel_rfl) rfl (pvalid_c _ _ _ ((hv0.mono hV1).toV fp)) fun v2 V2 hV2 h2 => ?_
    obtain ⟨x, y, rfl, p1, p2⟩ := h2.form
    simp only [XA]
    refine st_rat rfl rfl rfl p1 p2 ?_
    simp only [XA]
    refine hK _ (XWP.ret ?_)
    try simp only [thenX_ret, inBlockX_ret]
    exact ret_rat1 rfl rfl rfl h2
theorem rcommon_c (V : View) (cs1 cs2 : List Value) (r t : Rn) (h1 : ElK 9 rnE V cs1 r) (h2 : ElK 9 rnE V cs2 t) (l1 : r.ds.length ≤ 1000) (l2 : t.ds.length ≤ 1000) : Spec Tryz.prog 160 [.agg cs1.toArray, .agg cs2.toArray] V fun v' V' => v' = .int .i64 (comN r.ds t.ds : Nat) := by
  obtain ⟨u0, u1, u2, u3, u4, dv1, u6, u7, u8, rfl, hd1⟩ := rn_draws h1
  obtain ⟨v0, v1, v2, v3, v4, dv2, v6, v7, v8, rfl, hd2⟩ := rn_draws h2
  obtain ⟨A1, q1, rfl, _, _⟩ := hd1.form
  obtain ⟨A2, q2, rfl, _, _⟩ := hd2.form
  refine (Spec.enter Tryz.func160 rfl fun Γ => ?_)
  simp only [Tryz.ntmps160, List.map_cons, List.map_nil, List.length_cons, List.length_nil, Nat.reduceAdd, Nat.reduceSub, List.replicate_succ, List.replicate_zero, List.cons_append, List.nil_append]
  refine Gx.a (by kernel_rfl) fun K hK => ?_
  simp only [XA]
  refine hK _ ?_
  refine Gx.a (by kernel_rfl) fun K hK => ?_
  simp only [XA]
  refine hK _ ?_
  refine XWP.cut (fun s => ∃ (N : Nat), StIs (fun Z => [Z 0,Z 1, .p 0 0, .p 1 0, Z 4, .v (.int .i64 (N : Int)), Z 6,Z 7,Z 8,Z 9,Z 10,Z 11,Z 12,Z 13,Z 14,Z 15,Z 16,Z 17,Z 18,Z 19,Z 20,Z 21,Z 22,Z 23,Z 24,Z 25,Z 26,Z 27,Z 28,Z 29,Z 30,Z 31,Z 32,Z 33]) [[u0, u1, u2, u3, u4, .slice A1 r.ds.length q1, u6, u7, u8], [v0, v1, v2, v3, v4, .slice A2 t.ds.length q2, v6, v7, v8]] (fun _ => none) V s ∧ comN r.ds t.ds = N) ?_ ?_
  rotate_left
  · rintro s ⟨N, hs, rfl⟩
    obtain ⟨z, rfl⟩ := hs.out
    try dsimp only
    refine Gx.a (by kernel_rfl) fun K hK => ?_
    simp only [XA]
    refine hK _ (XWP.ret ?_)
    try simp only [thenX_ret, inBlockX_ret]
    refine ret_go _ rfl ?_
    rfl
  refine XWP.block ?_
  refine XWP.loop (fun q s => ∃ (n : Nat), StIs (fun Z => [Z 0,Z 1, .p 0 0, .p 1 0, Z 4, .v (.int .i64 (n : Int)), Z 6,Z 7,Z 8,Z 9,Z 10,Z 11,Z 12,Z 13,Z 14,Z 15,Z 16,Z 17,Z 18,Z 19,Z 20,Z 21,Z 22,Z 23,Z 24,Z 25,Z 26,Z 27,Z 28,Z 29,Z 30,Z 31,Z 32,Z 33]) [[u0, u1, u2, u3, u4, .slice A1 r.ds.length q1, u6, u7, u8], [v0, v1, v2, v3, v4, .slice A2 t.ds.length q2, v6, v7, v8]] (fun _ => none) V s ∧ q + n = r.ds.length ∧ n ≤ t.ds.length ∧ ∀ i, i < n → r.ds[i]? = t.ds[i]?) r.ds.length ⟨0, StIs.of (by exact rfl), by omega, by omega, fun i hi => by omega⟩ ?_
  rintro q s ⟨n, hs, hq, hnt, heq⟩
  obtain ⟨z, rfl⟩ := hs.out
  try dsimp only
  clear hs
  refine XWP.seq ?_
  by_cases c1 : n < r.ds.length
  rotate_left
  · have t1 : decide ((n : Int) < (r.ds.length : Int)) = false := decide_eq_false (by omega)
    (refine XWP.drw [0, 1, 2, 3, 4, 5, 6, 7, 8, 9, 10, 11, 12, 13, 14, 15, 16, 17, 18, 19, 20, 21, 22, 23, 24] (by kernel_rfl) (by kernel_rfl) (by kernel_rfl) fun K hK => ?_) <;> dsimp only [pickOps, List.getElem?_cons_zero, List.getElem?_cons_succ]
    simp only [XU, XA, XB, gateX, ↓reduceIte, t1]
    refine hK _ ?_
    refine Gx.f rfl ?_
    refine XWP.exit ?_
    exact ⟨n, StIs.of (by exact rfl), comN_stop n r.ds t.ds (by omega) hnt heq (.inl (by omega))⟩
  have t1 : decide ((n : Int) < (r.ds.length : Int)) = true := decide_eq_true (by omega)
  by_cases c2 : n < t.ds.length
  rotate_left
  · have t2 : decide ((n : Int) < (t.ds.length : Int)) = false := decide_eq_false (by omega)
    (refine XWP.drw [0, 1, 2, 3, 4, 5, 6, 7, 8, 9, 10, 11, 12, 13, 14, 15, 16, 17, 18, 19, 20, 21, 22, 23, 24] (by kernel_rfl) (by kernel_rfl) (by kernel_rfl) fun K hK => ?_) <;> dsimp only [pickOps, List.getElem?_cons_zero, List.getElem?_cons_succ]
    simp only [XU, XA, XB, gateX, ↓reduceIte, beq_self_eq_true, t1, t2]
    refine hK _ ?_
    refine Gx.f rfl ?_
    refine XWP.exit ?_
    exact ⟨n, StIs.of (by exact rfl), comN_stop n r.ds t.ds (by omega) hnt heq (.inr (.inl (by omega)))⟩
  have t2 : decide ((n : Int) < (t.ds.length : Int)) = true := decide_eq_true (by omega)
  obtain ⟨b1, o1, rfl⟩ := SlK.addr hd1 (by omega)
  obtain ⟨b2, o2, rfl⟩ := SlK.addr hd2 (by omega)
  obtain ⟨dc, ⟨d1, _, d3⟩, hcell⟩ := SlK.get hd1 n c1
  obtain ⟨ec, ⟨e1, _, e3⟩, hcell2⟩ := SlK.get hd2 n c2
  have hkd : r.ds[n]? = some r.ds[n] := List.getElem?_eq_getElem c1
  have hke : t.ds[n]? = some t.ds[n] := List.getElem?_eq_getElem c2
  have d3 : dc = r.ds[n].cells := d3
  have e3 : ec = t.ds[n].cells := e3
  generalize r.ds[n] = d at *
  generalize t.ds[n] = e at *
  subst d3
  subst e3
  (refine XWP.drw [0, 1, 2, 3, 4, 5, 6, 7, 8, 9, 10, 11, 12, 13, 14, 15, 16, 17, 18, 19, 20, 21, 22, 23, 24] (by kernel_rfl) (by kernel_rfl) (by kernel_rfl) fun K hK => ?_) <;> dsimp only [pickOps, List.getElem?_cons_zero, List.getElem?_cons_succ]
  simp only [XU, XA, XB, gateX, ↓reduceIte, beq_self_eq_true, t1, t2]
  refine ⟨by omega, by omega, ld_mem (loadsK shapeT_66 d1 (hcell _)) ?_⟩
  simp only [XU, XA, gateX, ↓reduceIte, beq_self_eq_true]
  refine ⟨by omega, by omega, ld_mem (loadsK shapeT_66 e1 (hcell2 _)) ?_⟩
  simp only [XA, gateX, ↓reduceIte, beq_self_eq_true]
  refine bin_own rfl (drawn_eq d e) ?_
  by_cases hde : d = e
  · have b3 : decide (d = e) = true := decide_eq_true hde
    simp only [XA, ↓reduceIte, b3]
    refine hK _ ?_
    refine Gx.t rfl ?_
    refine XWP.skip ?_
    refine XWP.block ?_
    refine Gx.c (by kernel_rfl) fun K hK => ?_
    simp only [XA, XB, i64_succ n (by omega)]
    refine hK _ ⟨q - 1, by omega, n + 1, StIs.of (by exact rfl), by omega, by omega, fun i hi => ?_⟩
    by_cases ei : i = n
    · subst ei; rw [hkd, hke, hde]
    · exact heq i (by omega)
  · have b3 : decide (d = e) = false := decide_eq_false hde
    simp only [XA, ↓reduceIte, b3]
    refine hK _ ?_
    refine Gx.f rfl ?_
    refine XWP.exit ?_
    exact ⟨n, StIs.of (by exact rfl), comN_stop n r.ds t.ds (by omega) hnt heq (.inr (.inr (by rw [hkd, hke]; exact fun h => hde (Option.some.inj h))))⟩
theorem rprior1_c (V : View) (cs : List Value) (r : Rn) (hcs : ElK 9 rnE V cs r) (hl : r.ds.length ≤ 100) (hg : ∀ d ∈ r.ds, d.good) : Spec Tryz.prog 144 [.agg cs.toArray] V fun v' V' => RatC V' v' (priorQ r.ds) := by
  have hcs0 := hcs
  obtain ⟨u0, u1, u2, u3, u4, dv1, u6, u7, u8, rfl, hd1⟩ := rn_draws hcs
  refine (Spec.enter Tryz.func144 rfl fun Γ => ?_)
  simp only [Tryz.ntmps144, List.map_cons, List.map_nil, List.length_cons, List.length_nil, Nat.reduceAdd, Nat.reduceSub, List.replicate_succ, List.replicate_zero, List.cons_append, List.nil_append]
  refine Gx.a (by kernel_rfl) fun K hK => ?_
  simp only [XA, XB]
  refine hK _ ?_
  refine Gx.a (by kernel_rfl) fun K hK => ?_
  simp only [XU, XA, Nat.reduceAdd, Nat.reduceLeDiff, ↓reduceIte]
  refine call_go (by kernel_rfl) rfl (rprior_c _ _ r hcs0 hl hg) fun v1 V1 hV1 h1 => ?_
  obtain ⟨w, rfl, h1⟩ := h1
  obtain ⟨x, y, rfl, p1, p2⟩ := h1.form
  simp only [XA, XB, Nat.reduceAdd]
  refine st_rat rfl rfl rfl p1 p2 ?_
  simp only [XA]
  refine hK _ ?_
  refine Gx.a (by kernel_rfl) fun K hK => ?_
  simp only [XA, XB, Nat.reduceAdd, Nat.reduceLeDiff, ↓reduceIte]
  refine st_rat rfl rfl rfl p1 p2 ?_
  simp only [XA]
  refine hK _ (XWP.ret ?_)
  try simp only [thenX_ret, inBlockX_ret]
  exact ret_rat1 rfl rfl rfl h1
theorem rby_c (V : View) (v u : Value) (p q : Rat) (hv : RatC V v p) (hu : RatC V u q) (fp : QF p) (fq : QF q) (hq : q ≠ 0) : Spec Tryz.prog 146 [v, u] V fun v' V' => RatC V' v' (p / q) := by
  have hv0 := hv
  have hu0 := hu
  obtain ⟨x1, y1, rfl, o1, o2⟩ := hv.form
  obtain ⟨x2, y2, rfl, o3, o4⟩ := hu.form
  refine (Spec.enter Tryz.func146 rfl fun Γ => ?_)
  simp only [Tryz.ntmps146, List.map_cons, List.map_nil, List.length_cons, List.length_nil, Nat.reduceAdd, Nat.reduceSub, List.replicate_succ, List.replicate_zero, List.cons_append, List.nil_append]
  refine Gx.a (by kernel_rfl) fun K hK => ?_
  simp only [XA, XB, Nat.reduceAdd]
  refine hK _ ?_
  refine Gx.a (by kernel_rfl) fun K hK => ?_
  simp only [XA, XB, Nat.reduceAdd, Nat.reduceLeDiff, ↓reduceIte]
  refine call_go (by kernel_rfl) rfl (pdiv_c _ _ _ _ _ (hv0.toV fp) (hu0.toV fq) fp fq) fun v1 V1 hV1 h1 => ?_
  obtain ⟨w, rfl, h1q⟩ := h1.2 hq
  have h1 : RatC V1 w (p / q) := h1q
  obtain ⟨x, y, rfl, p1, p2⟩ := h1.form
  simp only [XA, XB, Nat.reduceAdd]
  refine st_rat rfl rfl rfl p1 p2 ?_
  simp only [XA]
  refine hK _ ?_
  refine Gx.a (by kernel_rfl) fun K hK => ?_
  simp only [XA, XB, Nat.reduceAdd, Nat.reduceLeDiff, ↓reduceIte]
  refine st_rat rfl rfl rfl p1 p2 ?_
  simp only [XA]
  refine hK _ (XWP.ret ?_)
  try simp only [thenX_ret, inBlockX_ret]
  exact ret_rat1 rfl rfl rfl h1
theorem rcount_c (V : View) (a : Int) (ha : 0 ≤ a) (la : a < 4611686018427387904) : Spec Tryz.prog 161 [.int .i64 a] V fun v' V' => RatC V' v' (rv false a.toNat 1) := by
  refine (Spec.enter Tryz.func161 rfl fun Γ => ?_)
  simp only [Tryz.ntmps161, List.map_cons, List.map_nil, List.length_cons, List.length_nil, Nat.reduceAdd, Nat.reduceSub, List.replicate_succ, List.replicate_zero, List.cons_append, List.nil_append]
  refine Gx.a (by kernel_rfl) fun K hK => ?_
  simp only [XA, XB]
  refine hK _ ?_
  refine Gx.a (by kernel_rfl) fun K hK => ?_
  simp only [XA]
  refine call_go (by kernel_rfl) rfl (pmake_i _ a 1 ha (by omega) la (by omega)) fun v1 V1 hV1 h1 => ?_
  obtain ⟨w, rfl, h1⟩ := h1
  obtain ⟨x, y, rfl, p1, p2⟩ := h1.form
  simp only [XA, XB, Int.reduceToNat]
  refine st_rat rfl rfl rfl p1 p2 ?_
  simp only [XA]
  refine hK _ ?_
  refine Gx.a (by kernel_rfl) fun K hK => ?_
  simp only [XA, XB, Nat.reduceAdd, Nat.reduceLeDiff, ↓reduceIte]
  refine st_rat rfl rfl rfl p1 p2 ?_
  simp only [XA]
  refine hK _ (XWP.ret ?_)
  try simp only [thenX_ret, inBlockX_ret]
  exact ret_rat1 rfl rfl rfl h1
theorem rscores_c (V : View) (cs : List Value) (r : Rn) (hcs : ElK 9 rnE V cs r) (hr : r.small) : Spec Tryz.prog 159 [.agg cs.toArray] V fun v' V' => ∃ w, v' = .tuple #[w, .int .i64 0] ∧ RatC V' w (r.w.q / priorQ r.ds) := by
  have hcs0 := hcs
  have hl := hr.len
  obtain ⟨_, hone, c1, c2, c3, c4, dv, m, c7, c8, rfl, hds, hwr⟩ := hcs
  have hwc : RatC V (.agg #[m, c7, c8]) r.w.q := RawAt.rat hwr hr.ok
  have hp0 : priorQ r.ds ≠ 0 := fun e => by have := hr.ppos; rw [e] at this; exact absurd this (by decide)
  refine (Spec.enter Tryz.func159 rfl fun Γ => ?_)
  simp only [Tryz.ntmps159, List.map_cons, List.map_nil, List.length_cons, List.length_nil, Nat.reduceAdd, Nat.reduceSub, List.replicate_succ, List.replicate_zero, List.cons_append, List.nil_append]
  refine Gx.a (by kernel_rfl) fun K hK => ?_
  simp only [XA, XB]
  refine hK _ ?_
  refine Gx.a (by kernel_rfl) fun K hK => ?_
  simp only [XU, XA, Nat.reduceAdd, Nat.reduceLeDiff, ↓reduceIte]
  refine call_go (by kernel_rfl) rfl (rprior_c _ _ r hcs0 (by omega) hr.good) fun v1 V1 hV1 h1 => ?_
  obtain ⟨w1, rfl, h1⟩ := h1
  obtain ⟨x1, y1, rfl, p1, p2⟩ := h1.form
  simp only [XA, XB, Nat.reduceAdd]
  refine st_rat rfl rfl rfl p1 p2 ?_
  simp only [XA]
  refine hK _ ?_
  refine XWP.seq ?_
  refine Gx.a (by kernel_rfl) fun K hK => ?_
  simp only [XA, XB, decide_true]
  refine hK _ ?_
  refine Gx.f rfl ?_
  refine XWP.skip ?_
  have fq := hr.qb.qf (by omega)
  have fp := hr.qp.qf (by omega)
  refine Gx.a (by kernel_rfl) fun K hK => ?_
  simp only [XU, XA, XB, Nat.reduceAdd, Nat.reduceLeDiff, ↓reduceIte]
  refine call_go (by kernel_rfl) rfl (pdiv_c _ _ _ _ _ ((hwc.mono hV1).toV fq) (h1.toV fp) fq fp) fun v2 V2 hV2 h2 => ?_
  obtain ⟨w2, rfl, h2q⟩ := h2.2 hp0
  have h2 : RatC V2 w2 (r.w.q / priorQ r.ds) := h2q
  obtain ⟨x2, y2, rfl, p3, p4⟩ := h2.form
  simp only [XA]
  refine st_rat rfl rfl rfl p3 p4 ?_
  simp only [XA]
  refine hK _ (XWP.ret ?_)
  try simp only [thenX_ret, inBlockX_ret]
  exact ret_rat2 rfl rfl rfl rfl ⟨_, rfl, h2⟩
theorem rscores1_c (V : View) (cs : List Value) (r : Rn) (hcs : ElK 9 rnE V cs r) (hr : r.small) : Spec Tryz.prog 147 [.agg cs.toArray] V fun v' V' => RatC V' v' (r.w.q / priorQ r.ds) := by
  have hcs0 := hcs
  obtain ⟨u0, u1, u2, u3, u4, dv1, u6, u7, u8, rfl, hd1⟩ := rn_draws hcs
  refine (Spec.enter Tryz.func147 rfl fun Γ => ?_)
  simp only [Tryz.ntmps147, List.map_cons, List.map_nil, List.length_cons, List.length_nil, Nat.reduceAdd, Nat.reduceSub, List.replicate_succ, List.replicate_zero, List.cons_append, List.nil_append]
  refine Gx.a (by kernel_rfl) fun K hK => ?_
  simp only [XA, XB]
  refine hK _ ?_
  refine Gx.a (by kernel_rfl) fun K hK => ?_
  simp only [XU, XA, Nat.reduceAdd, Nat.reduceLeDiff, ↓reduceIte]
  refine call_go (by kernel_rfl) rfl (rscores_c _ _ r hcs0 hr) fun v1 V1 hV1 h1 => ?_
  obtain ⟨w, rfl, h1⟩ := h1
  obtain ⟨x, y, rfl, p1, p2⟩ := h1.form
  simp only [XA, XB, Nat.reduceAdd]
  refine st_rat rfl rfl rfl p1 p2 ?_
  simp only [XA]
  refine hK _ ?_
  refine Gx.a (by kernel_rfl) fun K hK => ?_
  simp only [XA, XB, Nat.reduceAdd, Nat.reduceLeDiff, ↓reduceIte]
  refine st_rat rfl rfl rfl p1 p2 ?_
  simp only [XA]
  refine hK _ (XWP.ret ?_)
  try simp only [thenX_ret, inBlockX_ret]
  exact ret_rat1 rfl rfl rfl h1
theorem rv_by {a b : Nat} (hb : b ≠ 0) : rv false a 1 / rv false b 1 = rv false a b := by
  rw [rv_div false false hb]
  simp
theorem by_one {x : Rat} {n : Nat} (hn : n ≠ 0) : x / rv false n 1 = x * rv false 1 n := by
  rw [Rat.div_def, rv_inv false hn]
def propG (a b : List Dr) (m : Nat) : Rat := if m ≤ comN a b then propF a b m else 0
theorem propG_all (a b : List Dr) : Sm (propG a b) (min a.length b.length) = propQ a b := by
  have hc := comN_le a b
  rw [Sm_more (f := propG a b) (n := propM a b) (by unfold propM; omega) (fun j h1 h2 => by
    unfold propG
    rw [if_neg]
    unfold propM at h1
    omega)]
  refine Sm_congr _ fun j hj => ?_
  unfold propG
  rw [if_pos]
  unfold propM at hj
  omega
theorem propG_QB {a b : List Dr} (hb : ∀ d ∈ b, d.good) (la : a.length ≤ 8) (lb : b.length ≤ 8) : ∀ m, QB (m * 133) (Sm (propG a b) m)
  | 0 => QB_zero _
  | m + 1 => by
    have h1 : QB 132 (propG a b m) := by
      unfold propG
      split
      · exact propF_QB hb la lb m
      · exact QB_zero _
    exact ((propG_QB hb la lb m).add h1).mono (by omega)
set_option maxHeartbeats 4000000 in
set_option maxRecDepth 100000 in
theorem rproposed_c (V : View) (cs1 cs2 : List Value) (r t : Rn) (h1 : ElK 9 rnE V cs1 r) (h2 : ElK 9 rnE V cs2 t) (hr : r.small) (ht : t.small) : Spec Tryz.prog 148 [.agg cs1.toArray, .agg cs2.toArray] V fun v' V' => RatC V' v' (propQ r.ds t.ds) := by
  have l1 := hr.len
  have l2 := ht.len
  have hr1 := h1
  have hr2 := h2
  obtain ⟨u0, u1, u2, u3, u4, dv1, u6, u7, u8, rfl, hd1⟩ := rn_draws h1
  obtain ⟨v0, v1, v2, v3, v4, dv2, v6, v7, v8, rfl, hd2⟩ := rn_draws h2
  obtain ⟨A1, q1, rfl, _, _⟩ := hd1.form
  obtain ⟨A2, q2, rfl, _, _⟩ := hd2.form
  have hcm := comN_le r.ds t.ds
  refine (Spec.enter Tryz.func148 rfl fun Γ => ?_)
  simp only [Tryz.ntmps148, List.map_cons, List.map_nil, List.length_cons, List.length_nil, Nat.reduceAdd, Nat.reduceSub, List.replicate_succ, List.replicate_zero, List.cons_append, List.nil_append]
  refine Gx.a (by kernel_rfl) fun K hK => ?_
  simp only [XA, XB, Nat.reduceAdd]
  refine hK _ ?_
  refine Gx.a (by kernel_rfl) fun K hK => ?_
  simp only [XA]
  refine call_go (by kernel_rfl) rfl (pzero_c _) fun v3 V3 hV3 h3 => ?_
  obtain ⟨x, y, rfl, o1, o2⟩ := h3.form
  simp only [XA, XB, Nat.reduceAdd]
  refine st_rat rfl rfl rfl o1 o2 ?_
  simp only [XA]
  refine hK _ ?_
  have h3 : RatC V3 (.agg #[.bool (ng 0), x, y]) (Sm (propG r.ds t.ds) 0) := h3
  refine XWP.cutD 4 (fun s => ∃ (V5 : View) (b x y : Value), StIs (fun Z => [Z 0,Z 1, .p 0 0, .p 1 0, .p 2 0, .p 3 0, Z 6,Z 7,Z 8,Z 9,Z 10,Z 11,Z 12,Z 13,Z 14,Z 15,Z 16,Z 17,Z 18,Z 19,Z 20,Z 21,Z 22,Z 23,Z 24,Z 25,Z 26,Z 27,Z 28,Z 29,Z 30,Z 31,Z 32,Z 33,Z 34,Z 35,Z 36,Z 37,Z 38,Z 39,Z 40,Z 41,Z 42,Z 43,Z 44,Z 45,Z 46,Z 47,Z 48,Z 49,Z 50,Z 51,Z 52,Z 53,Z 54,Z 55,Z 56,Z 57,Z 58]) [[u0, u1, u2, u3, u4, .slice A1 r.ds.length q1, u6, u7, u8], [v0, v1, v2, v3, v4, .slice A2 t.ds.length q2, v6, v7, v8], [.bool false, .slice none 0 0, .slice none 0 0], [b, x, y]] (fun _ => none) V5 s ∧ RatC V5 (.agg #[b, x, y]) (propQ r.ds t.ds)) ?_ ?_
  rotate_left
  · rintro s ⟨V5, b, x, y, hs, hx⟩
    obtain ⟨z, rfl⟩ := hs.out
    try dsimp only
    clear hs
    obtain ⟨x', y', e, p1, p2⟩ := hx.form
    cases e
    refine Gx.a (by kernel_rfl) fun K hK => ?_
    simp only [XA, XB, Nat.reduceAdd, Nat.reduceLeDiff, ↓reduceIte]
    refine st_rat rfl rfl rfl p1 p2 ?_
    simp only [XA]
    refine hK _ (XWP.ret ?_)
    try simp only [thenX_ret, inBlockX_ret]
    exact ret_rat1 rfl rfl rfl hx
  refine Gx.a (by kernel_rfl) fun K hK => ?_
  simp only [XA]
  refine hK _ ?_
  clear hK
  refine XWP.block ?_
  refine XWP.loopD 4 (fun q s => ∃ (m : Nat) (V5 : View) (b x y : Value), StIs (fun Z => [Z 0,Z 1, .p 0 0, .p 1 0, .p 2 0, .p 3 0, .v (.int .i64 (m : Int)), Z 7,Z 8,Z 9,Z 10,Z 11,Z 12,Z 13,Z 14,Z 15,Z 16,Z 17,Z 18,Z 19,Z 20,Z 21,Z 22,Z 23,Z 24,Z 25,Z 26,Z 27,Z 28,Z 29,Z 30,Z 31,Z 32,Z 33,Z 34,Z 35,Z 36,Z 37,Z 38,Z 39,Z 40,Z 41,Z 42,Z 43,Z 44,Z 45,Z 46,Z 47,Z 48,Z 49,Z 50,Z 51,Z 52,Z 53,Z 54,Z 55,Z 56,Z 57,Z 58]) [[u0, u1, u2, u3, u4, .slice A1 r.ds.length q1, u6, u7, u8], [v0, v1, v2, v3, v4, .slice A2 t.ds.length q2, v6, v7, v8], [.bool false, .slice none 0 0, .slice none 0 0], [b, x, y]] (fun _ => none) V5 s ∧ q + m = min r.ds.length t.ds.length ∧ V3.le V5 ∧ RatC V5 (.agg #[b, x, y]) (Sm (propG r.ds t.ds) m)) (min r.ds.length t.ds.length) ⟨0, V3, _, x, y, StIs.of (by exact rfl), by omega, View.le_refl _, h3⟩ ?_
  clear h3 o1 o2
  rintro q s ⟨m, V5, b, x, y, hs, hq, hV5, hx⟩
  obtain ⟨z, rfl⟩ := hs.out
  try dsimp only
  clear hs
  refine XWP.seq ?_
  have hend : m = min r.ds.length t.ds.length → RatC V5 (.agg #[b, x, y]) (propQ r.ds t.ds) := fun e => by rw [← propG_all, ← e]; exact hx
  by_cases c2 : m < r.ds.length
  rotate_left
  · have t2 : decide ((m : Int) < (r.ds.length : Int)) = false := decide_eq_false (by omega)
    refine Gx.a (by kernel_rfl) fun K hK => ?_
    simp only [XU, XA, XB, gateX, ↓reduceIte, t2]
    refine hK _ ?_
    refine Gx.f rfl ?_
    refine XWP.exit ?_
    exact fun f => ⟨V5, b, x, y, StIs.of (by exact rfl), hend (by omega)⟩
  have t2 : decide ((m : Int) < (r.ds.length : Int)) = true := decide_eq_true (by omega)
  by_cases c3 : m < t.ds.length
  rotate_left
  · have t3 : decide ((m : Int) < (t.ds.length : Int)) = false := decide_eq_false (by omega)
    refine Gx.a (by kernel_rfl) fun K hK => ?_
    simp only [XU, XA, XB, gateX, ↓reduceIte, beq_self_eq_true, t2, t3]
    refine hK _ ?_
    refine Gx.f rfl ?_
    refine XWP.exit ?_
    exact fun f => ⟨V5, b, x, y, StIs.of (by exact rfl), hend (by omega)⟩
  have t3 : decide ((m : Int) < (t.ds.length : Int)) = true := decide_eq_true (by omega)
  refine Gx.a (by kernel_rfl) fun K hK => ?_
  simp only [XU, XA, XB, gateX, ↓reduceIte, beq_self_eq_true, t2, t3]
  refine hK _ ?_
  refine Gx.t rfl ?_
  refine XWP.skip ?_
  refine XWP.cutD 4 (fun s => ∃ (V6 : View) (b x y : Value), StIs (fun Z => [Z 0,Z 1, .p 0 0, .p 1 0, .p 2 0, .p 3 0, .v (.int .i64 (m : Int)), Z 7,Z 8,Z 9,Z 10,Z 11,Z 12,Z 13,Z 14,Z 15,Z 16,Z 17,Z 18,Z 19,Z 20,Z 21,Z 22,Z 23,Z 24,Z 25,Z 26,Z 27,Z 28,Z 29,Z 30,Z 31,Z 32,Z 33,Z 34,Z 35,Z 36,Z 37,Z 38,Z 39,Z 40,Z 41,Z 42,Z 43,Z 44,Z 45,Z 46,Z 47,Z 48,Z 49,Z 50,Z 51,Z 52,Z 53,Z 54,Z 55,Z 56,Z 57,Z 58]) [[u0, u1, u2, u3, u4, .slice A1 r.ds.length q1, u6, u7, u8], [v0, v1, v2, v3, v4, .slice A2 t.ds.length q2, v6, v7, v8], [.bool false, .slice none 0 0, .slice none 0 0], [b, x, y]] (fun _ => none) V6 s ∧ V5.le V6 ∧ RatC V6 (.agg #[b, x, y]) (Sm (propG r.ds t.ds) (m + 1))) ?_ ?_
  rotate_left
  · rintro s ⟨V6, b, x, y, hs, hV6, hx⟩
    obtain ⟨z, rfl⟩ := hs.out
    try dsimp only
    clear hs
    refine Gx.c (by kernel_rfl) fun K hK => ?_
    simp only [XA, XB, i64_succ m (by omega)]
    exact hK _ ⟨q - 1, by omega, fun f => ⟨m + 1, V6, b, x, y, StIs.of (by exact rfl), by omega, View.le_trans hV5 hV6, hx⟩⟩
  clear hK
  have eS : Sm (propG r.ds t.ds) (m + 1) = Sm (propG r.ds t.ds) m + propG r.ds t.ds m := rfl
  refine XWP.block ?_
  refine XWP.seq ?_
  refine Gx.a (by kernel_rfl) fun K hK => ?_
  simp only [XU, XA, Nat.reduceAdd, Nat.reduceLeDiff, ↓reduceIte]
  refine call_go (by kernel_rfl) rfl (rcommon_c _ _ _ r t (hr1.mono rnE_ok (View.le_trans hV3 hV5)) (hr2.mono rnE_ok (View.le_trans hV3 hV5)) (by omega) (by omega)) fun v4 V4 hV4 h4 => ?_
  subst h4
  by_cases c1 : m ≤ comN r.ds t.ds
  rotate_left
  · have t1 : decide (((comN r.ds t.ds : Nat) : Int) < (m : Int)) = true := decide_eq_true (by omega)
    simp only [XA, XB, t1]
    refine hK _ ?_
    refine Gx.t rfl ?_
    refine XWP.exit ?_
    refine fun f => ⟨V4, b, x, y, StIs.of (by exact rfl), hV4, ?_⟩
    rw [eS, show propG r.ds t.ds m = 0 from if_neg c1, Rat.add_zero]
    exact hx.mono hV4
  have t1 : decide (((comN r.ds t.ds : Nat) : Int) < (m : Int)) = false := decide_eq_false (by omega)
  simp only [XA, XB, t1]
  refine hK _ ?_
  refine Gx.f rfl ?_
  refine XWP.skip ?_
  refine Gx.a (by kernel_rfl) fun K hK => ?_
  simp only [XA]
  refine call_go (by kernel_rfl) rfl (pone_c _) fun v6 V6 hV6 h6 => ?_
  obtain ⟨x6', y6', rfl, o3, o4⟩ := h6.form
  simp only [XA, XB, Nat.reduceAdd]
  refine st_rat rfl rfl rfl o3 o4 ?_
  simp only [XA]
  refine hK _ ?_
  have hds6 := (hd2.mono drE_ok (View.le_trans hV3 (View.le_trans hV5 (View.le_trans hV4 hV6)))).drop (m := m) (by omega)
  obtain ⟨A3, q3, e3, hq3, hm3⟩ := hds6.form
  have hl3 : (t.ds.drop m).length = t.ds.length - m := List.length_drop
  have hg3 := drop_good ht.good m
  rw [e3] at hds6
  have h6 : RatC V6 (.agg #[.bool (ng 1), x6', y6']) (tlQ (t.ds.drop m) 0) := h6
  have hQ3 : ∀ k, k ≤ 8 → QF (tlQ (t.ds.drop m) k) := fun k hk => (tlQ_QB hg3 k).qf (by omega)
  refine XWP.cutD 5 (fun s => ∃ (V7 : View) (b7 x7' y7' : Value), StIs (fun Z => [Z 0,Z 1, .p 0 0, .p 1 0, .p 2 0, .p 3 0, .v (.int .i64 (m : Int)), .p 4 0, Z 8,Z 9,Z 10,Z 11,Z 12,Z 13,Z 14,Z 15,Z 16,Z 17,Z 18,Z 19,Z 20,Z 21,Z 22,Z 23,Z 24,Z 25,Z 26,Z 27,Z 28,Z 29,Z 30,Z 31,Z 32,Z 33,Z 34,Z 35,Z 36,Z 37,Z 38,Z 39,Z 40,Z 41,Z 42,Z 43,Z 44,Z 45,Z 46,Z 47,Z 48,Z 49,Z 50,Z 51,Z 52,Z 53,Z 54,Z 55,Z 56,Z 57,Z 58]) [[u0, u1, u2, u3, u4, .slice A1 r.ds.length q1, u6, u7, u8], [v0, v1, v2, v3, v4, .slice A2 t.ds.length q2, v6, v7, v8], [.bool false, .slice none 0 0, .slice none 0 0], [b, x, y], [b7, x7', y7']] (fun _ => none) V7 s ∧ V6.le V7 ∧ RatC V7 (.agg #[b7, x7', y7']) (tlQ (t.ds.drop m) (t.ds.length - m))) ?_ ?_
  · refine Gx.a (by kernel_rfl) fun K hK => ?_
    simp only [XU, XA]
    refine ⟨by omega, by omega, by omega, ?_⟩
    rw [e3]
    simp only [XA]
    refine hK _ ?_
    clear hK
    refine XWP.block ?_
    refine XWP.loopD 5 (fun n s => ∃ (k : Nat) (V7 : View) (b7 x7' y7' : Value), StIs (fun Z => [Z 0,Z 1, .p 0 0, .p 1 0, .p 2 0, .p 3 0, .v (.int .i64 (m : Int)), .p 4 0, Z 8,Z 9,Z 10,Z 11,Z 12,Z 13,Z 14,Z 15,Z 16,Z 17,Z 18,Z 19,Z 20,Z 21,Z 22,Z 23,Z 24,Z 25,Z 26,Z 27,Z 28,Z 29,Z 30,Z 31,Z 32,Z 33, .v (.slice A3 (t.ds.drop m).length q3), .v (.int .i64 ((t.ds.drop m).length : Int)), .v (.int .i64 (k : Int)), Z 37,Z 38,Z 39,Z 40,Z 41,Z 42,Z 43,Z 44,Z 45,Z 46,Z 47,Z 48,Z 49,Z 50,Z 51,Z 52,Z 53,Z 54,Z 55,Z 56,Z 57,Z 58]) [[u0, u1, u2, u3, u4, .slice A1 r.ds.length q1, u6, u7, u8], [v0, v1, v2, v3, v4, .slice A2 t.ds.length q2, v6, v7, v8], [.bool false, .slice none 0 0, .slice none 0 0], [b, x, y], [b7, x7', y7']] (fun _ => none) V7 s ∧ n + k = (t.ds.drop m).length ∧ V6.le V7 ∧ RatC V7 (.agg #[b7, x7', y7']) (tlQ (t.ds.drop m) k)) (t.ds.drop m).length ⟨0, V6, _, x6', y6', StIs.of (by exact rfl), by omega, View.le_refl _, h6⟩ ?_
    clear h6 o3 o4
    rintro n s ⟨k, V7, b7, x7', y7', hs, hn, hV7, h7⟩
    obtain ⟨z, rfl⟩ := hs.out
    try dsimp only
    clear hs
    by_cases hk : k < (t.ds.drop m).length
    rotate_left
    · obtain rfl : k = (t.ds.drop m).length := by omega
      have b8 : decide ((((t.ds.drop m).length : Nat) : Int) < (((t.ds.drop m).length : Nat) : Int)) = false := decide_eq_false (by omega)
      refine Gx.a (by kernel_rfl) fun K hK => ?_
      simp only [XA, XB, b8]
      refine hK _ ?_
      refine XWP.seq (Gx.f rfl ?_)
      refine XWP.exit ?_
      rw [hl3] at h7
      exact fun f => ⟨V7, b7, x7', y7', StIs.of (by exact rfl), hV7, h7⟩
    have b8 : decide ((k : Int) < ((t.ds.drop m).length : Int)) = true := decide_eq_true (by omega)
    refine Gx.a (by kernel_rfl) fun K hK => ?_
    simp only [XA, XB, b8]
    refine hK _ ?_
    refine XWP.seq (Gx.t rfl ?_)
    refine XWP.skip ?_
    have hds7 := hds6.mono drE_ok hV7
    obtain ⟨b3, o3, rfl⟩ := SlK.addr hds7 (by omega)
    obtain ⟨dc, ⟨d1, d2, d3⟩, hcell⟩ := SlK.get hds7 k hk
    have dgd := hg3 _ (List.getElem_mem hk)
    have hkd : (t.ds.drop m)[k]? = some (t.ds.drop m)[k] := List.getElem?_eq_getElem hk
    have d3 : dc = (t.ds.drop m)[k].cells := d3
    have edq : dq (t.ds.drop m) k = rv false ((t.ds.drop m)[k]).odds.toNat ((t.ds.drop m)[k]).whole.toNat := by unfold dq; rw [hkd]; rfl
    generalize (t.ds.drop m)[k] = d at *
    subst d3
    obtain ⟨g1, g2, g3, g4⟩ := dgd
    refine XWP.cutD 5 (fun s => ∃ (V8 : View) (b7 x7' y7' : Value), StIs (fun Z => [Z 0,Z 1, .p 0 0, .p 1 0, .p 2 0, .p 3 0, .v (.int .i64 (m : Int)), .p 4 0, Z 8,Z 9,Z 10,Z 11,Z 12,Z 13,Z 14,Z 15,Z 16,Z 17,Z 18,Z 19,Z 20,Z 21,Z 22,Z 23,Z 24,Z 25,Z 26,Z 27,Z 28,Z 29,Z 30,Z 31,Z 32,Z 33, .v (.slice (some ⟨b3, o3, none⟩) (t.ds.drop m).length q3), .v (.int .i64 ((t.ds.drop m).length : Int)), .v (.int .i64 (k : Int)), Z 37,Z 38,Z 39,Z 40,Z 41,Z 42,Z 43,Z 44,Z 45,Z 46,Z 47,Z 48,Z 49,Z 50,Z 51,Z 52,Z 53,Z 54,Z 55,Z 56,Z 57,Z 58]) [[u0, u1, u2, u3, u4, .slice A1 r.ds.length q1, u6, u7, u8], [v0, v1, v2, v3, v4, .slice A2 t.ds.length q2, v6, v7, v8], [.bool false, .slice none 0 0, .slice none 0 0], [b, x, y], [b7, x7', y7']] (fun _ => none) V8 s ∧ V7.le V8 ∧ RatC V8 (.agg #[b7, x7', y7']) (tlQ (t.ds.drop m) (k + 1))) ?_ ?_
    rotate_left
    · rintro s ⟨V8, b7, x7', y7', hs, hV8, h7⟩
      obtain ⟨z, rfl⟩ := hs.out
      try dsimp only
      clear hs
      refine Gx.c (by kernel_rfl) fun K hK => ?_
      simp only [XA, XB, i64_succ k (by omega)]
      exact hK _ ⟨n - 1, by omega, fun f => ⟨k + 1, V8, b7, x7', y7', StIs.of (by exact rfl), by omega, View.le_trans hV7 hV8, h7⟩⟩
    clear hK
    obtain ⟨x9', y9', e9, p3, p4⟩ := h7.form
    cases e9
    refine XWP.block ?_
    refine Gx.a (by kernel_rfl) fun K hK => ?_
    simp only [XU, XA]
    refine ⟨by omega, by omega, ld_mem (loadsK shapeT_66 d1 (hcell _)) ?_⟩
    simp only [XU, XA, Nat.reduceAdd]
    refine st_whole (cs := [.int .i64 d.site, .int .i64 d.index, .int .i64 d.odds, .int .i64 d.whole]) shapeT_66 rfl rfl rfl rfl ?_
    simp only [XA]
    refine hK _ ?_
    have hq9 : QF (rv false d.odds.toNat d.whole.toNat) := (QB_rv (B := 16) _ (by omega) (by omega)).qf (by omega)
    (refine XWP.drw1 [0, 1, 2, 4, 5, 3, 6, 7, 8, 9] (by kernel_rfl) (by kernel_rfl) (by kernel_rfl) fun K hK => ?_) <;> dsimp only [pickOps, List.getElem?_cons_zero, List.getElem?_cons_succ]
    simp only [XU, XA, XB, Nat.reduceAdd, Nat.reduceLeDiff, ↓reduceIte]
    refine call_go (by kernel_rfl) rfl (rcount_c _ d.odds (by omega) (by omega)) fun v8 V8 hV8 h8 => ?_
    simp only [XA]
    refine call_go (by kernel_rfl) rfl (rcount_c _ d.whole (by omega) (by omega)) fun v11 V11 hV11 h11 => ?_
    simp only [XA]
    have n11 : rv false d.whole.toNat 1 ≠ 0 := fun e => by
      have := (rv_eq_zero (a := d.whole.toNat) false (show (1 : Nat) ≠ 0 by omega)).1 e
      omega
    refine call_go (by kernel_rfl) rfl (rby_c _ _ _ _ _ (h8.mono hV11) h11 ((QB_rv (B := 16) false (by omega) (by omega)).qf (by omega)) ((QB_rv (B := 16) false (by omega) (by omega)).qf (by omega)) n11) fun v12 V12 hV12 h12 => ?_
    rw [rv_by (show d.whole.toNat ≠ 0 by omega)] at h12
    simp only [XA]
    have hV812 := View.le_trans hV8 (View.le_trans hV11 hV12)
    refine call_go (by kernel_rfl) rfl (pmul_c _ _ _ _ _ ((h7.mono hV812).toV (hQ3 k (by omega))) (h12.toV hq9) (hQ3 k (by omega)) hq9) fun v9 V9 hV9 h9 => ?_
    rw [← edq] at h9
    have h9 : RatC V9 v9 (tlQ (t.ds.drop m) (k + 1)) := h9
    obtain ⟨x10', y10', rfl, p5, p6⟩ := h9.form
    simp only [XA]
    refine st_rat rfl rfl rfl p5 p6 ?_
    simp only [XA]
    exact hK _ fun f => ⟨V9, _, x10', y10', StIs.of (by exact rfl), View.le_trans hV812 hV9, h9⟩
  rintro s ⟨V7, b7, x7', y7', hs, hV7, h7⟩
  obtain ⟨z, rfl⟩ := hs.out
  try dsimp only
  clear hs
  obtain ⟨x9', y9', e9, p3, p4⟩ := h7.form
  cases e9
  (refine XWP.drw1 [0, 1, 2, 3, 4, 5, 6, 7, 8] (by kernel_rfl) (by kernel_rfl) (by kernel_rfl) fun K hK => ?_) <;> dsimp only [pickOps, List.getElem?_cons_zero, List.getElem?_cons_succ]
  simp only [XU, XA, XB, Nat.reduceAdd, Nat.reduceLeDiff, ↓reduceIte]
  refine call_go (by kernel_rfl) rfl (rcount_c _ (r.ds.length : Int) (by omega) (by omega)) fun v8 V8 hV8 h8 => ?_
  rw [Int.toNat_natCast] at h8
  simp only [XA]
  have n8 : rv false r.ds.length 1 ≠ 0 := fun e => by
    have := (rv_eq_zero (a := r.ds.length) false (show (1 : Nat) ≠ 0 by omega)).1 e
    omega
  refine call_go (by kernel_rfl) rfl (rby_c _ _ _ _ _ (h7.mono hV8) h8 (hQ3 _ (by omega)) ((QB_rv (B := 4) false (by omega) (by omega)).qf (by omega)) n8) fun v9 V9 hV9 h9 => ?_
  rw [by_one (show r.ds.length ≠ 0 by omega)] at h9
  have h9 : RatC V9 v9 (propF r.ds t.ds m) := h9
  simp only [XA]
  have hqF := (propF_QB (a := r.ds) ht.good l1 l2 m).qf (by omega)
  have hqS := (propG_QB (a := r.ds) ht.good l1 l2 m).qf (by omega)
  have hx' := ((((hx.mono hV4).mono hV6).mono hV7).mono hV8).mono hV9
  refine call_go (by kernel_rfl) rfl (padd_c _ _ _ _ _ (hx'.toV hqS) (h9.toV hqF) hqS hqF) fun v10 V10 hV10 h10 => ?_
  have h10 : RatC V10 v10 (Sm (propG r.ds t.ds) (m + 1)) := by rw [eS, show propG r.ds t.ds m = propF r.ds t.ds m from if_pos c1]; exact h10
  obtain ⟨x10', y10', rfl, p5, p6⟩ := h10.form
  simp only [XA]
  refine st_rat rfl rfl rfl p5 p6 ?_
  simp only [XA]
  exact hK _ fun f => ⟨V10, _, x10', y10', StIs.of (by exact rfl), View.le_trans hV4 (View.le_trans (View.le_trans hV6 hV7) (View.le_trans hV8 (View.le_trans hV9 hV10))), h10⟩
end Go.Proofs.YtobjjdnfgamgcaaGreat
end
section
namespace Go.Proofs.YtobjjdnfgamgcaaGreat
open Go Go.RowKit
set_option linter.unusedSimpArgs false
set_option linter.unusedVariables false
attribute [local irreducible] XWP Spec SpecO XPub XCall seqX clX apX stX ldX iaX slX
theorem besD_not (m i : Nat) (d e : Dr) : besD m i d e = !((!decide (i = m) && decide (d ≠ e)) || !decide (d.site = e.site) || !decide (d.whole = e.whole)) := by
  obtain ⟨d1, d2, d3, d4⟩ := d
  obtain ⟨e1, e2, e3, e4⟩ := e
  unfold besD
  by_cases h0 : i = m <;> by_cases h1 : d1 = e1 <;> by_cases h2 : d2 = e2 <;> by_cases h3 : d3 = e3 <;> by_cases h4 : d4 = e4 <;> simp [h0, h1, h2, h3, h4]
set_option maxHeartbeats 4000000 in
theorem rbeside_c (V : View) (cs1 cs2 : List Value) (r t : Rn) (m : Nat) (h1 : ElK 9 rnE V cs1 r) (h2 : ElK 9 rnE V cs2 t) (l1 : r.ds.length ≤ 1000) : Spec Tryz.prog 162 [.agg cs1.toArray, .agg cs2.toArray, .int .i64 (m : Int)] V fun v' V' => v' = .bool (besB r.ds t.ds m) := by
  obtain ⟨u0, u1, u2, u3, u4, dv1, u6, u7, u8, rfl, hd1⟩ := rn_draws h1
  obtain ⟨v0, v1, v2, v3, v4, dv2, v6, v7, v8, rfl, hd2⟩ := rn_draws h2
  obtain ⟨A1, q1, rfl, _, _⟩ := hd1.form
  obtain ⟨A2, q2, rfl, _, _⟩ := hd2.form
  refine (Spec.enter Tryz.func162 rfl fun Γ => ?_)
  simp only [Tryz.ntmps162, List.map_cons, List.map_nil, List.length_cons, List.length_nil, Nat.reduceAdd, Nat.reduceSub, List.replicate_succ, List.replicate_zero, List.cons_append, List.nil_append]
  refine Gx.a (by kernel_rfl) fun K hK => ?_
  simp only [XA]
  refine hK _ ?_
  refine XWP.seq ?_
  by_cases hl : r.ds.length = t.ds.length
  rotate_left
  · have t1 : (!decide ((r.ds.length : Int) = (t.ds.length : Int))) = true := by rw [decide_eq_false (by omega)]; rfl
    refine Gx.a (by kernel_rfl) fun K hK => ?_
    simp only [XU, XA, XB, t1]
    refine hK _ ?_
    refine Gx.t rfl ?_
    refine Gx.a (by kernel_rfl) fun K hK => ?_
    simp only [XA]
    refine hK _ (XWP.ret ?_)
    try simp only [thenX_ret, inBlockX_ret]
    refine ret_go _ rfl ?_
    unfold besB
    rw [decide_eq_false hl]; rfl
  have t1 : (!decide ((r.ds.length : Int) = (t.ds.length : Int))) = false := by rw [decide_eq_true (by omega)]; rfl
  refine Gx.a (by kernel_rfl) fun K hK => ?_
  simp only [XU, XA, XB, t1]
  refine hK _ ?_
  refine Gx.f rfl ?_
  refine XWP.skip ?_
  refine XWP.cutD 2 (fun s => StIs (fun Z => [Z 0,Z 1,Z 2,Z 3,Z 4,Z 5,Z 6,Z 7,Z 8,Z 9,Z 10,Z 11,Z 12,Z 13,Z 14,Z 15,Z 16,Z 17,Z 18,Z 19,Z 20,Z 21,Z 22,Z 23,Z 24,Z 25,Z 26,Z 27,Z 28,Z 29,Z 30,Z 31,Z 32,Z 33,Z 34,Z 35,Z 36,Z 37,Z 38,Z 39,Z 40,Z 41,Z 42,Z 43,Z 44,Z 45,Z 46,Z 47,Z 48,Z 49,Z 50,Z 51,Z 52,Z 53,Z 54,Z 55]) [[u0, u1, u2, u3, u4, .slice A1 r.ds.length q1, u6, u7, u8], [v0, v1, v2, v3, v4, .slice A2 t.ds.length q2, v6, v7, v8]] (fun _ => none) V s ∧ besB r.ds t.ds m = true) ?_ ?_
  rotate_left
  · rintro s ⟨hs, hb⟩
    obtain ⟨z, rfl⟩ := hs.out
    try dsimp only
    refine Gx.a (by kernel_rfl) fun K hK => ?_
    simp only [XA]
    refine hK _ (XWP.ret ?_)
    try simp only [thenX_ret, inBlockX_ret]
    refine ret_go _ rfl ?_
    rw [hb]; rfl
  refine Gx.a (by kernel_rfl) fun K hK => ?_
  simp only [XU, XA]
  refine hK _ ?_
  clear hK
  refine XWP.block ?_
  refine XWP.loopD 2 (fun q s => ∃ (k : Nat), StIs (fun Z => [Z 0,Z 1, .v (.int .i64 (m : Int)), .p 0 0, .p 1 0, Z 5,Z 6, Z 7,Z 8,Z 9,Z 10,Z 11,Z 12,Z 13,Z 14,Z 15,Z 16,Z 17, .v (.slice A1 r.ds.length q1), .v (.int .i64 (r.ds.length : Int)), .v (.int .i64 (k : Int)), Z 21,Z 22,Z 23,Z 24,Z 25,Z 26,Z 27,Z 28,Z 29,Z 30,Z 31,Z 32,Z 33,Z 34,Z 35,Z 36,Z 37,Z 38,Z 39,Z 40,Z 41,Z 42,Z 43,Z 44,Z 45,Z 46,Z 47,Z 48,Z 49,Z 50,Z 51,Z 52,Z 53,Z 54,Z 55]) [[u0, u1, u2, u3, u4, .slice A1 r.ds.length q1, u6, u7, u8], [v0, v1, v2, v3, v4, .slice A2 t.ds.length q2, v6, v7, v8]] (fun _ => none) V s ∧ q + k = r.ds.length ∧ ∀ i, i < k → besAt r.ds t.ds m i = true) r.ds.length ⟨0, StIs.of (by exact rfl), by omega, fun i hi => by omega⟩ ?_
  rintro q s ⟨k, hs, hq, hall⟩
  obtain ⟨z, rfl⟩ := hs.out
  try dsimp only
  clear hs
  by_cases hk : k < r.ds.length
  rotate_left
  · obtain rfl : k = r.ds.length := by omega
    have b1 : decide (((r.ds.length : Nat) : Int) < ((r.ds.length : Nat) : Int)) = false := decide_eq_false (by omega)
    refine Gx.a (by kernel_rfl) fun K hK => ?_
    simp only [XA, XB, b1]
    refine hK _ ?_
    refine XWP.seq (Gx.f rfl ?_)
    refine XWP.exit ?_
    refine fun f => ⟨StIs.of (by exact rfl), ?_⟩
    unfold besB
    rw [decide_eq_true hl, Bool.true_and, List.all_eq_true]
    exact fun i hi => hall i (List.mem_range.1 hi)
  have b1 : decide ((k : Int) < (r.ds.length : Int)) = true := decide_eq_true (by omega)
  refine Gx.a (by kernel_rfl) fun K hK => ?_
  simp only [XA, XB, b1]
  refine hK _ ?_
  refine XWP.seq (Gx.t rfl ?_)
  refine XWP.skip ?_
  obtain ⟨b1, o1, rfl⟩ := SlK.addr hd1 (by omega)
  obtain ⟨b2, o2, rfl⟩ := SlK.addr hd2 (by omega)
  obtain ⟨dc, ⟨d1, _, d3⟩, hcell⟩ := SlK.get hd1 k hk
  obtain ⟨ec, ⟨e1, _, e3⟩, hcell2⟩ := SlK.get hd2 k (by omega)
  have hkd : r.ds[k]? = some r.ds[k] := List.getElem?_eq_getElem hk
  have hke : t.ds[k]? = some (t.ds[k]'(by omega)) := List.getElem?_eq_getElem (by omega)
  have d3 : dc = r.ds[k].cells := d3
  have e3 : ec = (t.ds[k]'(by omega)).cells := e3
  generalize r.ds[k] = d at *
  generalize (t.ds[k]'(by omega)) = e at *
  subst d3
  subst e3
  have hat := besAt_at (m := m) hkd hke
  have xd := fun H => loadsK (H := H) shapeT_66 d1 (hcell H)
  have xe := fun H => loadsK (H := H) shapeT_66 e1 (hcell2 H)
  refine XWP.cutD 2 (fun s => StIs (fun Z => [Z 0,Z 1, .v (.int .i64 (m : Int)), .p 0 0, .p 1 0, Z 5,Z 6, Z 7,Z 8,Z 9,Z 10,Z 11,Z 12,Z 13,Z 14,Z 15,Z 16,Z 17, .v (.slice (some ⟨b1, o1, none⟩) r.ds.length q1), .v (.int .i64 (r.ds.length : Int)), .v (.int .i64 (k : Int)), Z 21,Z 22,Z 23,Z 24,Z 25,Z 26,Z 27,Z 28,Z 29,Z 30,Z 31,Z 32,Z 33,Z 34,Z 35,Z 36,Z 37,Z 38,Z 39,Z 40,Z 41,Z 42,Z 43,Z 44,Z 45,Z 46,Z 47,Z 48,Z 49,Z 50,Z 51,Z 52,Z 53,Z 54,Z 55]) [[u0, u1, u2, u3, u4, .slice (some ⟨b1, o1, none⟩) r.ds.length q1, u6, u7, u8], [v0, v1, v2, v3, v4, .slice (some ⟨b2, o2, none⟩) t.ds.length q2, v6, v7, v8]] (fun _ => none) V s ∧ besAt r.ds t.ds m k = true) ?_ ?_
  rotate_left
  · rintro s ⟨hs, hg⟩
    obtain ⟨z, rfl⟩ := hs.out
    try dsimp only
    clear hs
    refine Gx.c (by kernel_rfl) fun K hK => ?_
    simp only [XA, XB, i64_succ k (by omega)]
    exact hK _ ⟨q - 1, by omega, fun f => ⟨k + 1, StIs.of (by exact rfl), by omega, fun i hi => by
      by_cases ei : i = k
      · subst ei; exact hg
      · exact hall i (by omega)⟩⟩
  clear hK
  refine XWP.block ?_
  refine Gx.a (by kernel_rfl) fun K hK => ?_
  simp only [XA]
  refine hK _ ?_
  refine XWP.cut (fun s => StIs (fun Z => [Z 0,Z 1, .v (.int .i64 (m : Int)), .p 0 0, .p 1 0, Z 5,Z 6, .v (.int .i64 (k : Int)), .p 2 0, .p 3 0, Z 10,Z 11,Z 12,Z 13,Z 14,Z 15,Z 16,Z 17, .v (.slice (some ⟨b1, o1, none⟩) r.ds.length q1), .v (.int .i64 (r.ds.length : Int)), .v (.int .i64 (k : Int)), Z 21,Z 22,Z 23,Z 24,Z 25,Z 26,Z 27,Z 28,Z 29,Z 30,Z 31,Z 32,Z 33,Z 34,Z 35,Z 36,Z 37,Z 38,Z 39,Z 40,Z 41,Z 42,Z 43,Z 44,Z 45,Z 46,Z 47,Z 48,Z 49,Z 50,Z 51,Z 52,Z 53,Z 54,Z 55]) [[u0, u1, u2, u3, u4, .slice (some ⟨b1, o1, none⟩) r.ds.length q1, u6, u7, u8], [v0, v1, v2, v3, v4, .slice (some ⟨b2, o2, none⟩) t.ds.length q2, v6, v7, v8], [.int .i64 d.site, .int .i64 d.index, .int .i64 d.odds, .int .i64 d.whole], [.int .i64 e.site, .int .i64 e.index, .int .i64 e.odds, .int .i64 e.whole]] (fun _ => none) V s ∨ StIs (fun Z => [Z 0,Z 1, .v (.int .i64 (m : Int)), .p 0 0, .p 1 0, Z 5,Z 6, .v (.int .i64 (k : Int)), .p 3 0, .p 2 0, Z 10,Z 11,Z 12,Z 13,Z 14,Z 15,Z 16,Z 17, .v (.slice (some ⟨b1, o1, none⟩) r.ds.length q1), .v (.int .i64 (r.ds.length : Int)), .v (.int .i64 (k : Int)), Z 21,Z 22,Z 23,Z 24,Z 25,Z 26,Z 27,Z 28,Z 29,Z 30,Z 31,Z 32,Z 33,Z 34,Z 35,Z 36,Z 37,Z 38,Z 39,Z 40,Z 41,Z 42,Z 43,Z 44,Z 45,Z 46,Z 47,Z 48,Z 49,Z 50,Z 51,Z 52,Z 53,Z 54,Z 55]) [[u0, u1, u2, u3, u4, .slice (some ⟨b1, o1, none⟩) r.ds.length q1, u6, u7, u8], [v0, v1, v2, v3, v4, .slice (some ⟨b2, o2, none⟩) t.ds.length q2, v6, v7, v8], [.int .i64 e.site, .int .i64 e.index, .int .i64 e.odds, .int .i64 e.whole], [.int .i64 d.site, .int .i64 d.index, .int .i64 d.odds, .int .i64 d.whole]] (fun _ => none) V s) ?_ ?_
  · (refine XWP.drwT1 (.lin [0, 1, 2, 3, 4, 5, 7] (.two (.lin [6, 8] (.two (.lin [9] (.two (.lin [10, 11, 12, 13] .nil) (.lin [11, 10, 12, 13] .nil))) (.two (.lin [10] (.two (.lin [9, 11, 12, 13] .nil) (.lin [11] (.two (.lin [9, 12, 13] .nil) (.lin [12, 9, 13] .nil))))) (.lin [11] (.two (.lin [9, 10, 12, 13] .nil) (.lin [10] (.two (.lin [9, 12, 13] .nil) (.lin [12, 9, 13] .nil)))))))) (.two (.lin [10] (.two (.lin [6, 8] (.two (.lin [9, 11, 12, 13] .nil) (.lin [11] (.two (.lin [9, 12, 13] .nil) (.lin [12, 9, 13] .nil))))) (.lin [11] (.two (.lin [6, 8] (.two (.lin [9, 12, 13] .nil) (.lin [12, 9, 13] .nil))) (.lin [12, 6, 8, 9, 13] .nil))))) (.lin [11] (.two (.lin [6, 8] (.two (.lin [9, 10, 12, 13] .nil) (.lin [10] (.two (.lin [9, 12, 13] .nil) (.lin [12, 9, 13] .nil))))) (.lin [10] (.two (.lin [6, 8] (.two (.lin [9, 12, 13] .nil) (.lin [12, 9, 13] .nil))) (.lin [12, 6, 8, 9, 13] .nil)))))))) (by kernel_rfl) (by kernel_rfl) (by kernel_rfl) fun K hK => ?_)
    simp only [XU, XA]
    repeat' first
      | refine And.intro ?_ ?_
      | refine ld_mem (xd _) ?_
      | refine ld_mem (xe _) ?_
      | refine st_whole (cs := [.int .i64 d.site, .int .i64 d.index, .int .i64 d.odds, .int .i64 d.whole]) shapeT_66 rfl rfl rfl rfl ?_
      | refine st_whole (cs := [.int .i64 e.site, .int .i64 e.index, .int .i64 e.odds, .int .i64 e.whole]) shapeT_66 rfl rfl rfl rfl ?_
      | exact hK _ (.inl (StIs.of (by exact rfl)))
      | exact hK _ (.inr (StIs.of (by exact rfl)))
      | omega
      | simp only [XU, XA, Nat.reduceAdd]
  have eB := besD_not m k d e
  have hfin : besD m k d e = false → besB r.ds t.ds m = false := fun h => besB_bad hk (by rw [hat, h])
  have ekm : decide ((k : Int) = (m : Int)) = decide (k = m) := by
    by_cases e : k = m
    · rw [decide_eq_true e, decide_eq_true (by omega)]
    · rw [decide_eq_false e, decide_eq_false (by omega)]
  rintro s (hs | hs)
  all_goals
    obtain ⟨z, rfl⟩ := hs.out
    try dsimp only
    clear hs
    cases s3 : decide (k = m)
    · rw [s3] at ekm
      cases s4 : decide (d ≠ e)
      · cases s1 : decide (d.site = e.site)
        · have e' := hfin (by rw [eB, s1, s3, s4]; rfl)
          refine Gx.a (by kernel_rfl) fun K hK => ?_
          simp only [XU, XA, XB, gateX, Nat.reduceAdd, Nat.reduceLeDiff, ↓reduceIte, beq_self_eq_true, ekm]
          refine bin_own rfl (drawn_ne d e) ?_
          simp only [XU, XA, XB, gateX, ↓reduceIte, beq_self_eq_true, s4, s1]
          refine hK _ ?_
          refine Gx.t rfl ?_
          refine Gx.a (by kernel_rfl) fun K hK => ?_
          simp only [XA]
          refine hK _ (XWP.ret ?_)
          try simp only [thenX_ret, inBlockX_ret]
          refine ret_go _ rfl ?_
          rw [e']; rfl
        cases s2 : decide (d.whole = e.whole)
        · have e' := hfin (by rw [eB, s1, s2, s3, s4]; rfl)
          refine Gx.a (by kernel_rfl) fun K hK => ?_
          simp only [XU, XA, XB, gateX, Nat.reduceAdd, Nat.reduceLeDiff, ↓reduceIte, beq_self_eq_true, ekm]
          refine bin_own rfl (drawn_ne d e) ?_
          simp only [XU, XA, XB, gateX, ↓reduceIte, beq_self_eq_true, s4, s1, s2]
          refine hK _ ?_
          refine Gx.t rfl ?_
          refine Gx.a (by kernel_rfl) fun K hK => ?_
          simp only [XA]
          refine hK _ (XWP.ret ?_)
          try simp only [thenX_ret, inBlockX_ret]
          refine ret_go _ rfl ?_
          rw [e']; rfl
        · refine Gx.a (by kernel_rfl) fun K hK => ?_
          simp only [XU, XA, XB, gateX, Nat.reduceAdd, Nat.reduceLeDiff, ↓reduceIte, beq_self_eq_true, ekm]
          refine bin_own rfl (drawn_ne d e) ?_
          simp only [XU, XA, XB, gateX, ↓reduceIte, beq_self_eq_true, s4, s1, s2]
          refine hK _ ?_
          refine Gx.f rfl ?_
          refine XWP.skip ?_
          exact fun f => ⟨StIs.of (by exact rfl), by rw [hat, eB, s1, s2, s3, s4]; rfl⟩
      · have e' := hfin (by rw [eB, s3, s4]; rfl)
        refine Gx.a (by kernel_rfl) fun K hK => ?_
        simp only [XU, XA, XB, gateX, Nat.reduceAdd, Nat.reduceLeDiff, ↓reduceIte, beq_self_eq_true, ekm]
        refine bin_own rfl (drawn_ne d e) ?_
        simp only [XA, gateX, ↓reduceIte, s4]
        refine hK _ ?_
        refine Gx.t rfl ?_
        refine Gx.a (by kernel_rfl) fun K hK => ?_
        simp only [XA]
        refine hK _ (XWP.ret ?_)
        try simp only [thenX_ret, inBlockX_ret]
        refine ret_go _ rfl ?_
        rw [e']; rfl
    · rw [s3] at ekm
      cases s1 : decide (d.site = e.site)
      · have e' := hfin (by rw [eB, s1, s3]; rfl)
        refine Gx.a (by kernel_rfl) fun K hK => ?_
        simp only [XU, XA, XB, gateX, ↓reduceIte, beq_self_eq_true, ekm, s1]
        refine hK _ ?_
        refine Gx.t rfl ?_
        refine Gx.a (by kernel_rfl) fun K hK => ?_
        simp only [XA]
        refine hK _ (XWP.ret ?_)
        try simp only [thenX_ret, inBlockX_ret]
        refine ret_go _ rfl ?_
        rw [e']; rfl
      cases s2 : decide (d.whole = e.whole)
      · have e' := hfin (by rw [eB, s1, s2, s3]; rfl)
        refine Gx.a (by kernel_rfl) fun K hK => ?_
        simp only [XU, XA, XB, gateX, ↓reduceIte, beq_self_eq_true, ekm, s1, s2]
        refine hK _ ?_
        refine Gx.t rfl ?_
        refine Gx.a (by kernel_rfl) fun K hK => ?_
        simp only [XA]
        refine hK _ (XWP.ret ?_)
        try simp only [thenX_ret, inBlockX_ret]
        refine ret_go _ rfl ?_
        rw [e']; rfl
      · refine Gx.a (by kernel_rfl) fun K hK => ?_
        simp only [XU, XA, XB, gateX, ↓reduceIte, beq_self_eq_true, ekm, s1, s2]
        refine hK _ ?_
        refine Gx.f rfl ?_
        refine XWP.skip ?_
        exact fun f => ⟨StIs.of (by exact rfl), by rw [hat, eB, s1, s2, s3]; rfl⟩
end Go.Proofs.YtobjjdnfgamgcaaGreat
end
