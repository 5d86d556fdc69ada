/- The composition and every mixture of two kernels leave the posterior invariant, at every input. (part 8 of 13) -/
import Derived.OrdersHeld
import Derived.Below
import Derived.Tactics
import Derived.KernelRfl
import Derived.RangeFuncCalls
import Derived.RangeFuncFrom
import Derived.RangeFuncLeaves
import Derived.OrdersIn
import Derived.Laws.AppendOwn
import Derived.Laws.MakeOwn
import Derived.Laws.CopyRow
import Derived.Laws.Cells
import Derived.Laws.World
import Derived.Laws.Alloc2
import Derived.Laws.NewBlocks
import Derived.Maps.AppendAt
import Derived.Test.YtobjjdnfgamgcaaGreatProg
import Init.Data.List.Lemmas
import Init.Omega
import Derived.WalkKit
import Derived.ProofKit
import Derived.OpenShut
import Derived.ChangeOld
import Derived.SizedLaws
import Derived.ChangeSlices
import Derived.ChangeArms
import Derived.Deep.Slices
import Derived.MapKept
import Derived.Maps.RangeRun
import Derived.Test.YtobjjdnfgamgcaaGreatBO7
set_option linter.unusedVariables false
set_option linter.unusedSimpArgs false
section
namespace Go.Proofs.YtobjjdnfgamgcaaGreat
open Go Go.RowKit
attribute [local irreducible] XWP Spec SpecO XPub XCall seqX clX apX stX ldX iaX slX
theorem pmake_c (V : View) (a b : Nat) (ha : a < 4611686018427387904) (hb : b < 4611686018427387904) (h0 : b ≠ 0) : Spec Tryz.prog 18 [.int .i64 (a : Int), .int .i64 (b : Int)] V fun v' V' => ∃ w, v' = .tuple #[w, .int .i64 0] ∧ RatC V' w (rv false a b) := by
 refine (Spec.enter Tryz.func18 rfl fun Γ => ?_)
 simp only [Tryz.ntmps18, List.map_cons, List.map_nil, List.length_cons, List.length_nil, Nat.reduceAdd, Nat.reduceSub, List.replicate_succ, List.replicate_zero, List.cons_append, List.nil_append]
 refine Gx.a (by kernel_rfl) fun K hK => ?_
 simp only [XA, XB]
 refine hK _ ?_
 refine Gx.a (by kernel_rfl) fun K hK => ?_
 simp only [XA]
 refine call_go (by kernel_rfl) rfl (dsize_c _ a ha) fun v1 V1 hV1 h1 => ?_
 obtain ⟨w1, rfl, h1⟩ := h1
 simp only [XA]
 refine hK _ ?_
 refine Gx.a (by kernel_rfl) fun K hK => ?_
 simp only [XA]
 refine call_go (by kernel_rfl) rfl (dsize_c _ b hb) fun v2 V2 hV2 h2 => ?_
 obtain ⟨w2, rfl, h2⟩ := h2
 simp only [XA]
 refine hK _ ?_
 refine Gx.a (by kernel_rfl) fun K hK => ?_
 simp only [XA, XB, beq_self_eq_true]
 refine call_go (by kernel_rfl) rfl (pof_c _ _ _ _ a b (h1.mono hV2) h2 (Fit1.of_two (B := 62) (by omega) (by omega)) (Fit1.of_two (B := 62) (by omega) (by omega))) fun v3 V3 hV3 h3 => ?_
 obtain ⟨w3, rfl, r3⟩ := h3.2 h0
 clear h3
 obtain ⟨x3, y3, rfl, o1, o2⟩ := r3.form
 simp only [XA]
 refine st_rat rfl rfl rfl o1 o2 ?_
 simp only [XA]
 refine hK _ (XWP.ret ?_)
 try simp only [thenX_ret, inBlockX_ret]
 exact ret_rat2 rfl rfl rfl rfl ⟨_, rfl, r3⟩
theorem qsize_c (V : View) (n : Nat) (hn : n < 4611686018427387904) : Spec Tryz.prog 132 [.int .i64 (n : Int)] V fun v' V' => NatC V' v' n := by
 have b1 : decide ((n : Int) < 0) = false := decide_eq_false (by omega)
 have w1 : IntKind.u64.wrap (n : Int) = (n : Int) := w64_id (by omega) (by omega)
 refine (Spec.enter Tryz.func132 rfl fun Γ => ?_)
 simp only [Tryz.ntmps132, List.map_cons, List.map_nil, List.length_cons, List.length_nil, Nat.reduceAdd, Nat.reduceSub, List.replicate_succ, List.replicate_zero, List.cons_append, List.nil_append]
 refine Gx.a (by kernel_rfl) fun K hK => ?_
 simp only [XA]
 refine hK _ ?_
 refine XWP.seq ?_
 refine Gx.a (by kernel_rfl) fun K hK => ?_
 simp only [XA, XB, b1]
 refine hK _ ?_
 refine Gx.f rfl ?_
 refine XWP.skip ?_
 refine Gx.a (by kernel_rfl) fun K hK => ?_
 simp only [XA, XB, w1]
 refine call_go (by kernel_rfl) rfl (of_c _ n (by omega)) fun v1 V1 hV1 h1 => ?_
 simp only [XA]
 refine hK _ (XWP.ret ?_)
 try simp only [thenX_ret, inBlockX_ret]
 refine ret_go _ rfl ?_
 exact h1
theorem qmake_c (V : View) (a b : Nat) (ha : a < 4611686018427387904) (hb : b < 4611686018427387904) (h0 : b ≠ 0) : Spec Tryz.prog 111 [.int .i64 (a : Int), .int .i64 (b : Int)] V fun v' V' => ∃ w, v' = .tuple #[w, .int .i64 0] ∧ RatC V' w (rv false a b) := by
 have b1 : decide ((a : Int) < 0) = false := decide_eq_false (by omega)
 have b2 : decide ((b : Int) < 0) = false := decide_eq_false (by omega)
 refine (Spec.enter Tryz.func111 rfl fun Γ => ?_)
 simp only [Tryz.ntmps111, List.map_cons, List.map_nil, List.length_cons, List.length_nil, Nat.reduceAdd, Nat.reduceSub, List.replicate_succ, List.replicate_zero, List.cons_append, List.nil_append]
 refine Gx.a (by kernel_rfl) fun K hK => ?_
 simp only [XA, XB]
 refine hK _ ?_
 refine Gx.a (by kernel_rfl) fun K hK => ?_
 simp only [XA, XB, beq_self_eq_true, b1, b2]
 refine call_go (by kernel_rfl) rfl (qsize_c _ a ha) fun v1 V1 hV1 h1 => ?_
 simp only [XA]
 refine call_go (by kernel_rfl) rfl (qsize_c _ b hb) fun v2 V2 hV2 h2 => ?_
 simp only [XA]
 refine call_go (by kernel_rfl) rfl (qof_c _ _ _ _ a b (h1.mono hV2) h2 (Fit.of_two (B := 62) (by omega) (by omega)) (Fit.of_two (B := 62) (by omega) (by omega))) fun v3 V3 hV3 h3 => ?_
 obtain ⟨w3, rfl, r3⟩ := h3.2 h0
 clear h3
 obtain ⟨x3, y3, rfl, o1, o2⟩ := r3.form
 simp only [XA]
 refine st_rat rfl rfl rfl o1 o2 ?_
 simp only [XA]
 refine hK _ (XWP.ret ?_)
 try simp only [thenX_ret, inBlockX_ret]
 exact ret_rat2 rfl rfl rfl rfl ⟨_, rfl, r3⟩
theorem pmake_i (V : View) (a b : Int) (ha : 0 ≤ a) (hb : 0 < b) (la : a < 4611686018427387904) (lb : b < 4611686018427387904) : Spec Tryz.prog 18 [.int .i64 a, .int .i64 b] V fun v' V' => ∃ w, v' = .tuple #[w, .int .i64 0] ∧ RatC V' w (rv false a.toNat b.toNat) := by
 have h := pmake_c V a.toNat b.toNat (by omega) (by omega) (by omega)
 rwa [Int.toNat_of_nonneg ha, Int.toNat_of_nonneg (by omega)] at h
theorem qmake_i (V : View) (a b : Int) (ha : 0 ≤ a) (hb : 0 < b) (la : a < 4611686018427387904) (lb : b < 4611686018427387904) : Spec Tryz.prog 111 [.int .i64 a, .int .i64 b] V fun v' V' => ∃ w, v' = .tuple #[w, .int .i64 0] ∧ RatC V' w (rv false a.toNat b.toNat) := by
 have h := qmake_c V a.toNat b.toNat (by omega) (by omega) (by omega)
 rwa [Int.toNat_of_nonneg ha, Int.toNat_of_nonneg (by omega)] at h
theorem rprior_c (V : View) (cs : List Value) (r : Rn) (hcs : ElK 9 rnE V cs r) (hl : r.ds.length ≤ 100) (hg : ∀ d ∈ r.ds, d.good) : Spec Tryz.prog 34 [.agg cs.toArray] V fun v' V' => ∃ w, v' = .tuple #[w, .int .i64 0] ∧ RatC V' w (priorQ r.ds) := by
 obtain ⟨_, hone, c1, c2, c3, c4, dv, m, c7, c8, rfl, hds, hw⟩ := hcs
 obtain ⟨A, c, rfl, hc, hm⟩ := hds.form
 have hsz := prior_sz hg
 have hqf : ∀ k, k ≤ r.ds.length → QF (rv false (pnum r.ds k) (pden r.ds k)) := fun k hk => (QB_rv (B := 16 * k) _ (Nat.le_trans (hsz k).2.1 (hsz k).2.2) (hsz k).2.2).qf (by omega)
 refine (Spec.enter Tryz.func34 rfl fun Γ => ?_)
 simp only [Tryz.ntmps34, List.map_cons, List.map_nil, List.length_cons, List.length_nil, Nat.reduceAdd, Nat.reduceSub, List.replicate_succ, List.replicate_zero, List.cons_append, List.nil_append]
 refine Gx.a (by kernel_rfl) fun K hK => ?_
 simp only [XA, XB]
 refine hK _ ?_
 refine Gx.a (by kernel_rfl) fun K hK => ?_
 simp only [XA]
 refine call_go (by kernel_rfl) rfl (pone_c _) fun v1 V1 hV1 h1 => ?_
 obtain ⟨x1, y1, rfl, p1, p2⟩ := h1.form
 simp only [XA, XB, Nat.reduceAdd]
 refine st_rat rfl rfl rfl p1 p2 ?_
 simp only [XA]
 refine hK _ ?_
 have h1 : RatC V1 (.agg #[.bool (ng 1), x1, y1]) (rv false (pnum r.ds 0) (pden r.ds 0)) := by
  have e : rv false (pnum r.ds 0) (pden r.ds 0) = 1 := by show rv false 1 1 = 1; decide +kernel
  rw [e]; exact h1
 have hds := hds.mono drE_ok hV1
 refine XWP.cutD 3 (fun s => ∃ (V3 : View) (b x y : Value), StIs (fun Z => [Z 0, .p 0 0, .p 1 0, Z 3, .p 2 0, Z 5,Z 6,Z 7,Z 8,Z 9,Z 10,Z 11,Z 12,Z 13,Z 14,Z 15,Z 16,Z 17,Z 18,Z 19,Z 20,Z 21,Z 22,Z 23,Z 24,Z 25,Z 26,Z 27,Z 28,Z 29,Z 30,Z 31,Z 32,Z 33,Z 34,Z 35,Z 36,Z 37,Z 38,Z 39,Z 40,Z 41,Z 42,Z 43,Z 44]) [[.int .i64 r.kind, c1, c2, c3, c4, .slice A r.ds.length c, m, c7, c8], [.bool false, .slice none 0 0, .slice none 0 0], [b, x, y]] (fun _ => none) V3 s ∧ RatC V3 (.agg #[b, x, y]) (rv false (pnum r.ds r.ds.length) (pden r.ds r.ds.length))) ?_ ?_
 ·refine Gx.a (by kernel_rfl) fun K hK => ?_
  simp only [XA]
  refine hK _ ?_
  clear hK
  refine XWP.block ?_
  refine XWP.loopD 3 (fun q s => ∃ (k : Nat) (V3 : View) (b x y : Value), StIs (fun Z => [Z 0, .p 0 0, .p 1 0, Z 3, .p 2 0, .v (.int .i64 (k : Int)), Z 6,Z 7,Z 8,Z 9,Z 10,Z 11,Z 12,Z 13,Z 14,Z 15,Z 16,Z 17,Z 18,Z 19,Z 20,Z 21,Z 22,Z 23,Z 24,Z 25,Z 26,Z 27,Z 28,Z 29,Z 30,Z 31,Z 32,Z 33,Z 34,Z 35,Z 36,Z 37,Z 38,Z 39,Z 40,Z 41,Z 42,Z 43,Z 44]) [[.int .i64 r.kind, c1, c2, c3, c4, .slice A r.ds.length c, m, c7, c8], [.bool false, .slice none 0 0, .slice none 0 0], [b, x, y]] (fun _ => none) V3 s ∧ q + k = r.ds.length ∧ V1.le V3 ∧ RatC V3 (.agg #[b, x, y]) (rv false (pnum r.ds k) (pden r.ds k))) r.ds.length ⟨0, V1, _, _, _, StIs.of (by exact rfl), by omega, View.le_refl _, h1⟩ ?_
  rintro q s ⟨k, V3, b0, x, y, hs, hq, hV3, hx⟩
  obtain ⟨z, rfl⟩ := hs.out
  try dsimp only
  clear hs
  by_cases hk : k < r.ds.length
  rotate_left
  ·obtain rfl : k = r.ds.length := by omega
   have b1 : decide (((r.ds.length : Nat) : Int) < ((r.ds.length : Nat) : Int)) = false := decide_eq_false (by omega)
   refine XWP.seq ?_
   refine Gx.a (by kernel_rfl) fun K hK => ?_
   simp only [XU, XA, XB, b1]
   refine hK _ ?_
   refine Gx.f rfl ?_
   refine XWP.exit ?_
   exact fun f => ⟨V3, b0, x, y, StIs.of (by exact rfl), hx⟩
  have b1 : decide ((k : Int) < (r.ds.length : Int)) = true := decide_eq_true (by omega)
  refine XWP.seq ?_
  refine Gx.a (by kernel_rfl) fun K hK => ?_
  simp only [XU, XA, XB, b1]
  refine hK _ ?_
  refine Gx.t rfl ?_
  refine XWP.skip ?_
  have hds3 := hds.mono drE_ok hV3
  obtain ⟨b, o, rfl⟩ := SlK.addr hds3 (by omega)
  obtain ⟨dc, ⟨d1, d2, d3⟩, hcell⟩ := SlK.get hds3 k hk
  have dgd := hg _ (List.getElem_mem hk)
  have hkd : r.ds[k]? = some r.ds[k] := List.getElem?_eq_getElem hk
  have d3 : dc = r.ds[k].cells := d3
  generalize r.ds[k] = d at *
  subst d3
  obtain ⟨g1, g2, g3, g4⟩ := dgd
  have eN : pnum r.ds (k + 1) = pnum r.ds k * d.odds.toNat := by show pnum r.ds k * _ = _; rw [hkd]; rfl
  have eD : pden r.ds (k + 1) = pden r.ds k * d.whole.toNat := by show pden r.ds k * _ = _; rw [hkd]; rfl
  have u1 : decide (d.odds < 1) = false := decide_eq_false (by omega)
  have u2 : decide (d.whole < d.odds) = false := decide_eq_false (by omega)
  refine XWP.cutD 3 (fun s => ∃ (V4 : View) (b' x y : Value), StIs (fun Z => [Z 0, .p 0 0, .p 1 0, Z 3, .p 2 0, .v (.int .i64 (k : Int)), Z 6,Z 7,Z 8,Z 9,Z 10,Z 11,Z 12,Z 13,Z 14,Z 15,Z 16,Z 17,Z 18,Z 19,Z 20,Z 21,Z 22,Z 23,Z 24,Z 25,Z 26,Z 27,Z 28,Z 29,Z 30,Z 31,Z 32,Z 33,Z 34,Z 35,Z 36,Z 37,Z 38,Z 39,Z 40,Z 41,Z 42,Z 43,Z 44]) [[.int .i64 r.kind, c1, c2, c3, c4, .slice (some ⟨b, o, none⟩) r.ds.length c, m, c7, c8], [.bool false, .slice none 0 0, .slice none 0 0], [b', x, y]] (fun _ => none) V4 s ∧ V3.le V4 ∧ RatC V4 (.agg #[b', x, y]) (rv false (pnum r.ds (k + 1)) (pden r.ds (k + 1)))) ?_ ?_
  rotate_left
  ·rintro s ⟨V4, b', x, y, hs, hV4, hx⟩
   obtain ⟨z, rfl⟩ := hs.out
   try dsimp only
   clear hs
   refine Gx.c (by kernel_rfl) fun K hK => ?_
   simp only [XA, XB, i64_succ k (by omega)]
   exact hK _ ⟨q - 1, by omega, fun f => ⟨k + 1, V4, b', x, y, StIs.of (by exact rfl), by omega, View.le_trans hV3 hV4, hx⟩⟩
  clear hK
  refine XWP.block ?_
  refine Gx.a (by kernel_rfl) fun K hK => ?_
  simp only [XU, XA]
  refine ⟨by omega, by omega, ld_mem (loadsK shapeT_66 d1 (hcell _)) ?_⟩
  simp only [XU, XA, Nat.reduceAdd]
  refine st_whole (cs := [.int .i64 d.site, .int .i64 d.index, .int .i64 d.odds, .int .i64 d.whole]) shapeT_66 rfl rfl rfl rfl ?_
  simp only [XA]
  refine hK _ ?_
  refine XWP.seq ?_
  refine Gx.a (by kernel_rfl) fun K hK => ?_
  simp only [XU, XA, XB, gateX, ↓reduceIte, beq_self_eq_true, u1, u2]
  refine hK _ ?_
  refine Gx.f rfl ?_
  refine XWP.skip ?_
  refine Gx.a (by kernel_rfl) fun K hK => ?_
  simp only [XU, XA, XB]
  refine call_go (by kernel_rfl) rfl (pmake_i _ d.odds d.whole (by omega) (by omega) (by omega) (by omega)) fun v4 V4 hV4 h4 => ?_
  obtain ⟨w4, rfl, h4⟩ := h4
  obtain ⟨x4, y4, rfl, q1, q2⟩ := h4.form
  simp only [XA, XB, Nat.reduceAdd]
  refine st_rat rfl rfl rfl q1 q2 ?_
  simp only [XA]
  refine hK _ ?_
  obtain ⟨x5, y5, e5, q3, q4⟩ := hx.form
  cases e5
  have hq4 : QF (rv false d.odds.toNat d.whole.toNat) := (QB_rv (B := 16) _ (by omega) (by omega)).qf (by omega)
  refine Gx.c (by kernel_rfl) fun K hK => ?_
  simp only [XA, XB, Nat.reduceAdd, Nat.reduceLeDiff, ↓reduceIte]
  refine call_go (by kernel_rfl) rfl (pmul_c _ _ _ _ _ ((hx.mono hV4).toV (hqf k (by omega))) (h4.toV hq4) (hqf k (by omega)) hq4) fun v5 V5 hV5 h5 => ?_
  rw [rv_mul, ← eN, ← eD] at h5
  have h5 : RatC V5 v5 (rv false (pnum r.ds (k + 1)) (pden r.ds (k + 1))) := h5
  obtain ⟨x6, y6, rfl, q5, q6⟩ := h5.form
  simp only [XA]
  refine st_rat rfl rfl rfl q5 q6 ?_
  simp only [XA]
  exact hK _ fun f => ⟨V5, _, x6, y6, StIs.of (by exact rfl), View.le_trans hV4 hV5, h5⟩
 rintro s ⟨V3, b0, x, y, hs, hx⟩
 obtain ⟨z, rfl⟩ := hs.out
 try dsimp only
 obtain ⟨x5, y5, e5, q3, q4⟩ := hx.form
 cases e5
 refine Gx.a (by kernel_rfl) fun K hK => ?_
 simp only [XA, XB, Nat.reduceAdd, Nat.reduceLeDiff, ↓reduceIte]
 refine st_rat rfl rfl rfl q3 q4 ?_
 simp only [XA]
 refine hK _ (XWP.ret ?_)
 try simp only [thenX_ret, inBlockX_ret]
 exact ret_rat2 rfl rfl rfl rfl ⟨_, rfl, hx⟩
end Go.Proofs.YtobjjdnfgamgcaaGreat
end
section
namespace Go.Proofs.YtobjjdnfgamgcaaGreat
theorem XV : type_of% (And.intro (And.intro (And.intro (@shapeT_87) (And.intro (@fieldT_87_0) (@fieldT_87_1))) (And.intro (@fieldT_87_2) (And.intro (@fieldT_87_3) (@elemT_83)))) (And.intro (And.intro (@kindT_83) (And.intro (@shapeT_83) (@zeroT_87))) (And.intro (And.intro (@zeroT_83) (@elemT_40)) (And.intro (@kindT_40) (@shapeT_40))))) := And.intro (And.intro (And.intro (@shapeT_87) (And.intro (@fieldT_87_0) (@fieldT_87_1))) (And.intro (@fieldT_87_2) (And.intro (@fieldT_87_3) (@elemT_83)))) (And.intro (And.intro (@kindT_83) (And.intro (@shapeT_83) (@zeroT_87))) (And.intro (And.intro (@zeroT_83) (@elemT_40)) (And.intro (@kindT_40) (@shapeT_40))))
end Go.Proofs.YtobjjdnfgamgcaaGreat
end
section
namespace Go.Proofs.YtobjjdnfgamgcaaGreat
open Go Go.RowKit
attribute [local irreducible] XWP Spec SpecO XPub XCall seqX clX apX stX ldX iaX slX
def stE : View → List Value → Rn → Prop := fun V cs r => ∃ v0 v1 v2 v3 v4 v5 v6 v7 v8 m n d q1 q2 q3 s1 s2 s3, cs = [v0, v1, v2, v3, v4, v5, v6, v7, v8, m, n, d, q1, q2, q3, s1, s2, s3] ∧ ElK 9 rnE V [v0, v1, v2, v3, v4, v5, v6, v7, v8] r ∧ RatC V (.agg #[m, n, d]) r.w.q ∧ RatC V (.agg #[q1, q2, q3]) (priorQ r.ds) ∧ RatC V (.agg #[s1, s2, s3]) (r.w.q / priorQ r.ds)
theorem stE_ok : ElKOk stE := fun V V' cs r hV ⟨v0, v1, v2, v3, v4, v5, v6, v7, v8, m, n, d, q1, q2, q3, s1, s2, s3, e, h1, h2, h3, h4⟩ => ⟨v0, v1, v2, v3, v4, v5, v6, v7, v8, m, n, d, q1, q2, q3, s1, s2, s3, e, h1.mono rnE_ok hV, h2.mono hV, h3.mono hV, h4.mono hV⟩
theorem placesT_87 : placesT Tryz.prog 87 = some [(0, 9), (9, 3), (12, 3), (15, 3)] := by kernel_rfl
theorem bd_state {v0 v1 v2 v3 v4 v5 v6 v7 v8 m n d : Value} : BuildsTo Tryz.prog 87 #[(0, .agg #[v0, v1, v2, v3, v4, v5, v6, v7, v8]), (1, .agg #[m, n, d])] (.agg #[v0, v1, v2, v3, v4, v5, v6, v7, v8, m, n, d, .bool false, .slice none 0 0, .slice none 0 0, .bool false, .slice none 0 0, .slice none 0 0]) := by
 refine bd_run placesT_87 zeroT_87 ?_
 kernel_rfl
theorem st_part {P : Program} {t i n off : Nat} {s : XS} {ops : Array Oper} {rest : List Oper} {K : XS → Prop} {d : Option Tmp} {cs vs us : List Value} (hs : shapeT P t = some (true, n)) (hb : s.bx[i]? = some vs) (hc : cs.length = n) (h1 : cs.all isOne = true) (ho : off + n ≤ vs.length) (hu : splice vs off cs = us) (h : seqX P ops rest K (XS.put ⟨s.t, s.bx.set i us, s.H, s.V⟩ d (.v undef))) : stX P ops rest K s d t (.p i off) (.v (.agg cs.toArray)) :=
 st_agg (cs := cs) hs hb rfl ⟨hc, h1, ho, by rw [hu]; exact h⟩
theorem one3 {b : Bool} {x y : Value} (h1 : isOne x = true) (h2 : isOne y = true) : ([.bool b, x, y] : List Value).all isOne = true := by
 simp only [List.all_cons, List.all_nil, h1, h2]; rfl
structure Rn.fine (r : Rn) : Prop where
 len : r.ds.length ≤ 100
 good : ∀ d ∈ r.ds, d.good
 ok : r.w.ok = true
 qf : QF r.w.q
 pos : 0 < r.w.q
set_option maxHeartbeats 2000000 in
set_option maxRecDepth 100000 in
theorem cstates_c (V : View) (v : Value) (l : List Rn) (h : SlK 9 rnE V v l) (h0 : 0 < l.length) (hl : l.length ≤ 100) (hf : ∀ r ∈ l, r.fine) : Spec Tryz.prog 57 [v] V fun v' V' => SlK 18 stE V' v' l := by
 obtain ⟨AL, cL, rfl, _, _⟩ := h.form
 obtain ⟨bL, oL, rfl⟩ := SlK.addr h h0
 refine (Spec.enter Tryz.func57 rfl fun Γ => ?_)
 simp only [Tryz.ntmps57, List.map_cons, List.map_nil, List.length_cons, List.length_nil, Nat.reduceAdd, Nat.reduceSub, List.replicate_succ, List.replicate_zero, List.cons_append, List.nil_append]
 refine Gx.a (by kernel_rfl) fun K hK => ?_
 simp only [XA]
 refine hK _ ?_
 refine Gx.a (by kernel_rfl) fun K hK => ?_
 simp only [XA]
 refine hK _ ?_
 refine XWP.cutD 0 (fun s => ∃ (V2 : View) (H2 : Heap) (sv : Value) (cells : List Value), StIs (fun Z => [Z 0,Z 1,Z 2, .v sv, Z 4,Z 5,Z 6,Z 7,Z 8,Z 9,Z 10,Z 11,Z 12,Z 13,Z 14,Z 15,Z 16,Z 17,Z 18,Z 19,Z 20,Z 21,Z 22,Z 23,Z 24,Z 25,Z 26,Z 27,Z 28,Z 29,Z 30,Z 31,Z 32,Z 33,Z 34]) [] H2 V2 s ∧ Own H2 87 18 sv l.length cells ∧ RowK 18 stE V2 cells l) ?_ ?_
 ·refine Gx.a (by kernel_rfl) fun K hK => ?_
  simp only [XU, XA]
  refine hK _ ?_
  clear hK
  refine XWP.block ?_
  refine XWP.loopD 0 (fun q s => ∃ (k : Nat) (V2 : View) (H2 : Heap) (sv : Value) (cells : List Value), StIs (fun Z => [Z 0,Z 1,Z 2, .v sv, Z 4,Z 5,Z 6, .v (.slice (some ⟨bL, oL, none⟩) l.length cL), .v (.int .i64 (l.length : Int)), .v (.int .i64 (k : Int)), Z 10,Z 11,Z 12,Z 13,Z 14,Z 15,Z 16,Z 17,Z 18,Z 19,Z 20,Z 21,Z 22,Z 23,Z 24,Z 25,Z 26,Z 27,Z 28,Z 29,Z 30,Z 31,Z 32,Z 33,Z 34]) [] H2 V2 s ∧ q + k = l.length ∧ V.le V2 ∧ Own H2 87 18 sv k cells ∧ RowK 18 stE V2 cells (l.take k)) l.length ⟨0, V, _, _, [], StIs.of (by exact rfl), by omega, View.le_refl _, own_nil, RowK.nil V⟩ ?_
  rintro q s ⟨k, V2, H2, sv, cells, hs, hq, hV2, ho, hr⟩
  obtain ⟨z, rfl⟩ := hs.out
  try dsimp only
  clear hs
  by_cases hk : k < l.length
  rotate_left
  ·obtain rfl : k = l.length := by omega
   have bt1 : decide (((l.length : Nat) : Int) < ((l.length : Nat) : Int)) = false := decide_eq_false (by omega)
   refine Gx.a (by kernel_rfl) fun K hK => ?_
   simp only [XA, XB, bt1]
   refine hK _ ?_
   refine XWP.seq (Gx.f rfl ?_)
   refine XWP.exit ?_
   rw [List.take_length] at hr
   exact fun f => ⟨V2, H2, sv, cells, StIs.of (by exact rfl), ho, hr⟩
  have bt1 : decide ((k : Int) < (l.length : Int)) = true := decide_eq_true (by omega)
  refine Gx.a (by kernel_rfl) fun K hK => ?_
  simp only [XA, XB, bt1]
  refine hK _ ?_
  refine XWP.seq (Gx.t rfl ?_)
  refine XWP.skip ?_
  obtain ⟨r, hrk⟩ : ∃ r, l[k]? = some r := ⟨_, List.getElem?_eq_getElem hk⟩
  have er : l[k] = r := (List.getElem?_eq_some_iff.1 hrk).2
  have hrL : r ∈ l := List.mem_of_getElem? hrk
  have hfr := hf r hrL
  have h2 := h.mono rnE_ok hV2
  obtain ⟨cs, hcs, hcell⟩ := SlK.get h2 k hk
  rw [er] at hcs
  have hcsE := hcs
  obtain ⟨_, hone, c1, c2, c3, c4, dv, m, c7, c8, rfl, hds, hwr⟩ := hcs
  have hwc : RatC V2 (.agg #[m, c7, c8]) r.w.q := RawAt.rat hwr hfr.ok
  have etk : l.take (k + 1) = l.take k ++ [r] := by rw [List.take_add_one, hrk]; rfl
  refine XWP.seq (XWP.block ?_)
  refine Gx.a (by kernel_rfl) fun K hK => ?_
  simp only [XU, XA]
  refine ⟨by omega, by omega, ld_mem (loadsK shapeT_51 rfl fun j u hj => hcell _ j u hj) ?_⟩
  simp only [XU, XA]
  refine st_whole (cs := [.int .i64 r.kind, c1, c2, c3, c4, dv, m, c7, c8]) shapeT_51 rfl rfl rfl hone ?_
  simp only [XA]
  refine hK _ ?_
  refine Gx.a (by kernel_rfl) fun K hK => ?_
  simp only [XU, XA, XB, Nat.reduceAdd, Nat.reduceLeDiff, ↓reduceIte]
  refine bd_go (by kernel_rfl) #[(0, .agg #[.int .i64 r.kind, c1, c2, c3, c4, dv, m, c7, c8]), (1, .agg #[m, c7, c8])] (by simp [ev_tmp, SV.val]) bd_state ?_
  simp only [XV, XA]
  have hone2 : ([.int .i64 r.kind, c1, c2, c3, c4, dv, m, c7, c8, m, c7, c8, .bool false, .slice none 0 0, .slice none 0 0, .bool false, .slice none 0 0, .slice none 0 0] : List Value).all isOne = true := by
   simp only [List.all_cons, List.all_nil, Bool.and_true, Bool.and_eq_true] at hone ⊢
   obtain ⟨a0, a1, a2, a3, a4, a5, a6, a7, a8⟩ := hone
   exact ⟨a0, a1, a2, a3, a4, a5, a6, a7, a8, a6, a7, a8, rfl, rfl, rfl, rfl, rfl, rfl⟩
  refine st_whole (cs := [.int .i64 r.kind, c1, c2, c3, c4, dv, m, c7, c8, m, c7, c8, .bool false, .slice none 0 0, .slice none 0 0, .bool false, .slice none 0 0, .slice none 0 0]) shapeT_87 rfl rfl rfl hone2 ?_
  simp only [XA]
  refine hK _ ?_
  refine Gx.a (by kernel_rfl) fun K hK => ?_
  simp only [XU, XA, Nat.reduceAdd, Nat.reduceLeDiff, ↓reduceIte]
  refine call_go (by kernel_rfl) rfl (cprior_c _ _ r hcsE hfr.len hfr.good) fun v3 V3 hV3 h3 => ?_
  obtain ⟨w3, rfl, h3⟩ := h3
  obtain ⟨x3, y3, rfl, p1, p2⟩ := h3.form
  simp only [XV, XA]
  refine st_part (us := [.int .i64 r.kind, c1, c2, c3, c4, dv, m, c7, c8, m, c7, c8, .bool (ng (priorQ r.ds)), x3, y3, .bool false, .slice none 0 0, .slice none 0 0]) (cs := [.bool (ng (priorQ r.ds)), x3, y3]) shapeT_49 rfl rfl (one3 p1 p2) (by simp) (by exact rfl) ?_
  simp only [XA]
  refine hK _ ?_
  refine Gx.a (by kernel_rfl) fun K hK => ?_
  simp only [XU, XA, Nat.reduceAdd, Nat.reduceLeDiff, ↓reduceIte]
  refine call_go (by kernel_rfl) rfl (cscores_c _ _ r (hcsE.mono rnE_ok hV3) hfr.len hfr.good hfr.ok hfr.qf) fun v4 V4 hV4 h4 => ?_
  obtain ⟨w4, rfl, h4⟩ := h4
  obtain ⟨x4, y4, rfl, p3, p4⟩ := h4.form
  simp only [XV, XA]
  refine st_part (us := [.int .i64 r.kind, c1, c2, c3, c4, dv, m, c7, c8, m, c7, c8, .bool (ng (priorQ r.ds)), x3, y3, .bool (ng (r.w.q / priorQ r.ds)), x4, y4]) (cs := [.bool (ng (r.w.q / priorQ r.ds)), x4, y4]) shapeT_49 rfl rfl (one3 p3 p4) (by simp) (by exact rfl) ?_
  simp only [XA]
  refine hK _ ?_
  refine Gx.c (by kernel_rfl) fun K hK => ?_
  simp only [XV, XA, Nat.reduceAdd, Nat.reduceLeDiff, ↓reduceIte]
  have honeF : ([.int .i64 r.kind, c1, c2, c3, c4, dv, m, c7, c8, m, c7, c8, .bool (ng (priorQ r.ds)), x3, y3, .bool (ng (r.w.q / priorQ r.ds)), x4, y4] : List Value).all isOne = true := by
   simp only [List.all_cons, List.all_nil, Bool.and_true, Bool.and_eq_true] at hone ⊢
   obtain ⟨a0, a1, a2, a3, a4, a5, a6, a7, a8⟩ := hone
   exact ⟨a0, a1, a2, a3, a4, a5, a6, a7, a8, a6, a7, a8, rfl, p1, p2, rfl, p3, p4⟩
  refine bs_go (by kernel_rfl) #[(0, .agg ([.int .i64 r.kind, c1, c2, c3, c4, dv, m, c7, c8, m, c7, c8, .bool (ng (priorQ r.ds)), x3, y3, .bool (ng (r.w.q / priorQ r.ds)), x4, y4] : List Value).toArray)] (by simp [ev_tmp, SV.val]) (bs_agg elemT_83 zeroT_87 rfl (by omega) (by omega) rfl) fun bq hbq1 hbq2 => ?_
  simp only [XA, Nat.reduceAdd]
  refine ap_go elemT_83 (by kernel_rfl) zeroT_87 rfl (by omega) (own_upd ho hbq1) (srcK (upd_at _ _ _) honeF) (by omega) (by omega) fun v' H' hres => ?_
  simp only [XA]
  have hV34 := View.le_trans hV3 hV4
  have hel : ElK 18 stE V4 [.int .i64 r.kind, c1, c2, c3, c4, dv, m, c7, c8, m, c7, c8, .bool (ng (priorQ r.ds)), x3, y3, .bool (ng (r.w.q / priorQ r.ds)), x4, y4] r := ⟨rfl, honeF, _, _, _, _, _, _, _, _, _, _, _, _, _, _, _, _, _, _, rfl, hcsE.mono rnE_ok hV34, hwc.mono hV34, h3.mono hV4, h4⟩
  refine hK _ ?_
  refine Gx.c (by kernel_rfl) fun K hK => ?_
  simp only [XA, XB, i64_succ k (by omega)]
  exact hK _ ⟨q - 1, by omega, fun f => ⟨k + 1, V4, H', v', _, StIs.of (by exact rfl), by omega, View.le_trans hV2 hV34, hres.1, by rw [etk]; exact (hr.mono stE_ok hV34).snoc hel⟩⟩
 rintro s ⟨V2, H2, sv, cells, hs, ho, hr⟩
 obtain ⟨z, rfl⟩ := hs.out
 try dsimp only
 refine XWP.pubK stE_ok (by omega) ho hr fun H3 V3 hV3 hW _ => ?_
 refine Gx.a (by kernel_rfl) fun K hK => ?_
 simp only [XA]
 refine hK _ (XWP.ret ?_)
 try simp only [thenX_ret, inBlockX_ret]
 refine ret_go _ rfl ?_
 exact hW
theorem RowAt.cat {α : Type} {E : View → Value → α → Prop} {V : View} {c1 c2 : List Value} {l1 l2 : List α} (h1 : RowAt E V c1 l1) (h2 : RowAt E V c2 l2) : RowAt E V (c1 ++ c2) (l1 ++ l2) := by
 have e1 := h1.1
 have e2 := h2.1
 refine ⟨by rw [List.length_append, List.length_append, e1, e2]; omega, fun i x hi => ?_⟩
 by_cases hlt : i < l1.length
 ·rw [List.getElem?_append_left hlt] at hi
  obtain ⟨m, n, d, g1, g2, g3, r⟩ := h1.2 i x hi
  refine ⟨m, n, d, ?_, ?_, ?_, r⟩
  ·show (c1 ++ c2)[i * 3]? = _
   rw [List.getElem?_append_left (by omega)]; exact g1
  ·show (c1 ++ c2)[i * 3 + 1]? = _
   rw [List.getElem?_append_left (by omega)]; exact g2
  ·show (c1 ++ c2)[i * 3 + 2]? = _
   rw [List.getElem?_append_left (by omega)]; exact g3
 ·rw [List.getElem?_append_right (by omega)] at hi
  obtain ⟨m, n, d, g1, g2, g3, r⟩ := h2.2 (i - l1.length) x hi
  refine ⟨m, n, d, ?_, ?_, ?_, r⟩
  ·show (c1 ++ c2)[i * 3]? = _
   rw [List.getElem?_append_right (by omega), show i * 3 - c1.length = (i - l1.length) * 3 by omega]; exact g1
  ·show (c1 ++ c2)[i * 3 + 1]? = _
   rw [List.getElem?_append_right (by omega), show i * 3 + 1 - c1.length = (i - l1.length) * 3 + 1 by omega]; exact g2
  ·show (c1 ++ c2)[i * 3 + 2]? = _
   rw [List.getElem?_append_right (by omega), show i * 3 + 2 - c1.length = (i - l1.length) * 3 + 2 by omega]; exact g3
theorem own_offK {H : Heap} {e sz n b : Nat} {v : Value} {xs : List Value} {r : Option Row} (h : Own H e sz v n xs) (hb : v.ownBlock ≠ some b) : Own (upd H b r) e sz v n xs := by
 refine ⟨h.1, ?_⟩
 rcases h.2 with h1 | ⟨g, cap, rfl, hg, h2⟩
 ·exact .inl h1
 ·exact .inr ⟨g, cap, rfl, (upd_off fun e => hb (by rw [← e]; rfl)).trans hg, h2⟩
theorem own_newK {H : Heap} {e sz n b : Nat} {v : Value} {xs : List Value} (h : Own H e sz v n xs) (hb : H b = none) : v.ownBlock ≠ some b := by
 rcases h.2 with ⟨rfl, _⟩ | ⟨g, cap, rfl, hg, _⟩
 ·intro e; cases e
 ·intro e
  have : g = b := by simpa [Value.ownBlock] using e
  subst this
  rw [hb] at hg; cases hg
theorem ret_matC {t i : Nat} {s : XS} {R : Value → View → Prop} {vs : List Value} (ht : s.t[t]? = some (.p i 0)) (hb : s.bx[i]? = some vs) (hl : vs.length = 3) (hR : R (.agg vs.toArray) s.V) : XPost Tryz.prog [.cell t 26] R .ret s := by
 refine ret_go [.agg vs.toArray] ?_ hR
 simp [resAll, resV, cellsV, ht, hb, shapeT_26, hl]
def offQ (od : Nat → Nat → Rat) (i : Nat) : Nat → Rat := Sm fun k => if k = i then 0 else od i k
def moveG (od : Nat → Nat → Rat) (n : Nat) : Grid := fun i k => if k = i then 1 - offQ od i n else od i k
def rowO (od : Nat → Nat → Rat) (n i k : Nat) : List (Option Rat) := (List.range n).map fun j => if j < k ∧ j ≠ i then some (od i j) else none
theorem rowO_len (od : Nat → Nat → Rat) (n i k : Nat) : (rowO od n i k).length = n := by simp [rowO]
theorem rowO_zero (od : Nat → Nat → Rat) (n i : Nat) : rowO od n i 0 = List.replicate n none := by
 refine List.ext_getElem? fun j => ?_
 unfold rowO
 rw [List.getElem?_map, List.getElem?_replicate]
 by_cases hj : j < n
 ·rw [List.getElem?_range hj, if_pos hj]; simp
 ·rw [if_neg hj, List.getElem?_eq_none (by simp; omega)]; rfl
theorem rowO_get (od : Nat → Nat → Rat) {n i k j : Nat} (hj : j < n) : (rowO od n i k)[j]? = some (if j < k ∧ j ≠ i then some (od i j) else none) := by
 unfold rowO
 rw [List.getElem?_map, List.getElem?_range hj]; rfl
theorem rowO_set (od : Nat → Nat → Rat) {n i k : Nat} (hk : k < n) (hne : k ≠ i) : (rowO od n i k).set k (some (od i k)) = rowO od n i (k + 1) := by
 refine List.ext_getElem? fun j => ?_
 by_cases hj : j < n
 ·rw [rowO_get od hj, List.getElem?_set]
  by_cases e : k = j
  ·subst e
   rw [if_pos rfl, rowO_len, if_pos hj, if_pos ⟨by omega, hne⟩]
  ·rw [if_neg e, rowO_get od hj]
   congr 1
   by_cases h1 : j < k ∧ j ≠ i
   ·rw [if_pos h1, if_pos ⟨by omega, h1.2⟩]
   ·rw [if_neg h1, if_neg (fun h => h1 ⟨by omega, h.2⟩)]
 ·rw [List.getElem?_eq_none (by rw [List.length_set, rowO_len]; omega), List.getElem?_eq_none (by rw [rowO_len]; omega)]
theorem rowO_skip (od : Nat → Nat → Rat) (n i : Nat) : rowO od n i (i + 1) = rowO od n i i := by
 unfold rowO
 refine List.map_congr_left fun j _ => ?_
 by_cases h1 : j < i ∧ j ≠ i
 ·rw [if_pos h1, if_pos ⟨by omega, h1.2⟩]
 ·rw [if_neg h1, if_neg (fun h => h1 ⟨by omega, h.2⟩)]
theorem rowO_end (od : Nat → Nat → Rat) {n i : Nat} (hi : i < n) : (rowO od n i n).set i (some (1 - offQ od i n)) = (mk n (moveG od n i)).map some := by
 refine List.ext_getElem? fun j => ?_
 by_cases hj : j < n
 ·unfold mk
  rw [List.map_map, List.getElem?_map, List.getElem?_range hj, List.getElem?_set]
  show _ = some (some (moveG od n i j))
  unfold moveG
  by_cases e : i = j
  ·subst e
   rw [if_pos rfl, rowO_len, if_pos hj, if_pos rfl]
  ·rw [if_neg e, rowO_get od hj, if_pos ⟨hj, fun h => e h.symm⟩, if_neg (fun h => e h.symm)]
 ·rw [List.getElem?_eq_none (by rw [List.length_set, rowO_len]; omega), List.getElem?_eq_none (by simp [mk]; omega)]
theorem mk_row (G : Grid) (n i : Nat) : mk (i * n) (flatF G n) ++ mk n (G i) = mk ((i + 1) * n) (flatF G n) := by
 unfold mk
 rw [Nat.add_mul, Nat.one_mul, List.range_add, List.map_append, List.map_map]
 congr 1
 refine List.map_congr_left fun k hk => ?_
 exact (flatF_at G (List.mem_range.1 hk)).symm
theorem offQ_QB {od : Nat → Nat → Rat} {B n i : Nat} (h : ∀ k, k < n → k ≠ i → QB B (od i k)) : ∀ k, k ≤ n → QB (k * (B + 1)) (offQ od i k)
 | 0, _ => QB_zero _
 | k + 1, hk => by
  have ih := offQ_QB h k (by omega)
  have h1 : QB B (if k = i then 0 else od i k) := by
   split
   ·exact QB_zero _
   ·rename_i e; exact h k (by omega) e
  exact (ih.add h1).mono (by rw [Nat.add_mul]; omega)
set_option maxHeartbeats 4000000 in
set_option maxRecDepth 100000 in
theorem cmoves_c (V : View) (A : Option Addr) (n c f B : Nat) (caps : List Value) (od : Nat → Nat → Rat) (hn : n ≤ 60) (hcall : callable Tryz.prog f = true) (hod : ∀ i k, i < n → k < n → k ≠ i → QB B (od i k)) (hB : 62 * (B + 1) ≤ 17592186044416)
  (hspec : ∀ V' (i k : Nat), V.le V' → i < n → k < n → k ≠ i → Spec Tryz.prog f ([.int .i64 (i : Int), .int .i64 (k : Int)] ++ caps) V' fun v' V'' => RatC V'' v' (od i k)) :
  Spec Tryz.prog 58 [.slice A n c, .func (.func f) #[] caps.toArray] V fun v' V' => ∃ s, v' = .agg #[.int .i64 (n : Int), .int .i64 (n : Int), s] ∧ Rats V' s (flatG (moveG od n) n n) := by
 have hnn : n * n ≤ 3600 := Nat.le_trans (Nat.mul_le_mul hn hn) (by decide)
 have hS : ∀ i k, i < n → k ≤ n → QF (offQ od i k) := fun i k hi hk => (offQ_QB (fun k hk hne => hod i k hi hk hne) k hk).qf (Nat.le_trans (Nat.mul_le_mul_right _ (show k ≤ 62 by omega)) hB)
 refine (Spec.enter Tryz.func58 rfl fun Γ => ?_)
 simp only [Tryz.ntmps58, List.map_cons, List.map_nil, List.length_cons, List.length_nil, Nat.reduceAdd, Nat.reduceSub, List.replicate_succ, List.replicate_zero, List.cons_append, List.nil_append]
 refine Gx.a (by kernel_rfl) fun K hK => ?_
 simp only [XM, XA]
 refine hK _ ?_
 refine Gx.a (by kernel_rfl) fun K hK => ?_
 simp only [XV, XA]
 refine bd_go (by kernel_rfl) #[(0, .int .i64 (n : Int)), (1, .int .i64 (n : Int))] (by simp [ev_tmp, SV.val]) (bd_mtx2 rfl rfl) ?_
 simp only [XM, XA]
 refine st_mat shapeT_26 rfl rfl rfl rfl rfl ?_
 simp only [XA]
 refine hK _ ?_
 clear hK
 refine XWP.cutD 2 (fun s => ∃ (V2 : View) (H2 : Heap) (sa : Value) (ca : List Value), StIs (fun Z => [Z 0,Z 1,Z 2,Z 3, .p 0 0, .p 1 0, Z 6,Z 7,Z 8,Z 9,Z 10,Z 11,Z 12,Z 13,Z 14,Z 15,Z 16,Z 17,Z 18,Z 19,Z 20,Z 21,Z 22,Z 23,Z 24,Z 25,Z 26,Z 27,Z 28,Z 29,Z 30,Z 31,Z 32,Z 33,Z 34,Z 35,Z 36,Z 37,Z 38,Z 39,Z 40,Z 41,Z 42,Z 43,Z 44,Z 45,Z 46,Z 47,Z 48,Z 49,Z 50,Z 51,Z 52,Z 53,Z 54,Z 55,Z 56,Z 57,Z 58]) [[.int .i64 0, .int .i64 0, .slice none 0 0], [.int .i64 (n : Int), .int .i64 (n : Int), sa]] H2 V2 s ∧ Own H2 49 3 sa (n * n) ca ∧ RowAt ratE V2 ca (flatG (moveG od n) n n)) ?_ ?_
 ·refine Gx.a (by kernel_rfl) fun K hK => ?_
  simp only [XV, XA]
  refine hK _ ?_
  clear hK
  refine XWP.block ?_
  refine XWP.loopD 2 (fun q s => ∃ (i : Nat) (V2 : View) (H2 : Heap) (sa : Value) (ca : List Value), StIs (fun Z => [.v (.slice A n c), .v (.func (.func f) #[] caps.toArray), Z 2,Z 3, .p 0 0, .p 1 0, Z 6,Z 7,Z 8,Z 9,Z 10,Z 11,Z 12,Z 13,Z 14, .v (.slice A n c), .v (.int .i64 (n : Int)), .v (.int .i64 (i : Int)), Z 18,Z 19,Z 20,Z 21,Z 22,Z 23,Z 24,Z 25,Z 26,Z 27,Z 28,Z 29,Z 30,Z 31,Z 32,Z 33,Z 34,Z 35,Z 36,Z 37,Z 38,Z 39,Z 40,Z 41,Z 42,Z 43,Z 44,Z 45,Z 46,Z 47,Z 48,Z 49,Z 50,Z 51,Z 52,Z 53,Z 54,Z 55,Z 56,Z 57,Z 58]) [[.int .i64 0, .int .i64 0, .slice none 0 0], [.int .i64 (n : Int), .int .i64 (n : Int), sa]] H2 V2 s ∧ q + i = n ∧ V.le V2 ∧ Own H2 49 3 sa (i * n) ca ∧ RowAt ratE V2 ca (mk (i * n) (flatF (moveG od n) n))) n ⟨0, V, _, _, [], StIs.of (by exact rfl), by omega, View.le_refl _, by rw [Nat.zero_mul]; exact own_nil, by rw [Nat.zero_mul]; exact RowAt.nil V⟩ ?_
  rintro q s ⟨i, V2, H2, sa, ca, hs, hq, hV2, hown, hrow⟩
  obtain ⟨z, rfl⟩ := hs.out
  try dsimp only
  clear hs
  by_cases hi : i < n
  rotate_left
  ·obtain rfl : i = n := by omega
   have b1 : decide ((i : Int) < (i : Int)) = false := decide_eq_false (by omega)
   refine Gx.a (by kernel_rfl) fun K hK => ?_
   simp only [XA, XB, b1]
   refine hK _ ?_
   refine XWP.seq (Gx.f rfl ?_)
   refine XWP.exit ?_
   exact fun f => ⟨V2, H2, sa, ca, StIs.of (by exact rfl), hown, hrow⟩
  have b1 : decide ((i : Int) < (n : Int)) = true := decide_eq_true (by omega)
  refine Gx.a (by kernel_rfl) fun K hK => ?_
  simp only [XA, XB, b1]
  refine hK _ ?_
  refine XWP.seq (Gx.t rfl ?_)
  refine XWP.skip ?_
  have hin : i * n ≤ 3600 := Nat.le_trans (Nat.mul_le_mul (show i ≤ 60 by omega) hn) (by decide)
  refine XWP.cutD 2 (fun s => ∃ (V3 : View) (H3 : Heap) (sa : Value) (ca : List Value), StIs (fun Z => [.v (.slice A n c), .v (.func (.func f) #[] caps.toArray), Z 2,Z 3, .p 0 0, .p 1 0, Z 6,Z 7,Z 8,Z 9,Z 10,Z 11,Z 12,Z 13,Z 14, .v (.slice A n c), .v (.int .i64 (n : Int)), .v (.int .i64 (i : Int)), Z 18,Z 19,Z 20,Z 21,Z 22,Z 23,Z 24,Z 25,Z 26,Z 27,Z 28,Z 29,Z 30,Z 31,Z 32,Z 33,Z 34,Z 35,Z 36,Z 37,Z 38,Z 39,Z 40,Z 41,Z 42,Z 43,Z 44,Z 45,Z 46,Z 47,Z 48,Z 49,Z 50,Z 51,Z 52,Z 53,Z 54,Z 55,Z 56,Z 57,Z 58]) [[.int .i64 0, .int .i64 0, .slice none 0 0], [.int .i64 (n : Int), .int .i64 (n : Int), sa]] H3 V3 s ∧ V2.le V3 ∧ Own H3 49 3 sa ((i + 1) * n) ca ∧ RowAt ratE V3 ca (mk ((i + 1) * n) (flatF (moveG od n) n))) ?_ ?_
  rotate_left
  ·rintro s ⟨V3, H3, sa, ca, hs, hV3, hown, hrow⟩
   obtain ⟨z, rfl⟩ := hs.out
   try dsimp only
   clear hs
   refine Gx.c (by kernel_rfl) fun K hK => ?_
   simp only [XA, XB, i64_succ i (by omega)]
   exact hK _ ⟨q - 1, by omega, fun f => ⟨i + 1, V3, H3, sa, ca, StIs.of (by exact rfl), by omega, View.le_trans hV2 hV3, hown, hrow⟩⟩
  clear hK
  refine XWP.block ?_
  refine Gx.a (by kernel_rfl) fun K hK => ?_
  simp only [XA]
  refine hK _ ?_
  have hsb : ∀ b, H2 b = none → sa.ownBlock ≠ some b := fun b hb => own_newK hown hb
  refine XWP.cut (fun s => ∃ (V3 : View) (H3 : Heap) (b : Nat) (x y : Value), StIs (fun Z => [.v (.slice A n c), .v (.func (.func f) #[] caps.toArray), Z 2,Z 3, .p 0 0, .p 1 0, .v (.int .i64 (i : Int)), .v (.slice (some ⟨b, 0, none⟩) n n), .p 2 0, Z 9,Z 10,Z 11,Z 12,Z 13,Z 14, .v (.slice A n c), .v (.int .i64 (n : Int)), .v (.int .i64 (i : Int)), Z 18,Z 19,Z 20,Z 21,Z 22,Z 23,Z 24,Z 25,Z 26,Z 27,Z 28,Z 29,Z 30,Z 31,Z 32,Z 33,Z 34,Z 35,Z 36,Z 37,Z 38,Z 39,Z 40,Z 41,Z 42,Z 43,Z 44,Z 45,Z 46,Z 47,Z 48,Z 49,Z 50,Z 51,Z 52,Z 53,Z 54,Z 55,Z 56,Z 57,Z 58]) [[.int .i64 0, .int .i64 0, .slice none 0 0], [.int .i64 (n : Int), .int .i64 (n : Int), sa], [.bool (ng 0), x, y]] H3 V3 s ∧ V2.le V3 ∧ H3 b = some ⟨49, (List.replicate n [Value.bool false, .slice none 0 0, .slice none 0 0]).flatten, n * 3⟩ ∧ sa.ownBlock ≠ some b ∧ Own H3 49 3 sa (i * n) ca ∧ RatC V3 (.agg #[.bool (ng 0), x, y]) 0 ∧ isOne x = true ∧ isOne y = true) ?_ ?_
  ·(refine XWP.drwT1 (.lin [0, 1] (.two (.lin [2] (.two (.lin [3, 4, 5, 6] .nil) (.lin [4, 3, 5, 6] .nil))) (.two (.lin [3] (.two (.lin [2, 4, 5, 6] .nil) (.lin [4, 2, 5, 6] .nil))) (.lin [4] (.two (.lin [2, 3, 5, 6] .nil) (.lin [3, 2, 5, 6] .nil)))))) (by kernel_rfl) (by kernel_rfl) (by kernel_rfl) fun K hK => ?_)
   simp only [XV, XA, XB, Nat.reduceAdd]
   repeat' first
    | refine And.intro ?_ ?_
    | refine mk_go rfl rfl elemT_24 zeroT_49 (by omega) (by omega) (by omega) (by omega) rfl (by omega) fun b hb1 hb2 => ?_
    | (refine call_go (by kernel_rfl) rfl (qzero_c _) fun v4 V4 hV4 h4 => ?_; obtain ⟨x4, y4, rfl, o1, o2⟩ := h4.form)
    | refine st_rat rfl rfl rfl o1 o2 ?_
    | exact hK _ ⟨V4, _, b, x4, y4, StIs.of (by exact rfl), hV4, upd_at _ _ _, hsb b hb1, own_upd hown hb1, h4, o1, o2⟩
    | simp only [XA, XB, Nat.reduceAdd]
  clear hown
  rintro s ⟨V3, H3, b, x, y, hs, hV3, hH, hne, hown, h3, o1, o2⟩
  obtain ⟨z, rfl⟩ := hs.out
  try dsimp only
  clear hs
  have hrow0 : RowAt (optE ratE) V3 (List.replicate n [Value.bool false, .slice none 0 0, .slice none 0 0]).flatten (rowO od n i 0) := by rw [rowO_zero]; exact RowAt.new _ n
  refine XWP.cut (fun s => ∃ (V4 : View) (H4 : Heap) (co : List Value) (b' x y : Value), StIs (fun Z => [.v (.slice A n c), .v (.func (.func f) #[] caps.toArray), Z 2,Z 3, .p 0 0, .p 1 0, .v (.int .i64 (i : Int)), .v (.slice (some ⟨b, 0, none⟩) n n), .p 2 0, Z 9,Z 10,Z 11,Z 12,Z 13,Z 14, .v (.slice A n c), .v (.int .i64 (n : Int)), .v (.int .i64 (i : Int)), Z 18,Z 19,Z 20,Z 21,Z 22,Z 23,Z 24,Z 25,Z 26,Z 27,Z 28,Z 29,Z 30,Z 31,Z 32,Z 33,Z 34,Z 35,Z 36,Z 37,Z 38,Z 39,Z 40,Z 41,Z 42,Z 43,Z 44,Z 45,Z 46,Z 47,Z 48,Z 49,Z 50,Z 51,Z 52,Z 53,Z 54,Z 55,Z 56,Z 57,Z 58]) [[.int .i64 0, .int .i64 0, .slice none 0 0], [.int .i64 (n : Int), .int .i64 (n : Int), sa], [b', x, y]] H4 V4 s ∧ V3.le V4 ∧ H4 b = some ⟨49, co, n * 3⟩ ∧ RowAt (optE ratE) V4 co (rowO od n i n) ∧ Own H4 49 3 sa (i * n) ca ∧ RatC V4 (.agg #[b', x, y]) (offQ od i n)) ?_ ?_
  ·refine Gx.a (by kernel_rfl) fun K hK => ?_
   simp only [XV, XA]
   refine hK _ ?_
   clear hK
   refine XWP.block ?_
   refine XWP.loop (fun p s => ∃ (k : Nat) (V4 : View) (H4 : Heap) (co : List Value) (b' x y : Value), StIs (fun Z => [.v (.slice A n c), .v (.func (.func f) #[] caps.toArray), Z 2,Z 3, .p 0 0, .p 1 0, .v (.int .i64 (i : Int)), .v (.slice (some ⟨b, 0, none⟩) n n), .p 2 0, Z 9,Z 10,Z 11,Z 12,Z 13,Z 14, .v (.slice A n c), .v (.int .i64 (n : Int)), .v (.int .i64 (i : Int)), Z 18,Z 19,Z 20,Z 21,Z 22,Z 23, .v (.slice A n c), .v (.int .i64 (n : Int)), .v (.int .i64 (k : Int)), Z 27,Z 28,Z 29,Z 30,Z 31,Z 32,Z 33,Z 34,Z 35,Z 36,Z 37,Z 38,Z 39,Z 40,Z 41,Z 42,Z 43,Z 44,Z 45,Z 46,Z 47,Z 48,Z 49,Z 50,Z 51,Z 52,Z 53,Z 54,Z 55,Z 56,Z 57,Z 58]) [[.int .i64 0, .int .i64 0, .slice none 0 0], [.int .i64 (n : Int), .int .i64 (n : Int), sa], [b', x, y]] H4 V4 s ∧ p + k = n ∧ V3.le V4 ∧ H4 b = some ⟨49, co, n * 3⟩ ∧ RowAt (optE ratE) V4 co (rowO od n i k) ∧ Own H4 49 3 sa (i * n) ca ∧ RatC V4 (.agg #[b', x, y]) (offQ od i k)) n ⟨0, V3, H3, _, _, x, y, StIs.of (by exact rfl), by omega, View.le_refl _, hH, hrow0, hown, h3⟩ ?_
   clear hH hrow0 hown h3 o1 o2
   rintro p s ⟨k, V4, H4, co, b', x, y, hs, hp, hV4, hH, hrw, hown, h4⟩
   obtain ⟨z, rfl⟩ := hs.out
   try dsimp only
   clear hs
   by_cases hk : k < n
   rotate_left
   ·obtain rfl : k = n := by omega
    have b2 : decide ((k : Int) < (k : Int)) = false := decide_eq_false (by omega)
    refine Gx.a (by kernel_rfl) fun K hK => ?_
    simp only [XA, XB, b2]
    refine hK _ ?_
    refine XWP.seq (Gx.f rfl ?_)
    refine XWP.exit ?_
    exact ⟨V4, H4, co, b', x, y, StIs.of (by exact rfl), hV4, hH, hrw, hown, h4⟩
   have b2 : decide ((k : Int) < (n : Int)) = true := decide_eq_true (by omega)
   refine Gx.a (by kernel_rfl) fun K hK => ?_
   simp only [XA, XB, b2]
   refine hK _ ?_
   refine XWP.seq (Gx.t rfl ?_)
   refine XWP.skip ?_
   refine XWP.cut (fun s => ∃ (V5 : View) (H5 : Heap) (co : List Value) (b' x y : Value), StIs (fun Z => [.v (.slice A n c), .v (.func (.func f) #[] caps.toArray), Z 2,Z 3, .p 0 0, .p 1 0, .v (.int .i64 (i : Int)), .v (.slice (some ⟨b, 0, none⟩) n n), .p 2 0, Z 9,Z 10,Z 11,Z 12,Z 13,Z 14, .v (.slice A n c), .v (.int .i64 (n : Int)), .v (.int .i64 (i : Int)), Z 18,Z 19,Z 20,Z 21,Z 22,Z 23, .v (.slice A n c), .v (.int .i64 (n : Int)), .v (.int .i64 (k : Int)), Z 27,Z 28,Z 29,Z 30,Z 31,Z 32,Z 33,Z 34,Z 35,Z 36,Z 37,Z 38,Z 39,Z 40,Z 41,Z 42,Z 43,Z 44,Z 45,Z 46,Z 47,Z 48,Z 49,Z 50,Z 51,Z 52,Z 53,Z 54,Z 55,Z 56,Z 57,Z 58]) [[.int .i64 0, .int .i64 0, .slice none 0 0], [.int .i64 (n : Int), .int .i64 (n : Int), sa], [b', x, y]] H5 V5 s ∧ V4.le V5 ∧ H5 b = some ⟨49, co, n * 3⟩ ∧ RowAt (optE ratE) V5 co (rowO od n i (k + 1)) ∧ Own H5 49 3 sa (i * n) ca ∧ RatC V5 (.agg #[b', x, y]) (offQ od i (k + 1))) ?_ ?_
   rotate_left
   ·rintro s ⟨V5, H5, co, b', x, y, hs, hV5, hH, hrw, hown, h4⟩
    obtain ⟨z, rfl⟩ := hs.out
    try dsimp only
    clear hs
    refine Gx.c (by kernel_rfl) fun K hK => ?_
    simp only [XA, XB, i64_succ k (by omega)]
    exact hK _ ⟨p - 1, by omega, k + 1, V5, H5, co, b', x, y, StIs.of (by exact rfl), by omega, View.le_trans hV4 hV5, hH, hrw, hown, h4⟩
   clear hK
   refine XWP.block ?_
   refine Gx.a (by kernel_rfl) fun K hK => ?_
   simp only [XA]
   refine hK _ ?_
   by_cases hki : k = i
   ·subst hki
    have b3 : (!decide ((k : Int) = (k : Int))) = false := by simp
    refine Gx.a (by kernel_rfl) fun K hK => ?_
    simp only [XA, XB]
    refine hK _ ?_
    refine Gx.f rfl ?_
    refine XWP.skip ?_
    refine ⟨V4, H4, co, b', x, y, StIs.of (by exact rfl), View.le_refl _, hH, by rw [rowO_skip]; exact hrw, hown, ?_⟩
    have : offQ od k (k + 1) = offQ od k k := by
     show offQ od k k + (if k = k then 0 else od k k) = _
     rw [if_pos rfl]; grind
    rw [this]; exact h4
   have b3 : (!decide ((k : Int) = (i : Int))) = true := by rw [decide_eq_false (by omega)]; rfl
   refine Gx.a (by kernel_rfl) fun K hK => ?_
   simp only [XA, XB, b3]
   refine hK _ ?_
   refine Gx.t rfl ?_
   have hle4 := View.le_trans hV2 (View.le_trans hV3 hV4)
   refine Gx.a (by kernel_rfl) fun K hK => ?_
   simp only [XA, cv_gob]
   refine call_gob (ys := [.int .i64 (i : Int), .int .i64 (k : Int)]) hcall (hspec _ i k hle4 hi hk hki) fun v5 V5 hV5 h5 => ?_
   obtain ⟨x5, y5, rfl, p1, p2⟩ := h5.form
   have hrw5 := hrw.mono (optE_ok ratE_ok) hV5
   have hlr := hrw5.1
   rw [rowO_len] at hlr
   simp only [XA, XB]
   refine ⟨by omega, by omega, ?_⟩
   refine st_rowA shapeT_49 (all3 rfl p1 p2) rfl hH (by dsimp only; omega) ?_
   simp only [XA]
   refine hK _ ?_
   have hrw6 := hrw5.set k (by rw [rowO_len]; exact hk) (x := some (od i k)) (show isOne (.bool (ng (od i k))) = true from rfl) p1 p2 h5
   rw [rowO_set od hk hki] at hrw6
   have hown6 := own_offK (r := some ⟨49, splice co (k * 3) [.bool (ng (od i k)), x5, y5], n * 3⟩) hown hne
   have hH6 := upd_at H4 b (some ⟨49, splice co (k * 3) [.bool (ng (od i k)), x5, y5], n * 3⟩)
   generalize upd H4 b _ = H6 at *
   obtain ⟨v8, hx8, ⟨m8, n8, d8, rfl, s1, s2, s3⟩, hld8⟩ := RowAt.load hH6 hrw6 k (by rw [rowO_len]; exact hk)
   have e8 : (rowO od n i (k + 1))[k]'(by rw [rowO_len]; exact hk) = some (od i k) := by
    have := rowO_get od (i := i) (k := k + 1) hk
    rw [if_pos ⟨by omega, hki⟩] at this
    exact (List.getElem?_eq_some_iff.1 this).2
   rw [e8] at hx8
   have hx8 : RatC V5 (.agg #[m8, n8, d8]) (od i k) := hx8
   (refine XWP.drw1 [0, 1, 2, 3, 4, 5, 6] (by kernel_rfl) (by kernel_rfl) (by kernel_rfl) fun K hK => ?_) <;> dsimp only [pickOps, List.getElem?_cons_zero, List.getElem?_cons_succ]
   simp only [XA, XB, Nat.reduceAdd, Nat.reduceLeDiff, ↓reduceIte]
   refine ⟨by omega, by omega, ld_mem hld8 ?_⟩
   simp only [XA]
   refine call_go (by kernel_rfl) rfl (qadd_c _ _ _ _ _ (h4.mono hV5) hx8 (hS i k hi (by omega)) ((hod i k hi hk hki).qf (by omega))) fun v9 V9 hV9 h9 => ?_
   obtain ⟨x9, y9, rfl, p5, p6⟩ := h9.form
   simp only [XA]
   refine st_rat rfl rfl rfl p5 p6 ?_
   simp only [XA]
   refine hK _ ⟨V9, H6, _, _, x9, y9, StIs.of (by exact rfl), View.le_trans hV5 hV9, hH6, hrw6.mono (optE_ok ratE_ok) hV9, hown6, ?_⟩
   have : offQ od i (k + 1) = offQ od i k + od i k := by
    show offQ od i k + (if k = i then 0 else od i k) = _
    rw [if_neg hki]
   rw [this]; exact h9
  clear hH hrow0 hown h3 o1 o2
  rintro s ⟨V4, H4, co, b', x, y, hs, hV4, hH, hrw, hown, h4⟩
  obtain ⟨z, rfl⟩ := hs.out
  try dsimp only
  clear hs
  (refine XWP.drw [0, 1, 3, 2, 4, 5, 6] (by kernel_rfl) (by kernel_rfl) (by kernel_rfl) fun K hK => ?_) <;> dsimp only [pickOps, List.getElem?_cons_zero, List.getElem?_cons_succ]
  simp only [XA, XB, Nat.reduceAdd, Nat.reduceLeDiff, ↓reduceIte]
  refine call_go (by kernel_rfl) rfl (qone_c _) fun v5 V5 hV5 h5 => ?_
  simp only [XA]
  refine call_go (by kernel_rfl) rfl (qsub_c _ _ _ _ _ h5 (h4.mono hV5) (QB_one 0 |>.qf (by omega)) (hS i n hi (Nat.le_refl _))) fun v6 V6 hV6 h6 => ?_
  obtain ⟨x6, y6, rfl, p1, p2⟩ := h6.form
  have hV56 := View.le_trans hV5 hV6
  have hrw6 := hrw.mono (optE_ok ratE_ok) hV56
  have hlr := hrw6.1
  rw [rowO_len] at hlr
  simp only [XA, XB]
  refine ⟨by omega, by omega, ?_⟩
  refine st_rowA shapeT_49 (all3 rfl p1 p2) rfl hH (by dsimp only; omega) ?_
  simp only [XA]
  refine hK _ ?_
  have hrw7 := hrw6.set i (by rw [rowO_len]; exact hi) (x := some (1 - offQ od i n)) (show isOne (.bool (ng (1 - offQ od i n))) = true from rfl) p1 p2 h6
  rw [rowO_end od hi] at hrw7
  have hrw7 := hrw7.all
  have hown7 := own_offK (r := some ⟨49, splice co (i * 3) [.bool (ng (1 - offQ od i n)), x6, y6], n * 3⟩) hown hne
  have hH7 := upd_at H4 b (some ⟨49, splice co (i * 3) [.bool (ng (1 - offQ od i n)), x6, y6], n * 3⟩)
  generalize upd H4 b _ = H7 at *
  refine Gx.c (by kernel_rfl) fun K hK => ?_
  simp only [XM, XA, XB]
  refine ap_go elemT_24 (by kernel_rfl) zeroT_49 rfl (by omega) hown7 (RowAt.src hrw7 hH7 (mk_len _ _)) (by omega) (by omega) fun v' H' hres => ?_
  simp only [XM, XA]
  refine st_one shapeT_24 rfl (own_isOne hres.1) (by simp) ?_
  simp only [XA]
  refine hK _ fun f => ⟨V6, H', v', _, StIs.of (by exact rfl), View.le_trans hV3 (View.le_trans hV4 hV56), by rw [Nat.add_mul, Nat.one_mul]; exact hres.1, ?_⟩
  rw [← mk_row]
  exact (hrow.mono ratE_ok (View.le_trans hV3 (View.le_trans hV4 hV56))).cat hrw7
 rintro s ⟨V2, H2, sa, ca, hs, hown, hrow⟩
 obtain ⟨z, rfl⟩ := hs.out
 try dsimp only
 have osl := own_isOne hown
 refine XWP.pubR ratE_ok hown hrow fun H3 V3 hV3 ra _ => ?_
 refine Gx.a (by kernel_rfl) fun K hK => ?_
 simp only [XM, XA, Nat.reduceAdd, Nat.reduceLeDiff, ↓reduceIte]
 refine st_mat shapeT_26 rfl rfl rfl rfl osl ?_
 simp only [XA]
 refine hK _ (XWP.ret ?_)
 try simp only [thenX_ret, inBlockX_ret]
 exact ret_matC rfl rfl rfl ⟨sa, rfl, ra⟩
def Dr.goodB (d : Dr) : Bool := decide (0 ≤ d.index) && decide (1 ≤ d.odds) && decide (d.odds ≤ d.whole) && decide (d.whole ≤ 64000)
theorem Dr.goodB_iff (d : Dr) : d.goodB = true ↔ d.good := by
 unfold Dr.goodB Dr.good
 simp only [Bool.and_eq_true, decide_eq_true_eq]
 constructor
 ·rintro ⟨⟨⟨h1, h2⟩, h3⟩, h4⟩; exact ⟨h1, h2, h3, h4⟩
 ·rintro ⟨h1, h2, h3, h4⟩; exact ⟨⟨⟨h1, h2⟩, h3⟩, h4⟩
def drawsB (r : Rn) : Bool := decide (r.kind = 0) && r.w.ok && decide (0 < sgI r.w.q) && r.ds.all Dr.goodB && decide (sgI (r.w.q - priorQ r.ds) ≤ 0)
theorem drawsB_bad {r : Rn} {d : Dr} (h : d ∈ r.ds) (hb : ¬ d.good) : drawsB r = false := by
 unfold drawsB
 have : r.ds.all Dr.goodB = false := by
  rw [List.all_eq_false]
  exact ⟨d, h, fun h => hb ((Dr.goodB_iff d).1 h)⟩
 rw [this]; simp
set_option maxHeartbeats 1000000 in
set_option maxRecDepth 100000 in
theorem cdraws_c (V : View) (cs : List Value) (r : Rn) (hcs : ElK 9 rnE V cs r) (hl : r.ds.length ≤ 100) (hf : r.w.fit) (hq : r.w.ok = true → QF r.w.q) : Spec Tryz.prog 77 [.agg cs.toArray] V fun v' V' => v' = .bool (drawsB r) := by
 have hcs0 := hcs
 obtain ⟨_, hone, c1, c2, c3, c4, dv, m, c7, c8, rfl, hds, hwr⟩ := hcs
 obtain ⟨A, c, rfl, hc, hm⟩ := hds.form
 have hwr0 : RawAt V (.agg #[m, c7, c8]) r.w.m r.w.nd r.w.dd := hwr
 refine (Spec.enter Tryz.func77 rfl fun Γ => ?_)
 simp only [Tryz.ntmps77, List.map_cons, List.map_nil, List.length_cons, List.length_nil, Nat.reduceAdd, Nat.reduceSub, List.replicate_succ, List.replicate_zero, List.cons_append, List.nil_append]
 refine Gx.a (by kernel_rfl) fun K hK => ?_
 simp only [XA]
 refine hK _ ?_
 refine XWP.cutD 1 (fun s => ∃ (V1 : View), StIs (fun Z => [Z 0, .p 0 0, Z 2,Z 3,Z 4,Z 5,Z 6,Z 7,Z 8,Z 9,Z 10,Z 11,Z 12,Z 13,Z 14,Z 15,Z 16,Z 17,Z 18,Z 19,Z 20,Z 21,Z 22,Z 23,Z 24,Z 25,Z 26,Z 27,Z 28,Z 29,Z 30,Z 31,Z 32,Z 33,Z 34,Z 35,Z 36,Z 37,Z 38,Z 39,Z 40,Z 41,Z 42,Z 43,Z 44,Z 45,Z 46,Z 47,Z 48,Z 49,Z 50,Z 51,Z 52,Z 53,Z 54,Z 55,Z 56,Z 57,Z 58,Z 59,Z 60]) [[.int .i64 r.kind, c1, c2, c3, c4, .slice A r.ds.length c, m, c7, c8]] (fun _ => none) V1 s ∧ V.le V1 ∧ r.kind = 0 ∧ r.w.ok = true ∧ decide (0 < sgI r.w.q) = true) ?_ ?_
 ·by_cases k0 : r.kind = 0
  rotate_left
  ·have b1 : (!decide (r.kind = 0)) = true := by rw [decide_eq_false k0]; rfl
   refine XWP.seq ?_
   refine Gx.c (by kernel_rfl) fun K hK => ?_
   simp only [XU, XA, XB, gateX, ↓reduceIte, b1]
   refine hK _ ?_
   refine Gx.t rfl ?_
   refine Gx.a (by kernel_rfl) fun K hK => ?_
   simp only [XA]
   refine hK _ (XWP.ret ?_)
   try simp only [thenX_ret, inBlockX_ret]
   refine ret_go _ rfl ?_
   unfold drawsB; rw [decide_eq_false k0]; rfl
  have b1 : (!decide (r.kind = 0)) = false := by rw [decide_eq_true k0]; rfl
  refine XWP.seq ?_
  refine Gx.c (by kernel_rfl) fun K hK => ?_
  simp only [XU, XA, XB, gateX, Nat.reduceAdd, Nat.reduceLeDiff, ↓reduceIte, beq_self_eq_true, b1]
  refine call_go (by kernel_rfl) rfl (qright_c _ _ r.w.m r.w.nd r.w.dd hwr0 hf.1 hf.2) fun v1 V1 hV1 h1 => ?_
  have h1 : v1 = .bool r.w.ok := h1
  subst h1
  cases hok : r.w.ok
  ·simp only [XA, gateX, ↓reduceIte, beq_self_eq_true]
   refine hK _ ?_
   refine Gx.t rfl ?_
   refine Gx.a (by kernel_rfl) fun K hK => ?_
   simp only [XA]
   refine hK _ (XWP.ret ?_)
   try simp only [thenX_ret, inBlockX_ret]
   refine ret_go _ rfl ?_
   have e : drawsB r = false := by unfold drawsB; rw [hok]; simp
   rw [e]; rfl
  have hwc : RatC V (.agg #[m, c7, c8]) r.w.q := RawAt.rat hwr hok
  simp only [XU, XA, XB, gateX, Nat.reduceAdd, Nat.reduceLeDiff, ↓reduceIte, beq_self_eq_true]
  refine call_go (by kernel_rfl) rfl (qsign_c _ _ _ (hwc.mono hV1)) fun v2 V2 hV2 h2 => ?_
  subst h2
  by_cases hs : 0 < sgI r.w.q
  ·have b2 : decide (sgI r.w.q ≤ 0) = false := decide_eq_false (by omega)
   simp only [XA, XB, gateX, ↓reduceIte, beq_self_eq_true, b2]
   refine hK _ ?_
   refine Gx.f rfl ?_
   refine XWP.skip ?_
   exact fun f => ⟨V2, StIs.of (by exact rfl), View.le_trans hV1 hV2, k0, hok, decide_eq_true hs⟩
  ·have b2 : decide (sgI r.w.q ≤ 0) = true := decide_eq_true (by omega)
   simp only [XA, XB, gateX, ↓reduceIte, beq_self_eq_true, b2]
   refine hK _ ?_
   refine Gx.t rfl ?_
   refine Gx.a (by kernel_rfl) fun K hK => ?_
   simp only [XA]
   refine hK _ (XWP.ret ?_)
   try simp only [thenX_ret, inBlockX_ret]
   refine ret_go _ rfl ?_
   have e : drawsB r = false := by unfold drawsB; rw [decide_eq_false hs]; simp
   rw [e]; rfl
 rintro s ⟨V1, hs, hV1, k0, hok, hs0⟩
 obtain ⟨z, rfl⟩ := hs.out
 try dsimp only
 clear hs
 have hds1 := hds.mono drE_ok hV1
 refine XWP.cutD 1 (fun s => StIs (fun Z => [Z 0, .p 0 0, Z 2,Z 3,Z 4,Z 5,Z 6,Z 7,Z 8,Z 9,Z 10,Z 11,Z 12,Z 13,Z 14,Z 15,Z 16,Z 17,Z 18,Z 19,Z 20,Z 21,Z 22,Z 23,Z 24,Z 25,Z 26,Z 27,Z 28,Z 29,Z 30,Z 31,Z 32,Z 33,Z 34,Z 35,Z 36,Z 37,Z 38,Z 39,Z 40,Z 41,Z 42,Z 43,Z 44,Z 45,Z 46,Z 47,Z 48,Z 49,Z 50,Z 51,Z 52,Z 53,Z 54,Z 55,Z 56,Z 57,Z 58,Z 59,Z 60]) [[.int .i64 r.kind, c1, c2, c3, c4, .slice A r.ds.length c, m, c7, c8]] (fun _ => none) V1 s ∧ ∀ d ∈ r.ds, d.good) ?_ ?_
 ·refine Gx.a (by kernel_rfl) fun K hK => ?_
  simp only [XU, XA]
  refine hK _ ?_
  clear hK
  refine XWP.block ?_
  refine XWP.loopD 1 (fun q s => ∃ k, StIs (fun Z => [Z 0, .p 0 0, Z 2,Z 3,Z 4,Z 5,Z 6,Z 7,Z 8,Z 9,Z 10,Z 11,Z 12,Z 13,Z 14,Z 15,Z 16,Z 17,Z 18,Z 19,Z 20,Z 21,Z 22,Z 23, .v (.slice A r.ds.length c), .v (.int .i64 (r.ds.length : Int)), .v (.int .i64 (k : Int)), Z 27,Z 28,Z 29,Z 30,Z 31,Z 32,Z 33,Z 34,Z 35,Z 36,Z 37,Z 38,Z 39,Z 40,Z 41,Z 42,Z 43,Z 44,Z 45,Z 46,Z 47,Z 48,Z 49,Z 50,Z 51,Z 52,Z 53,Z 54,Z 55,Z 56,Z 57,Z 58,Z 59,Z 60]) [[.int .i64 r.kind, c1, c2, c3, c4, .slice A r.ds.length c, m, c7, c8]] (fun _ => none) V1 s ∧ q + k = r.ds.length ∧ ∀ j d, r.ds[j]? = some d → j < k → d.good) r.ds.length ⟨0, StIs.of (by exact rfl), by omega, fun j d _ h => by omega⟩ ?_
  rintro q s ⟨k, hs, hq, hg⟩
  obtain ⟨z, rfl⟩ := hs.out
  try dsimp only
  clear hs
  by_cases hk : k < r.ds.length
  rotate_left
  ·obtain rfl : k = r.ds.length := by omega
   have b1 : decide (((r.ds.length : Nat) : Int) < ((r.ds.length : Nat) : Int)) = false := decide_eq_false (by omega)
   refine Gx.a (by kernel_rfl) fun K hK => ?_
   simp only [XA, XB, b1]
   refine hK _ ?_
   refine XWP.seq (Gx.f rfl ?_)
   refine XWP.exit ?_
   refine fun f => ⟨StIs.of (by exact rfl), fun d hd => ?_⟩
   obtain ⟨j, hj⟩ := List.getElem?_of_mem hd
   exact hg j d hj (List.getElem?_eq_some_iff.1 hj).1
  have b1 : decide ((k : Int) < (r.ds.length : Int)) = true := decide_eq_true (by omega)
  refine Gx.a (by kernel_rfl) fun K hK => ?_
  simp only [XA, XB, b1]
  refine hK _ ?_
  refine XWP.seq (Gx.t rfl ?_)
  refine XWP.skip ?_
  obtain ⟨b, o, rfl⟩ := SlK.addr hds1 (by omega)
  obtain ⟨dc, ⟨d1, d2, d3⟩, hcell⟩ := SlK.get hds1 k hk
  have hmem := List.getElem_mem hk
  have hkd : r.ds[k]? = some r.ds[k] := List.getElem?_eq_getElem hk
  have d3 : dc = r.ds[k].cells := d3
  generalize r.ds[k] = d at *
  subst d3
  refine XWP.cutD 1 (fun s => StIs (fun Z => [Z 0, .p 0 0, Z 2,Z 3,Z 4,Z 5,Z 6,Z 7,Z 8,Z 9,Z 10,Z 11,Z 12,Z 13,Z 14,Z 15,Z 16,Z 17,Z 18,Z 19,Z 20,Z 21,Z 22,Z 23, .v (.slice (some ⟨b, o, none⟩) r.ds.length c), .v (.int .i64 (r.ds.length : Int)), .v (.int .i64 (k : Int)), Z 27,Z 28,Z 29,Z 30,Z 31,Z 32,Z 33,Z 34,Z 35,Z 36,Z 37,Z 38,Z 39,Z 40,Z 41,Z 42,Z 43,Z 44,Z 45,Z 46,Z 47,Z 48,Z 49,Z 50,Z 51,Z 52,Z 53,Z 54,Z 55,Z 56,Z 57,Z 58,Z 59,Z 60]) [[.int .i64 r.kind, c1, c2, c3, c4, .slice (some ⟨b, o, none⟩) r.ds.length c, m, c7, c8]] (fun _ => none) V1 s ∧ d.good) ?_ ?_
  rotate_left
  ·rintro s ⟨hs, hgd⟩
   obtain ⟨z, rfl⟩ := hs.out
   try dsimp only
   clear hs
   refine Gx.c (by kernel_rfl) fun K hK => ?_
   simp only [XA, XB, i64_succ k (by omega)]
   refine hK _ ⟨q - 1, by omega, fun f => ⟨k + 1, StIs.of (by exact rfl), by omega, fun j e hj hlt => ?_⟩⟩
   by_cases ej : j = k
   ·subst ej
    rw [hkd] at hj
    cases hj
    exact hgd
   ·exact hg j e hj (by omega)
  clear hK
  refine XWP.block ?_
  refine Gx.a (by kernel_rfl) fun K hK => ?_
  simp only [XU, XA]
  refine ⟨by omega, by omega, ld_mem (loadsK shapeT_66 d1 (hcell _)) ?_⟩
  simp only [XU, XA]
  refine st_whole (cs := [.int .i64 d.site, .int .i64 d.index, .int .i64 d.odds, .int .i64 d.whole]) shapeT_66 rfl rfl rfl rfl ?_
  simp only [XA]
  refine hK _ ?_
  by_cases y1 : d.index < 0
  ·have t1 : decide (d.index < 0) = true := decide_eq_true y1
   refine Gx.a (by kernel_rfl) fun K hK => ?_
   simp only [XU, XA, XB, gateX, ↓reduceIte, t1]
   refine hK _ ?_
   refine Gx.t rfl ?_
   refine Gx.a (by kernel_rfl) fun K hK => ?_
   simp only [XA]
   refine hK _ (XWP.ret ?_)
   try simp only [thenX_ret, inBlockX_ret]
   refine ret_go _ rfl ?_
   rw [drawsB_bad hmem fun g => by have := g.1; omega]; rfl
  have t1 : decide (d.index < 0) = false := decide_eq_false y1
  by_cases y2 : d.odds < 1
  ·have t2 : decide (d.odds < 1) = true := decide_eq_true y2
   refine Gx.a (by kernel_rfl) fun K hK => ?_
   simp only [XU, XA, XB, gateX, ↓reduceIte, beq_self_eq_true, t1, t2]
   refine hK _ ?_
   refine Gx.t rfl ?_
   refine Gx.a (by kernel_rfl) fun K hK => ?_
   simp only [XA]
   refine hK _ (XWP.ret ?_)
   try simp only [thenX_ret, inBlockX_ret]
   refine ret_go _ rfl ?_
   rw [drawsB_bad hmem fun g => by have := g.2.1; omega]; rfl
  have t2 : decide (d.odds < 1) = false := decide_eq_false y2
  by_cases y3 : d.whole < d.odds
  ·have t3 : decide (d.whole < d.odds) = true := decide_eq_true y3
   refine Gx.a (by kernel_rfl) fun K hK => ?_
   simp only [XU, XA, XB, gateX, ↓reduceIte, beq_self_eq_true, t1, t2, t3]
   refine hK _ ?_
   refine Gx.t rfl ?_
   refine Gx.a (by kernel_rfl) fun K hK => ?_
   simp only [XA]
   refine hK _ (XWP.ret ?_)
   try simp only [thenX_ret, inBlockX_ret]
   refine ret_go _ rfl ?_
   rw [drawsB_bad hmem fun g => by have := g.2.2.1; omega]; rfl
  have t3 : decide (d.whole < d.odds) = false := decide_eq_false y3
  by_cases y4 : 64000 < d.whole
  ·have t4 : decide (64000 < d.whole) = true := decide_eq_true y4
   refine Gx.a (by kernel_rfl) fun K hK => ?_
   simp only [XU, XA, XB, gateX, ↓reduceIte, beq_self_eq_true, t1, t2, t3, t4]
   refine hK _ ?_
   refine Gx.t rfl ?_
   refine Gx.a (by kernel_rfl) fun K hK => ?_
   simp only [XA]
   refine hK _ (XWP.ret ?_)
   try simp only [thenX_ret, inBlockX_ret]
   refine ret_go _ rfl ?_
   rw [drawsB_bad hmem fun g => by have := g.2.2.2; omega]; rfl
  have t4 : decide (64000 < d.whole) = false := decide_eq_false y4
  refine Gx.a (by kernel_rfl) fun K hK => ?_
  simp only [XU, XA, XB, gateX, ↓reduceIte, beq_self_eq_true, t1, t2, t3, t4]
  refine hK _ ?_
  refine Gx.f rfl ?_
  refine XWP.skip ?_
  exact fun f => ⟨StIs.of (by exact rfl), by omega, by omega, by omega, by omega⟩
 rintro s ⟨hs, hg⟩
 obtain ⟨z, rfl⟩ := hs.out
 try dsimp only
 clear hs
 have hcs1 : ElK 9 rnE V1 [.int .i64 r.kind, c1, c2, c3, c4, .slice A r.ds.length c, m, c7, c8] r := hcs0.mono rnE_ok hV1
 have hwc : RatC V1 (.agg #[m, c7, c8]) r.w.q := (RawAt.rat hwr hok).mono hV1
 refine Gx.a (by kernel_rfl) fun K hK => ?_
 simp only [XU, XA, Nat.reduceAdd, Nat.reduceLeDiff, ↓reduceIte]
 refine call_go (by kernel_rfl) rfl (cprior_c _ _ r hcs1 hl hg) fun v2 V2 hV2 h2 => ?_
 obtain ⟨w2, rfl, h2⟩ := h2
 obtain ⟨x2, y2, rfl, p1, p2⟩ := h2.form
 simp only [XA, XB]
 refine st_rat rfl rfl rfl p1 p2 ?_
 simp only [XA]
 refine hK _ ?_
 refine Gx.a (by kernel_rfl) fun K hK => ?_
 simp only [XU, XA, XB, Nat.reduceAdd, Nat.reduceLeDiff, ↓reduceIte]
 refine call_go (by kernel_rfl) rfl (qcmp_c _ _ _ _ _ (hwc.mono hV2) h2 (hq hok) ((priorQ_QB hg).qf (by omega))) fun v3 V3 hV3 h3 => ?_
 subst h3
 simp only [XA, XB]
 refine hK _ (XWP.ret ?_)
 try simp only [thenX_ret, inBlockX_ret]
 refine ret_go _ rfl ?_
 have e : drawsB r = decide (sgI (r.w.q - priorQ r.ds) ≤ 0) := by
  unfold drawsB
  rw [decide_eq_true k0, hok, hs0]
  have : r.ds.all Dr.goodB = true := List.all_eq_true.2 fun d hd => (Dr.goodB_iff d).2 (hg d hd)
  rw [this]; simp
 rw [e]; rfl
theorem cright1_c (V : View) (cs : List Value) (r : Rn) (hcs : ElK 9 rnE V cs r) (hl : r.ds.length ≤ 100) (hf : r.w.fit) (hq : r.w.ok = true → QF r.w.q) : Spec Tryz.prog 76 [.agg cs.toArray] V fun v' V' => v' = .bool (!drawsB r) := by
 have hcs0 := hcs
 obtain ⟨_, hone, c1, c2, c3, c4, dv, m, c7, c8, rfl, hds, hwr⟩ := hcs
 refine (Spec.enter Tryz.func76 rfl fun Γ => ?_)
 simp only [Tryz.ntmps76, List.map_cons, List.map_nil, List.length_cons, List.length_nil, Nat.reduceAdd, Nat.reduceSub, List.replicate_succ, List.replicate_zero, List.cons_append, List.nil_append]
 refine Gx.a (by kernel_rfl) fun K hK => ?_
 simp only [XA]
 refine hK _ ?_
 refine Gx.a (by kernel_rfl) fun K hK => ?_
 simp only [XU, XA, Nat.reduceAdd, Nat.reduceLeDiff, ↓reduceIte]
 refine call_go (by kernel_rfl) rfl (cdraws_c _ _ r hcs0 hl hf hq) fun v1 V1 hV1 h1 => ?_
 subst h1
 simp only [XA]
 refine hK _ (XWP.ret ?_)
 try simp only [thenX_ret, inBlockX_ret]
 refine ret_go _ rfl ?_
 rfl
def Rn.fits (r : Rn) : Prop := r.ds.length ≤ 100 ∧ r.w.fit ∧ (r.w.ok = true → QF r.w.q)
theorem kindex_c (V : View) (v : Value) (l : List Rn) (h : SlK 9 rnE V v l) (f : ∀ r ∈ l, r.fits) (ll : l.length ≤ 1000000) : Spec Tryz.prog 116 [v, .func (.func 76) #[] #[]] V fun v' V' => ∃ r : Int, v' = .int .i64 r ∧ decide (0 ≤ r) = !l.all drawsB := by
 obtain ⟨A, c, rfl, hc, hm⟩ := h.form
 refine (Spec.enter Tryz.func116 rfl fun Γ => ?_)
 simp only [Tryz.ntmps116, List.map_cons, List.map_nil, List.length_cons, List.length_nil, Nat.reduceAdd, Nat.reduceSub, List.replicate_succ, List.replicate_zero, List.cons_append, List.nil_append]
 refine Gx.a (by kernel_rfl) fun K hK => ?_
 simp only [XA]
 refine hK _ ?_
 refine XWP.cut (fun s => StIs (fun Z => [Z 0,Z 1,Z 2,Z 3,Z 4,Z 5,Z 6,Z 7,Z 8,Z 9,Z 10,Z 11,Z 12,Z 13,Z 14,Z 15,Z 16,Z 17,Z 18]) [] (fun _ => none) s.V s ∧ l.all drawsB = true) ?_ ?_
 ·refine Gx.a (by kernel_rfl) fun K hK => ?_
  simp only [XU, XA]
  refine hK _ ?_
  clear hK
  refine XWP.block ?_
  refine XWP.loop (fun n s => ∃ (k : Nat) (V2 : View), StIs (fun Z => [.v (.slice A l.length c), .v (.func (.func 76) #[] #[]), Z 2,Z 3,Z 4,Z 5,Z 6, .v (.int .i64 (l.length : Int)), .v (.int .i64 (k : Int)), Z 9,Z 10,Z 11,Z 12,Z 13,Z 14,Z 15,Z 16,Z 17,Z 18]) [] (fun _ => none) V2 s ∧ V.le V2 ∧ n + k = l.length ∧ (l.take k).all drawsB = true) l.length ⟨0, V, StIs.of (by exact rfl), View.le_refl _, rfl, by simp [okR]⟩ ?_
  rintro n s ⟨k, V2, hs, hV2, hn, hk⟩
  obtain ⟨u, rfl⟩ := hs.out
  try dsimp only
  by_cases hlt : k < l.length
  ·have b1 : decide ((k : Int) < (l.length : Int)) = true := decide_eq_true (by omega)
   refine Gx.a (by kernel_rfl) fun K hK => ?_
   simp only [XA, XB, b1]
   refine hK _ ?_
   refine XWP.seq (Gx.t rfl ?_)
   refine XWP.skip ?_
   refine XWP.seq ?_
   refine XWP.block ?_
   refine Gx.a (by kernel_rfl) fun K hK => ?_
   simp only [XA]
   refine hK _ ?_
   refine Gx.a (by kernel_rfl) fun K hK => ?_
   have hv2 := SlK.mono rnE_ok h hV2
   obtain ⟨b, o, rfl⟩ := SlK.addr hv2 (by omega)
   obtain ⟨cs, hx, hcell⟩ := SlK.get hv2 k hlt
   simp only [XU, XA]
   refine ⟨by omega, by omega, ld_mem (loadsK shapeT_51 hx.1 (hcell _)) ?_⟩
   simp only [XA]
   refine call_go (by kernel_rfl) rfl (cright1_c _ _ _ hx (f _ (List.getElem_mem hlt)).1 (f _ (List.getElem_mem hlt)).2.1 (f _ (List.getElem_mem hlt)).2.2) fun v3 V3 hV3 h3 => ?_
   subst h3
   have et : l.take (k + 1) = l.take k ++ [l[k]] := by rw [List.take_succ_eq_append_getElem hlt]
   cases hr : drawsB l[k]
   ·simp only [XA]
    refine hK _ ?_
    refine Gx.t rfl ?_
    refine Gx.a (by kernel_rfl) fun K hK => ?_
    simp only [XA]
    refine hK _ (XWP.ret ?_)
    try simp only [thenX_ret, inBlockX_ret]
    refine ret_go _ rfl ?_
    refine ⟨k, rfl, ?_⟩
    have : l.all drawsB = false := by
     rw [List.all_eq_false]
     exact ⟨l[k], List.getElem_mem hlt, by rw [hr]; simp⟩
    rw [this, decide_eq_true (by omega)]; rfl
   ·simp only [XA]
    refine hK _ ?_
    refine Gx.f rfl ?_
    refine XWP.skip ?_
    refine Gx.c (by kernel_rfl) fun K hK => ?_
    simp only [XA, XB, i64_succ k (by omega)]
    refine hK _ ⟨n - 1, by omega, k + 1, V3, StIs.of (by exact rfl), View.le_trans hV2 hV3, by omega, ?_⟩
    rw [et, List.all_append, hk]
    simp [hr]
  ·have b1 : decide ((k : Int) < (l.length : Int)) = false := decide_eq_false (by omega)
   refine Gx.a (by kernel_rfl) fun K hK => ?_
   simp only [XA, XB, b1]
   refine hK _ ?_
   refine XWP.seq (Gx.f rfl ?_)
   refine XWP.exit ?_
   rw [List.take_of_length_le (by omega)] at hk
   exact ⟨StIs.of (by exact rfl), hk⟩
 rintro s ⟨hs, hk⟩
 obtain ⟨t, bx, H, V2⟩ := s
 obtain ⟨u, e⟩ := hs.out
 cases e
 try dsimp only
 refine Gx.a (by kernel_rfl) fun K hK => ?_
 simp only [XA]
 refine hK _ (XWP.ret ?_)
 try simp only [thenX_ret, inBlockX_ret]
 refine ret_go _ rfl ?_
 exact ⟨-1, rfl, by rw [hk]; rfl⟩
theorem kcontains_c (V : View) (v : Value) (l : List Rn) (h : SlK 9 rnE V v l) (f : ∀ r ∈ l, r.fits) (ll : l.length ≤ 1000000) : Spec Tryz.prog 75 [v, .func (.func 76) #[] #[]] V fun v' V' => v' = .bool (!l.all drawsB) := by
 refine (Spec.enter Tryz.func75 rfl fun Γ => ?_)
 simp only [Tryz.ntmps75, List.map_cons, List.map_nil, List.length_cons, List.length_nil, Nat.reduceAdd, Nat.reduceSub, List.replicate_succ, List.replicate_zero, List.cons_append, List.nil_append]
 refine Gx.a (by kernel_rfl) fun K hK => ?_
 simp only [XA]
 refine hK _ ?_
 refine Gx.a (by kernel_rfl) fun K hK => ?_
 simp only [XA]
 refine call_go (by kernel_rfl) rfl (kindex_c _ _ _ h f ll) fun v1 V1 hV1 h1 => ?_
 obtain ⟨r, rfl, hr⟩ := h1
 simp only [XA, XB, hr]
 refine hK _ (XWP.ret ?_)
 try simp only [thenX_ret, inBlockX_ret]
 refine ret_go _ rfl ?_
 rfl
end Go.Proofs.YtobjjdnfgamgcaaGreat
end
section
namespace Go.Proofs.YtobjjdnfgamgcaaGreat
open Go Go.RowKit
def MSem (P : Program) (f : FuncId) (args : List Value) (bx : List (List Value)) (H : Heap) (V : View) (R : Value → Heap → View → Prop) : Prop :=
 ∀ (Γ : Cx) (bl : Nat → Nat) (w : World), Γ.V0.sub Γ.w0 → CW Γ bl bx H V w → CS Γ bl bx H V → Calls P f args.toArray w fun e w' => ∃ v H' V', e = .returned v ∧ CW Γ bl bx H' V' w' ∧ CS Γ bl bx H' V' ∧ KeepsOthers w w' ∧ R v H' V'
theorem MSem.box {P : Program} {f : FuncId} {args : List Value} {vs : List Value} {H : Heap} {V : View} {R : Value → Heap → View → Prop}
  (h : ∀ b e, H b = none → V b = none → MSpec P f args (upd H b (some ⟨e, vs, vs.length⟩)) V fun v H' V' => H' b = some ⟨e, vs, vs.length⟩ ∧ R v (upd H' b none) V') : MSem P f args [vs] H V R := by
 intro Γ bl w h0 hw hs
 obtain ⟨ty, hh⟩ := hw.box 0 vs rfl
 obtain ⟨b1, b2, b3⟩ := hs.bxH 0 (by simp)
 have hw' : CW Γ bl [] (upd H (bl 0) (some ⟨ty, vs, vs.length⟩)) V w := ⟨fun i us hi => by simp at hi, fun b r hb => by
  unfold upd at hb
  split at hb
  ·rename_i e; subst e; cases hb
   exact ⟨[], by simpa using hh, by simp⟩
  ·exact hw.row b r hb, hw.view, hw.below⟩
 have hs' : CS Γ bl [] (upd H (bl 0) (some ⟨ty, vs, vs.length⟩)) V := ⟨fun i j hi => by simp at hi, fun i hi => by simp at hi, fun b r hb => by
  unfold upd at hb
  split at hb
  ·rename_i e; subst e; exact ⟨b2, b3⟩
  ·exact hs.HV b r hb, hs.V0, hs.frm⟩
 refine ((h (bl 0) ty b1 b2).calls h0 hw' hs').mono ?_
 rintro e w' ⟨v, H', V', rfl, cw, cs, ko, hb, hR⟩
 obtain ⟨ex, e1, e2⟩ := cw.row _ _ hb
 have hex : ex = [] := List.length_eq_zero_iff.1 (by rw [List.length_append] at e2; dsimp only at e2; omega)
 subst hex
 obtain ⟨c1, c2⟩ := cs.HV _ _ hb
 refine ⟨v, upd H' (bl 0) none, V', rfl, ⟨fun i us hi => ?_, fun b r hb' => ?_, cw.view, cw.below⟩, ⟨fun i j hi hj _ => ?_, fun i hi => ?_, fun b r hb' => ?_, cs.V0, cs.frm⟩, ko, hR⟩
 ·have hi0 : i = 0 := by have := (List.getElem?_eq_some_iff.1 hi).1; simp at this; exact this
  subst hi0
  have : us = vs := by simpa using hi.symm
  subst this
  exact ⟨ty, by simpa using e1⟩
 ·unfold upd at hb'
  split at hb'
  ·cases hb'
  ·exact cw.row b r hb'
 ·simp at hi hj; omega
 ·have hi0 : i = 0 := by simp at hi; exact hi
  subst hi0
  exact ⟨by unfold upd; rw [if_pos rfl], c1, c2⟩
 ·unfold upd at hb'
  split at hb'
  ·cases hb'
  ·exact cs.HV b r hb'
section
variable {Γ : Cx} {P : Program} {ops : Array Oper} {M : Nat → Bool} {Hb : Heap} {Vb : View}
def MOp (Γ : Cx) (P : Program) (ops : Array Oper) (Hb : Heap) (Vb : View) (o : Oper) (i : Nat) (K : XS → Prop) (s : XS) : Prop :=
 isRead o.op = false ∧ ∀ (bl : Nat → Nat) (a : Act) (w : World) (Q : Exit → Act → World → Prop), Γ.V0.sub Γ.w0 → Conc Γ bl s a w → wpOp P ops Q i (fun a' w' => ∃ s', Conc Γ bl s' a' w' ∧ (∀ x, CW Γ bl s'.bx s'.H s'.V x → CW Γ bl [] Hb Vb x) ∧ K s') a w
def BLoad (P : Program) (Hb : Heap) (Vb : View) (o : Oper) (K : XS → Prop) (s : XS) : Prop :=
 ∃ d ty x ty' pos af b off v, o = ⟨d, .load ty x, ty', pos, af, none⟩ ∧ s.ev x = .v (.pointer (some ⟨b, off, none⟩)) ∧ Loads P Hb Vb ty b off v ∧ K (s.put d (.v v))
def stepM (Γ : Cx) (P : Program) (ops : Array Oper) (M : Nat → Bool) (Hb : Heap) (Vb : View) (o : Oper) (i : Nat) (K : XS → Prop) (s : XS) : Prop :=
 if M i = true then MOp Γ P ops Hb Vb o i K s ∨ BLoad P Hb Vb o K s
 else (isRead o.op = true → isPure o.op = false → s.bx = [] ∧ s.H = Hb ∧ s.V = Vb) ∧ stepX P ops o K s
def seqM (Γ : Cx) (P : Program) (ops : Array Oper) (M : Nat → Bool) (Hb : Heap) (Vb : View) : List Nat → (XS → Prop) → (XS → Prop) → XS → Prop
 | [], KM, _, s => KM s
 | i :: l, KM, KX, s => match ops.toList[i]? with
  | none => False
  | some o => if closes ops i = true then stepX P ops o (seqX P ops (pickOps ops.toList l) KX) s else stepM Γ P ops M Hb Vb o i (seqM Γ P ops M Hb Vb l KM KX) s
def treeM (Γ : Cx) (P : Program) (ops : Array Oper) (M : Nat → Bool) (Hb : Heap) (Vb : View) : Ord → (XS → Prop) → XS → Prop
 | .nil, K, s => K s
 | .lin l t, K, s => seqM Γ P ops M Hb Vb l (treeM Γ P ops M Hb Vb t K) (treeX P ops t K) s
 | .two a b, K, s => treeM Γ P ops M Hb Vb a K s ∧ treeM Γ P ops M Hb Vb b K s
theorem treeM_cons {i : Nat} {o : Oper} (hi : ops.toList[i]? = some o) (t : Ord) (K : XS → Prop) (s : XS) :
  treeM Γ P ops M Hb Vb (Ord.cons i t) K s = if closes ops i = true then stepX P ops o (treeX P ops t K) s else stepM Γ P ops M Hb Vb o i (treeM Γ P ops M Hb Vb t K) s := by
 cases t with
 | nil => simp only [Ord.cons, treeM, seqM, hi, pickOps]; rfl
 | lin l t =>
  simp only [Ord.cons, treeM, seqM, hi]
  have : treeX P ops (.lin l t) K = seqX P ops (pickOps ops.toList l) (treeX P ops t K) := by funext s; rw [treeX]
  rw [this]
 | two a b => simp only [Ord.cons, treeM, seqM, hi, pickOps]; rfl
theorem treeM_any {K : XS → Prop} {s : XS} : ∀ (l : List Ord), treeM Γ P ops M Hb Vb (Ord.any l) K s → ∀ t ∈ l, treeM Γ P ops M Hb Vb t K s
 | [], _, t, ht => by cases ht
 | [a], h, t, ht => by
  have : t = a := by simpa using ht
  subst this; exact h
 | a :: b :: r, h, t, ht => by
  simp only [Ord.any, treeM] at h
  rcases List.mem_cons.1 ht with rfl | ht
  ·exact h.1
  ·exact treeM_any (b :: r) h.2 t ht
theorem CW.nobl {Γ : Cx} {bl bl' : Nat → Nat} {H : Heap} {V : View} {w : World} (h : CW Γ bl [] H V w) : CW Γ bl' [] H V w := ⟨fun i vs hi => by simp at hi, h.row, h.view, h.below⟩
theorem bload_run {Γ : Cx} {bl : Nat → Nat} {s : XS} {a : Act} {w : World} {d : Option Tmp} {ty : TypeId} {x : Operand} {ty' pos af} {b off : Nat} {v : Value} (ht : a.tmps = (s.t.map (SV.conc bl)).toArray) (hx : s.ev x = .v (.pointer (some ⟨b, off, none⟩))) (hl : Loads P Hb Vb ty b off v) (hw : CW Γ bl [] Hb Vb w) : (execOp a.eval ⟨d, .load ty x, ty', pos, af, none⟩).run P w = .ok (.value v) w := by
 obtain ⟨ag, n, es, h⟩ := hl
 have hw' : CW Γ bl (⟨[], [], Hb, Vb⟩ : XS).bx (⟨[], [], Hb, Vb⟩ : XS).H (⟨[], [], Hb, Vb⟩ : XS).V w := hw
 simp only [execOp, ev_conc ht, hx, SV.conc, Instr.loadAt, Instr.sureAddr]
 rcases h with ⟨rfl, cs, hl, hc, rfl⟩ | ⟨rfl, hc⟩
 ·have hr := run_loadVar_list es w ⟨b, off, none⟩ cs hl (fun j u hu => by rw [addr_add]; exact cell_of hw' (hc j u hu))
  simp [hr]
 ·have hr := run_loadVar_cell es w ⟨b, off, none⟩ v (cell_of hw' hc)
  simp [hr]
theorem treeM_draw {Γ : Cx} {Q : Exit → XS → Prop} (hV0 : Γ.V0.sub Γ.w0) (hsel : Region.noSelect ops = true) : ∀ (n : Nat) (listed : Array Bool) (t : Ord), autoTree ops n listed = some t →
  ∀ bl s a w, Conc Γ bl s a w → guardsIn ops s.t.length = true → (∀ x, CW Γ bl s.bx s.H s.V x → CW Γ bl [] Hb Vb x) → treeM Γ P ops M Hb Vb t (fun s' => Q .normal s') s → wpG P ops (XQ Γ (onlyN Q)) n (fun x => CW Γ bl [] Hb Vb x) listed a w := by
 have hQ : ∀ (c : List PanicEntry) (a : Act) (w : World), ¬ (XQ Γ (onlyN Q)) (.panic c) a w := fun c a w ⟨_, _, _, h⟩ => h
 intro n
 induction n with
 | zero =>
  intro listed t ho bl s a w hc hg hS h
  unfold autoTree at ho
  split at ho
  ·rename_i hr
   cases ho
   exact ⟨hr, bl, s, hc, h⟩
  ·cases ho
 | succ n ih =>
  intro listed t ho bl s a w hc hg hS h
  have ho0 := ho
  unfold autoTree at ho
  have one : ∀ i r, i ∈ Region.ready .any ops listed → autoTree ops n (listed.setIfInBounds i true) = some r → treeM Γ P ops M Hb Vb (Ord.cons i r) (fun s' => Q .normal s') s →
    wpOp P ops (XQ Γ (onlyN Q)) i (fun a' w' => if closes ops i = true then wpG P ops (XQ Γ (onlyN Q)) n (fun _ => True) (listed.setIfInBounds i true) a' w' else CW Γ bl [] Hb Vb w' ∧ wpG P ops (XQ Γ (onlyN Q)) n (fun x => CW Γ bl [] Hb Vb x) (listed.setIfInBounds i true) a' w') a w := by
   intro i r hmem ha h
   obtain ⟨_, oi, hoi, _⟩ := mem_ready.1 hmem
   have hoi' : ops.toList[i]? = some oi := by rw [Array.getElem?_toList]; exact hoi
   rw [treeM_cons hoi'] at h
   by_cases hcl : closes ops i = true
   ·rw [if_pos hcl] at h
    simp only [if_pos hcl]
    refine wpOp_mono ?_ (wpOp_size hc.len (stepX_wp hoi (guardsIn_spec hg hoi) hc h _))
    rintro a' w' ⟨hsz, bl', s', hc', _, hk'⟩
    have hg' : guardsIn ops s'.t.length = true := by rw [← hc'.len, hsz]; exact hg
    exact wpG_mono (fun _ _ => trivial) n _ a' w' (treeX_draw hsel n _ _ ha bl' s' a' w' hc' hg' hk')
   rw [if_neg hcl] at h
   simp only [if_neg hcl]
   have ec : isStore oi.op = false := by
    simp only [closes, hoi, Option.map_some, Option.getD_some, Bool.or_eq_true, not_or, Bool.not_eq_true] at hcl; exact hcl.1
   unfold stepM at h
   by_cases hM : M i = true
   ·rw [if_pos hM] at h
    rcases h with ⟨_, h⟩ | ⟨d, ty, x, ty', pos, af, b, off, v, rfl, hx, hl, hK⟩
    ·refine wpOp_mono ?_ (wpOp_size hc.len (h bl a w _ hV0 hc))
     rintro a' w' ⟨hsz, s', hc', hS', hk'⟩
     exact ⟨hS' w' hc'.cw, ih _ _ ha bl s' a' w' hc' (by rw [← hc'.len, hsz]; exact hg) hS' hk'⟩
    ·unfold wpOp
     simp only [hoi]
     rw [if_pos (by unfold Region.wanted; rfl)]
     refine .inl ?_
     unfold Oper.wp
     rw [bload_run hc.tm hx hl (hS w hc.cw)]
     refine ⟨hS w hc.cw, ih _ _ ha bl _ _ w (hc.put d (.v v) trivial) (by rw [put_len]; exact hg) ?_ hK⟩
     rw [XS.put_bx, XS.put_H, XS.put_V]; exact hS
   ·rw [if_neg hM] at h
    refine wpOp_mono ?_ (wpOp_size hc.len (stepX_wp hoi (guardsIn_spec hg hoi) hc h.2 _))
    rintro a' w' ⟨hsz, bl', s', hc', hS0, hk'⟩
    have hg' : guardsIn ops s'.t.length = true := by rw [← hc'.len, hsz]; exact hg
    refine ⟨hS w' (hS0 ec w' hc'.cw), ?_⟩
    have := ih _ _ ha bl' s' a' w' hc' hg' (fun x hx => (hS x (hS0 ec x hx)).nobl) hk'
    exact wpG_mono (fun x hx => CW.nobl hx) n _ a' w' this
  cases hr : Region.ready .any ops listed with
  | nil =>
   rw [hr] at ho; cases ho
   exact ⟨fun _ => ⟨bl, s, hc, h⟩, fun i hi => by rw [hr] at hi; cases hi⟩
  | cons i0 rs =>
   rw [hr] at ho
   dsimp only at ho
   cases hf : (i0 :: rs).find? (freeG ops listed) with
   | some i =>
    rw [hf] at ho
    dsimp only at ho
    cases ha : autoTree ops n (listed.setIfInBounds i true) with
    | none => rw [ha] at ho; cases ho
    | some rest =>
     rw [ha] at ho; cases ho
     have hmem : i ∈ Region.ready .any ops listed := by rw [hr]; exact List.mem_of_find?_eq_some hf
     have hfree : freeG ops listed i = true := List.find?_some hf
     obtain ⟨_, oi, hoi, _⟩ := mem_ready.1 hmem
     obtain ⟨hrd, W, hW, hap⟩ := freeG_spec hoi hfree
     have hoi' : ops.toList[i]? = some oi := by rw [Array.getElem?_toList]; exact hoi
     rw [treeM_cons hoi'] at h
     by_cases hcl : closes ops i = true
     ·rw [if_pos hcl] at h
      rw [← treeX_cons hoi'] at h
      exact wpG_mono (fun x hx => hS x hx) (n + 1) _ a w (treeX_draw hsel (n + 1) listed _ ho0 bl s a w hc hg h)
     rw [if_neg hcl] at h
     unfold stepM at h
     by_cases hM : M i = true
     ·rw [if_pos hM] at h
      rcases h with ⟨h1, _⟩ | ⟨d, ty, x, ty', pos, af, b, off, v, rfl, hx, hl, hK⟩
      ·rw [hrd] at h1; cases h1
      have hgw := gate_wanted (ops := ops) hc.tm _ (guardsIn_spec hg hoi)
      have := ih _ _ ha bl (s.put d (.v v)) (a.put d v) w (hc.put d (.v v) trivial) (by rw [put_len]; exact hg) (by rw [XS.put_bx, XS.put_H, XS.put_V]; exact hS) hK
      refine wpG_take (v := v) W false hoi hsel (fun c a' w' h => absurd h (hQ c _ w')) n _ listed a w hW (fun j oj h1 h2 h3 => ?_) hmem (.inl ⟨by rw [hgw]; rfl, fun w' hw' => bload_run hc.tm hx hl (hw'.resolve_left (by simp))⟩) (hS w hc.cw) this
      rcases hap j oj h1 h2 h3 with g | ⟨g1, g2, g3⟩
      ·exact .inl g
      ·exact .inr ⟨g1, g2, .inr (g3.resolve_left (by simp [isPure]))⟩
     rw [if_neg hM] at h
     obtain ⟨hbase, h⟩ := h
     have hgw := gate_wanted (ops := ops) hc.tm oi (guardsIn_spec hg hoi)
     have hyk : ∃ sv, sv.ok s.bx.length ∧ YieldsIf P ops (fun x => isPure oi.op = true ∨ CW Γ bl [] Hb Vb x) oi (sv.conc bl) a ∧ treeM Γ P ops M Hb Vb rest (fun s' => Q .normal s') (s.put oi.dst sv) := by
      have body : opX P oi (treeM Γ P ops M Hb Vb rest fun s' => Q .normal s') s → Region.wanted oi (yielded ops a.tmps) = true → ∃ sv : SV, sv.ok s.bx.length ∧ YieldsIf P ops (fun x => isPure oi.op = true ∨ CW Γ bl [] Hb Vb x) oi (sv.conc bl) a ∧ treeM Γ P ops M Hb Vb rest (fun s' => Q .normal s') (s.put oi.dst sv) := fun h hw => by
       unfold opX at h
       rw [if_pos hrd] at h
       cases hp : isPure oi.op with
       | true =>
        obtain ⟨sv, ⟨h1, h2⟩, h3⟩ := readX_pure hp hc.ok h
        exact ⟨sv, h1, .inl ⟨hw, fun w' _ => h2 bl a w' hc.tm⟩, h3⟩
       | false =>
        obtain ⟨g1, g2, g3⟩ := hbase hrd hp
        obtain ⟨sv, ⟨h1, h2⟩, h3⟩ := readX_sound hc.ok h
        refine ⟨sv, h1, .inl ⟨hw, fun w' hw' => h2 Γ bl a w' hc.tm ?_⟩, h3⟩
        rw [g1, g2, g3]
        exact hw'.resolve_left (by simp)
      unfold stepX at h
      cases hgd : oi.guard with
      | none =>
       rw [hgd] at h hgw
       exact body h (by rw [hgw]; rfl)
      | some q =>
       rw [hgd] at h hgw
       dsimp only at h
       split at h
       ·rename_i hw; exact body h (by rw [hgw]; exact hw)
       ·rename_i hw
        exact ⟨.v undef, trivial, .inr ⟨by rw [hgw]; simpa using hw, rfl⟩, h⟩
     obtain ⟨sv, hok, hy, hk⟩ := hyk
     have := ih _ _ ha bl (s.put oi.dst sv) (a.put oi.dst (sv.conc bl)) w (hc.put oi.dst sv hok) (by rw [put_len]; exact hg) (by rw [XS.put_bx, XS.put_H, XS.put_V]; exact hS) hk
     exact wpG_take W (isPure oi.op) hoi hsel (fun c a' w' h => absurd h (hQ c _ w')) n _ listed a w hW hap hmem hy (hS w hc.cw) this
   | none =>
    rw [hf] at ho
    dsimp only at ho
    refine ⟨fun h0 => (by rw [hr] at h0; cases h0), fun i hi => ?_⟩
    cases hm : (i0 :: rs).mapM (fun i => (autoTree ops n (listed.setIfInBounds i true)).map (Ord.cons i)) with
    | none => rw [hm] at ho; cases ho
    | some ts =>
     rw [hm] at ho; cases ho
     obtain ⟨y, h1, h2⟩ := mapM_mem hm i (by rw [← hr]; exact hi)
     cases ha : autoTree ops n (listed.setIfInBounds i true) with
     | none => rw [ha] at h1; cases h1
     | some r =>
      rw [ha] at h1; cases h1
      exact one i r hi ha (treeM_any ts h _ h2)
theorem XWP.drawV {Γ : Cx} {id : Nat} {Q : Exit → XS → Prop} {s : XS} (t : Ord) (M : Nat → Bool) (Hb : Heap) (Vb : View) (hΓ : Γ.Plain) (hm : P.follows .mixedOrders = true) (ho : treeOf ops = some t) (hg : guardsIn ops s.t.length = true) (hbx : s.bx = []) (hsub : ∀ b r, Hb b = some r → s.H b = some r) (hsv : Vb.le s.V)
  (h : treeM Γ P ops M Hb Vb t (fun s' => Q .normal s') s) : XWP Γ P (.region id ops true) Q s := by
 intro bl a w hc
 unfold treeOf at ho
 split at ho
 ·rename_i hsel
  have hd : Conc Γ bl s a { w with drawn := w.drawn + 1 } := hc.drew
  have := treeM_draw (Γ := Γ) (Q := Q) hΓ.2 hsel _ _ _ ho bl s a _ hd hg (fun x hx => by rw [hbx] at hx; exact ⟨hx.box, fun b r hb => hx.row b r (hsub b r hb), fun b o hb => hx.view b o (hsv b o hb), hx.below⟩) h
  have hnd : noDefer ops = true := by unfold guardsIn at hg; rw [Bool.and_eq_true] at hg; exact hg.1
  exact wpIn_mono (wpIn_region_any hm (wpAny_in onlyN_out hnd _ _ _ _ (wpG_any _ _ _ _ _ this))) (onlyN_all (Q := Q))
 ·cases ho
theorem treeM_two {a b : Ord} {K : XS → Prop} {s : XS} (h1 : treeM Γ P ops M Hb Vb a K s) (h2 : treeM Γ P ops M Hb Vb b K s) : treeM Γ P ops M Hb Vb (.two a b) K s := ⟨h1, h2⟩
theorem treeM_lin {l : List Nat} {t : Ord} {K : XS → Prop} {s : XS} (h : seqM Γ P ops M Hb Vb l (treeM Γ P ops M Hb Vb t K) (treeX P ops t K) s) : treeM Γ P ops M Hb Vb (.lin l t) K s := h
theorem treeM_nil {K : XS → Prop} {s : XS} (h : K s) : treeM Γ P ops M Hb Vb .nil K s := h
theorem seqM_nil {KM KX : XS → Prop} {s : XS} (h : KM s) : seqM Γ P ops M Hb Vb [] KM KX s := h
theorem seqM_x {i : Nat} {l : List Nat} {o : Oper} {KM KX : XS → Prop} {s : XS} (ho : ops.toList[i]? = some o) (hc : closes ops i = false) (hM : M i = false) (hr : (isRead o.op && !isPure o.op) = false) (h : seqX P ops [o] (seqM Γ P ops M Hb Vb l KM KX) s) : seqM Γ P ops M Hb Vb (i :: l) KM KX s := by
 unfold seqM
 simp only [ho, hc]
 rw [if_neg (by simp)]
 unfold stepM
 rw [if_neg (by rw [hM]; simp)]
 exact ⟨fun h1 h2 => absurd hr (by rw [h1, h2]; decide), h⟩
theorem mop_call {i : Nat} {K : XS → Prop} {s : XS} {d : Option Tmp} {f : FuncId} {args : List Operand} {ts : Array TypeId} {ty pos af} {R : Value → Heap → View → Prop} (hoi : ops[i]? = some ⟨d, .call ⟨.value (.func f), (List.toArray args : Array Operand), ts⟩, ty, pos, af, none⟩) (hcb : callable P f = true) (hall : (args.map s.ev).all SV.isV = true)
  (hspec : MSem P f ((args.map s.ev).map SV.val) s.bx s.H s.V R) (hK : ∀ v H' V', R v H' V' → (∀ b r, Hb b = some r → H' b = some r) ∧ Vb.le V' ∧ K ((⟨s.t, s.bx, H', V'⟩ : XS).put d (.v v))) : MOp Γ P ops Hb Vb ⟨d, .call ⟨.value (.func f), (List.toArray args : Array Operand), ts⟩, ty, pos, af, none⟩ i K s := by
 refine ⟨rfl, fun bl a w Q hV0 hc => ?_⟩
 unfold wpOp
 simp only [hoi]
 rw [if_pos (by unfold Region.wanted; rfl)]
 refine .inl ?_
 have eargs : ((args.map s.ev).map SV.val).toArray = (args.toArray : Array Operand).map a.eval := by
  apply Array.ext'
  simp only [Array.toList_map, List.map_map]
  refine List.map_congr_left fun q hq => ?_
  rw [hc.ev]
  exact (val_conc (List.all_eq_true.1 hall _ (List.mem_map_of_mem hq))).symm
 have hrun : (execOp a.eval ⟨d, .call ⟨.value (.func f), args.toArray, ts⟩, ty, pos, af, none⟩).run P w = .ok (.enter f ((args.toArray : Array Operand).map a.eval)) w := by
  have ef : a.eval (.func f) = .func (.func f) #[] #[] := rfl
  unfold callable at hcb
  cases hf : P.funcs[f]? with
  | none => simp [hf] at hcb
  | some fn =>
   simp [hf] at hcb
   have hb : fn.body ≠ none := fun hn => by simp [hn] at hcb
   simp [execOp, resolve, ef, Deferred.ofValue, invoke, callFunc, hf, hcb.1, hb]
 unfold Oper.wp
 rw [hrun]
 show Calls P f ((args.toArray : Array Operand).map a.eval) w _
 rw [← eargs]
 refine (hspec Γ bl w hV0 hc.cw hc.cs).mono ?_
 rintro e w' ⟨v, H', V', rfl, cw, cs, ko, hR⟩
 dsimp only
 obtain ⟨k1, k2, k3⟩ := hK v H' V' hR
 have hput := Conc.put (Γ := Γ) (bl := bl) (s := ⟨s.t, s.bx, H', V'⟩) (a := a) (w := w') ⟨hc.tm, hc.df.keep ko, cw, cs, hc.ok⟩ d (.v v) trivial
 refine ⟨_, hput, fun x hx => ?_, k3⟩
 rw [XS.put_bx, XS.put_H, XS.put_V] at hx
 exact ⟨fun i vs hi => by simp at hi, fun b r hb => hx.row b r (k1 b r hb), fun b o hb => hx.view b o (k2 b o hb), hx.below⟩
theorem seqM_b {i : Nat} {l : List Nat} {KM KX : XS → Prop} {s : XS} {d : Option Tmp} {t : TypeId} {x : Operand} {ty' pos af} {b off : Nat} {v : Value} (ho : ops.toList[i]? = some ⟨d, .load t x, ty', pos, af, none⟩) (hc : closes ops i = false) (hM : M i = true) (hx : s.ev x = .v (.pointer (some ⟨b, off, none⟩))) (hl : Loads P Hb Vb t b off v)
  (h : seqM Γ P ops M Hb Vb l KM KX (s.put d (.v v))) : seqM Γ P ops M Hb Vb (i :: l) KM KX s := by
 unfold seqM
 simp only [ho, hc]
 rw [if_neg (by simp)]
 unfold stepM
 rw [if_pos hM]
 exact .inr ⟨d, t, x, ty', pos, af, b, off, v, rfl, hx, hl, h⟩
end
def ents : List (Int × Value) → Nat → List MapEntry
 | [], _ => []
 | (k, v) :: l, n => ⟨.int .i64 k, v, n⟩ :: ents l (n + 1)
def mapO (l : List (Int × Value)) : Obj := .map (ents l 0).toArray l.length
theorem ents_len : ∀ (l : List (Int × Value)) (n : Nat), (ents l n).length = l.length
 | [], _ => rfl
 | (k, v) :: l, n => by simp [ents, ents_len l (n + 1)]
theorem ents_append : ∀ (l m : List (Int × Value)) (n : Nat), ents (l ++ m) n = ents l n ++ ents m (n + l.length)
 | [], m, n => by simp [ents]
 | (k, v) :: l, m, n => by simp [ents, ents_append l m (n + 1)]; rw [show n + 1 + l.length = n + (l.length + 1) by omega]
def mfind {β : Type} : List (Int × β) → Int → Nat → Option (Nat × β)
 | [], _, _ => none
 | (j, v) :: l, k, n => if j = k then some (n, v) else mfind l k (n + 1)
def mget {β : Type} : List (Int × β) → Int → Option β
 | [], _ => none
 | (j, v) :: l, k => if j = k then some v else mget l k
def mput {β : Type} : List (Int × β) → Int → β → List (Int × β)
 | [], k, v => [(k, v)]
 | (j, u) :: l, k, v => if j = k then (k, v) :: l else (j, u) :: mput l k v
theorem mfind_get {β : Type} : ∀ (l : List (Int × β)) (k : Int) (n : Nat), (mfind l k n).map (·.2) = mget l k
 | [], _, _ => rfl
 | (j, v) :: l, k, n => by
  unfold mfind mget
  split
  ·rfl
  ·exact mfind_get l k (n + 1)
theorem mfind_none {β : Type} : ∀ {l : List (Int × β)} {k : Int} {n : Nat}, mfind l k n = none → ∀ v, mput l k v = l ++ [(k, v)]
 | [], _, _, _, v => rfl
 | (j, u) :: l, k, n, h, v => by
  unfold mfind at h
  split at h
  ·cases h
  ·rename_i hne
   unfold mput
   rw [if_neg hne, mfind_none h v]; rfl
theorem mfind_some {β : Type} : ∀ {l : List (Int × β)} {k : Int} {n i : Nat} {u : β}, mfind l k n = some (i, u) → n ≤ i ∧ i < n + l.length ∧ l[i - n]? = some (k, u) ∧ ∀ v, mput l k v = l.set (i - n) (k, v)
 | [], _, _, _, _, h => by cases h
 | (j, u') :: l, k, n, i, u, h => by
  unfold mfind at h
  split at h
  ·rename_i e
   cases h
   subst e
   refine ⟨Nat.le_refl _, by simp, by simp, fun v => ?_⟩
   unfold mput
   rw [if_pos rfl, Nat.sub_self]; rfl
  ·rename_i hne
   obtain ⟨h1, h2, h3, h4⟩ := mfind_some h
   refine ⟨by omega, by simp; omega, ?_, fun v => ?_⟩
   ·rw [show i - n = (i - (n + 1)) + 1 by omega]; simpa using h3
   ·unfold mput
    rw [if_neg hne, h4 v, show i - n = (i - (n + 1)) + 1 by omega]; rfl
theorem mfind_keys {β γ : Type} : ∀ {l : List (Int × β)} {m : List (Int × γ)} (k : Int) (n : Nat), l.map (·.1) = m.map (·.1) → (mfind l k n).map (·.1) = (mfind m k n).map (·.1)
 | [], [], _, _, _ => rfl
 | [], _ :: _, _, _, h => by simp at h
 | _ :: _, [], _, _, h => by simp at h
 | (j, u) :: l, (j', u') :: m, k, n, h => by
  simp only [List.map_cons, List.cons.injEq] at h
  obtain ⟨rfl, h⟩ := h
  unfold mfind
  split
  ·rfl
  ·exact mfind_keys k (n + 1) h
theorem ents_get : ∀ {l : List (Int × Value)} {i n : Nat} {k : Int} {u : Value}, l[i]? = some (k, u) → (ents l n)[i]? = some ⟨.int .i64 k, u, n + i⟩
 | [], i, n, _, _, h => by simp at h
 | (j, v) :: l, 0, n, k, u, h => by simp at h; obtain ⟨rfl, rfl⟩ := h; rfl
 | (j, v) :: l, i + 1, n, k, u, h => by
  have := ents_get (n := n + 1) (show l[i]? = some (k, u) by simpa using h)
  rw [show n + 1 + i = n + (i + 1) by omega] at this
  simpa [ents] using this
theorem ents_set : ∀ (l : List (Int × Value)) (i n : Nat) (k : Int) (v : Value), i < l.length → ents (l.set i (k, v)) n = (ents l n).set i ⟨.int .i64 k, v, n + i⟩
 | [], i, n, _, _, h => by simp at h
 | (j, u) :: l, 0, n, k, v, _ => rfl
 | (j, u) :: l, i + 1, n, k, v, h => by
  have := ents_set l i (n + 1) k v (by simpa using h)
  rw [show n + 1 + i = n + (i + 1) by omega] at this
  simpa [ents] using this
theorem findNow_ents : ∀ (l : List (Int × Value)) (k : Int) (n i : Nat), Instr.findNow (.int .i64) (.int .i64 k) (ents l n) i = some (mfind l k i)
 | [], _, _, _ => rfl
 | (j, v) :: l, k, n, i => by
  unfold ents Instr.findNow mfind
  by_cases e : j = k
  ·subst e; simp [Instr.sameNow]
  ·rw [if_neg e]
   have : (k == j) = false := by simp; exact fun h => e h.symm
   simp only [Instr.sameNow, this, if_true]
   exact findNow_ents l k (n + 1) (i + 1)
section
variable {P : Program} {w : World} {g : Nat} {l : List (Int × Value)} {t kt e : TypeId}
theorem run_lookupZ (ht : P.underlying t = some (.map kt e)) (hk : P.underlying kt = some (.int .i64)) {z : Value} (hz : (zeroValue e).run P w = .ok z w) (hb : w.heap[g]? = some (mapO l)) (k : Int) :
  (Instr.lookup t (.map (some g)) (.int .i64 k) false).run P w = .ok ((mget l k).getD z) w := by
 unfold Instr.lookup
 simp only [Sem.run_bind, run_und ht, Result.andThen, MapKept.run_getObj_map hb, Sem.run_pure, MapKept.run_checkKey (n := 9999) hk (show MapKept.IsKey (.int .i64) (.int .i64 k) by simp [MapKept.IsKey]), MapKept.run_findKey hk (findNow_ents l k 0 0)]
 rw [← mfind_get l k 0]
 cases h : mfind l k 0 with
 | none => simp [hz]
 | some x => simp
theorem run_updateZ (ht : P.underlying t = some (.map kt e)) (hk : P.underlying kt = some (.int .i64)) (hb : w.heap[g]? = some (mapO l)) (k : Int) (v : Value) :
  (Instr.mapUpdate t (.map (some g)) (.int .i64 k) v).run P w = .ok () (w.putObj g (mapO (mput l k v))) := by
 unfold Instr.mapUpdate
 simp only [Sem.run_bind, run_und ht, Result.andThen, MapKept.run_getObj_map hb, MapKept.run_checkKey (n := 9999) hk (show MapKept.IsKey (.int .i64) (.int .i64 k) by simp [MapKept.IsKey]), MapKept.run_findKey hk (findNow_ents l k 0 0)]
 cases h : mfind l k 0 with
 | none =>
  simp only [MapKept.run_setObj_map _ hb]
  rw [mfind_none h v]
  have e : Obj.map ((ents l 0).toArray.push ⟨.int .i64 k, v, l.length⟩) (l.length + 1) = mapO (l ++ [(k, v)]) := by
   unfold mapO
   rw [ents_append, List.length_append]
   simp [ents]
  rw [e]; rfl
 | some x =>
  obtain ⟨i, u⟩ := x
  obtain ⟨h1, h2, h3, h4⟩ := mfind_some h
  rw [Nat.sub_zero] at h3 h4
  have hg := ents_get (n := 0) h3
  rw [Nat.zero_add] at hg
  have hlt : i < (ents l 0).length := by rw [ents_len]; omega
  have hga : ((ents l 0).toArray)[i]? = some ⟨.int .i64 k, u, i⟩ := by simpa using hg
  have hkt : (Instr.keyThatStays (((((ents l 0).toArray)[i]?).map (·.key)).getD (.int .i64 k)) (.int .i64 k)).run P w = .ok (.int .i64 k) w := by
   rw [hga]
   simp [Instr.keyThatStays, Instr.sameBits]
  simp only [Sem.run_bind, hkt, Result.andThen, MapKept.run_setObj_map _ hb]
  rw [h4 v]
  have e : Obj.map ((ents l 0).toArray.modify i fun e => { e with key := .int .i64 k, val := v }) l.length = mapO (l.set i (k, v)) := by
   unfold mapO
   rw [List.length_set]
   congr 1
   rw [ents_set l i 0 k v (by omega), Nat.zero_add]
   refine Array.ext' ?_
   refine List.ext_getElem? fun j => ?_
   rw [Array.getElem?_toList, Array.getElem?_modify, List.getElem?_toArray, List.getElem?_set]
   by_cases ej : i = j
   ·subst ej
    rw [if_pos rfl, if_pos rfl, if_pos hlt, hg]; rfl
   ·rw [if_neg ej, if_neg ej]
  rw [e]; rfl
theorem run_lenZ (ht : P.underlying t = some (.map kt e)) (hb : w.heap[g]? = some (mapO l)) (ty : TypeId) : (Builtin.len_ #[t] ty #[.map (some g)]).run P w = .ok (.int .i64 l.length) w := by
 have : (ents l 0).toArray.size = l.length := by simp [ents_len]
 simp [Builtin.len_, run_und ht, mapO, getObj, Sem.run, hb, this]
 rfl
theorem run_makeZ (t : TypeId) (w : World) : (Instr.makeMap t none).run P w = .ok (.map (some w.heap.size)) (w.alloc (mapO [])) := by
 rfl
theorem run_rangeZ (ht : P.underlying t = some (.map kt e)) (hb : w.heap[g]? = some (mapO l)) : (Instr.range t (.map (some g))).run P w = .ok (.pointer (some ⟨w.heap.size, 0, none⟩)) (w.alloc (.mapIter (some g) l.length #[] l.length)) := by
 unfold Instr.range
 simp only [Sem.run_bind, run_und ht, Result.andThen, MapKept.run_getObj_map hb]
 rfl
end
def Cx.Mine (Γ : Cx) (g : Nat) : Prop := Γ.w0.heap.size ≤ g ∧ Γ.w1.heap.size ≤ g
theorem addV_off {V : View} {g k : Nat} {o : Obj} (h : k ≠ g) : addV V g o k = V k := by unfold addV; rw [if_neg h]
theorem addV_on {V : View} {g : Nat} {o : Obj} : addV V g o g = some o := by unfold addV; rw [if_pos rfl]
theorem addV_two {V : View} {g : Nat} {o o' : Obj} : addV (addV V g o) g o' = addV V g o' := by
 funext k
 by_cases e : k = g
 ·rw [e, addV_on, addV_on]
 ·rw [addV_off e, addV_off e, addV_off e]
theorem addV_new {V : View} {g : Nat} {o : Obj} (h : V g = none) : V.le (addV V g o) := fun k ob hk => by
 rw [addV_off (fun e => by rw [e, h] at hk; cases hk)]; exact hk
section
variable {Γ : Cx} {bl : Nat → Nat} {s : XS} {a : Act} {w : World}
theorem Conc.newV (hc : Conc Γ bl s a w) (hV0 : Γ.V0.sub Γ.w0) (o : Obj) (ho : okObj o = true) : Conc Γ bl ⟨s.t, s.bx, s.H, addV s.V w.heap.size o⟩ a (w.alloc o) ∧ s.V w.heap.size = none ∧ s.H w.heap.size = none ∧ Γ.Mine w.heap.size := by
 have hVn := hc.cw.fresh_V (Nat.le_refl w.heap.size)
 have hHn := hc.cw.fresh_H (Nat.le_refl w.heap.size)
 have hm : Γ.Mine w.heap.size := ⟨hc.cw.below.size, hc.df.2.size⟩
 have hlt : ∀ k ob, s.V k = some ob → k ≠ w.heap.size := fun k ob h e => by rw [e, hVn] at h; cases h
 have hba := Blw.of_alloc w o
 refine ⟨⟨hc.tm, hc.df.keep (Blw.others hba), ⟨fun i vs hi => ?_, fun b r hr => ?_, fun k ob hk => ?_, hc.cw.below.trans (hba.mono hc.cw.below.size)⟩, ⟨hc.cs.inj, fun i hi => ?_, fun b r hr => ?_, fun k ob hk => ?_, fun k ob hk => ?_⟩, hc.ok⟩, hVn, hHn, hm⟩
 ·obtain ⟨ty, hh⟩ := hc.cw.box i vs hi
  have hi' : i < s.bx.length := (List.getElem?_eq_some_iff.1 hi).1
  exact ⟨ty, by rw [hba.block _ (hc.cw.lt_box hi')]; exact hh⟩
 ·obtain ⟨ex, hh, hl⟩ := hc.cw.row b r hr
  exact ⟨ex, by rw [hba.block _ (hc.cw.lt_row hr)]; exact hh, hl⟩
 ·replace hk : addV s.V w.heap.size o k = some ob := hk
  by_cases e : k = w.heap.size
  ·subst e
   rw [addV_on] at hk
   cases hk
   exact heap_alloc_at w o
  ·rw [addV_off e] at hk
   rw [hba.block _ (hc.cw.lt_view hk)]
   exact hc.cw.view k ob hk
 ·obtain ⟨h1, h2, h3⟩ := hc.cs.bxH i hi
  refine ⟨h1, ?_, h3⟩
  have := hc.cw.lt_box hi
  show addV s.V w.heap.size o (bl i) = none
  rw [addV_off (by omega)]; exact h2
 ·obtain ⟨h1, h2⟩ := hc.cs.HV b r hr
  refine ⟨?_, h2⟩
  have := hc.cw.lt_row hr
  show addV s.V w.heap.size o b = none
  rw [addV_off (by omega)]; exact h1
 ·have h1 := hc.cs.V0 k ob hk
  show addV s.V w.heap.size o k = some ob
  rw [addV_off (hlt k ob h1)]; exact h1
 ·by_cases e : k = w.heap.size
  ·subst e
   have hk' : addV s.V w.heap.size o w.heap.size = some ob := hk
   rw [addV_on] at hk'
   cases hk'
   exact .inr ⟨hm.1, ho⟩
  ·have hk' : addV s.V w.heap.size o k = some ob := hk
   rw [addV_off e] at hk'
   exact hc.cs.frm k ob hk'
theorem Conc.turnV (hc : Conc Γ bl s a w) (hV0 : Γ.V0.sub Γ.w0) {g : Nat} {o : Obj} (hg : s.V g = some o) (hm : Γ.Mine g) (o' : Obj) (ho : okObj o' = true) : Conc Γ bl ⟨s.t, s.bx, s.H, addV s.V g o'⟩ a (w.putObj g o') := by
 have hwg := hc.cw.view g o hg
 have hlt := hc.cw.lt_view hg
 have hV0g : Γ.V0 g = none := by
  cases h : Γ.V0 g with
  | none => rfl
  | some ob =>
   have := (Array.getElem?_eq_some_iff.1 (hV0 g ob h)).1
   have := hm.1
   omega
 have hok : okObj o = true := by
  rcases hc.cs.frm g o hg with h | h
  ·rw [hV0g] at h; cases h
  ·exact h.2
 refine ⟨hc.tm, ⟨?_, others_put hc.df.2 hm.2 o'⟩, ⟨fun i vs hi => ?_, fun b r hr => ?_, fun k ob hk => ?_, ?_⟩, ⟨hc.cs.inj, fun i hi => ?_, fun b r hr => ?_, fun k ob hk => ?_, fun k ob hk => ?_⟩, hc.ok⟩
 ·obtain ⟨ms, h1, h2, h3⟩ := hc.df.1
  refine ⟨ms, h1, h2, fun D hD => ⟨(h3 D hD).1, ?_⟩⟩
  rw [World.putObj_heap_other]
  ·exact (h3 D hD).2
  ·intro e
   have := (h3 D hD).2
   rw [e, hwg] at this
   cases this
   cases hok
 ·obtain ⟨ty, hh⟩ := hc.cw.box i vs hi
  have hi' : i < s.bx.length := (List.getElem?_eq_some_iff.1 hi).1
  exact ⟨ty, (World.putObj_heap_other fun e => by have := (hc.cs.bxH i hi').2.1; rw [e, hg] at this; cases this).trans hh⟩
 ·obtain ⟨ex, hh, hl⟩ := hc.cw.row b r hr
  exact ⟨ex, (World.putObj_heap_other fun e => by have := (hc.cs.HV b r hr).1; rw [e, hg] at this; cases this).trans hh, hl⟩
 ·replace hk : addV s.V g o' k = some ob := hk
  by_cases e : k = g
  ·subst e
   rw [addV_on] at hk
   cases hk
   exact World.putObj_heap_same hlt
  ·rw [addV_off e] at hk
   exact (World.putObj_heap_other e).trans (hc.cw.view k ob hk)
 ·exact hc.cw.below.trans ((Blw.refl _ w).grown (grownBy_putObj' w g o') hc.cw.below.size fun k e => by cases e; exact hm.1)
 ·obtain ⟨h1, h2, h3⟩ := hc.cs.bxH i hi
  refine ⟨h1, ?_, h3⟩
  show addV s.V g o' (bl i) = none
  rw [addV_off (fun e => by rw [e, hg] at h2; cases h2)]; exact h2
 ·obtain ⟨h1, h2⟩ := hc.cs.HV b r hr
  refine ⟨?_, h2⟩
  show addV s.V g o' b = none
  rw [addV_off (fun e => by rw [e, hg] at h1; cases h1)]; exact h1
 ·show addV s.V g o' k = some ob
  rw [addV_off (fun e => by rw [e, hV0g] at hk; cases hk)]
  exact hc.cs.V0 k ob hk
 ·by_cases e : k = g
  ·subst e
   have hk' : addV s.V k o' k = some ob := hk
   rw [addV_on] at hk'
   cases hk'
   exact .inr ⟨hm.1, ho⟩
  ·have hk' : addV s.V g o' k = some ob := hk
   rw [addV_off e] at hk'
   exact hc.cs.frm k ob hk'
end
section
variable {Γ : Cx} {P : Program} {ops : Array Oper} {K : XS → Prop} {s : XS} {i : Nat}
def OpZ (Γ : Cx) (P : Program) (ops : Array Oper) (i : Nat) (K : XS → Prop) (s : XS) : Prop :=
 ∀ (bl : Nat → Nat) (a : Act) (w : World) (Q : Exit → Act → World → Prop), Conc Γ bl s a w → wpOp P ops Q i (fun a' w' => ∃ bl' s', Conc Γ bl' s' a' w' ∧ K s') a w
def seqZ (Γ : Cx) (P : Program) (ops : Array Oper) (M : Nat → Bool) : Nat → List Oper → (XS → Prop) → XS → Prop
 | _, [], K, s => K s
 | k, o :: l, K, s => if M k = true then OpZ Γ P ops k (seqZ Γ P ops M (k + 1) l K) s else stepX P ops o (seqZ Γ P ops M (k + 1) l K) s
theorem seqZ_ops {Q : Exit → XS → Prop} {M : Nat → Bool} : ∀ (l : List Oper) (k : Nat) (K : XS → Prop), (∀ i o, l[i]? = some o → ops[k + i]? = some o) → ∀ bl s a w, Conc Γ bl s a w → guardsIn ops s.t.length = true → seqZ Γ P ops M k l K s →
  (∀ bl s a w, Conc Γ bl s a w → K s → wpOps P ops (XQ Γ (onlyN Q)) [] a w) → wpOps P ops (XQ Γ (onlyN Q)) (List.range' k l.length) a w
 | [], k, K, _, bl, s, a, w, hc, hg, h, hk => by simpa using hk bl s a w hc h
 | o :: l, k, K, hi, bl, s, a, w, hc, hg, h, hk => by
  have ho : ops[k]? = some o := by simpa using hi 0 o (by simp)
  have hi' : ∀ i o', l[i]? = some o' → ops[k + 1 + i]? = some o' := fun i o' h' => by
   have := hi (i + 1) o' (by simpa using h')
   rw [show k + 1 + i = k + (i + 1) by omega]; exact this
  simp only [List.length_cons, List.range'_succ]
  rw [wpOps_cons]
  unfold seqZ at h
  by_cases hM : M k = true
  ·rw [if_pos hM] at h
   refine wpOp_mono ?_ (wpOp_size hc.len (h bl a w _ hc))
   rintro a' w' ⟨hsz, bl', s', hc', hk'⟩
   exact seqZ_ops l (k + 1) K hi' bl' s' a' w' hc' (by rw [← hc'.len, hsz]; exact hg) hk' hk
  ·rw [if_neg hM] at h
   refine wpOp_mono ?_ (wpOp_size hc.len (stepX_wp ho (guardsIn_spec hg ho) hc h (XQ Γ (onlyN Q))))
   rintro a' w' ⟨hsz, bl', s', hc', _, hk'⟩
   exact seqZ_ops l (k + 1) K hi' bl' s' a' w' hc' (by rw [← hc'.len, hsz]; exact hg) hk' hk
theorem XWP.regZ {id : Nat} {Q : Exit → XS → Prop} (M : Nat → Bool) (hg : guardsIn ops s.t.length = true) (h : seqZ Γ P ops M 0 ops.toList (fun s' => Q .normal s') s) : XWP Γ P (.region id ops false) Q s := by
 intro bl a w hc
 have hnd : noDefer ops = true := by unfold guardsIn at hg; rw [Bool.and_eq_true] at hg; exact hg.1
 refine wpIn_mono (wpIn_region (wpOps_in onlyN_out hnd _ _ _ ?_)) (onlyN_all (Q := Q))
 rw [List.range_eq_range', ← Array.length_toList]
 exact seqZ_ops ops.toList 0 _ (fun i o ho => by rw [Nat.zero_add, ← Array.getElem?_toList]; exact ho) bl s a w hc hg h fun bl s a w hc hk => ⟨bl, s, hc, hk⟩
theorem seqZ_x {M : Nat → Bool} {k : Nat} {o : Oper} {l : List Oper} (hM : M k = false) (h : seqX P ops [o] (seqZ Γ P ops M (k + 1) l K) s) : seqZ Γ P ops M k (o :: l) K s := by
 unfold seqZ
 rw [if_neg (by rw [hM]; decide)]
 exact h
theorem seqZ_z {M : Nat → Bool} {k : Nat} {o : Oper} {l : List Oper} (hM : M k = true) (h : OpZ Γ P ops k (seqZ Γ P ops M (k + 1) l K) s) : seqZ Γ P ops M k (o :: l) K s := by
 unfold seqZ
 rw [if_pos hM]
 exact h
theorem seqZ_nil {M : Nat → Bool} {k : Nat} (h : K s) : seqZ Γ P ops M k [] K s := h
theorem opz_of {o : Oper} (hoi : ops.toList[i]? = some o) (hg : o.guard = none) (h : ∀ bl a w, Conc Γ bl s a w → ∃ v w' s1, (execOp a.eval o).run P w = .ok (.value v) w' ∧ Conc Γ bl s1 a w' ∧ K (s1.put o.dst (.v v))) : OpZ Γ P ops i K s := by
 intro bl a w Q hc
 rw [Array.getElem?_toList] at hoi
 obtain ⟨v, w', s1, h1, h2, h3⟩ := h bl a w hc
 unfold wpOp
 simp only [hoi]
 rw [if_pos (by unfold Region.wanted; rw [hg])]
 refine .inl ?_
 unfold Oper.wp
 rw [h1]
 exact ⟨bl, _, h2.put o.dst (.v v) trivial, h3⟩
section
variable {d : Option Tmp} {ty : TypeId} {pos : String} {af : Array Edge} {t kt e : TypeId} {g r : Nat} {l : List (Int × Value)} {x y z : Operand} {k : Int} {u v : Value}
theorem ev_val {bl : Nat → Nat} {a : Act} {w : World} (hc : Conc Γ bl s a w) (h : s.ev x = .v v) : a.eval x = v := by rw [hc.ev, h]; rfl
theorem opz_make (hoi : ops.toList[i]? = some ⟨d, .makeMap t none, ty, pos, af, none⟩) (hV0 : Γ.V0.sub Γ.w0) (hK : ∀ g, s.V g = none → s.H g = none → Γ.Mine g → K ((⟨s.t, s.bx, s.H, addV s.V g (mapO [])⟩ : XS).put d (.v (.map (some g))))) : OpZ Γ P ops i K s :=
 opz_of hoi rfl fun bl a w hc => by
  obtain ⟨h1, h2, h3, h4⟩ := hc.newV hV0 (mapO []) rfl
  exact ⟨_, _, _, by simp [execOp, run_makeZ], h1, hK _ h2 h3 h4⟩
theorem opz_lookup (hoi : ops.toList[i]? = some ⟨d, .lookup t x y false, ty, pos, af, none⟩) (ht : P.underlying t = some (.map kt e)) (hk : P.underlying kt = some (.int .i64)) (hz : ∀ w, (zeroValue e).run P w = .ok u w) (hx : s.ev x = .v (.map (some g))) (hy : s.ev y = .v (.int .i64 k)) (hb : s.V g = some (mapO l))
  (hK : K (s.put d (.v ((mget l k).getD u)))) : OpZ Γ P ops i K s :=
 opz_of hoi rfl fun bl a w hc => by
  refine ⟨_, w, s, ?_, hc, hK⟩
  simp [execOp, ev_val hc hx, ev_val hc hy, run_lookupZ ht hk (hz w) (hc.cw.view g _ hb) k]
theorem opz_len (hoi : ops.toList[i]? = some ⟨d, .call ⟨.builtin .len, #[x], #[t]⟩, ty, pos, af, none⟩) (ht : P.underlying t = some (.map kt e)) (hx : s.ev x = .v (.map (some g))) (hb : s.V g = some (mapO l))
  (hK : K (s.put d (.v (.int .i64 l.length)))) : OpZ Γ P ops i K s :=
 opz_of hoi rfl fun bl a w hc => by
  refine ⟨_, w, s, ?_, hc, hK⟩
  simp [execOp, resolve, invoke, builtin, ev_val hc hx, run_lenZ ht (hc.cw.view g _ hb)]
def itO (g n : Nat) (seen : Array Nat) : Obj := .mapIter (some g) n seen n
theorem opz_range (hoi : ops.toList[i]? = some ⟨d, .range t x, ty, pos, af, none⟩) (hV0 : Γ.V0.sub Γ.w0) (ht : P.underlying t = some (.map kt e)) (hx : s.ev x = .v (.map (some g))) (hb : s.V g = some (mapO l))
  (hK : ∀ r, s.V r = none → s.H r = none → Γ.Mine r → K ((⟨s.t, s.bx, s.H, addV s.V r (itO g l.length #[])⟩ : XS).put d (.v (.pointer (some ⟨r, 0, none⟩))))) : OpZ Γ P ops i K s :=
 opz_of hoi rfl fun bl a w hc => by
  obtain ⟨h1, h2, h3, h4⟩ := hc.newV hV0 (itO g l.length #[]) rfl
  refine ⟨_, _, _, ?_, h1, hK _ h2 h3 h4⟩
  simp [execOp, ev_val hc hx, run_rangeZ ht (hc.cw.view g _ hb)]
  rfl
theorem ents_born : ∀ (l : List (Int × Value)) (n : Nat) (x : MapEntry), x ∈ ents l n → n ≤ x.born ∧ x.born < n + l.length ∧ ∃ k v, l[x.born - n]? = some (k, v) ∧ x = ⟨.int .i64 k, v, x.born⟩
 | [], n, x, h => by simp [ents] at h
 | (k, v) :: l, n, x, h => by
  unfold ents at h
  rcases List.mem_cons.1 h with rfl | h
  ·exact ⟨Nat.le_refl _, by simp, k, v, by simp, rfl⟩
  ·obtain ⟨h1, h2, k', v', h3, h4⟩ := ents_born l (n + 1) x h
   refine ⟨by omega, by simp; omega, k', v', ?_, h4⟩
   rw [show x.born - n = (x.born - (n + 1)) + 1 by omega]; simpa using h3
theorem opz_next {seen : Array Nat} (hoi : ops.toList[i]? = some ⟨d, .next x false, ty, pos, af, none⟩) (hV0 : Γ.V0.sub Γ.w0) (hx : s.ev x = .v (.pointer (some ⟨r, 0, none⟩))) (hb : s.V g = some (mapO l)) (hr : s.V r = some (itO g l.length seen)) (hm : Γ.Mine r)
  (hE : (∀ j, j < l.length → j ∈ seen) → K (s.put d (.v (.tuple #[.bool false]))))
  (hN : ∀ j k v, l[j]? = some (k, v) → j ∉ seen → K ((⟨s.t, s.bx, s.H, addV s.V r (itO g l.length (seen.push j))⟩ : XS).put d (.v (.tuple #[.bool true, .int .i64 k, v])))) : OpZ Γ P ops i K s :=
 opz_of hoi rfl fun bl a w hc => by
  have hwr := hc.cw.view r _ hr
  have hwb := hc.cw.view g _ hb
  rcases run_next_at (P := P) w ty r g l.length l.length seen (ents l 0).toArray l.length hwr hwb (fun x hx => by have := ents_born l 0 x (by simpa using hx); omega) (Nat.le_refl _) with ⟨h1, h2⟩ | ⟨en, h1, w1, h2, h3⟩
  ·refine ⟨_, w, s, ?_, hc, hE fun j hj => ?_⟩
   ·simp [execOp, ev_val hc hx, h2]
   ·refine Classical.byContradiction fun hne => ?_
    obtain ⟨⟨k, v⟩, hk⟩ : ∃ p, l[j]? = some p := ⟨_, List.getElem?_eq_getElem hj⟩
    have hg := ents_get (n := 0) hk
    have : (⟨.int .i64 k, v, 0 + j⟩ : MapEntry) ∈ (leftOf (ents l 0).toArray seen).toList := by
     unfold leftOf
     simp only [Array.toList_filter, List.mem_filter]
     refine ⟨List.mem_of_getElem? hg, ?_⟩
     simp [hne]
    rw [Array.eq_empty_of_size_eq_zero h1] at this
    simp at this
  ·unfold leftOf at h1
   simp only [Array.toList_filter, List.mem_filter] at h1
   obtain ⟨m1, m2⟩ := h1
   obtain ⟨_, e2, k, v, e3, e4⟩ := ents_born l 0 en m1
   rw [Nat.sub_zero] at e3
   have hns : en.born ∉ seen := by simpa using m2
   have hc1 : Conc Γ bl s a w1 := by
    rcases h2 with rfl | rfl
    ·exact hc
    ·exact hc.drew
   refine ⟨_, _, _, ?_, hc1.turnV hV0 hr hm (itO g l.length (seen.push en.born)) rfl, hN en.born k v e3 hns⟩
   simp only [execOp, ev_val hc hx, Sem.run_bind, h3]
   rw [e4]
   rfl
theorem opz_entry {seen : Array Nat} {j : Nat} (hoi : ops.toList[i]? = some ⟨d, .entry x, ty, pos, af, none⟩) (hx : s.ev x = .v (.pointer (some ⟨r, 0, none⟩))) (hb : s.V g = some (mapO l)) (hr : s.V r = some (itO g l.length (seen.push j))) (hj : l[j]? = some (k, v))
  (hK : K (s.put d (.v (.tuple #[.int .i64 k, v])))) : OpZ Γ P ops i K s :=
 opz_of hoi rfl fun bl a w hc => by
  refine ⟨_, w, s, ?_, hc, hK⟩
  have hg := ents_get (n := 0) hj
  rw [Nat.zero_add] at hg
  have hnd : ((ents l 0).toArray.toList.map (·.born)).Nodup := by
   have : ∀ (l : List (Int × Value)) (n : Nat), ((ents l n).map (·.born)).Nodup := by
    intro l
    induction l with
    | nil => intro n; simp [ents]
    | cons p l ih =>
     intro n
     obtain ⟨k, v⟩ := p
     simp only [ents, List.map_cons, List.nodup_cons]
     refine ⟨fun hm => ?_, ih (n + 1)⟩
     obtain ⟨x, hx, hb⟩ := List.mem_map.1 hm
     have := (ents_born l (n + 1) x hx).1
     omega
   exact this l 0
  have := run_entry_at (P := P) w r g l.length seen (ents l 0).toArray l.length ⟨.int .i64 k, v, j⟩ (hc.cw.view r _ hr) (hc.cw.view g _ hb) (List.mem_of_getElem? hg) hnd
  simp [execOp, ev_val hc hx, this]
theorem CW.base {bl : Nat → Nat} {bx : List (List Value)} {H Hb : Heap} {V Vb : View} (hb : ∀ b r, Hb b = some r → H b = some r) (hv : Vb.le V) (w : World) (h : CW Γ bl bx H V w) : CW Γ bl [] Hb Vb w :=
 ⟨fun i vs hi => by simp at hi, fun b r hr => h.row b r (hb b r hr), fun b o ho => h.view b o (hv b o ho), h.below⟩
theorem seqM_lookup {M : Nat → Bool} {Hb : Heap} {Vb : View} {n : Nat} {q : List Nat} {KM KX : XS → Prop} (ho : ops.toList[n]? = some ⟨d, .lookup t x y false, ty, pos, af, none⟩) (hc : closes ops n = false) (hM : M n = true) (ht : P.underlying t = some (.map kt e)) (hk : P.underlying kt = some (.int .i64)) (hz : ∀ w, (zeroValue e).run P w = .ok u w)
  (hx : s.ev x = .v (.map (some g))) (hy : s.ev y = .v (.int .i64 k)) (hg : s.V g = some (mapO l)) (hb : ∀ b r, Hb b = some r → s.H b = some r) (hv : Vb.le s.V)
  (h : seqM Γ P ops M Hb Vb q KM KX (s.put d (.v ((mget l k).getD u)))) : seqM Γ P ops M Hb Vb (n :: q) KM KX s := by
 unfold seqM
 simp only [ho, hc]
 rw [if_neg (by simp)]
 unfold stepM
 rw [if_pos hM]
 refine .inl ⟨rfl, fun bl a w Q hV0 hcc => ?_⟩
 have hoi : ops[n]? = some ⟨d, .lookup t x y false, ty, pos, af, none⟩ := by rw [← Array.getElem?_toList]; exact ho
 have hrun : (execOp a.eval ⟨d, .lookup t x y false, ty, pos, af, none⟩).run P w = .ok (.value ((mget l k).getD u)) w := by
  simp [execOp, ev_val hcc hx, ev_val hcc hy, run_lookupZ ht hk (hz w) (hcc.cw.view g _ hg) k]
 unfold wpOp
 simp only [hoi]
 rw [if_pos (by unfold Region.wanted; rfl)]
 refine .inl ?_
 unfold Oper.wp
 rw [hrun]
 exact ⟨_, hcc.put d (.v ((mget l k).getD u)) trivial, fun z hz => by rw [XS.put_bx, XS.put_H, XS.put_V] at hz; exact CW.base hb hv z hz, h⟩
theorem seqM_update {M : Nat → Bool} {Hb : Heap} {Vb : View} {n : Nat} {q : List Nat} {KM KX : XS → Prop} (ho : ops.toList[n]? = some ⟨d, .mapUpdate t x y z, ty, pos, af, none⟩) (hc : closes ops n = false) (hM : M n = true) (ht : P.underlying t = some (.map kt e)) (hk : P.underlying kt = some (.int .i64))
  (hx : s.ev x = .v (.map (some g))) (hy : s.ev y = .v (.int .i64 k)) (hvz : s.ev z = .v v) (hg : s.V g = some (mapO l)) (hm : Γ.Mine g) (hb : ∀ b r, Hb b = some r → s.H b = some r) (hv : Vb.le s.V) (hvg : Vb g = none)
  (h : seqM Γ P ops M Hb Vb q KM KX ((⟨s.t, s.bx, s.H, addV s.V g (mapO (mput l k v))⟩ : XS).put d (.v undef))) : seqM Γ P ops M Hb Vb (n :: q) KM KX s := by
 unfold seqM
 simp only [ho, hc]
 rw [if_neg (by simp)]
 unfold stepM
 rw [if_pos hM]
 refine .inl ⟨rfl, fun bl a w Q hV0 hcc => ?_⟩
 have hoi : ops[n]? = some ⟨d, .mapUpdate t x y z, ty, pos, af, none⟩ := by rw [← Array.getElem?_toList]; exact ho
 have hrun : (execOp a.eval ⟨d, .mapUpdate t x y z, ty, pos, af, none⟩).run P w = .ok .skip (w.putObj g (mapO (mput l k v))) := by
  simp [execOp, ev_val hcc hx, ev_val hcc hy, ev_val hcc hvz, run_updateZ ht hk (hcc.cw.view g _ hg) k v]
 have hc' := hcc.turnV hV0 hg hm (mapO (mput l k v)) rfl
 unfold wpOp
 simp only [hoi]
 rw [if_pos (by unfold Region.wanted; rfl)]
 refine .inl ?_
 unfold Oper.wp
 rw [hrun]
 refine ⟨_, hc'.put d (.v undef) trivial, fun z hz => ?_, h⟩
 rw [XS.put_bx, XS.put_H, XS.put_V] at hz
 refine CW.base hb (fun b o ho => ?_) z hz
 show addV s.V g _ b = some o
 rw [addV_off (fun e => by rw [e, hvg] at ho; cases ho)]
 exact hv b o ho
end
end
end Go.Proofs.YtobjjdnfgamgcaaGreat
end
section
namespace Go.Proofs.YtobjjdnfgamgcaaGreat
open Go Go.RowKit
attribute [local irreducible] XWP Spec SpecO XPub XCall seqX clX apX stX ldX iaX slX
def Apart (v u : Value) : Prop := ∀ g, v.ownBlock = some g → u.ownBlock ≠ some g
theorem Apart.symm {v u : Value} (h : Apart v u) : Apart u v := fun g h1 h2 => h g h2 h1
theorem keep_apart {H H' : Heap} {V : View} {e e2 sz sz2 n nb : Nat} {v v' sb : Value} {xs cb : List Value} (hb : Own H e2 sz2 sb nb cb) (hd : Apart v sb) (hres : AppRes H V e sz v n xs v' H') : Own H' e2 sz2 sb nb cb ∧ Apart v' sb := by
 rcases own_parts hb with ⟨rfl, rfl, rfl⟩ | ⟨g, cap, rfl, hg, hle, hcap, hl⟩
 ·exact ⟨own_nil, fun g h1 h2 => by cases h2⟩
 ·have hne : v'.ownBlock ≠ some g := fun e => by
   rcases hres.2.2 g e with h | ⟨h, _⟩
   ·exact hd g h rfl
   ·rw [hg] at h; cases h
  refine ⟨⟨hl, .inr ⟨g, cap, rfl, by rw [hres.2.1 g hne]; exact hg, hle, hcap⟩⟩, fun g' h1 h2 => ?_⟩
  have : g = g' := by simpa [Value.ownBlock] using h2
  subst this
  exact hne h1
abbrev RowR (V : View) (cells : List Value) (rs : List Rn) : Prop := RowK 9 rnE V cells rs
structure GMem (H : Heap) (V : View) (ml : List (Int × Value)) (gs : List (Int × List Rn)) : Prop where
 keys : ml.map (·.1) = gs.map (·.1)
 mem : ∀ (i : Nat) (k : Int) (v : Value) (k' : Int) (rs : List Rn), ml[i]? = some (k, v) → gs[i]? = some (k', rs) → 0 < rs.length ∧ ∃ cells, Own H 51 9 v rs.length cells ∧ RowR V cells rs
 dis : ∀ (i j : Nat) (k : Int) (v : Value) (k' : Int) (v' : Value), i ≠ j → ml[i]? = some (k, v) → ml[j]? = some (k', v') → Apart v v'
theorem GMem.empty (H : Heap) (V : View) : GMem H V [] [] := ⟨rfl, fun i k v k' rs h => by simp at h, fun i j k v k' v' _ h => by simp at h⟩
theorem GMem.len {H : Heap} {V : View} {ml : List (Int × Value)} {gs : List (Int × List Rn)} (h : GMem H V ml gs) : ml.length = gs.length := by
 have := congrArg List.length h.keys
 simpa using this
theorem GMem.fresh {H : Heap} {V : View} {ml : List (Int × Value)} {gs : List (Int × List Rn)} (h : GMem H V ml gs) {b : Nat} {r : Option Row} (hb : H b = none) : GMem (upd H b r) V ml gs :=
 ⟨h.keys, fun i k v k' rs h1 h2 => by
  obtain ⟨h0, cells, ho, hr⟩ := h.mem i k v k' rs h1 h2
  exact ⟨h0, cells, own_upd ho hb, hr⟩, h.dis⟩
theorem GMem.look {H : Heap} {V : View} {ml : List (Int × Value)} {gs : List (Int × List Rn)} (h : GMem H V ml gs) (k : Int) :
  ∃ v rs cells, (mget ml k).getD (.slice none 0 0) = v ∧ (mget gs k).getD [] = rs ∧ Own H 51 9 v rs.length cells ∧ RowR V cells rs ∧
   ((mfind ml k 0 = none ∧ mfind gs k 0 = none ∧ v = .slice none 0 0 ∧ rs = []) ∨ ∃ i, mfind ml k 0 = some (i, v) ∧ mfind gs k 0 = some (i, rs) ∧ 0 < rs.length) := by
 have hk := mfind_keys k 0 h.keys
 rw [← mfind_get ml k 0, ← mfind_get gs k 0]
 cases h1 : mfind ml k 0 with
 | none =>
  rw [h1] at hk
  cases h2 : mfind gs k 0 with
  | none => exact ⟨_, _, [], rfl, rfl, own_nil, RowK.nil V, .inl ⟨rfl, rfl, rfl, rfl⟩⟩
  | some y => rw [h2] at hk; simp at hk
 | some x =>
  rw [h1] at hk
  cases h2 : mfind gs k 0 with
  | none => rw [h2] at hk; simp at hk
  | some y =>
   rw [h2] at hk
   obtain ⟨i, v⟩ := x
   obtain ⟨i', rs⟩ := y
   have : i = i' := by simpa using hk
   subst this
   obtain ⟨_, _, a3, _⟩ := mfind_some h1
   obtain ⟨_, _, b3, _⟩ := mfind_some h2
   obtain ⟨h0, cells, ho, hr⟩ := h.mem _ _ _ _ _ a3 b3
   exact ⟨v, rs, cells, rfl, rfl, ho, hr, .inr ⟨i, rfl, rfl, h0⟩⟩
theorem GMem.put {H H' : Heap} {V V2 : View} {ml : List (Int × Value)} {gs : List (Int × List Rn)} (h : GMem H V ml gs) {k : Int} {v v' : Value} {rs : List Rn} {cells cs : List Value} {r : Rn} (hr : RowR V cells rs)
  (hc : (mfind ml k 0 = none ∧ mfind gs k 0 = none ∧ v = .slice none 0 0 ∧ rs = []) ∨ ∃ i, mfind ml k 0 = some (i, v) ∧ mfind gs k 0 = some (i, rs) ∧ 0 < rs.length) (hx : ElK 9 rnE V cs r) (hres : AppRes H V2 51 9 v (rs.length + 1) (cells ++ cs) v' H') : GMem H' V (mput ml k v') (mput gs k (rs ++ [r])) := by
 have hl := h.len
 have hnew : 0 < (rs ++ [r]).length ∧ ∃ cells', Own H' 51 9 v' (rs ++ [r]).length cells' ∧ RowR V cells' (rs ++ [r]) := by
  have e : (rs ++ [r]).length = rs.length + 1 := by simp
  rw [e]
  exact ⟨by omega, _, hres.1, hr.snoc hx⟩
 rcases hc with ⟨h1, h2, rfl, rfl⟩ | ⟨i0, h1, h2, h0⟩
 ·rw [mfind_none h1, mfind_none h2]
  have hap : ∀ (j : Nat) k' u, ml[j]? = some (k', u) → Apart v' u := fun j k' u hj => by
   have hjl := (List.getElem?_eq_some_iff.1 hj).1
   obtain ⟨⟨k2, rs2⟩, hg⟩ : ∃ p, gs[j]? = some p := ⟨_, List.getElem?_eq_getElem (by omega)⟩
   obtain ⟨_, c2, ho, _⟩ := h.mem j k' u k2 rs2 hj hg
   exact (keep_apart ho (fun g hg => by cases hg) hres).2
  refine ⟨by rw [List.map_append, List.map_append, h.keys]; rfl, fun i k1 v1 k2 rs1 e1 e2 => ?_, fun i j k1 v1 k2 v2 hne e1 e2 => ?_⟩
  ·by_cases hi : i < ml.length
   ·rw [List.getElem?_append_left hi] at e1
    rw [List.getElem?_append_left (by omega)] at e2
    obtain ⟨g0, c2, ho, hro⟩ := h.mem i k1 v1 k2 rs1 e1 e2
    exact ⟨g0, c2, (keep_apart ho (fun g hg => by cases hg) hres).1, hro⟩
   ·have := (List.getElem?_eq_some_iff.1 e1).1
    have ei : i = ml.length := by simp at this; omega
    subst ei
    rw [List.getElem?_append_right (Nat.le_refl _), Nat.sub_self] at e1
    rw [hl, List.getElem?_append_right (Nat.le_refl _), Nat.sub_self] at e2
    simp at e1 e2
    obtain ⟨_, rfl⟩ := e1
    obtain ⟨_, rfl⟩ := e2
    exact hnew
  ·have li := (List.getElem?_eq_some_iff.1 e1).1
   have lj := (List.getElem?_eq_some_iff.1 e2).1
   simp only [List.length_append, List.length_singleton] at li lj
   by_cases hi : i < ml.length
   ·rw [List.getElem?_append_left hi] at e1
    by_cases hj : j < ml.length
    ·rw [List.getElem?_append_left hj] at e2
     exact h.dis i j k1 v1 k2 v2 hne e1 e2
    ·rw [show j = ml.length by omega, List.getElem?_append_right (Nat.le_refl _), Nat.sub_self] at e2
     simp at e2
     obtain ⟨_, rfl⟩ := e2
     exact (hap i k1 v1 e1).symm
   ·rw [show i = ml.length by omega, List.getElem?_append_right (Nat.le_refl _), Nat.sub_self] at e1
    simp at e1
    obtain ⟨_, rfl⟩ := e1
    rw [List.getElem?_append_left (by omega)] at e2
    exact hap j k2 v2 e2
 ·obtain ⟨_, a2, a3, a4⟩ := mfind_some h1
  obtain ⟨_, b2, b3, b4⟩ := mfind_some h2
  rw [Nat.sub_zero] at a3 a4 b3 b4
  rw [Nat.zero_add] at a2 b2
  rw [a4, b4]
  have hap : ∀ (j : Nat) k' u, j ≠ i0 → ml[j]? = some (k', u) → Apart v u := fun j k' u hj e => h.dis i0 j k v k' u (fun e => hj e.symm) a3 e
  refine ⟨?_, fun i k1 v1 k2 rs1 e1 e2 => ?_, fun i j k1 v1 k2 v2 hne e1 e2 => ?_⟩
  ·rw [List.map_set, List.map_set, h.keys]
  ·by_cases hi : i = i0
   ·subst hi
    rw [List.getElem?_set_self a2] at e1
    rw [List.getElem?_set_self b2] at e2
    cases e1
    cases e2
    exact hnew
   ·rw [List.getElem?_set_ne (fun e => hi e.symm)] at e1 e2
    obtain ⟨g0, c2, ho, hro⟩ := h.mem i k1 v1 k2 rs1 e1 e2
    exact ⟨g0, c2, (keep_apart ho (hap i k1 v1 hi e1) hres).1, hro⟩
  ·have key : ∀ (j : Nat) k' u, j ≠ i0 → ml[j]? = some (k', u) → Apart v' u := fun j k' u hj e => by
    have hjl := (List.getElem?_eq_some_iff.1 e).1
    obtain ⟨⟨k2, rs2⟩, hg⟩ : ∃ p, gs[j]? = some p := ⟨_, List.getElem?_eq_getElem (by omega)⟩
    obtain ⟨_, c2, ho, _⟩ := h.mem j k' u k2 rs2 e hg
    exact (keep_apart ho (hap j k' u hj e) hres).2
   by_cases hi : i = i0
   ·subst hi
    rw [List.getElem?_set_self a2] at e1
    rw [List.getElem?_set_ne hne] at e2
    cases e1
    exact key j k2 v2 (fun e => hne e.symm) e2
   ·rw [List.getElem?_set_ne (fun e => hi e.symm)] at e1
    by_cases hj : j = i0
    ·subst hj
     rw [List.getElem?_set_self a2] at e2
     cases e2
     exact (key i k1 v1 hi e1).symm
    ·rw [List.getElem?_set_ne (fun e => hj e.symm)] at e2
     exact h.dis i j k1 v1 k2 v2 hne e1 e2
end Go.Proofs.YtobjjdnfgamgcaaGreat
end
