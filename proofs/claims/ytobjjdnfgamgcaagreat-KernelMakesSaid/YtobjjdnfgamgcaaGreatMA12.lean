/- The transition matrices of the four kernels over executions agree with the reference, errors included, at every input. (part 12 of 13) -/
import Derived.OrdersHeld
import Derived.Below
import Derived.Tactics
import Derived.KernelRfl
import Derived.RangeFuncCalls
import Derived.RangeFuncFrom
import Derived.RangeFuncLeaves
import Derived.OrdersIn
import Derived.Laws.AppendOwn
import Derived.Laws.MakeOwn
import Derived.Laws.CopyRow
import Derived.Laws.Cells
import Derived.Laws.World
import Derived.Laws.Alloc2
import Derived.Laws.NewBlocks
import Derived.Maps.AppendAt
import Derived.Test.YtobjjdnfgamgcaaGreatProg
import Init.Data.List.Lemmas
import Init.Omega
import Derived.WalkKit
import Derived.ProofKit
import Derived.OpenShut
import Derived.ChangeOld
import Derived.SizedLaws
import Derived.ChangeSlices
import Derived.ChangeArms
import Derived.Deep.Slices
import Derived.MapKept
import Derived.Maps.RangeRun
import Derived.Shelf.SlSortCmp.WholeK
import Derived.Lib.QuietBelow
import Derived.Test.YtobjjdnfgamgcaaGreatMA11
section
namespace Go.Proofs.YtobjjdnfgamgcaaGreat
open Go Go.RowKit
set_option linter.unusedSimpArgs false
set_option linter.unusedVariables false
attribute [local irreducible] XWP Spec SpecO XPub XCall seqX clX apX stX ldX iaX slX
theorem suff_ref (l : List Rn) (i k : Nat) : ltQ (propQ (dsOf l i) (dsOf l k)) (propQ (dsOf l k) (dsOf l i) * wOf l k / wOf l i) = suffQ l i k := by
  unfold suffQ
  rw [Rat.div_def, Rat.div_def, Rat.mul_assoc]
set_option maxHeartbeats 4000000 in
set_option maxRecDepth 100000 in
theorem rmove_c (V : View) (i k : Nat) (c : Int) (x : Value) (l : List Rn) (od : Nat → Nat → Rat) (hx : SlK 9 rnE V x l) (hs : ∀ r ∈ l, r.small) (ll : l.length ≤ 60) (hi : i < l.length) (hk : k < l.length) (hod : OfR l c od) :
    Spec Tryz.prog 115 [x, .int .i64 (i : Int), .int .i64 (k : Int), .int .i64 c] V fun v' V' => RatC V' v' (od i k) := by
  obtain ⟨A, cL, rfl, _, _⟩ := hx.form
  obtain ⟨bL, oL, rfl⟩ := SlK.addr hx (by omega)
  obtain ⟨r, hr⟩ : ∃ r, l[i]? = some r := ⟨_, List.getElem?_eq_getElem hi⟩
  obtain ⟨t, ht⟩ : ∃ r, l[k]? = some r := ⟨_, List.getElem?_eq_getElem hk⟩
  have h1 := hs r (List.mem_of_getElem? hr)
  have h2 := hs t (List.mem_of_getElem? ht)
  have hl1 := h1.len
  have hl2 := h2.len
  obtain ⟨u0, u1, u2, u3, u4, dv1, m1, x1, y1, e1, _, ew1, la1, _, lc1⟩ := hx.rnAt hr h1.ok
  obtain ⟨v0, v1, v2, v3, v4, dv2, m2, x2, y2, e2, _, ew2, la2, _, lc2⟩ := hx.rnAt ht h2.ok
  have es1 := sOf_at hr
  have es2 := sOf_at ht
  have eq2 := qOf_at ht
  have eds1 := dsOf_at hr
  have eds2 := dsOf_at ht
  have ewt1 := wOf_at hr
  have ewt2 := wOf_at ht
  rw [← ewt1] at ew1
  rw [← ewt2] at ew2
  have hq1 := sOf_small hs hi
  have hq2 := sOf_small hs hk
  have hq3 := qOf_small hs hk
  have hw1 := wOf_small hs hi
  have hw2 := wOf_small hs hk
  have n1 : sOf l i ≠ 0 := fun e => by have := hq1.2; rw [e] at this; exact absurd this (by decide)
  have n2 : wOf l i ≠ 0 := fun e => by have := hw1.2; rw [e] at this; exact absurd this (by decide)
  refine (Spec.enter Tryz.func115 rfl fun Γ => ?_)
  simp only [Tryz.ntmps115, List.map_cons, List.map_nil, List.length_cons, List.length_nil, Nat.reduceAdd, Nat.reduceSub, List.replicate_succ, List.replicate_zero, List.cons_append, List.nil_append]
  refine Gx.a (by kernel_rfl) fun K hK => ?_
  simp only [XA, XB]
  refine hK _ ?_
  refine XWP.seq ?_
  refine Gx.a (by kernel_rfl) fun K hK => ?_
  simp only [XA]
  refine hK _ ?_
  refine XWP.block ?_
  by_cases c0 : c = 0
  · obtain rfl : od = anewQ l := by
      rcases hod with ⟨_, e⟩ | ⟨e, _⟩ | ⟨e, _⟩ | ⟨e, _⟩
      · exact e
      all_goals omega
    have b0 : decide (c = 0) = true := decide_eq_true c0
    refine Gx.a (by kernel_rfl) fun K hK => ?_
    simp only [XA, XB, b0]
    refine hK _ ?_
    refine Gx.t rfl ?_
    have qb1 := hq2.1.div hq1.1
    (refine XWP.drw [0, 1, 2, 3, 6, 7, 8, 9, 11, 12, 13, 14, 4, 5, 10, 15, 16, 17, 18, 19] (by kernel_rfl) (by kernel_rfl) (by kernel_rfl) fun K hK => ?_) <;> dsimp only [pickOps, List.getElem?_cons_zero, List.getElem?_cons_succ]
    simp only [XU, XA]
    refine ⟨by omega, by omega, ld_mem (la2 _) ?_⟩
    simp only [XU, XA]
    refine ⟨by omega, by omega, ld_mem (la2 _) ?_⟩
    simp only [XU, XA]
    refine ⟨by omega, by omega, ld_mem (la1 _) ?_⟩
    simp only [XA]
    refine call_go (by kernel_rfl) rfl (rprior1_c _ _ t e2 (by omega) h2.good) fun vA VA hVA hA => ?_
    rw [← eq2] at hA
    simp only [XA]
    refine call_go (by kernel_rfl) rfl (pone_c _) fun vB VB hVB hB => ?_
    simp only [XA]
    have hVAB := View.le_trans hVA hVB
    refine call_go (by kernel_rfl) rfl (rscores1_c _ _ t (e2.mono rnE_ok hVAB) h2) fun vC VC hVC hC => ?_
    rw [← es2] at hC
    simp only [XA]
    refine call_go (by kernel_rfl) rfl (rscores1_c _ _ r ((e1.mono rnE_ok hVAB).mono rnE_ok hVC) h1) fun vD VD hVD hD => ?_
    rw [← es1] at hD
    simp only [XA]
    refine call_go (by kernel_rfl) rfl (rby_c _ _ _ _ _ (hC.mono hVD) hD (hq2.1.qf (by omega)) (hq1.1.qf (by omega)) n1) fun vE VE hVE hE => ?_
    simp only [XA]
    refine call_go (by kernel_rfl) rfl (rleast_c _ _ _ _ _ (((hB.mono hVC).mono hVD).mono hVE) hE ((QB_one 0).qf (by omega)) (qb1.qf (by omega))) fun vF VF hVF hF => ?_
    simp only [XA]
    have qb2 := QB_lt (QB_one 0) qb1
    refine call_go (by kernel_rfl) rfl (pmul_c _ _ _ _ _ (RatC.toV (((((hA.mono hVB).mono hVC).mono hVD).mono hVE).mono hVF) (hq3.1.qf (by omega))) (RatC.toV hF (qb2.qf (by omega))) (hq3.1.qf (by omega)) (qb2.qf (by omega))) fun vG VG hVG hG => ?_
    obtain ⟨xG, yG, rfl, p5, p6⟩ := hG.form
    simp only [XA]
    refine st_rat rfl rfl rfl p5 p6 ?_
    simp only [XA]
    refine hK _ (XWP.ret ?_)
    try simp only [thenX_ret, inBlockX_ret]
    exact ret_rat1 rfl rfl rfl hG
  have b0 : decide (c = 0) = false := decide_eq_false c0
  refine Gx.a (by kernel_rfl) fun K hK => ?_
  simp only [XA, XB, b0]
  refine hK _ ?_
  refine Gx.f rfl ?_
  by_cases c1 : c = 1
  · obtain rfl : od = suffQ l := by
      rcases hod with ⟨e, _⟩ | ⟨_, e⟩ | ⟨e, _⟩ | ⟨e, _⟩
      · omega
      · exact e
      all_goals omega
    have b1 : decide (c = 1) = true := decide_eq_true c1
    refine Gx.a (by kernel_rfl) fun K hK => ?_
    simp only [XA, XB, b1]
    refine hK _ ?_
    refine Gx.t rfl ?_
    have qb3 := propQ_QB h2.good hl1 hl2
    have qb4 := propQ_QB h1.good hl2 hl1
    have qb5 := qb4.mul hw2.1
    have qb6 := qb5.div hw1.1
    (refine XWP.drw [0, 1, 2, 3, 4, 5, 6, 7, 9, 10, 11, 12, 13, 14, 15, 16, 18, 19, 20, 21, 22, 24, 25, 26, 27, 28, 8, 17, 23, 29, 30, 31] (by kernel_rfl) (by kernel_rfl) (by kernel_rfl) fun K hK => ?_) <;> dsimp only [pickOps, List.getElem?_cons_zero, List.getElem?_cons_succ]
    simp only [XU, XA]
    refine ⟨by omega, by omega, ld_mem (la1 _) ?_⟩
    simp only [XU, XA]
    refine ⟨by omega, by omega, ld_mem (la2 _) ?_⟩
    simp only [XU, XA]
    refine ⟨by omega, by omega, ld_mem (la2 _) ?_⟩
    simp only [XU, XA]
    refine ⟨by omega, by omega, ld_mem (la1 _) ?_⟩
    simp only [XU, XA]
    refine ⟨by omega, by omega, ld_mem (lc2 _) ?_⟩
    simp only [XU, XA]
    refine ⟨by omega, by omega, ld_mem (lc1 _) ?_⟩
    simp only [XA]
    refine call_go (by kernel_rfl) rfl (rproposed_c _ _ _ r t e1 e2 h1 h2) fun vA VA hVA hA => ?_
    simp only [XA]
    refine call_go (by kernel_rfl) rfl (rproposed_c _ _ _ t r (e2.mono rnE_ok hVA) (e1.mono rnE_ok hVA) h2 h1) fun vB VB hVB hB => ?_
    simp only [XA]
    have hVAB := View.le_trans hVA hVB
    refine call_go (by kernel_rfl) rfl (pmul_c _ _ _ _ _ (RatC.toV hB (qb4.qf (by omega))) (RatC.toV (ew2.mono hVAB) (hw2.1.qf (by omega))) (qb4.qf (by omega)) (hw2.1.qf (by omega))) fun vC VC hVC hC => ?_
    simp only [XA]
    refine call_go (by kernel_rfl) rfl (rby_c _ _ _ _ _ hC ((ew1.mono hVAB).mono hVC) (qb5.qf (by omega)) (hw1.1.qf (by omega)) n2) fun vD VD hVD hD => ?_
    simp only [XA]
    refine call_go (by kernel_rfl) rfl (rleast_c _ _ _ _ _ (((hA.mono hVB).mono hVC).mono hVD) hD (qb3.qf (by omega)) (qb6.qf (by omega))) fun vE VE hVE hE => ?_
    obtain ⟨xG, yG, rfl, p5, p6⟩ := hE.form
    simp only [XA]
    refine st_rat rfl rfl rfl p5 p6 ?_
    simp only [XA]
    refine hK _ (XWP.ret ?_)
    try simp only [thenX_ret, inBlockX_ret]
    refine ret_rat1 rfl rfl rfl ?_
    have ez := suff_ref l i k
    rw [eds1, eds2] at ez
    rw [← ez]
    exact hE
  have b1 : decide (c = 1) = false := decide_eq_false c1
  refine Gx.a (by kernel_rfl) fun K hK => ?_
  simp only [XA, XB, b1]
  refine hK _ ?_
  refine Gx.f rfl ?_
  by_cases c2 : c = 2
  · obtain rfl : od = siteQ l := by
      rcases hod with ⟨e, _⟩ | ⟨e, _⟩ | ⟨_, e⟩ | ⟨e, _⟩
      · omega
      · omega
      · exact e
      · omega
    have b2 : decide (c = 2) = true := decide_eq_true c2
    refine Gx.a (by kernel_rfl) fun K hK => ?_
    simp only [XA, XB, b2]
    refine hK _ ?_
    refine Gx.t rfl ?_
    refine Gx.a (by kernel_rfl) fun K hK => ?_
    simp only [XA]
    refine call_go (by kernel_rfl) rfl (rbeyond_c _ i k _ l hx hs ll hi hk) fun vA VA hVA hA => ?_
    obtain ⟨xG, yG, rfl, p5, p6⟩ := hA.form
    simp only [XA]
    refine st_rat rfl rfl rfl p5 p6 ?_
    simp only [XA]
    refine hK _ (XWP.ret ?_)
    try simp only [thenX_ret, inBlockX_ret]
    exact ret_rat1 rfl rfl rfl hA
  have b2 : decide (c = 2) = false := decide_eq_false c2
  refine Gx.a (by kernel_rfl) fun K hK => ?_
  simp only [XA, XB, b2]
  refine hK _ ?_
  refine Gx.f rfl ?_
  refine XWP.skip ?_
  obtain ⟨hh, hho, rfl⟩ : ∃ hh, HsOk l hh ∧ od = sliQ l hh := by
    rcases hod with ⟨e, _⟩ | ⟨e, _⟩ | ⟨e, _⟩ | ⟨_, e⟩
    · omega
    · omega
    · omega
    · exact e
  refine Gx.a (by kernel_rfl) fun K hK => ?_
  simp only [XA]
  refine call_go (by kernel_rfl) rfl (runder_c _ i k _ l hx hs ll hi hk) fun vA VA hVA hA => ?_
  obtain ⟨hl, hht, hA⟩ := hA
  rw [und_sli hs hht hho] at hA
  obtain ⟨xG, yG, rfl, p5, p6⟩ := hA.form
  simp only [XA]
  refine st_rat rfl rfl rfl p5 p6 ?_
  simp only [XA]
  refine hK _ (XWP.ret ?_)
  try simp only [thenX_ret, inBlockX_ret]
  exact ret_rat1 rfl rfl rfl hA
end Go.Proofs.YtobjjdnfgamgcaaGreat
end
section
namespace Go.Proofs.YtobjjdnfgamgcaaGreat
open Go Go.RowKit
set_option linter.unusedSimpArgs false
set_option linter.unusedVariables false
attribute [local irreducible] XWP Spec SpecO XPub XCall seqX clX apX stX ldX iaX slX
end Go.Proofs.YtobjjdnfgamgcaaGreat
end
section
namespace Go.Proofs.YtobjjdnfgamgcaaGreat
open Go Go.RowKit
set_option linter.unusedSimpArgs false
set_option linter.unusedVariables false
attribute [local irreducible] XWP Spec SpecO XPub XCall seqX clX apX stX ldX iaX slX
end Go.Proofs.YtobjjdnfgamgcaaGreat
end
section
namespace Go.Proofs.YtobjjdnfgamgcaaGreat
open Go Go.RowKit
set_option linter.unusedSimpArgs false
set_option linter.unusedVariables false
attribute [local irreducible] XWP Spec SpecO XPub XCall seqX clX apX stX ldX iaX slX
theorem dZero_o (V : View) (r c : Nat) (hr : r ≤ 60) (hc : c ≤ 60) : SpecO Tryz.prog 114 [.int .i64 (r : Int), .int .i64 (c : Int)] V fun v' V' o => ∃ sl cells, v' = .tuple #[.agg #[.int .i64 (r : Int), .int .i64 (c : Int), sl], .int .i64 0] ∧ Own (addRow (fun _ => none) o) 49 3 sl (r * c) cells ∧ RowAt ratE V' cells (mk (r * c) fun _ => 0) := by
  have b1 : decide ((r : Int) < 0) = false := decide_eq_false (by omega)
  have b2 : decide ((c : Int) < 0) = false := decide_eq_false (by omega)
  have b3 : decide ((60 : Int) < (r : Int)) = false := decide_eq_false (by omega)
  have b4 : decide ((60 : Int) < (c : Int)) = false := decide_eq_false (by omega)
  refine (SpecO.enter Tryz.func114 rfl fun Γ => ?_)
  simp only [Tryz.ntmps114, List.map_cons, List.map_nil, List.length_cons, List.length_nil, Nat.reduceAdd, Nat.reduceSub, List.replicate_succ, List.replicate_zero, List.cons_append, List.nil_append]
  refine Gx.a (by kernel_rfl) fun K hK => ?_
  simp only [XM, XA]
  refine hK _ ?_
  refine XWP.cut (fun s => StIs (fun Z => [.v (.int .i64 (r : Int)), .v (.int .i64 (c : Int)), Z 2,Z 3, .p 0 0, .v (.int .i64 0), Z 6,Z 7,Z 8,Z 9,Z 10,Z 11,Z 12,Z 13,Z 14,Z 15,Z 16,Z 17,Z 18,Z 19,Z 20,Z 21,Z 22,Z 23,Z 24]) [[.int .i64 0, .int .i64 0, .slice none 0 0]] (fun _ => none) V s ∧ True) ?_ ?_
  · refine XWP.block ?_
    refine XWP.seq ?_
    refine Gx.c (by kernel_rfl) fun K hK => ?_
    simp only [XA, XB, gateX, ↓reduceIte, beq_self_eq_true, b1, b2]
    refine hK _ ?_
    refine Gx.f rfl ?_
    refine Gx.a (by kernel_rfl) fun K hK => ?_
    simp only [XA, XB, gateX, ↓reduceIte, beq_self_eq_true, b3, b4]
    refine hK _ ?_
    refine Gx.f rfl ?_
    refine XWP.skip ?_
    exact ⟨StIs.of (by exact rfl), trivial⟩
  rintro s ⟨hs, _⟩
  obtain ⟨z, rfl⟩ := hs.out
  try dsimp only
  refine Gx.a (by kernel_rfl) fun K hK => ?_
  simp only [XA]
  refine call_own (by kernel_rfl) rfl (dzeros_o _ r c hr hc) fun v1 V1 o1 hV1 hs1 h1 => ?_
  obtain ⟨sl, cells, rfl, hown, hrow⟩ := h1
  have osl := own_isOne hown
  simp only [XA]
  refine st_mat shapeT_30 rfl rfl rfl rfl osl ?_
  simp only [XA]
  refine hK _ (XWP.ret ?_)
  try simp only [thenX_ret, inBlockX_ret]
  rcases own_parts hown with ⟨rfl, h0, rfl⟩ | ⟨g, cap, rfl, hg, hle, hcap, hcl⟩
  · refine ret_own _ none (by simp [resAll, resV, cellsV, shapeT_30]; rfl) (fun g' q e => by cases e) ⟨_, [], rfl, ⟨by rw [h0]; rfl, .inl ⟨rfl, h0⟩⟩, hrow⟩
  · refine ret_own _ (some (g, _)) (by simp [resAll, resV, cellsV, shapeT_30]; rfl) (fun g' q e => by cases e; exact hg) ⟨_, cells, rfl, own3 (show upd (fun _ => none) g (some _) g = some _ from upd_at _ _ _) hcl hle (by unfold maxLen at hcap; omega), hrow⟩
theorem dMsame_c (V : View) (s1 s2 : Value) (r1 c1 r2 c2 : Int) (l m : List Rat) (hv : Rats V s1 l) (hu : Rats V s2 m) (hl : ∀ x ∈ l, QF x) (hm : ∀ x ∈ m, QF x) : Spec Tryz.prog 10 [.agg #[.int .i64 r1, .int .i64 c1, s1], .agg #[.int .i64 r2, .int .i64 c2, s2]] V fun v' V' => v' = .bool (decide (r1 = r2) && decide (c1 = c2) && decide (l = m)) := by
  obtain ⟨A1, q1, rfl, hc1, hm1⟩ := hv.form
  obtain ⟨A2, q2, rfl, hc2, hm2⟩ := hu.form
  refine (Spec.enter Tryz.func10 rfl fun Γ => ?_)
  simp only [Tryz.ntmps10, List.map_cons, List.map_nil, List.length_cons, List.length_nil, Nat.reduceAdd, Nat.reduceSub, List.replicate_succ, List.replicate_zero, List.cons_append, List.nil_append]
  refine Gx.a (by kernel_rfl) fun K hK => ?_
  simp only [XA]
  refine hK _ ?_
  refine XWP.seq ?_
  cases b1 : decide (r1 = r2)
  · refine Gx.a (by kernel_rfl) fun K hK => ?_
    simp only [XM, XA, XB, gateX, ↓reduceIte, b1]
    refine hK _ ?_
    refine Gx.t rfl ?_
    refine Gx.a (by kernel_rfl) fun K hK => ?_
    simp only [XA]
    refine hK _ (XWP.ret ?_)
    try simp only [thenX_ret, inBlockX_ret]
    refine ret_go _ rfl ?_
    rfl
  cases b2 : decide (c1 = c2)
  · refine Gx.a (by kernel_rfl) fun K hK => ?_
    simp only [XM, XA, XB, gateX, ↓reduceIte, beq_self_eq_true, b1, b2]
    refine hK _ ?_
    refine Gx.t rfl ?_
    refine Gx.a (by kernel_rfl) fun K hK => ?_
    simp only [XA]
    refine hK _ (XWP.ret ?_)
    try simp only [thenX_ret, inBlockX_ret]
    refine ret_go _ rfl ?_
    rfl
  by_cases hlen : l.length = m.length
  rotate_left
  · have b3 : decide ((l.length : Int) = (m.length : Int)) = false := decide_eq_false (by omega)
    refine Gx.a (by kernel_rfl) fun K hK => ?_
    simp only [XM, XA, XB, gateX, ↓reduceIte, beq_self_eq_true, b1, b2, b3]
    refine hK _ ?_
    refine Gx.t rfl ?_
    refine Gx.a (by kernel_rfl) fun K hK => ?_
    simp only [XA]
    refine hK _ (XWP.ret ?_)
    try simp only [thenX_ret, inBlockX_ret]
    refine ret_go _ rfl ?_
    rw [decide_eq_false (fun e => hlen (by rw [e]))]; rfl
  have b3 : decide ((l.length : Int) = (m.length : Int)) = true := decide_eq_true (by omega)
  refine Gx.a (by kernel_rfl) fun K hK => ?_
  simp only [XM, XA, XB, gateX, ↓reduceIte, beq_self_eq_true, b1, b2, b3]
  refine hK _ ?_
  refine Gx.f rfl ?_
  refine XWP.skip ?_
  refine XWP.cutD 2 (fun s => ∃ V2, StIs (fun Z => [Z 0,Z 1,Z 2,Z 3,Z 4,Z 5,Z 6,Z 7,Z 8,Z 9,Z 10,Z 11,Z 12,Z 13,Z 14,Z 15,Z 16,Z 17,Z 18,Z 19,Z 20,Z 21,Z 22,Z 23,Z 24,Z 25,Z 26,Z 27,Z 28,Z 29,Z 30,Z 31,Z 32,Z 33,Z 34,Z 35,Z 36,Z 37,Z 38,Z 39,Z 40,Z 41,Z 42,Z 43,Z 44,Z 45]) [[.int .i64 r1, .int .i64 c1, .slice A1 l.length q1], [.int .i64 r2, .int .i64 c2, .slice A2 m.length q2]] (fun _ => none) V2 s ∧ l = m) ?_ ?_
  · refine Gx.a (by kernel_rfl) fun K hK => ?_
    simp only [XM, XA, XB]
    refine hK _ ?_
    clear hK
    refine XWP.block ?_
    refine XWP.loopD 2 (fun n s => ∃ (k : Nat) (V2 : View), StIs (fun Z => [Z 0,Z 1, .p 0 0, .p 1 0, Z 4,Z 5,Z 6,Z 7,Z 8,Z 9,Z 10,Z 11,Z 12,Z 13,Z 14,Z 15,Z 16,Z 17,Z 18,Z 19,Z 20,Z 21,Z 22,Z 23,Z 24,Z 25,Z 26,Z 27,Z 28, .v (.int .i64 (l.length : Int)), .v (.int .i64 (k : Int)), Z 31,Z 32,Z 33,Z 34,Z 35,Z 36,Z 37,Z 38,Z 39,Z 40,Z 41,Z 42,Z 43,Z 44,Z 45]) [[.int .i64 r1, .int .i64 c1, .slice A1 l.length q1], [.int .i64 r2, .int .i64 c2, .slice A2 m.length q2]] (fun _ => none) V2 s ∧ V.le V2 ∧ n + k = l.length ∧ ∀ i, i < k → cf l i = cf m i) l.length ⟨0, V, StIs.of (by exact rfl), View.le_refl _, by omega, fun i hi => by omega⟩ ?_
    rintro n s ⟨k, V2, hs, hV2, hn, hk⟩
    obtain ⟨z, rfl⟩ := hs.out
    try dsimp only
    clear hs
    by_cases hlt : k < l.length
    rotate_left
    · have b4 : decide ((k : Int) < (l.length : Int)) = false := decide_eq_false (by omega)
      refine Gx.a (by kernel_rfl) fun K hK => ?_
      simp only [XA, XB, b4]
      refine hK _ ?_
      refine XWP.seq (Gx.f rfl ?_)
      refine XWP.exit ?_
      refine fun f => ⟨V2, StIs.of (by exact rfl), List.ext_getElem hlen fun i h1 h2 => ?_⟩
      rw [cf_get h1, cf_get h2]; exact hk i (by omega)
    have b4 : decide ((k : Int) < (l.length : Int)) = true := decide_eq_true (by omega)
    refine Gx.a (by kernel_rfl) fun K hK => ?_
    simp only [XA, XB, b4]
    refine hK _ ?_
    refine XWP.seq (Gx.t rfl ?_)
    refine XWP.skip ?_
    have hv2 := Rats.up hv hV2
    have hu2 := Rats.up hu hV2
    obtain ⟨b, o, rfl⟩ := SlAt.addr hv2 (by omega)
    obtain ⟨b', o', rfl⟩ := SlAt.addr hu2 (by omega)
    obtain ⟨m3, n3, d3, hx3, ⟨p1, p2, p3⟩, hld3⟩ := Rats.get hv2 k (by omega)
    obtain ⟨m4, n4, d4, hx4, ⟨r1, r2, r3⟩, hld4⟩ := Rats.get hu2 k (by omega)
    refine XWP.seq ?_
    refine XWP.block ?_
    refine Gx.a (by kernel_rfl) fun K hK => ?_
    simp only [XA]
    refine hK _ ?_
    (refine XWP.drw [0, 1, 2, 3, 4, 5, 6, 7, 8, 9, 10, 11] (by kernel_rfl) (by kernel_rfl) (by kernel_rfl) fun K hK => ?_) <;> dsimp only [pickOps, List.getElem?_cons_zero, List.getElem?_cons_succ]
    simp only [XM, XA, XB]
    refine ⟨by omega, by omega, ld_mem (hld3 _) ?_⟩
    simp only [XM, XA, XB]
    refine ⟨by omega, by omega, ld_mem (hld4 _) ?_⟩
    simp only [XA]
    have f3 := hl _ (cf_mem hlt)
    have f4 := hm _ (cf_mem (show k < m.length by omega))
    refine call_go (by kernel_rfl) rfl (psame_c _ _ _ _ _ (hx3.toV f3) (hx4.toV f4) f3 f4) fun v5 V5 hV5 h5 => ?_
    subst h5
    by_cases he : cf l k = cf m k
    · have b5 : decide (cf l k = cf m k) = true := decide_eq_true he
      simp only [XA, b5]
      refine hK _ ?_
      refine Gx.f rfl ?_
      refine XWP.skip ?_
      refine Gx.c (by kernel_rfl) fun K hK => ?_
      simp only [XA, XB, i64_succ k (by omega)]
      refine hK _ ⟨n - 1, by omega, fun f => ⟨k + 1, V5, StIs.of (by exact rfl), View.le_trans hV2 hV5, by omega, fun i hi => ?_⟩⟩
      by_cases e : i = k
      · rw [e]; exact he
      · exact hk i (by omega)
    · have b5 : decide (cf l k = cf m k) = false := decide_eq_false he
      simp only [XA, b5]
      refine hK _ ?_
      refine Gx.t rfl ?_
      refine Gx.a (by kernel_rfl) fun K hK => ?_
      simp only [XA]
      refine hK _ (XWP.ret ?_)
      try simp only [thenX_ret, inBlockX_ret]
      refine ret_go _ rfl ?_
      rw [decide_eq_false (fun e => he (by rw [e]))]; rfl
  rintro s ⟨V2, hs, he⟩
  obtain ⟨z, rfl⟩ := hs.out
  try dsimp only
  refine Gx.a (by kernel_rfl) fun K hK => ?_
  simp only [XA]
  refine hK _ (XWP.ret ?_)
  try simp only [thenX_ret, inBlockX_ret]
  refine ret_go _ rfl ?_
  rw [decide_eq_true he]; rfl
end Go.Proofs.YtobjjdnfgamgcaaGreat
end
section
namespace Go.Proofs.YtobjjdnfgamgcaaGreat
open Go Go.RowKit
set_option linter.unusedSimpArgs false
set_option linter.unusedVariables false
attribute [local irreducible] XWP Spec SpecO XPub XCall seqX clX apX stX ldX iaX slX
theorem begB_short {p : List Dr} {r : Rn} (h : r.ds.length < p.length) : begB p r = false := by
  unfold begB
  exact decide_eq_false fun e => by omega
theorem begB_all {p : List Dr} {r : Rn} (hl : p.length ≤ r.ds.length) (h : ∀ i, i < p.length → r.ds[i]? = p[i]?) : begB p r = true := by
  refine begB_iff.2 ⟨hl, List.ext_getElem? fun i => ?_⟩
  rw [List.getElem?_take]
  split
  · rename_i hi; exact h i hi
  · rename_i hi; rw [List.getElem?_eq_none (by omega)]
theorem begB_not {p : List Dr} {r : Rn} {i : Nat} (hi : i < p.length) (h : r.ds[i]? ≠ p[i]?) : begB p r = false := by
  cases e : begB p r
  · rfl
  · exact absurd (begB_get e hi) h
theorem rbegins_c (V : View) (cs : List Value) (r : Rn) (u : Value) (p : List Dr) (hcs : ElK 9 rnE V cs r) (hp : SlK 4 drE V u p) (hl : r.ds.length ≤ 1000) : Spec Tryz.prog 84 [.agg cs.toArray, u] V fun v' V' => v' = .bool (begB p r) := by
  obtain ⟨_, hone, c1, c2, c3, c4, dv, m, c7, c8, rfl, hds, hw⟩ := hcs
  obtain ⟨A, c, rfl, hc, hm⟩ := hds.form
  obtain ⟨A2, c2', rfl, hc2, hm2⟩ := hp.form
  refine (Spec.enter Tryz.func84 rfl fun Γ => ?_)
  simp only [Tryz.ntmps84, List.map_cons, List.map_nil, List.length_cons, List.length_nil, Nat.reduceAdd, Nat.reduceSub, List.replicate_succ, List.replicate_zero, List.cons_append, List.nil_append]
  refine Gx.a (by kernel_rfl) fun K hK => ?_
  simp only [XA]
  refine hK _ ?_
  refine XWP.seq ?_
  by_cases hlen : r.ds.length < p.length
  · have b1 : decide ((r.ds.length : Int) < (p.length : Int)) = true := decide_eq_true (by omega)
    refine Gx.a (by kernel_rfl) fun K hK => ?_
    simp only [XU, XA, XB, b1]
    refine hK _ ?_
    refine Gx.t rfl ?_
    refine Gx.a (by kernel_rfl) fun K hK => ?_
    simp only [XA]
    refine hK _ (XWP.ret ?_)
    try simp only [thenX_ret, inBlockX_ret]
    refine ret_go _ rfl ?_
    rw [begB_short hlen]; rfl
  have b1 : decide ((r.ds.length : Int) < (p.length : Int)) = false := decide_eq_false (by omega)
  refine Gx.a (by kernel_rfl) fun K hK => ?_
  simp only [XU, XA, XB, b1]
  refine hK _ ?_
  refine Gx.f rfl ?_
  refine XWP.skip ?_
  refine XWP.cutD 1 (fun s => StIs (fun Z => [Z 0, Z 1, .p 0 0, Z 3,Z 4,Z 5,Z 6,Z 7,Z 8,Z 9,Z 10,Z 11,Z 12,Z 13,Z 14,Z 15,Z 16,Z 17,Z 18,Z 19,Z 20,Z 21,Z 22,Z 23,Z 24,Z 25,Z 26,Z 27]) [[.int .i64 r.kind, c1, c2, c3, c4, .slice A r.ds.length c, m, c7, c8]] (fun _ => none) V s ∧ begB p r = true) ?_ ?_
  · refine Gx.a (by kernel_rfl) fun K hK => ?_
    simp only [XU, XA]
    refine hK _ ?_
    clear hK
    refine XWP.block ?_
    refine XWP.loopD 1 (fun q s => ∃ (k : Nat), StIs (fun Z => [Z 0, Z 1, .p 0 0, Z 3,Z 4,Z 5,Z 6,Z 7,Z 8,Z 9,Z 10,Z 11,Z 12, .v (.slice A2 p.length c2'), .v (.int .i64 (p.length : Int)), .v (.int .i64 (k : Int)), Z 16,Z 17,Z 18,Z 19,Z 20,Z 21,Z 22,Z 23,Z 24,Z 25,Z 26,Z 27]) [[.int .i64 r.kind, c1, c2, c3, c4, .slice A r.ds.length c, m, c7, c8]] (fun _ => none) V s ∧ q + k = p.length ∧ ∀ i, i < k → r.ds[i]? = p[i]?) p.length ⟨0, StIs.of (by exact rfl), by omega, fun i hi => by omega⟩ ?_
    rintro q s ⟨k, hs, hq, heq⟩
    obtain ⟨z, rfl⟩ := hs.out
    try dsimp only
    clear hs
    by_cases hk : k < p.length
    rotate_left
    · obtain rfl : k = p.length := by omega
      have b2 : decide (((p.length : Nat) : Int) < ((p.length : Nat) : Int)) = false := decide_eq_false (by omega)
      refine Gx.a (by kernel_rfl) fun K hK => ?_
      simp only [XA, XB, b2]
      refine hK _ ?_
      refine XWP.seq (Gx.f rfl ?_)
      refine XWP.exit ?_
      exact fun f => ⟨StIs.of (by exact rfl), begB_all (by omega) heq⟩
    have b2 : decide ((k : Int) < (p.length : Int)) = true := decide_eq_true (by omega)
    refine Gx.a (by kernel_rfl) fun K hK => ?_
    simp only [XA, XB, b2]
    refine hK _ ?_
    refine XWP.seq (Gx.t rfl ?_)
    refine XWP.skip ?_
    obtain ⟨b, o, rfl⟩ := SlK.addr hds (by omega)
    obtain ⟨bp, op, rfl⟩ := SlK.addr hp (by omega)
    obtain ⟨dc, ⟨d1, d2, d3⟩, hcell⟩ := SlK.get hds k (by omega)
    obtain ⟨ec, ⟨e1, e2, e3⟩, hcell2⟩ := SlK.get hp k hk
    have hkd : r.ds[k]? = some r.ds[k] := List.getElem?_eq_getElem (by omega)
    have hkp : p[k]? = some p[k] := List.getElem?_eq_getElem hk
    have d3 : dc = r.ds[k].cells := d3
    have e3 : ec = p[k].cells := e3
    generalize r.ds[k] = d at *
    generalize p[k] = e at *
    subst d3
    subst e3
    refine XWP.cutD 1 (fun s => StIs (fun Z => [Z 0, Z 1, .p 0 0, Z 3,Z 4,Z 5,Z 6,Z 7,Z 8,Z 9,Z 10,Z 11,Z 12, .v (.slice (some ⟨bp, op, none⟩) p.length c2'), .v (.int .i64 (p.length : Int)), .v (.int .i64 (k : Int)), Z 16,Z 17,Z 18,Z 19,Z 20,Z 21,Z 22,Z 23,Z 24,Z 25,Z 26,Z 27]) [[.int .i64 r.kind, c1, c2, c3, c4, .slice (some ⟨b, o, none⟩) r.ds.length c, m, c7, c8]] (fun _ => none) V s ∧ d = e) ?_ ?_
    rotate_left
    · rintro s ⟨hs, hde⟩
      obtain ⟨z, rfl⟩ := hs.out
      try dsimp only
      clear hs
      refine Gx.c (by kernel_rfl) fun K hK => ?_
      simp only [XA, XB, i64_succ k (by omega)]
      exact hK _ ⟨q - 1, by omega, fun f => ⟨k + 1, StIs.of (by exact rfl), by omega, fun i hi => by
        by_cases ei : i = k
        · subst ei; rw [hkd, hkp, hde]
        · exact heq i (by omega)⟩⟩
    clear hK
    refine XWP.block ?_
    refine Gx.a (by kernel_rfl) fun K hK => ?_
    simp only [XU, XA]
    refine ⟨by omega, by omega, ld_mem (loadsK shapeT_66 e1 (hcell2 _)) ?_⟩
    simp only [XU, XA]
    refine st_whole (cs := [.int .i64 e.site, .int .i64 e.index, .int .i64 e.odds, .int .i64 e.whole]) shapeT_66 rfl rfl rfl rfl ?_
    simp only [XA]
    refine hK _ ?_
    (refine XWP.drw [0, 1, 2, 3, 4, 5, 6] (by kernel_rfl) (by kernel_rfl) (by kernel_rfl) fun K hK => ?_) <;> dsimp only [pickOps, List.getElem?_cons_zero, List.getElem?_cons_succ]
    simp only [XU, XA]
    refine ⟨by omega, by omega, ld_mem (loadsK shapeT_66 d1 (hcell _)) ?_⟩
    simp only [XU, XA, Nat.reduceAdd, Nat.reduceLeDiff, ↓reduceIte]
    refine bin_own rfl (drawn_ne d e) ?_
    by_cases hde : d = e
    · have b3 : decide (d ≠ e) = false := decide_eq_false (fun h => h hde)
      simp only [XA, b3]
      refine hK _ ?_
      refine Gx.f rfl ?_
      refine XWP.skip ?_
      exact fun f => ⟨StIs.of (by exact rfl), hde⟩
    · have b3 : decide (d ≠ e) = true := decide_eq_true hde
      simp only [XA, b3]
      refine hK _ ?_
      refine Gx.t rfl ?_
      refine Gx.a (by kernel_rfl) fun K hK => ?_
      simp only [XA]
      refine hK _ (XWP.ret ?_)
      try simp only [thenX_ret, inBlockX_ret]
      refine ret_go _ rfl ?_
      rw [begB_not hk (by rw [hkd, hkp]; exact fun h => hde (Option.some.inj h))]; rfl
  rintro s ⟨hs, hb⟩
  obtain ⟨z, rfl⟩ := hs.out
  try dsimp only
  refine Gx.a (by kernel_rfl) fun K hK => ?_
  simp only [XA]
  refine hK _ (XWP.ret ?_)
  try simp only [thenX_ret, inBlockX_ret]
  refine ret_go _ rfl ?_
  rw [hb]; rfl
end Go.Proofs.YtobjjdnfgamgcaaGreat
end
section
namespace Go.Proofs.YtobjjdnfgamgcaaGreat
open Go Go.RowKit
set_option linter.unusedSimpArgs false
set_option linter.unusedVariables false
attribute [local irreducible] XWP Spec SpecO XPub XCall seqX clX apX stX ldX iaX slX
theorem metI_none {W : List Rn} {n k : Nat} (h : metI W n k = none) : ∀ m, k ≤ m → metI W n m = none := by
  intro m hm
  induction m with
  | zero => have : k = 0 := by omega
            subst this; exact h
  | succ m ih =>
    by_cases e : k = m + 1
    · subst e; exact h
    · unfold metI; rw [ih (by omega)]; rfl
theorem metI_succ {W : List Rn} {n k : Nat} {st : List Dr × Int} {r : Rn} (h : metI W n k = some st) (hr : W[k]? = some r) : metI W n (k + 1) = metStep n st r := by unfold metI; rw [h, hr]; rfl
theorem partsW_none {W : List Rn} {n k : Nat} (hk : k < W.length) (h1 : ¬ (W.length = 1 ∧ (W[0]?).map (·.ds.length) = some n)) (h : metI W n (k + 1) = none) : partsW W n = false := by
  unfold partsW
  rw [if_neg h1, metI_none h W.length (by omega)]
def metMem (H : Heap) (V : View) (mv : Value) (met : List Dr) : Prop := ∃ cells, Own H 66 4 mv met.length cells ∧ RowK 4 drE V cells met
theorem metMem.nil (H : Heap) (V : View) : metMem H V (.slice none 0 0) [] := ⟨[], own_nil, RowK.nil V⟩
theorem metMem.form {H : Heap} {V : View} {mv : Value} {met : List Dr} (h : metMem H V mv met) : ∃ A c, mv = .slice A met.length c := by
  obtain ⟨cells, ho, _⟩ := h
  rcases own_parts ho with ⟨rfl, h0, _⟩ | ⟨g, cap, rfl, _⟩
  · exact ⟨none, 0, by rw [h0]⟩
  · exact ⟨_, cap, rfl⟩
theorem metMem.get {H : Heap} {V : View} {b o n c : Nat} {met : List Dr} (h : metMem H V (.slice (some ⟨b, o, none⟩) n c) met) {j : Nat} {x : Dr} (hx : met[j]? = some x) : ∀ V' i u, x.cells[i]? = some u → CellAt H V' b (o + j * 4 + i) u := by
  obtain ⟨cells, ho, hr⟩ := h
  rcases own_parts ho with ⟨e, _⟩ | ⟨g, cap, e, hg, _⟩
  · cases e
  · cases e
    intro V' i u hu
    obtain ⟨cs, ⟨_, _, e3⟩, hc⟩ := hr.2 j x hx
    have e3 : cs = x.cells := e3
    subst e3
    exact .inl ⟨_, hg, by rw [Nat.zero_add]; exact hc i u hu⟩
theorem metMem.addr {H : Heap} {V : View} {A : Option Addr} {n c : Nat} {met : List Dr} (h : metMem H V (.slice A n c) met) (h0 : 0 < met.length) : ∃ b o, A = some ⟨b, o, none⟩ := by
  obtain ⟨cells, ho, _⟩ := h
  rcases own_parts ho with ⟨e, h1, _⟩ | ⟨g, cap, e, _⟩
  · omega
  · cases e; exact ⟨g, 0, rfl⟩
set_option maxHeartbeats 8000000 in
set_option maxRecDepth 100000 in
theorem rparts_c (V : View) (v u : Value) (L : List Rn) (p : List Dr) (h : SlK 9 rnE V v L) (hp : SlK 4 drE V u p) (hl : L.length ≤ 100) (hds : ∀ r ∈ L, r.ds.length ≤ 1000) (hg : ∀ r ∈ L, ∀ d ∈ r.ds, d.good) (h0 : 0 < (withL L p).length) : Spec Tryz.prog 36 [v, u] V fun v' V' => v' = .bool (partsB L p) := by
  have hL0 : 0 < L.length := Nat.lt_of_lt_of_le h0 (List.length_filter_le _ _)
  obtain ⟨A, cL, rfl, _, _⟩ := h.form
  obtain ⟨bL, oL, rfl⟩ := SlK.addr h hL0
  obtain ⟨A2, c2, rfl, _, _⟩ := hp.form
  refine (Spec.enter Tryz.func36 rfl fun Γ => ?_)
  simp only [Tryz.ntmps36, List.map_cons, List.map_nil, List.length_cons, List.length_nil, Nat.reduceAdd, Nat.reduceSub, List.replicate_succ, List.replicate_zero, List.cons_append, List.nil_append]
  refine Gx.a (by kernel_rfl) fun K hK => ?_
  simp only [XA]
  refine hK _ ?_
  refine Gx.a (by kernel_rfl) fun K hK => ?_
  simp only [XA]
  refine hK _ ?_
  refine XWP.cutD 0 (fun s => ∃ (V2 : View) (H2 : Heap) (sv : Value) (cells : List Value), StIs (fun Z => [.v (.slice (some ⟨bL, oL, none⟩) L.length cL), .v (.slice A2 p.length c2), Z 2,Z 3,Z 4, .v sv, Z 6,Z 7,Z 8,Z 9,Z 10,Z 11,Z 12,Z 13,Z 14,Z 15,Z 16,Z 17,Z 18,Z 19,Z 20,Z 21,Z 22,Z 23,Z 24,Z 25,Z 26,Z 27,Z 28,Z 29,Z 30,Z 31,Z 32,Z 33,Z 34,Z 35,Z 36,Z 37,Z 38,Z 39,Z 40,Z 41,Z 42,Z 43,Z 44,Z 45,Z 46,Z 47,Z 48,Z 49,Z 50,Z 51,Z 52,Z 53,Z 54,Z 55,Z 56,Z 57,Z 58,Z 59,Z 60,Z 61,Z 62,Z 63,Z 64,Z 65,Z 66,Z 67,Z 68,Z 69,Z 70,Z 71,Z 72,Z 73,Z 74,Z 75,Z 76,Z 77,Z 78,Z 79,Z 80,Z 81,Z 82,Z 83,Z 84,Z 85,Z 86,Z 87,Z 88,Z 89,Z 90,Z 91,Z 92,Z 93,Z 94,Z 95,Z 96,Z 97,Z 98,Z 99,Z 100,Z 101,Z 102,Z 103,Z 104,Z 105,Z 106,Z 107,Z 108,Z 109,Z 110,Z 111,Z 112,Z 113,Z 114,Z 115,Z 116,Z 117,Z 118,Z 119,Z 120,Z 121,Z 122]) [] H2 V2 s ∧ V.le V2 ∧ Own H2 51 9 sv (withL L p).length cells ∧ RowK 9 rnE V2 cells (withL L p)) ?_ ?_
  · refine Gx.a (by kernel_rfl) fun K hK => ?_
    simp only [XU, XA]
    refine hK _ ?_
    clear hK
    refine XWP.block ?_
    refine XWP.loopD 0 (fun q s => ∃ (k : Nat) (V2 : View) (H2 : Heap) (sv : Value) (cells : List Value), StIs (fun Z => [.v (.slice (some ⟨bL, oL, none⟩) L.length cL), .v (.slice A2 p.length c2), Z 2,Z 3,Z 4, .v sv, Z 6,Z 7,Z 8,Z 9,Z 10,Z 11,Z 12,Z 13,Z 14,Z 15,Z 16, .v (.slice (some ⟨bL, oL, none⟩) L.length cL), .v (.int .i64 (L.length : Int)), .v (.int .i64 (k : Int)), Z 20,Z 21,Z 22,Z 23,Z 24,Z 25,Z 26,Z 27,Z 28,Z 29,Z 30,Z 31,Z 32,Z 33,Z 34,Z 35,Z 36,Z 37,Z 38,Z 39,Z 40,Z 41,Z 42,Z 43,Z 44,Z 45,Z 46,Z 47,Z 48,Z 49,Z 50,Z 51,Z 52,Z 53,Z 54,Z 55,Z 56,Z 57,Z 58,Z 59,Z 60,Z 61,Z 62,Z 63,Z 64,Z 65,Z 66,Z 67,Z 68,Z 69,Z 70,Z 71,Z 72,Z 73,Z 74,Z 75,Z 76,Z 77,Z 78,Z 79,Z 80,Z 81,Z 82,Z 83,Z 84,Z 85,Z 86,Z 87,Z 88,Z 89,Z 90,Z 91,Z 92,Z 93,Z 94,Z 95,Z 96,Z 97,Z 98,Z 99,Z 100,Z 101,Z 102,Z 103,Z 104,Z 105,Z 106,Z 107,Z 108,Z 109,Z 110,Z 111,Z 112,Z 113,Z 114,Z 115,Z 116,Z 117,Z 118,Z 119,Z 120,Z 121,Z 122]) [] H2 V2 s ∧ q + k = L.length ∧ V.le V2 ∧ Own H2 51 9 sv (withL (L.take k) p).length cells ∧ RowK 9 rnE V2 cells (withL (L.take k) p)) L.length ⟨0, V, _, _, [], StIs.of (by exact rfl), by omega, View.le_refl _, own_nil, RowK.nil V⟩ ?_
    rintro q s ⟨k, V2, H2, sv, cells, hs, hq, hV2, ho, hr⟩
    obtain ⟨z, rfl⟩ := hs.out
    try dsimp only
    clear hs
    by_cases hk : k < L.length
    rotate_left
    · obtain rfl : k = L.length := by omega
      have bt1 : decide (((L.length : Nat) : Int) < ((L.length : Nat) : Int)) = false := decide_eq_false (by omega)
      refine Gx.a (by kernel_rfl) fun K hK => ?_
      simp only [XA, XB, bt1]
      refine hK _ ?_
      refine XWP.seq (Gx.f rfl ?_)
      refine XWP.exit ?_
      rw [List.take_length] at ho hr
      exact fun f => ⟨V2, H2, sv, cells, StIs.of (by exact rfl), hV2, ho, hr⟩
    have bt1 : decide ((k : Int) < (L.length : Int)) = true := decide_eq_true (by omega)
    refine Gx.a (by kernel_rfl) fun K hK => ?_
    simp only [XA, XB, bt1]
    refine hK _ ?_
    refine XWP.seq (Gx.t rfl ?_)
    refine XWP.skip ?_
    obtain ⟨r, hrk⟩ : ∃ r, L[k]? = some r := ⟨_, List.getElem?_eq_getElem hk⟩
    have er : L[k] = r := (List.getElem?_eq_some_iff.1 hrk).2
    have hrL : r ∈ L := List.mem_of_getElem? hrk
    have h2 := h.mono rnE_ok hV2
    obtain ⟨cs, hcs, hcell⟩ := SlK.get h2 k hk
    rw [er] at hcs
    have hcsE := hcs
    obtain ⟨v0, v1, v2, v3, v4, dv, v6, v7, v8, rfl, hdsr⟩ := rn_draws hcs
    obtain ⟨A1, q1, rfl, _, _⟩ := hdsr.form
    have hWk : (withL (L.take k) p).length ≤ 100 := by
      have := List.length_filter_le (begB p) (L.take k)
      rw [List.length_take] at this
      unfold withL
      omega
    have etk : withL (L.take (k + 1)) p = withL (L.take k) p ++ if begB p r = true then [r] else [] := by
      unfold withL
      rw [List.take_add_one, hrk, Option.toList_some, List.filter_append]
      cases hb : begB p r <;> simp [hb]
    refine XWP.cutD 0 (fun s => ∃ (V3 : View) (H3 : Heap) (sv : Value) (cells : List Value), StIs (fun Z => [.v (.slice (some ⟨bL, oL, none⟩) L.length cL), .v (.slice A2 p.length c2), Z 2,Z 3,Z 4, .v sv, Z 6,Z 7,Z 8,Z 9,Z 10,Z 11,Z 12,Z 13,Z 14,Z 15,Z 16, .v (.slice (some ⟨bL, oL, none⟩) L.length cL), .v (.int .i64 (L.length : Int)), .v (.int .i64 (k : Int)), Z 20,Z 21,Z 22,Z 23,Z 24,Z 25,Z 26,Z 27,Z 28,Z 29,Z 30,Z 31,Z 32,Z 33,Z 34,Z 35,Z 36,Z 37,Z 38,Z 39,Z 40,Z 41,Z 42,Z 43,Z 44,Z 45,Z 46,Z 47,Z 48,Z 49,Z 50,Z 51,Z 52,Z 53,Z 54,Z 55,Z 56,Z 57,Z 58,Z 59,Z 60,Z 61,Z 62,Z 63,Z 64,Z 65,Z 66,Z 67,Z 68,Z 69,Z 70,Z 71,Z 72,Z 73,Z 74,Z 75,Z 76,Z 77,Z 78,Z 79,Z 80,Z 81,Z 82,Z 83,Z 84,Z 85,Z 86,Z 87,Z 88,Z 89,Z 90,Z 91,Z 92,Z 93,Z 94,Z 95,Z 96,Z 97,Z 98,Z 99,Z 100,Z 101,Z 102,Z 103,Z 104,Z 105,Z 106,Z 107,Z 108,Z 109,Z 110,Z 111,Z 112,Z 113,Z 114,Z 115,Z 116,Z 117,Z 118,Z 119,Z 120,Z 121,Z 122]) [] H3 V3 s ∧ V.le V3 ∧ Own H3 51 9 sv (withL (L.take (k + 1)) p).length cells ∧ RowK 9 rnE V3 cells (withL (L.take (k + 1)) p)) ?_ ?_
    rotate_left
    · rintro s ⟨V3, H3, sv, cells, hs, hV3, ho, hr⟩
      obtain ⟨z, rfl⟩ := hs.out
      try dsimp only
      clear hs
      refine Gx.c (by kernel_rfl) fun K hK => ?_
      simp only [XA, XB, i64_succ k (by omega)]
      exact hK _ ⟨q - 1, by omega, fun f => ⟨k + 1, V3, H3, sv, cells, StIs.of (by exact rfl), by omega, hV3, ho, hr⟩⟩
    clear hK
    refine XWP.block ?_
    refine Gx.a (by kernel_rfl) fun K hK => ?_
    simp only [XU, XA]
    refine ⟨by omega, by omega, ld_mem (loadsK shapeT_51 rfl fun j u hj => hcell _ j u hj) ?_⟩
    simp only [XU, XA]
    refine st_whole (cs := [v0, v1, v2, v3, v4, .slice A1 r.ds.length q1, v6, v7, v8]) shapeT_51 rfl rfl rfl hcsE.2.1 ?_
    simp only [XA]
    refine hK _ ?_
    refine Gx.a (by kernel_rfl) fun K hK => ?_
    simp only [XU, XA, Nat.reduceAdd, Nat.reduceLeDiff, ↓reduceIte]
    refine call_go (by kernel_rfl) rfl (rbegins_c _ _ r _ p hcsE (hp.mono drE_ok hV2) (hds r hrL)) fun v3 V3 hV3 h3 => ?_
    subst h3
    cases hb : begB p r
    · simp only [XA]
      refine hK _ ?_
      refine Gx.f rfl ?_
      refine XWP.skip ?_
      rw [etk, hb]
      simp only [Bool.false_eq_true, if_false, List.append_nil]
      exact fun f => ⟨V3, H2, sv, cells, StIs.of (by exact rfl), View.le_trans hV2 hV3, ho, hr.mono rnE_ok hV3⟩
    · simp only [XA]
      refine hK _ ?_
      refine Gx.t rfl ?_
      refine Gx.c (by kernel_rfl) fun K hK => ?_
      simp only [XU, XA, Nat.reduceAdd, Nat.reduceLeDiff, ↓reduceIte]
      refine bs_go (by kernel_rfl) #[(0, .agg ([v0, v1, v2, v3, v4, .slice A1 r.ds.length q1, v6, v7, v8] : List Value).toArray)] (by simp [ev_tmp, SV.val]) (bs_agg elemT_22 zeroT_51 rfl (by omega) (by omega) rfl) fun bq hbq1 hbq2 => ?_
      simp only [XA, Nat.reduceAdd]
      refine ap_go elemT_22 (by kernel_rfl) zeroT_51 rfl (by omega) (own_upd ho hbq1) (srcK (upd_at _ _ _) hcsE.2.1) (by omega) (by omega) fun v' H' hres => ?_
      simp only [XA]
      rw [hb, if_pos rfl] at etk
      refine hK _ fun f => ⟨V3, H', v', _, StIs.of (by exact rfl), View.le_trans hV2 hV3, ?_, by rw [etk]; exact (hr.mono rnE_ok hV3).snoc (hcsE.mono rnE_ok hV3)⟩
      rw [etk, List.length_append, List.length_singleton]
      exact hres.1
  rintro s ⟨V2, H2, sv, cells, hs, hV2, ho, hr⟩
  obtain ⟨z, rfl⟩ := hs.out
  try dsimp only
  clear hs
  have hWL : ∀ r ∈ withL L p, r ∈ L ∧ p.length ≤ r.ds.length := fun r hr => by
    unfold withL at hr
    rw [List.mem_filter] at hr
    exact ⟨hr.1, (begB_iff.1 hr.2).1⟩
  have hWl : (withL L p).length ≤ 100 := by
    have := List.length_filter_le (begB p) L
    unfold withL
    omega
  have ePB : partsB L p = partsW (withL L p) p.length := rfl
  rw [ePB]
  generalize withL L p = W at *
  refine XWP.pubK rnE_ok (by omega) ho hr fun H3 V3 hV3 hW _ => ?_
  have hV03 := View.le_trans hV2 hV3
  clear ho hr
  obtain ⟨AW, cW, rfl, _, _⟩ := hW.form
  obtain ⟨bW, oW, rfl⟩ := SlK.addr hW h0
  obtain ⟨r0, hr0⟩ : ∃ r, W[0]? = some r := ⟨_, List.getElem?_eq_getElem h0⟩
  have e0 : W[0] = r0 := (List.getElem?_eq_some_iff.1 hr0).2
  obtain ⟨cs0, hcs0, hcell0⟩ := SlK.get hW 0 h0
  rw [e0] at hcs0
  obtain ⟨u0, u1, u2, u3, u4, dv0, u6, u7, u8, rfl, hds0⟩ := rn_draws hcs0
  obtain ⟨A0, q0, rfl, _, _⟩ := hds0.form
  have hd0cell : ∀ H, CellAt H V3 bW (oW + 5) (.slice A0 r0.ds.length q0) := fun H => by
    have := hcell0 H 5 _ rfl
    rw [Nat.zero_mul, Nat.add_zero] at this
    exact this
  have y0 := fun H => loads1 (H := H) shapeT_45 (hd0cell H)
  refine Gx.a (by kernel_rfl) fun K hK => ?_
  simp only [XU, XA]
  refine hK _ ?_
  refine XWP.cut (fun s => StIs (fun Z => [.v (.slice (some ⟨bL, oL, none⟩) L.length cL), .v (.slice A2 p.length c2), Z 2,Z 3,Z 4, .v (.slice (some ⟨bW, oW, none⟩) W.length cW), Z 6,Z 7, .v (.int .i64 (p.length : Int)), Z 9,Z 10,Z 11,Z 12,Z 13,Z 14,Z 15,Z 16,Z 17,Z 18,Z 19,Z 20,Z 21,Z 22,Z 23,Z 24,Z 25,Z 26,Z 27,Z 28,Z 29,Z 30,Z 31,Z 32,Z 33,Z 34,Z 35,Z 36,Z 37,Z 38,Z 39,Z 40,Z 41,Z 42,Z 43,Z 44,Z 45,Z 46,Z 47,Z 48,Z 49,Z 50,Z 51,Z 52,Z 53,Z 54,Z 55,Z 56,Z 57,Z 58,Z 59,Z 60,Z 61,Z 62,Z 63,Z 64,Z 65,Z 66,Z 67,Z 68,Z 69,Z 70,Z 71,Z 72,Z 73,Z 74,Z 75,Z 76,Z 77,Z 78,Z 79,Z 80,Z 81,Z 82,Z 83,Z 84,Z 85,Z 86,Z 87,Z 88,Z 89,Z 90,Z 91,Z 92,Z 93,Z 94,Z 95,Z 96,Z 97,Z 98,Z 99,Z 100,Z 101,Z 102,Z 103,Z 104,Z 105,Z 106,Z 107,Z 108,Z 109,Z 110,Z 111,Z 112,Z 113,Z 114,Z 115,Z 116,Z 117,Z 118,Z 119,Z 120,Z 121,Z 122]) [] H3 V3 s ∧ ¬ (W.length = 1 ∧ (W[0]?).map (·.ds.length) = some p.length)) ?_ ?_
  · by_cases h1 : W.length = 1
    · have b1 : decide ((W.length : Int) = 1) = true := decide_eq_true (by omega)
      by_cases h2 : r0.ds.length = p.length
      · have b2 : decide ((r0.ds.length : Int) = (p.length : Int)) = true := decide_eq_true (by omega)
        refine Gx.a (by kernel_rfl) fun K hK => ?_
        simp only [XU, XA, XB, gateX, Nat.reduceMul, ↓reduceIte, Int.reduceLE, beq_self_eq_true, b1]
        refine ⟨by omega, ld_mem (y0 _) ?_⟩
        simp only [XU, XA, XB, gateX, ↓reduceIte, beq_self_eq_true, b2]
        refine hK _ ?_
        refine Gx.t rfl ?_
        refine Gx.a (by kernel_rfl) fun K hK => ?_
        simp only [XA]
        refine hK _ (XWP.ret ?_)
        try simp only [thenX_ret, inBlockX_ret]
        refine ret_go _ rfl ?_
        unfold partsW
        rw [if_pos ⟨h1, by rw [hr0, ← h2]; rfl⟩]; rfl
      · have b2 : decide ((r0.ds.length : Int) = (p.length : Int)) = false := decide_eq_false (by omega)
        refine Gx.a (by kernel_rfl) fun K hK => ?_
        simp only [XU, XA, XB, gateX, Nat.reduceMul, ↓reduceIte, Int.reduceLE, beq_self_eq_true, b1]
        refine ⟨by omega, ld_mem (y0 _) ?_⟩
        simp only [XU, XA, XB, gateX, ↓reduceIte, beq_self_eq_true, b2]
        refine hK _ ?_
        refine Gx.f rfl ?_
        refine XWP.skip ?_
        exact ⟨StIs.of (by exact rfl), fun e => h2 (by have := e.2; rw [hr0] at this; simpa using this)⟩
    · have b1 : decide ((W.length : Int) = 1) = false := decide_eq_false (by omega)
      refine Gx.a (by kernel_rfl) fun K hK => ?_
      simp only [XU, XA, XB, gateX, ↓reduceIte, b1]
      refine hK _ ?_
      refine Gx.f rfl ?_
      refine XWP.skip ?_
      exact ⟨StIs.of (by exact rfl), fun e => h1 e.1⟩
  rintro s ⟨hs, hn1⟩
  obtain ⟨z, rfl⟩ := hs.out
  try dsimp only
  clear hs
  refine Gx.a (by kernel_rfl) fun K hK => ?_
  simp only [XA]
  refine hK _ ?_
  refine Gx.a (by kernel_rfl) fun K hK => ?_
  simp only [XA]
  refine hK _ ?_
  refine XWP.cutD 0 (fun s => ∃ (met : List Dr) (odds : Int) (H4 : Heap), StIs (fun Z => [.v (.slice (some ⟨bL, oL, none⟩) L.length cL), .v (.slice A2 p.length c2), Z 2,Z 3,Z 4, .v (.slice (some ⟨bW, oW, none⟩) W.length cW), Z 6,Z 7, .v (.int .i64 (p.length : Int)), Z 9, .v (.int .i64 odds), Z 11,Z 12,Z 13,Z 14,Z 15,Z 16,Z 17,Z 18,Z 19,Z 20,Z 21,Z 22,Z 23,Z 24,Z 25,Z 26,Z 27,Z 28,Z 29,Z 30,Z 31,Z 32,Z 33,Z 34,Z 35,Z 36,Z 37,Z 38,Z 39,Z 40,Z 41,Z 42,Z 43,Z 44,Z 45,Z 46,Z 47,Z 48,Z 49,Z 50,Z 51,Z 52,Z 53,Z 54,Z 55,Z 56,Z 57,Z 58,Z 59,Z 60,Z 61,Z 62,Z 63,Z 64,Z 65,Z 66,Z 67,Z 68,Z 69,Z 70,Z 71,Z 72,Z 73,Z 74,Z 75,Z 76,Z 77,Z 78,Z 79,Z 80,Z 81,Z 82,Z 83,Z 84,Z 85,Z 86,Z 87,Z 88,Z 89,Z 90,Z 91,Z 92,Z 93,Z 94,Z 95,Z 96,Z 97,Z 98,Z 99,Z 100,Z 101,Z 102,Z 103,Z 104,Z 105,Z 106,Z 107,Z 108,Z 109,Z 110,Z 111,Z 112,Z 113,Z 114,Z 115,Z 116,Z 117,Z 118,Z 119,Z 120,Z 121,Z 122]) [] H4 V3 s ∧ metI W p.length W.length = some (met, odds)) ?_ ?_
  · refine Gx.a (by kernel_rfl) fun K hK => ?_
    simp only [XU, XA]
    refine hK _ ?_
    clear hK
    refine XWP.block ?_
    refine XWP.loopD 0 (fun q s => ∃ (k : Nat) (met : List Dr) (odds : Int) (mv : Value) (H4 : Heap), StIs (fun Z => [.v (.slice (some ⟨bL, oL, none⟩) L.length cL), .v (.slice A2 p.length c2), Z 2,Z 3,Z 4, .v (.slice (some ⟨bW, oW, none⟩) W.length cW), Z 6,Z 7, .v (.int .i64 (p.length : Int)), .v mv, .v (.int .i64 odds), Z 11,Z 12,Z 13,Z 14,Z 15,Z 16,Z 17,Z 18,Z 19,Z 20,Z 21,Z 22,Z 23,Z 24,Z 25,Z 26,Z 27,Z 28,Z 29,Z 30,Z 31,Z 32,Z 33,Z 34,Z 35,Z 36,Z 37,Z 38,Z 39,Z 40,Z 41,Z 42,Z 43,Z 44, .v (.slice (some ⟨bW, oW, none⟩) W.length cW), .v (.int .i64 (W.length : Int)), .v (.int .i64 (k : Int)), Z 48,Z 49,Z 50,Z 51,Z 52,Z 53,Z 54,Z 55,Z 56,Z 57,Z 58,Z 59,Z 60,Z 61,Z 62,Z 63,Z 64,Z 65,Z 66,Z 67,Z 68,Z 69,Z 70,Z 71,Z 72,Z 73,Z 74,Z 75,Z 76,Z 77,Z 78,Z 79,Z 80,Z 81,Z 82,Z 83,Z 84,Z 85,Z 86,Z 87,Z 88,Z 89,Z 90,Z 91,Z 92,Z 93,Z 94,Z 95,Z 96,Z 97,Z 98,Z 99,Z 100,Z 101,Z 102,Z 103,Z 104,Z 105,Z 106,Z 107,Z 108,Z 109,Z 110,Z 111,Z 112,Z 113,Z 114,Z 115,Z 116,Z 117,Z 118,Z 119,Z 120,Z 121,Z 122]) [] H4 V3 s ∧ q + k = W.length ∧ metI W p.length k = some (met, odds) ∧ metMem H4 V3 mv met ∧ met.length ≤ k ∧ 0 ≤ odds ∧ odds ≤ 64000 * k) W.length ⟨0, [], 0, _, _, StIs.of (by exact rfl), by omega, rfl, metMem.nil _ _, by simp, by omega, by omega⟩ ?_
    rintro q s ⟨k, met, odds, mv, H4, hs, hq, hmet, hmm, hml, ho1, ho2⟩
    obtain ⟨z, rfl⟩ := hs.out
    try dsimp only
    clear hs
    by_cases hk : k < W.length
    rotate_left
    · obtain rfl : k = W.length := by omega
      have bt1 : decide (((W.length : Nat) : Int) < ((W.length : Nat) : Int)) = false := decide_eq_false (by omega)
      refine Gx.a (by kernel_rfl) fun K hK => ?_
      simp only [XA, XB, bt1]
      refine hK _ ?_
      refine XWP.seq (Gx.f rfl ?_)
      refine XWP.exit ?_
      exact fun f => ⟨met, odds, H4, StIs.of (by exact rfl), hmet⟩
    have bt1 : decide ((k : Int) < (W.length : Int)) = true := decide_eq_true (by omega)
    refine Gx.a (by kernel_rfl) fun K hK => ?_
    simp only [XA, XB, bt1]
    refine hK _ ?_
    refine XWP.seq (Gx.t rfl ?_)
    refine XWP.skip ?_
    obtain ⟨r, hrk⟩ : ∃ r, W[k]? = some r := ⟨_, List.getElem?_eq_getElem hk⟩
    have er : W[k] = r := (List.getElem?_eq_some_iff.1 hrk).2
    have hrW := hWL r (List.mem_of_getElem? hrk)
    have hgr := hg r hrW.1
    have hlr := hds r hrW.1
    obtain ⟨cs, hcs, hcell⟩ := SlK.get hW k hk
    rw [er] at hcs
    have hcsE := hcs
    obtain ⟨v0, v1, v2, v3, v4, dv, v6, v7, v8, rfl, hdsr⟩ := rn_draws hcs
    obtain ⟨A1, q1, rfl, _, _⟩ := hdsr.form
    have hstep := metI_succ hmet hrk
    refine XWP.cutD 0 (fun s => ∃ (met : List Dr) (odds : Int) (mv : Value) (H4 : Heap), StIs (fun Z => [.v (.slice (some ⟨bL, oL, none⟩) L.length cL), .v (.slice A2 p.length c2), Z 2,Z 3,Z 4, .v (.slice (some ⟨bW, oW, none⟩) W.length cW), Z 6,Z 7, .v (.int .i64 (p.length : Int)), .v mv, .v (.int .i64 odds), Z 11,Z 12,Z 13,Z 14,Z 15,Z 16,Z 17,Z 18,Z 19,Z 20,Z 21,Z 22,Z 23,Z 24,Z 25,Z 26,Z 27,Z 28,Z 29,Z 30,Z 31,Z 32,Z 33,Z 34,Z 35,Z 36,Z 37,Z 38,Z 39,Z 40,Z 41,Z 42,Z 43,Z 44, .v (.slice (some ⟨bW, oW, none⟩) W.length cW), .v (.int .i64 (W.length : Int)), .v (.int .i64 (k : Int)), Z 48,Z 49,Z 50,Z 51,Z 52,Z 53,Z 54,Z 55,Z 56,Z 57,Z 58,Z 59,Z 60,Z 61,Z 62,Z 63,Z 64,Z 65,Z 66,Z 67,Z 68,Z 69,Z 70,Z 71,Z 72,Z 73,Z 74,Z 75,Z 76,Z 77,Z 78,Z 79,Z 80,Z 81,Z 82,Z 83,Z 84,Z 85,Z 86,Z 87,Z 88,Z 89,Z 90,Z 91,Z 92,Z 93,Z 94,Z 95,Z 96,Z 97,Z 98,Z 99,Z 100,Z 101,Z 102,Z 103,Z 104,Z 105,Z 106,Z 107,Z 108,Z 109,Z 110,Z 111,Z 112,Z 113,Z 114,Z 115,Z 116,Z 117,Z 118,Z 119,Z 120,Z 121,Z 122]) [] H4 V3 s ∧ metI W p.length (k + 1) = some (met, odds) ∧ metMem H4 V3 mv met ∧ met.length ≤ k + 1 ∧ 0 ≤ odds ∧ odds ≤ 64000 * (k + 1 : Nat)) ?_ ?_
    rotate_left
    · rintro s ⟨met, odds, mv, H4, hs, hmet, hmm, hml, ho1, ho2⟩
      obtain ⟨z, rfl⟩ := hs.out
      try dsimp only
      clear hs
      refine Gx.c (by kernel_rfl) fun K hK => ?_
      simp only [XA, XB, i64_succ k (by omega)]
      exact hK _ ⟨q - 1, by omega, fun f => ⟨k + 1, met, odds, mv, H4, StIs.of (by exact rfl), by omega, hmet, hmm, hml, ho1, ho2⟩⟩
    clear hK
    refine XWP.block ?_
    refine Gx.a (by kernel_rfl) fun K hK => ?_
    simp only [XU, XA]
    refine ⟨by omega, by omega, ld_mem (loadsK shapeT_51 rfl fun j u hj => hcell _ j u hj) ?_⟩
    simp only [XU, XA]
    refine st_whole (cs := [v0, v1, v2, v3, v4, .slice A1 r.ds.length q1, v6, v7, v8]) shapeT_51 rfl rfl rfl hcsE.2.1 ?_
    simp only [XA]
    refine hK _ ?_
    refine XWP.seq ?_
    by_cases hlen : r.ds.length = p.length
    · have b3 : decide ((r.ds.length : Int) = (p.length : Int)) = true := decide_eq_true (by omega)
      refine Gx.a (by kernel_rfl) fun K hK => ?_
      simp only [XU, XA, XB, b3]
      refine hK _ ?_
      refine Gx.t rfl ?_
      refine Gx.a (by kernel_rfl) fun K hK => ?_
      simp only [XA]
      refine hK _ (XWP.ret ?_)
      try simp only [thenX_ret, inBlockX_ret]
      refine ret_go _ rfl ?_
      have : metI W p.length (k + 1) = none := by
        rw [hstep]
        unfold metStep
        rw [List.getElem?_eq_none (by omega)]
      rw [partsW_none hk hn1 this]; rfl
    have b3 : decide ((r.ds.length : Int) = (p.length : Int)) = false := decide_eq_false (by omega)
    refine Gx.a (by kernel_rfl) fun K hK => ?_
    simp only [XU, XA, XB, b3]
    refine hK _ ?_
    refine Gx.f rfl ?_
    refine XWP.skip ?_
    obtain ⟨d, hd⟩ : ∃ d, r.ds[p.length]? = some d := ⟨_, List.getElem?_eq_getElem (by omega)⟩
    obtain ⟨b1, o1, c1, eq1, hdc⟩ := dr_get hdsr hd
    cases eq1
    have hstep2 : metI W p.length (k + 1) = if met.any (metBad d) then none else if met.any (fun x => decide (x.index = d.index)) then some (met, odds) else some (met ++ [d], odds + d.odds) := by
      rw [hstep]
      unfold metStep
      rw [hd]
    have hgd := hgr d (List.mem_of_getElem? hd)
    refine Gx.a (by kernel_rfl) fun K hK => ?_
    simp only [XU, XA]
    refine ⟨by omega, by omega, ld_mem (loadsK (cs := d.cells) shapeT_66 rfl fun j u hj => ?_) ?_⟩
    · match j, hj with
      | 0, hj => cases hj; exact (hdc _).1
      | 1, hj => cases hj; exact (hdc _).2.1
      | 2, hj => cases hj; exact (hdc _).2.2.1
      | 3, hj => cases hj; exact (hdc _).2.2.2
    simp only [XU, XA]
    refine st_whole (cs := [.int .i64 d.site, .int .i64 d.index, .int .i64 d.odds, .int .i64 d.whole]) shapeT_66 rfl rfl rfl rfl ?_
    simp only [XA]
    refine hK _ ?_
    refine Gx.a (by kernel_rfl) fun K hK => ?_
    simp only [XA]
    refine hK _ ?_
    obtain ⟨AM, cM, rfl⟩ := hmm.form
    refine XWP.cutD 2 (fun s => StIs (fun Z => [.v (.slice (some ⟨bL, oL, none⟩) L.length cL), .v (.slice A2 p.length c2), Z 2,Z 3,Z 4, .v (.slice (some ⟨bW, oW, none⟩) W.length cW), Z 6,Z 7, .v (.int .i64 (p.length : Int)), .v (.slice AM met.length cM), .v (.int .i64 odds), Z 11, .p 0 0, .p 1 0, .v (.bool (met.any fun x => decide (x.index = d.index))), Z 15,Z 16,Z 17,Z 18,Z 19,Z 20,Z 21,Z 22,Z 23,Z 24,Z 25,Z 26,Z 27,Z 28,Z 29,Z 30,Z 31,Z 32,Z 33,Z 34,Z 35,Z 36,Z 37,Z 38,Z 39,Z 40,Z 41,Z 42,Z 43,Z 44, .v (.slice (some ⟨bW, oW, none⟩) W.length cW), .v (.int .i64 (W.length : Int)), .v (.int .i64 (k : Int)), Z 48,Z 49,Z 50,Z 51,Z 52,Z 53,Z 54,Z 55,Z 56,Z 57,Z 58,Z 59,Z 60,Z 61,Z 62,Z 63,Z 64,Z 65,Z 66,Z 67,Z 68,Z 69,Z 70,Z 71,Z 72,Z 73,Z 74,Z 75,Z 76,Z 77,Z 78,Z 79,Z 80,Z 81,Z 82,Z 83,Z 84,Z 85,Z 86,Z 87,Z 88,Z 89,Z 90,Z 91,Z 92,Z 93,Z 94,Z 95,Z 96,Z 97,Z 98,Z 99,Z 100,Z 101,Z 102,Z 103,Z 104,Z 105,Z 106,Z 107,Z 108,Z 109,Z 110,Z 111,Z 112,Z 113,Z 114,Z 115,Z 116,Z 117,Z 118,Z 119,Z 120,Z 121,Z 122]) [[v0, v1, v2, v3, v4, .slice (some ⟨b1, o1, none⟩) r.ds.length q1, v6, v7, v8], [.int .i64 d.site, .int .i64 d.index, .int .i64 d.odds, .int .i64 d.whole]] H4 V3 s ∧ met.any (metBad d) = false) ?_ ?_
    · refine Gx.a (by kernel_rfl) fun K hK => ?_
      simp only [XU, XA]
      refine hK _ ?_
      clear hK
      refine XWP.block ?_
      refine XWP.loopD 2 (fun n s => ∃ (j : Nat), StIs (fun Z => [.v (.slice (some ⟨bL, oL, none⟩) L.length cL), .v (.slice A2 p.length c2), Z 2,Z 3,Z 4, .v (.slice (some ⟨bW, oW, none⟩) W.length cW), Z 6,Z 7, .v (.int .i64 (p.length : Int)), .v (.slice AM met.length cM), .v (.int .i64 odds), Z 11, .p 0 0, .p 1 0, .v (.bool ((met.take j).any fun x => decide (x.index = d.index))), Z 15,Z 16,Z 17,Z 18,Z 19,Z 20,Z 21,Z 22,Z 23,Z 24,Z 25,Z 26,Z 27,Z 28,Z 29,Z 30,Z 31,Z 32,Z 33,Z 34,Z 35,Z 36,Z 37,Z 38,Z 39,Z 40,Z 41,Z 42,Z 43,Z 44, .v (.slice (some ⟨bW, oW, none⟩) W.length cW), .v (.int .i64 (W.length : Int)), .v (.int .i64 (k : Int)), Z 48,Z 49,Z 50,Z 51,Z 52,Z 53,Z 54,Z 55,Z 56,Z 57,Z 58,Z 59,Z 60, .v (.slice AM met.length cM), .v (.int .i64 (met.length : Int)), .v (.int .i64 (j : Int)), Z 64,Z 65,Z 66,Z 67,Z 68,Z 69,Z 70,Z 71,Z 72,Z 73,Z 74,Z 75,Z 76,Z 77,Z 78,Z 79,Z 80,Z 81,Z 82,Z 83,Z 84,Z 85,Z 86,Z 87,Z 88,Z 89,Z 90,Z 91,Z 92,Z 93,Z 94,Z 95,Z 96,Z 97,Z 98,Z 99,Z 100,Z 101,Z 102,Z 103,Z 104,Z 105,Z 106,Z 107,Z 108,Z 109,Z 110,Z 111,Z 112,Z 113,Z 114,Z 115,Z 116,Z 117,Z 118,Z 119,Z 120,Z 121,Z 122]) [[v0, v1, v2, v3, v4, .slice (some ⟨b1, o1, none⟩) r.ds.length q1, v6, v7, v8], [.int .i64 d.site, .int .i64 d.index, .int .i64 d.odds, .int .i64 d.whole]] H4 V3 s ∧ n + j = met.length ∧ (met.take j).any (metBad d) = false) met.length ⟨0, StIs.of (by exact rfl), by omega, by simp⟩ ?_
      rintro n s ⟨j, hs, hn, hbad⟩
      obtain ⟨y, rfl⟩ := hs.out
      try dsimp only
      clear hs
      by_cases hj : j < met.length
      rotate_left
      · obtain rfl : j = met.length := by omega
        have bt2 : decide (((met.length : Nat) : Int) < ((met.length : Nat) : Int)) = false := decide_eq_false (by omega)
        refine Gx.a (by kernel_rfl) fun K hK => ?_
        simp only [XA, XB, bt2]
        refine hK _ ?_
        refine XWP.seq (Gx.f rfl ?_)
        refine XWP.exit ?_
        rw [List.take_length] at hbad ⊢
        exact fun f => ⟨StIs.of (by exact rfl), hbad⟩
      have bt2 : decide ((j : Int) < (met.length : Int)) = true := decide_eq_true (by omega)
      refine Gx.a (by kernel_rfl) fun K hK => ?_
      simp only [XA, XB, bt2]
      refine hK _ ?_
      refine XWP.seq (Gx.t rfl ?_)
      refine XWP.skip ?_
      obtain ⟨x, hx⟩ : ∃ x, met[j]? = some x := ⟨_, List.getElem?_eq_getElem hj⟩
      have etj : met.take (j + 1) = met.take j ++ [x] := by rw [List.take_add_one, hx]; rfl
      obtain ⟨bM, oM, rfl⟩ := hmm.addr (by omega)
      have hxc := hmm.get hx V3
      refine XWP.cutD 2 (fun s => StIs (fun Z => [.v (.slice (some ⟨bL, oL, none⟩) L.length cL), .v (.slice A2 p.length c2), Z 2,Z 3,Z 4, .v (.slice (some ⟨bW, oW, none⟩) W.length cW), Z 6,Z 7, .v (.int .i64 (p.length : Int)), .v (.slice (some ⟨bM, oM, none⟩) met.length cM), .v (.int .i64 odds), Z 11, .p 0 0, .p 1 0, .v (.bool ((met.take (j + 1)).any fun x => decide (x.index = d.index))), Z 15,Z 16,Z 17,Z 18,Z 19,Z 20,Z 21,Z 22,Z 23,Z 24,Z 25,Z 26,Z 27,Z 28,Z 29,Z 30,Z 31,Z 32,Z 33,Z 34,Z 35,Z 36,Z 37,Z 38,Z 39,Z 40,Z 41,Z 42,Z 43,Z 44, .v (.slice (some ⟨bW, oW, none⟩) W.length cW), .v (.int .i64 (W.length : Int)), .v (.int .i64 (k : Int)), Z 48,Z 49,Z 50,Z 51,Z 52,Z 53,Z 54,Z 55,Z 56,Z 57,Z 58,Z 59,Z 60, .v (.slice (some ⟨bM, oM, none⟩) met.length cM), .v (.int .i64 (met.length : Int)), .v (.int .i64 (j : Int)), Z 64,Z 65,Z 66,Z 67,Z 68,Z 69,Z 70,Z 71,Z 72,Z 73,Z 74,Z 75,Z 76,Z 77,Z 78,Z 79,Z 80,Z 81,Z 82,Z 83,Z 84,Z 85,Z 86,Z 87,Z 88,Z 89,Z 90,Z 91,Z 92,Z 93,Z 94,Z 95,Z 96,Z 97,Z 98,Z 99,Z 100,Z 101,Z 102,Z 103,Z 104,Z 105,Z 106,Z 107,Z 108,Z 109,Z 110,Z 111,Z 112,Z 113,Z 114,Z 115,Z 116,Z 117,Z 118,Z 119,Z 120,Z 121,Z 122]) [[v0, v1, v2, v3, v4, .slice (some ⟨b1, o1, none⟩) r.ds.length q1, v6, v7, v8], [.int .i64 d.site, .int .i64 d.index, .int .i64 d.odds, .int .i64 d.whole]] H4 V3 s ∧ (met.take (j + 1)).any (metBad d) = false) ?_ ?_
      rotate_left
      · rintro s ⟨hs, hbad⟩
        obtain ⟨y, rfl⟩ := hs.out
        try dsimp only
        clear hs
        refine Gx.c (by kernel_rfl) fun K hK => ?_
        simp only [XA, XB, i64_succ j (by omega)]
        exact hK _ ⟨n - 1, by omega, fun f => ⟨j + 1, StIs.of (by exact rfl), by omega, hbad⟩⟩
      clear hK
      refine XWP.block ?_
      refine Gx.a (by kernel_rfl) fun K hK => ?_
      simp only [XU, XA]
      refine ⟨by omega, by omega, ld_mem (loadsK (cs := x.cells) shapeT_66 rfl hxc) ?_⟩
      simp only [XU, XA, Nat.reduceAdd]
      refine st_whole (cs := [.int .i64 x.site, .int .i64 x.index, .int .i64 x.odds, .int .i64 x.whole]) shapeT_66 rfl rfl rfl rfl ?_
      simp only [XA]
      refine hK _ ?_
      have hfin : metBad d x = true → partsW W p.length = false := fun hb => by
        refine partsW_none hk hn1 ?_
        rw [hstep2, if_pos]
        rw [List.any_eq_true]
        exact ⟨x, List.mem_of_getElem? hx, hb⟩
      have hbS : (met.take (j + 1)).any (metBad d) = metBad d x := by
        rw [etj, List.any_append, hbad]; simp
      have hkS : (met.take (j + 1)).any (fun x => decide (x.index = d.index)) = ((met.take j).any (fun x => decide (x.index = d.index)) || decide (x.index = d.index)) := by
        rw [etj, List.any_append]; simp
      rw [hbS, hkS]
      have eBad : metBad d x = (!decide (x.site = d.site) || !decide (x.whole = d.whole) || (decide (x.index = d.index) && !decide (x.odds = d.odds))) := by
        unfold metBad
        simp only [ne_eq, decide_not]
      refine XWP.cut (fun s => StIs (fun Z => [.v (.slice (some ⟨bL, oL, none⟩) L.length cL), .v (.slice A2 p.length c2), Z 2,Z 3,Z 4, .v (.slice (some ⟨bW, oW, none⟩) W.length cW), Z 6,Z 7, .v (.int .i64 (p.length : Int)), .v (.slice (some ⟨bM, oM, none⟩) met.length cM), .v (.int .i64 odds), Z 11, .p 0 0, .p 1 0, .v (.bool ((met.take j).any fun x => decide (x.index = d.index))), Z 15, .p 2 0, Z 17,Z 18,Z 19,Z 20,Z 21,Z 22,Z 23,Z 24,Z 25,Z 26,Z 27,Z 28,Z 29,Z 30,Z 31,Z 32,Z 33,Z 34,Z 35,Z 36,Z 37,Z 38,Z 39,Z 40,Z 41,Z 42,Z 43,Z 44, .v (.slice (some ⟨bW, oW, none⟩) W.length cW), .v (.int .i64 (W.length : Int)), .v (.int .i64 (k : Int)), Z 48,Z 49,Z 50,Z 51,Z 52,Z 53,Z 54,Z 55,Z 56,Z 57,Z 58,Z 59,Z 60, .v (.slice (some ⟨bM, oM, none⟩) met.length cM), .v (.int .i64 (met.length : Int)), .v (.int .i64 (j : Int)), Z 64,Z 65,Z 66,Z 67,Z 68,Z 69,Z 70,Z 71,Z 72,Z 73,Z 74,Z 75,Z 76,Z 77,Z 78,Z 79,Z 80,Z 81,Z 82,Z 83,Z 84,Z 85,Z 86,Z 87,Z 88,Z 89,Z 90,Z 91,Z 92,Z 93,Z 94,Z 95,Z 96,Z 97,Z 98,Z 99,Z 100,Z 101,Z 102,Z 103,Z 104,Z 105,Z 106,Z 107,Z 108,Z 109,Z 110,Z 111,Z 112,Z 113,Z 114,Z 115,Z 116,Z 117,Z 118,Z 119,Z 120,Z 121,Z 122]) [[v0, v1, v2, v3, v4, .slice (some ⟨b1, o1, none⟩) r.ds.length q1, v6, v7, v8], [.int .i64 d.site, .int .i64 d.index, .int .i64 d.odds, .int .i64 d.whole], [.int .i64 x.site, .int .i64 x.index, .int .i64 x.odds, .int .i64 x.whole]] H4 V3 s ∧ metBad d x = false) ?_ ?_
      · cases s1 : decide (x.site = d.site)
        · have e := hfin (by rw [eBad, s1]; rfl)
          refine Gx.a (by kernel_rfl) fun K hK => ?_
          simp only [XU, XA, XB, gateX, ↓reduceIte, s1]
          refine hK _ ?_
          refine Gx.t rfl ?_
          refine Gx.a (by kernel_rfl) fun K hK => ?_
          simp only [XA]
          refine hK _ (XWP.ret ?_)
          try simp only [thenX_ret, inBlockX_ret]
          refine ret_go _ rfl ?_
          rw [e]; rfl
        cases s2 : decide (x.whole = d.whole)
        · have e := hfin (by rw [eBad, s1, s2]; rfl)
          refine Gx.a (by kernel_rfl) fun K hK => ?_
          simp only [XU, XA, XB, gateX, ↓reduceIte, beq_self_eq_true, s1, s2]
          refine hK _ ?_
          refine Gx.t rfl ?_
          refine Gx.a (by kernel_rfl) fun K hK => ?_
          simp only [XA]
          refine hK _ (XWP.ret ?_)
          try simp only [thenX_ret, inBlockX_ret]
          refine ret_go _ rfl ?_
          rw [e]; rfl
        cases s3 : decide (x.index = d.index)
        · refine Gx.a (by kernel_rfl) fun K hK => ?_
          simp only [XU, XA, XB, gateX, ↓reduceIte, beq_self_eq_true, s1, s2, s3]
          refine hK _ ?_
          refine Gx.f rfl ?_
          refine XWP.skip ?_
          exact ⟨StIs.of (by exact rfl), by rw [eBad, s1, s2, s3]; rfl⟩
        cases s4 : decide (x.odds = d.odds)
        · have e := hfin (by rw [eBad, s1, s2, s3, s4]; rfl)
          refine Gx.a (by kernel_rfl) fun K hK => ?_
          simp only [XU, XA, XB, gateX, ↓reduceIte, beq_self_eq_true, s1, s2, s3, s4]
          refine hK _ ?_
          refine Gx.t rfl ?_
          refine Gx.a (by kernel_rfl) fun K hK => ?_
          simp only [XA]
          refine hK _ (XWP.ret ?_)
          try simp only [thenX_ret, inBlockX_ret]
          refine ret_go _ rfl ?_
          rw [e]; rfl
        · refine Gx.a (by kernel_rfl) fun K hK => ?_
          simp only [XU, XA, XB, gateX, ↓reduceIte, beq_self_eq_true, s1, s2, s3, s4]
          refine hK _ ?_
          refine Gx.f rfl ?_
          refine XWP.skip ?_
          exact ⟨StIs.of (by exact rfl), by rw [eBad, s1, s2, s3, s4]; rfl⟩
      rintro s ⟨hs, hbx⟩
      obtain ⟨y, rfl⟩ := hs.out
      try dsimp only
      clear hs
      cases hkn : (met.take j).any (fun x => decide (x.index = d.index))
      · refine Gx.c (by kernel_rfl) fun K hK => ?_
        simp only [XU, XA, XB, gateX, ↓reduceIte, beq_self_eq_true]
        refine hK _ fun f => ⟨StIs.of (by simp only [Bool.false_or]; exact rfl), hbx⟩
      · refine Gx.c (by kernel_rfl) fun K hK => ?_
        simp only [XA, gateX, ↓reduceIte]
        exact hK _ fun f => ⟨StIs.of (by simp only [Bool.true_or]; exact rfl), hbx⟩
    rintro s ⟨hs, hbad⟩
    obtain ⟨y, rfl⟩ := hs.out
    try dsimp only
    clear hs
    rw [hbad, if_neg (by simp)] at hstep2
    cases hkn : met.any (fun x => decide (x.index = d.index))
    · rw [hkn, if_neg (by simp)] at hstep2
      refine Gx.a (by kernel_rfl) fun K hK => ?_
      simp only [XA]
      refine hK _ ?_
      refine Gx.t rfl ?_
      refine Gx.a (by kernel_rfl) fun K hK => ?_
      simp only [XU, XA, Nat.reduceAdd, Nat.reduceLeDiff, ↓reduceIte]
      obtain ⟨mcells, hmo, hmr⟩ := hmm
      refine bs_go (by kernel_rfl) #[(0, .agg ([.int .i64 d.site, .int .i64 d.index, .int .i64 d.odds, .int .i64 d.whole] : List Value).toArray)] (by simp [ev_tmp, SV.val]) (bs_agg elemT_45 zeroT_66 rfl (by omega) (by omega) rfl) fun bq hbq1 hbq2 => ?_
      simp only [XA, Nat.reduceAdd]
      refine ap_go elemT_45 (by kernel_rfl) zeroT_66 rfl (by omega) (own_upd hmo hbq1) (srcK (upd_at _ _ _) rfl) (by omega) (by omega) fun v' H' hres => ?_
      simp only [XA]
      refine hK _ ?_
      obtain ⟨g1, g2, g3, g4⟩ := hgd
      have wo : IntKind.i64.wrap (odds + d.odds) = odds + d.odds := wrap_id (by omega) (by omega)
      refine Gx.c (by kernel_rfl) fun K hK => ?_
      simp only [XU, XA, XB, wo]
      refine hK _ fun f => ⟨met ++ [d], odds + d.odds, v', H', StIs.of (by exact rfl), hstep2, ⟨_, ?_, hmr.snoc ⟨rfl, rfl, rfl⟩⟩, by simp; omega, by omega, by omega⟩
      rw [List.length_append, List.length_singleton]
      exact hres.1
    · rw [hkn, if_pos rfl] at hstep2
      refine Gx.a (by kernel_rfl) fun K hK => ?_
      simp only [XA]
      refine hK _ ?_
      refine Gx.f rfl ?_
      refine XWP.skip ?_
      exact fun f => ⟨met, odds, _, H4, StIs.of (by exact rfl), hstep2, hmm, by omega, by omega, by omega⟩
  rintro s ⟨met, odds, H4, hs, hmet⟩
  obtain ⟨z, rfl⟩ := hs.out
  try dsimp only
  clear hs
  have hlt : p.length < r0.ds.length := by
    refine Classical.byContradiction fun hn => ?_
    have : metI W p.length 1 = none := by
      rw [metI_succ (st := ([], 0)) rfl hr0]
      unfold metStep
      rw [List.getElem?_eq_none (by omega)]
    rw [metI_none this W.length (by omega)] at hmet
    cases hmet
  obtain ⟨d0, hd0⟩ : ∃ d, r0.ds[p.length]? = some d := ⟨_, List.getElem?_eq_getElem hlt⟩
  obtain ⟨b0, o0, c0, eq0, hdc0⟩ := dr_get hds0 hd0
  cases eq0
  have y4 := fun H => loads1 (H := H) shapeT_3 (hdc0 H).2.2.2
  refine Gx.a (by kernel_rfl) fun K hK => ?_
  simp only [XU, XA, Nat.reduceMul, Int.reduceLE]
  refine ⟨by omega, ld_mem (y0 _) ?_⟩
  simp only [XU, XA]
  refine ⟨by omega, by omega, ld_mem (y4 _) ?_⟩
  simp only [XA, XB]
  refine hK _ (XWP.ret ?_)
  try simp only [thenX_ret, inBlockX_ret]
  refine ret_go _ rfl ?_
  unfold partsW
  rw [if_neg hn1, hmet, draw0_at hr0 hd0]; rfl
end Go.Proofs.YtobjjdnfgamgcaaGreat
end
section
namespace Go.Proofs.YtobjjdnfgamgcaaGreat
open Go Go.RowKit
set_option linter.unusedSimpArgs false
set_option linter.unusedVariables false
attribute [local irreducible] XWP Spec SpecO XPub XCall seqX clX apX stX ldX iaX slX
theorem SlK.take {α : Type} {sz : Nat} {E : View → List Value → α → Prop} {V : View} {A : Option Addr} {m c : Nat} {xs : List α} (h : SlK sz E V (.slice A m c) xs) {n : Nat} (hn : n ≤ xs.length) : SlK sz E V (.slice A n c) (xs.take n) := by
  obtain ⟨A', c', e, h1, h2, h3⟩ := h
  cases e
  refine ⟨A, c, by rw [List.length_take, Nat.min_eq_left hn], by rw [List.length_take]; omega, h2, ?_⟩
  rcases h3 with rfl | ⟨b, o, arr, ty, fr, e1, e2, h4⟩
  · exact .inl (by simp)
  · refine .inr ⟨b, o, arr, ty, fr, e1, e2, fun i x hx => h4 i x ?_⟩
    rw [List.getElem?_take] at hx
    split at hx
    · exact hx
    · cases hx
theorem withL_self {L : List Rn} {r : Rn} {n : Nat} (hr : r ∈ L) (hn : n ≤ r.ds.length) : 0 < (withL L (r.ds.take n)).length := by
  refine List.length_pos_of_mem (a := r) ?_
  unfold withL
  rw [List.mem_filter]
  exact ⟨hr, begB_take hn⟩
/-- the reference's answer -/
def downB (l : List Rn) : Bool := l.all fun r => (List.range (r.ds.length + 1)).all fun n => partsB l (r.ds.take n)
theorem right_down {l : List Rn} (h1 : 1 ≤ l.length) (hd : l.all drawsB = true) (hl : ∀ r ∈ l, r.ds.length ≤ 100) : forkB 102 l 0 = downB l := by
  have hgood : ∀ r ∈ l, ∀ d ∈ r.ds, d.good := fun r hr d hd' => by
    have h1 := List.all_eq_true.1 hd r hr
    unfold drawsB at h1
    simp only [Bool.and_eq_true] at h1
    exact (Dr.goodB_iff d).1 (List.all_eq_true.1 h1.1.2 d hd')
  have key := fork_parts 102 l 0 [] rfl (by omega) (fun r _ => by rw [begB_iff]; exact ⟨Nat.zero_le _, rfl⟩) hgood (fun r hr => by have := hl r hr; omega)
  have : downB l = true ↔ ∀ r ∈ l, ∀ n, 0 ≤ n → n ≤ r.ds.length → partsB l (r.ds.take n) = true := by
    unfold downB
    rw [List.all_eq_true]
    constructor
    · intro h r hr n _ hn
      exact List.all_eq_true.1 (h r hr) n (List.mem_range.2 (by omega))
    · intro h r hr
      rw [List.all_eq_true]
      intro n hn
      exact h r hr n (Nat.zero_le _) (by have := List.mem_range.1 hn; omega)
  cases e : forkB 102 l 0 <;> cases e' : downB l
  · rfl
  · rw [key.2 (this.1 e')] at e; cases e
  · rw [this.2 (key.1 e)] at e'; cases e'
  · rfl
theorem rightR_def {l : List Rn} (hl : ∀ r ∈ l, r.ds.length ≤ 100) : rightR l = (decide (1 ≤ l.length) && decide (l.length ≤ 60) && l.all drawsB && downB l) := by
  unfold rightR
  by_cases h1 : 1 ≤ l.length
  · cases hd : l.all drawsB
    · simp
    · rw [right_down h1 hd hl]
  · rw [decide_eq_false h1]; simp
theorem rightR_bad {l : List Rn} {r : Rn} (hr : r ∈ l) (hb : drawsB r = false) : rightR l = false := by
  unfold rightR
  have : l.all drawsB = false := by
    rw [List.all_eq_false]
    exact ⟨r, hr, by rw [hb]; simp⟩
  rw [this]; simp
set_option maxHeartbeats 8000000 in
set_option maxRecDepth 100000 in
theorem kref_right_c (V : View) (v : Value) (l : List Rn) (h : SlK 9 rnE V v l) (f : ∀ r ∈ l, r.fits) (ll : l.length ≤ 1000000) : Spec Tryz.prog 12 [v] V fun v' V' => v' = .bool (rightR l) := by
  have hlen : ∀ r ∈ l, r.ds.length ≤ 100 := fun r hr => (f r hr).1
  obtain ⟨AL, cL, rfl, _, _⟩ := h.form
  refine (Spec.enter Tryz.func12 rfl fun Γ => ?_)
  simp only [Tryz.ntmps12, List.map_cons, List.map_nil, List.length_cons, List.length_nil, Nat.reduceAdd, Nat.reduceSub, List.replicate_succ, List.replicate_zero, List.cons_append, List.nil_append]
  refine Gx.a (by kernel_rfl) fun K hK => ?_
  simp only [XA]
  refine hK _ ?_
  refine XWP.seq ?_
  by_cases h1 : 1 ≤ l.length
  rotate_left
  · have b1 : decide ((l.length : Int) < 1) = true := decide_eq_true (by omega)
    refine Gx.a (by kernel_rfl) fun K hK => ?_
    simp only [XU, XA, XB, gateX, ↓reduceIte, b1]
    refine hK _ ?_
    refine Gx.t rfl ?_
    refine Gx.a (by kernel_rfl) fun K hK => ?_
    simp only [XA]
    refine hK _ (XWP.ret ?_)
    try simp only [thenX_ret, inBlockX_ret]
    refine ret_go _ rfl ?_
    rw [rightR_def hlen, decide_eq_false h1]; rfl
  have b1 : decide ((l.length : Int) < 1) = false := decide_eq_false (by omega)
  by_cases h2 : l.length ≤ 60
  rotate_left
  · have b2 : decide ((60 : Int) < (l.length : Int)) = true := decide_eq_true (by omega)
    refine Gx.a (by kernel_rfl) fun K hK => ?_
    simp only [XU, XA, XB, gateX, ↓reduceIte, beq_self_eq_true, b1, b2]
    refine hK _ ?_
    refine Gx.t rfl ?_
    refine Gx.a (by kernel_rfl) fun K hK => ?_
    simp only [XA]
    refine hK _ (XWP.ret ?_)
    try simp only [thenX_ret, inBlockX_ret]
    refine ret_go _ rfl ?_
    rw [rightR_def hlen, decide_eq_false h2]; simp
    rfl
  have b2 : decide ((60 : Int) < (l.length : Int)) = false := decide_eq_false (by omega)
  refine Gx.a (by kernel_rfl) fun K hK => ?_
  simp only [XU, XA, XB, gateX, ↓reduceIte, beq_self_eq_true, b1, b2]
  refine hK _ ?_
  refine Gx.f rfl ?_
  refine XWP.skip ?_
  obtain ⟨bL, oL, rfl⟩ := SlK.addr h (by omega)
  refine XWP.cutD 0 (fun s => ∃ (V2 : View), StIs (fun Z => [.v (.slice (some ⟨bL, oL, none⟩) l.length cL), Z 1,Z 2,Z 3,Z 4,Z 5,Z 6,Z 7,Z 8,Z 9,Z 10,Z 11,Z 12,Z 13,Z 14,Z 15,Z 16,Z 17,Z 18,Z 19,Z 20,Z 21,Z 22,Z 23,Z 24,Z 25,Z 26,Z 27,Z 28,Z 29,Z 30,Z 31,Z 32,Z 33,Z 34,Z 35,Z 36,Z 37,Z 38,Z 39,Z 40,Z 41,Z 42,Z 43,Z 44,Z 45,Z 46,Z 47,Z 48,Z 49,Z 50,Z 51,Z 52,Z 53,Z 54,Z 55,Z 56,Z 57,Z 58,Z 59,Z 60,Z 61,Z 62,Z 63,Z 64,Z 65,Z 66,Z 67,Z 68,Z 69,Z 70,Z 71,Z 72,Z 73,Z 74,Z 75,Z 76,Z 77,Z 78,Z 79,Z 80,Z 81,Z 82,Z 83,Z 84,Z 85,Z 86,Z 87,Z 88,Z 89,Z 90,Z 91,Z 92,Z 93,Z 94,Z 95,Z 96,Z 97,Z 98,Z 99,Z 100,Z 101,Z 102,Z 103,Z 104,Z 105]) [] (fun _ => none) V2 s ∧ V.le V2 ∧ l.all drawsB = true) ?_ ?_
  · refine Gx.a (by kernel_rfl) fun K hK => ?_
    simp only [XU, XA]
    refine hK _ ?_
    clear hK
    refine XWP.block ?_
    refine XWP.loopD 0 (fun q s => ∃ (k : Nat) (V2 : View), StIs (fun Z => [.v (.slice (some ⟨bL, oL, none⟩) l.length cL), Z 1,Z 2,Z 3,Z 4,Z 5,Z 6,Z 7,Z 8,Z 9,Z 10,Z 11,Z 12,Z 13,Z 14,Z 15,Z 16,Z 17,Z 18,Z 19, .v (.slice (some ⟨bL, oL, none⟩) l.length cL), .v (.int .i64 (l.length : Int)), .v (.int .i64 (k : Int)), Z 23,Z 24,Z 25,Z 26,Z 27,Z 28,Z 29,Z 30,Z 31,Z 32,Z 33,Z 34,Z 35,Z 36,Z 37,Z 38,Z 39,Z 40,Z 41,Z 42,Z 43,Z 44,Z 45,Z 46,Z 47,Z 48,Z 49,Z 50,Z 51,Z 52,Z 53,Z 54,Z 55,Z 56,Z 57,Z 58,Z 59,Z 60,Z 61,Z 62,Z 63,Z 64,Z 65,Z 66,Z 67,Z 68,Z 69,Z 70,Z 71,Z 72,Z 73,Z 74,Z 75,Z 76,Z 77,Z 78,Z 79,Z 80,Z 81,Z 82,Z 83,Z 84,Z 85,Z 86,Z 87,Z 88,Z 89,Z 90,Z 91,Z 92,Z 93,Z 94,Z 95,Z 96,Z 97,Z 98,Z 99,Z 100,Z 101,Z 102,Z 103,Z 104,Z 105]) [] (fun _ => none) V2 s ∧ q + k = l.length ∧ V.le V2 ∧ (l.take k).all drawsB = true) l.length ⟨0, V, StIs.of (by exact rfl), by omega, View.le_refl _, by simp⟩ ?_
    rintro q s ⟨k, V2, hs, hq, hV2, hall⟩
    obtain ⟨z, rfl⟩ := hs.out
    try dsimp only
    clear hs
    by_cases hk : k < l.length
    rotate_left
    · obtain rfl : k = l.length := by omega
      have bt1 : decide (((l.length : Nat) : Int) < ((l.length : Nat) : Int)) = false := decide_eq_false (by omega)
      refine Gx.a (by kernel_rfl) fun K hK => ?_
      simp only [XA, XB, bt1]
      refine hK _ ?_
      refine XWP.seq (Gx.f rfl ?_)
      refine XWP.exit ?_
      rw [List.take_length] at hall
      exact fun f => ⟨V2, StIs.of (by exact rfl), hV2, hall⟩
    have bt1 : decide ((k : Int) < (l.length : Int)) = true := decide_eq_true (by omega)
    refine Gx.a (by kernel_rfl) fun K hK => ?_
    simp only [XA, XB, bt1]
    refine hK _ ?_
    refine XWP.seq (Gx.t rfl ?_)
    refine XWP.skip ?_
    obtain ⟨r, hrk⟩ : ∃ r, l[k]? = some r := ⟨_, List.getElem?_eq_getElem hk⟩
    have er : l[k] = r := (List.getElem?_eq_some_iff.1 hrk).2
    have hrL : r ∈ l := List.mem_of_getElem? hrk
    obtain ⟨hrl, hrf, hrq⟩ := f r hrL
    have h2' := h.mono rnE_ok hV2
    obtain ⟨cs, hcs, hcell⟩ := SlK.get h2' k hk
    rw [er] at hcs
    have hcsE := hcs
    obtain ⟨_, hone, c1, c2, c3, c4, dv, m, c7, c8, rfl, hds, hwr⟩ := hcs
    obtain ⟨A, c, rfl, hc, hm⟩ := hds.form
    have hwr0 : RawAt V2 (.agg #[m, c7, c8]) r.w.m r.w.nd r.w.dd := hwr
    have etk : l.take (k + 1) = l.take k ++ [r] := by rw [List.take_add_one, hrk]; rfl
    refine XWP.cutD 0 (fun s => ∃ (V3 : View), StIs (fun Z => [.v (.slice (some ⟨bL, oL, none⟩) l.length cL), Z 1,Z 2,Z 3,Z 4,Z 5,Z 6,Z 7,Z 8,Z 9,Z 10,Z 11,Z 12,Z 13,Z 14,Z 15,Z 16,Z 17,Z 18,Z 19, .v (.slice (some ⟨bL, oL, none⟩) l.length cL), .v (.int .i64 (l.length : Int)), .v (.int .i64 (k : Int)), Z 23,Z 24,Z 25,Z 26,Z 27,Z 28,Z 29,Z 30,Z 31,Z 32,Z 33,Z 34,Z 35,Z 36,Z 37,Z 38,Z 39,Z 40,Z 41,Z 42,Z 43,Z 44,Z 45,Z 46,Z 47,Z 48,Z 49,Z 50,Z 51,Z 52,Z 53,Z 54,Z 55,Z 56,Z 57,Z 58,Z 59,Z 60,Z 61,Z 62,Z 63,Z 64,Z 65,Z 66,Z 67,Z 68,Z 69,Z 70,Z 71,Z 72,Z 73,Z 74,Z 75,Z 76,Z 77,Z 78,Z 79,Z 80,Z 81,Z 82,Z 83,Z 84,Z 85,Z 86,Z 87,Z 88,Z 89,Z 90,Z 91,Z 92,Z 93,Z 94,Z 95,Z 96,Z 97,Z 98,Z 99,Z 100,Z 101,Z 102,Z 103,Z 104,Z 105]) [] (fun _ => none) V3 s ∧ V.le V3 ∧ drawsB r = true) ?_ ?_
    rotate_left
    · rintro s ⟨V3, hs, hV3, hdr⟩
      obtain ⟨z, rfl⟩ := hs.out
      try dsimp only
      clear hs
      refine Gx.c (by kernel_rfl) fun K hK => ?_
      simp only [XA, XB, i64_succ k (by omega)]
      exact hK _ ⟨q - 1, by omega, fun f => ⟨k + 1, V3, StIs.of (by exact rfl), by omega, hV3, by rw [etk, List.all_append, hall]; simp [hdr]⟩⟩
    clear hK
    refine XWP.block ?_
    refine Gx.a (by kernel_rfl) fun K hK => ?_
    simp only [XU, XA]
    refine ⟨by omega, by omega, ld_mem (loadsK shapeT_51 rfl fun j u hj => hcell _ j u hj) ?_⟩
    simp only [XU, XA]
    refine st_whole (cs := [.int .i64 r.kind, c1, c2, c3, c4, .slice A r.ds.length c, m, c7, c8]) shapeT_51 rfl rfl rfl hcsE.2.1 ?_
    simp only [XA]
    refine hK _ ?_
    refine XWP.cutD 1 (fun s => ∃ (V3 : View), StIs (fun Z => [.v (.slice (some ⟨bL, oL, none⟩) l.length cL), Z 1,Z 2,Z 3, .p 0 0, Z 5,Z 6,Z 7,Z 8,Z 9,Z 10,Z 11,Z 12,Z 13,Z 14,Z 15,Z 16,Z 17,Z 18,Z 19, .v (.slice (some ⟨bL, oL, none⟩) l.length cL), .v (.int .i64 (l.length : Int)), .v (.int .i64 (k : Int)), Z 23,Z 24,Z 25,Z 26,Z 27,Z 28,Z 29,Z 30,Z 31,Z 32,Z 33,Z 34,Z 35,Z 36,Z 37,Z 38,Z 39,Z 40,Z 41,Z 42,Z 43,Z 44,Z 45,Z 46,Z 47,Z 48,Z 49,Z 50,Z 51,Z 52,Z 53,Z 54,Z 55,Z 56,Z 57,Z 58,Z 59,Z 60,Z 61,Z 62,Z 63,Z 64,Z 65,Z 66,Z 67,Z 68,Z 69,Z 70,Z 71,Z 72,Z 73,Z 74,Z 75,Z 76,Z 77,Z 78,Z 79,Z 80,Z 81,Z 82,Z 83,Z 84,Z 85,Z 86,Z 87,Z 88,Z 89,Z 90,Z 91,Z 92,Z 93,Z 94,Z 95,Z 96,Z 97,Z 98,Z 99,Z 100,Z 101,Z 102,Z 103,Z 104,Z 105]) [[.int .i64 r.kind, c1, c2, c3, c4, .slice A r.ds.length c, m, c7, c8]] (fun _ => none) V3 s ∧ V2.le V3 ∧ r.kind = 0 ∧ r.w.ok = true ∧ decide (0 < sgI r.w.q) = true) ?_ ?_
    · by_cases k0 : r.kind = 0
      rotate_left
      · have b1 : (!decide (r.kind = 0)) = true := by rw [decide_eq_false k0]; rfl
        refine Gx.a (by kernel_rfl) fun K hK => ?_
        simp only [XU, XA, XB, gateX, ↓reduceIte, b1]
        refine hK _ ?_
        refine Gx.t rfl ?_
        refine Gx.a (by kernel_rfl) fun K hK => ?_
        simp only [XA]
        refine hK _ (XWP.ret ?_)
        try simp only [thenX_ret, inBlockX_ret]
        refine ret_go _ rfl ?_
        rw [rightR_bad hrL (by unfold drawsB; rw [decide_eq_false k0]; rfl)]; rfl
      have b1 : (!decide (r.kind = 0)) = false := by rw [decide_eq_true k0]; rfl
      refine Gx.a (by kernel_rfl) fun K hK => ?_
      simp only [XU, XA, XB, gateX, Nat.reduceAdd, Nat.reduceLeDiff, ↓reduceIte, beq_self_eq_true, b1]
      refine call_go (by kernel_rfl) rfl (pright_c _ _ r.w.m r.w.nd r.w.dd hwr0 hrf.1 hrf.2) fun v1 V1 hV1 h1 => ?_
      have h1 : v1 = .bool r.w.ok := h1
      subst h1
      cases hok : r.w.ok
      · simp only [XA, gateX, ↓reduceIte, beq_self_eq_true]
        refine hK _ ?_
        refine Gx.t rfl ?_
        refine Gx.a (by kernel_rfl) fun K hK => ?_
        simp only [XA]
        refine hK _ (XWP.ret ?_)
        try simp only [thenX_ret, inBlockX_ret]
        refine ret_go _ rfl ?_
        rw [rightR_bad hrL (by unfold drawsB; rw [hok]; simp)]; rfl
      have hwc : RatC V2 (.agg #[m, c7, c8]) r.w.q := RawAt.rat hwr hok
      simp only [XU, XA, XB, gateX, Nat.reduceAdd, Nat.reduceLeDiff, ↓reduceIte, beq_self_eq_true]
      refine call_go (by kernel_rfl) rfl (psign_c _ _ _ ((hwc.mono hV1).toV (hrq hok))) fun v2 V3 hV3 h2 => ?_
      subst h2
      by_cases hs : 0 < sgI r.w.q
      · have b2 : decide (sgI r.w.q ≤ 0) = false := decide_eq_false (by omega)
        simp only [XA, XB, gateX, ↓reduceIte, beq_self_eq_true, b2]
        refine hK _ ?_
        refine Gx.f rfl ?_
        refine XWP.skip ?_
        exact fun f => ⟨V3, StIs.of (by exact rfl), View.le_trans hV1 hV3, k0, hok, decide_eq_true hs⟩
      · have b2 : decide (sgI r.w.q ≤ 0) = true := decide_eq_true (by omega)
        simp only [XA, XB, gateX, ↓reduceIte, beq_self_eq_true, b2]
        refine hK _ ?_
        refine Gx.t rfl ?_
        refine Gx.a (by kernel_rfl) fun K hK => ?_
        simp only [XA]
        refine hK _ (XWP.ret ?_)
        try simp only [thenX_ret, inBlockX_ret]
        refine ret_go _ rfl ?_
        rw [rightR_bad hrL (by unfold drawsB; rw [decide_eq_false hs]; simp)]; rfl
    rintro s ⟨V3, hs, hV3, k0, hok, hs0⟩
    obtain ⟨z, rfl⟩ := hs.out
    try dsimp only
    clear hs
    have hds3 := hds.mono drE_ok hV3
    refine XWP.cutD 1 (fun s => StIs (fun Z => [.v (.slice (some ⟨bL, oL, none⟩) l.length cL), Z 1,Z 2,Z 3, .p 0 0, Z 5,Z 6,Z 7,Z 8,Z 9,Z 10,Z 11,Z 12,Z 13,Z 14,Z 15,Z 16,Z 17,Z 18,Z 19, .v (.slice (some ⟨bL, oL, none⟩) l.length cL), .v (.int .i64 (l.length : Int)), .v (.int .i64 (k : Int)), Z 23,Z 24,Z 25,Z 26,Z 27,Z 28,Z 29,Z 30,Z 31,Z 32,Z 33,Z 34,Z 35,Z 36,Z 37,Z 38,Z 39,Z 40,Z 41,Z 42,Z 43,Z 44,Z 45,Z 46,Z 47,Z 48,Z 49,Z 50,Z 51,Z 52,Z 53,Z 54,Z 55,Z 56,Z 57,Z 58,Z 59,Z 60,Z 61,Z 62,Z 63,Z 64,Z 65,Z 66,Z 67,Z 68,Z 69,Z 70,Z 71,Z 72,Z 73,Z 74,Z 75,Z 76,Z 77,Z 78,Z 79,Z 80,Z 81,Z 82,Z 83,Z 84,Z 85,Z 86,Z 87,Z 88,Z 89,Z 90,Z 91,Z 92,Z 93,Z 94,Z 95,Z 96,Z 97,Z 98,Z 99,Z 100,Z 101,Z 102,Z 103,Z 104,Z 105]) [[.int .i64 r.kind, c1, c2, c3, c4, .slice A r.ds.length c, m, c7, c8]] (fun _ => none) V3 s ∧ ∀ d ∈ r.ds, d.good) ?_ ?_
    · refine Gx.a (by kernel_rfl) fun K hK => ?_
      simp only [XU, XA]
      refine hK _ ?_
      clear hK
      refine XWP.block ?_
      refine XWP.loopD 1 (fun n s => ∃ (j : Nat), StIs (fun Z => [.v (.slice (some ⟨bL, oL, none⟩) l.length cL), Z 1,Z 2,Z 3, .p 0 0, Z 5,Z 6,Z 7,Z 8,Z 9,Z 10,Z 11,Z 12,Z 13,Z 14,Z 15,Z 16,Z 17,Z 18,Z 19, .v (.slice (some ⟨bL, oL, none⟩) l.length cL), .v (.int .i64 (l.length : Int)), .v (.int .i64 (k : Int)), Z 23,Z 24,Z 25,Z 26,Z 27,Z 28,Z 29,Z 30,Z 31,Z 32,Z 33,Z 34,Z 35,Z 36,Z 37,Z 38,Z 39,Z 40,Z 41,Z 42, .v (.slice A r.ds.length c), .v (.int .i64 (r.ds.length : Int)), .v (.int .i64 (j : Int)), Z 46,Z 47,Z 48,Z 49,Z 50,Z 51,Z 52,Z 53,Z 54,Z 55,Z 56,Z 57,Z 58,Z 59,Z 60,Z 61,Z 62,Z 63,Z 64,Z 65,Z 66,Z 67,Z 68,Z 69,Z 70,Z 71,Z 72,Z 73,Z 74,Z 75,Z 76,Z 77,Z 78,Z 79,Z 80,Z 81,Z 82,Z 83,Z 84,Z 85,Z 86,Z 87,Z 88,Z 89,Z 90,Z 91,Z 92,Z 93,Z 94,Z 95,Z 96,Z 97,Z 98,Z 99,Z 100,Z 101,Z 102,Z 103,Z 104,Z 105]) [[.int .i64 r.kind, c1, c2, c3, c4, .slice A r.ds.length c, m, c7, c8]] (fun _ => none) V3 s ∧ n + j = r.ds.length ∧ ∀ (i : Nat) (d : Dr), r.ds[i]? = some d → i < j → d.good) r.ds.length ⟨0, StIs.of (by exact rfl), by omega, fun j d _ h => by omega⟩ ?_
      rintro n s ⟨j, hs, hn, hg⟩
      obtain ⟨y, rfl⟩ := hs.out
      try dsimp only
      clear hs
      by_cases hj : j < r.ds.length
      rotate_left
      · obtain rfl : j = r.ds.length := by omega
        have b1 : decide (((r.ds.length : Nat) : Int) < ((r.ds.length : Nat) : Int)) = false := decide_eq_false (by omega)
        refine Gx.a (by kernel_rfl) fun K hK => ?_
        simp only [XA, XB, b1]
        refine hK _ ?_
        refine XWP.seq (Gx.f rfl ?_)
        refine XWP.exit ?_
        refine fun f => ⟨StIs.of (by exact rfl), fun d hd => ?_⟩
        obtain ⟨i, hi⟩ := List.getElem?_of_mem hd
        exact hg i d hi (List.getElem?_eq_some_iff.1 hi).1
      have b1 : decide ((j : Int) < (r.ds.length : Int)) = true := decide_eq_true (by omega)
      refine Gx.a (by kernel_rfl) fun K hK => ?_
      simp only [XA, XB, b1]
      refine hK _ ?_
      refine XWP.seq (Gx.t rfl ?_)
      refine XWP.skip ?_
      obtain ⟨b, o, rfl⟩ := SlK.addr hds3 (by omega)
      obtain ⟨dc, ⟨d1, d2, d3⟩, hcellD⟩ := SlK.get hds3 j hj
      have hmem := List.getElem_mem hj
      have hkd : r.ds[j]? = some r.ds[j] := List.getElem?_eq_getElem hj
      have d3 : dc = r.ds[j].cells := d3
      generalize r.ds[j] = d at *
      subst d3
      refine XWP.cutD 1 (fun s => StIs (fun Z => [.v (.slice (some ⟨bL, oL, none⟩) l.length cL), Z 1,Z 2,Z 3, .p 0 0, Z 5,Z 6,Z 7,Z 8,Z 9,Z 10,Z 11,Z 12,Z 13,Z 14,Z 15,Z 16,Z 17,Z 18,Z 19, .v (.slice (some ⟨bL, oL, none⟩) l.length cL), .v (.int .i64 (l.length : Int)), .v (.int .i64 (k : Int)), Z 23,Z 24,Z 25,Z 26,Z 27,Z 28,Z 29,Z 30,Z 31,Z 32,Z 33,Z 34,Z 35,Z 36,Z 37,Z 38,Z 39,Z 40,Z 41,Z 42, .v (.slice (some ⟨b, o, none⟩) r.ds.length c), .v (.int .i64 (r.ds.length : Int)), .v (.int .i64 (j : Int)), Z 46,Z 47,Z 48,Z 49,Z 50,Z 51,Z 52,Z 53,Z 54,Z 55,Z 56,Z 57,Z 58,Z 59,Z 60,Z 61,Z 62,Z 63,Z 64,Z 65,Z 66,Z 67,Z 68,Z 69,Z 70,Z 71,Z 72,Z 73,Z 74,Z 75,Z 76,Z 77,Z 78,Z 79,Z 80,Z 81,Z 82,Z 83,Z 84,Z 85,Z 86,Z 87,Z 88,Z 89,Z 90,Z 91,Z 92,Z 93,Z 94,Z 95,Z 96,Z 97,Z 98,Z 99,Z 100,Z 101,Z 102,Z 103,Z 104,Z 105]) [[.int .i64 r.kind, c1, c2, c3, c4, .slice (some ⟨b, o, none⟩) r.ds.length c, m, c7, c8]] (fun _ => none) V3 s ∧ d.good) ?_ ?_
      rotate_left
      · rintro s ⟨hs, hgd⟩
        obtain ⟨y, rfl⟩ := hs.out
        try dsimp only
        clear hs
        refine Gx.c (by kernel_rfl) fun K hK => ?_
        simp only [XA, XB, i64_succ j (by omega)]
        refine hK _ ⟨n - 1, by omega, fun f => ⟨j + 1, StIs.of (by exact rfl), by omega, fun i e hi hlt => ?_⟩⟩
        by_cases ej : i = j
        · subst ej
          rw [hkd] at hi
          cases hi
          exact hgd
        · exact hg i e hi (by omega)
      clear hK
      refine XWP.block ?_
      refine Gx.a (by kernel_rfl) fun K hK => ?_
      simp only [XU, XA]
      refine ⟨by omega, by omega, ld_mem (loadsK shapeT_66 d1 (hcellD _)) ?_⟩
      simp only [XU, XA]
      refine st_whole (cs := [.int .i64 d.site, .int .i64 d.index, .int .i64 d.odds, .int .i64 d.whole]) shapeT_66 rfl rfl rfl rfl ?_
      simp only [XA]
      refine hK _ ?_
      by_cases y1 : d.index < 0
      · have t1 : decide (d.index < 0) = true := decide_eq_true y1
        refine Gx.a (by kernel_rfl) fun K hK => ?_
        simp only [XU, XA, XB, gateX, ↓reduceIte, t1]
        refine hK _ ?_
        refine Gx.t rfl ?_
        refine Gx.a (by kernel_rfl) fun K hK => ?_
        simp only [XA]
        refine hK _ (XWP.ret ?_)
        try simp only [thenX_ret, inBlockX_ret]
        refine ret_go _ rfl ?_
        rw [rightR_bad hrL (drawsB_bad hmem fun g => by have := g.1; omega)]; rfl
      have t1 : decide (d.index < 0) = false := decide_eq_false y1
      by_cases y2 : d.odds < 1
      · have t2 : decide (d.odds < 1) = true := decide_eq_true y2
        refine Gx.a (by kernel_rfl) fun K hK => ?_
        simp only [XU, XA, XB, gateX, ↓reduceIte, beq_self_eq_true, t1, t2]
        refine hK _ ?_
        refine Gx.t rfl ?_
        refine Gx.a (by kernel_rfl) fun K hK => ?_
        simp only [XA]
        refine hK _ (XWP.ret ?_)
        try simp only [thenX_ret, inBlockX_ret]
        refine ret_go _ rfl ?_
        rw [rightR_bad hrL (drawsB_bad hmem fun g => by have := g.2.1; omega)]; rfl
      have t2 : decide (d.odds < 1) = false := decide_eq_false y2
      by_cases y3 : d.whole < d.odds
      · have t3 : decide (d.whole < d.odds) = true := decide_eq_true y3
        refine Gx.a (by kernel_rfl) fun K hK => ?_
        simp only [XU, XA, XB, gateX, ↓reduceIte, beq_self_eq_true, t1, t2, t3]
        refine hK _ ?_
        refine Gx.t rfl ?_
        refine Gx.a (by kernel_rfl) fun K hK => ?_
        simp only [XA]
        refine hK _ (XWP.ret ?_)
        try simp only [thenX_ret, inBlockX_ret]
        refine ret_go _ rfl ?_
        rw [rightR_bad hrL (drawsB_bad hmem fun g => by have := g.2.2.1; omega)]; rfl
      have t3 : decide (d.whole < d.odds) = false := decide_eq_false y3
      by_cases y4 : 64000 < d.whole
      · have t4 : decide (64000 < d.whole) = true := decide_eq_true y4
        refine Gx.a (by kernel_rfl) fun K hK => ?_
        simp only [XU, XA, XB, gateX, ↓reduceIte, beq_self_eq_true, t1, t2, t3, t4]
        refine hK _ ?_
        refine Gx.t rfl ?_
        refine Gx.a (by kernel_rfl) fun K hK => ?_
        simp only [XA]
        refine hK _ (XWP.ret ?_)
        try simp only [thenX_ret, inBlockX_ret]
        refine ret_go _ rfl ?_
        rw [rightR_bad hrL (drawsB_bad hmem fun g => by have := g.2.2.2; omega)]; rfl
      have t4 : decide (64000 < d.whole) = false := decide_eq_false y4
      refine Gx.a (by kernel_rfl) fun K hK => ?_
      simp only [XU, XA, XB, gateX, ↓reduceIte, beq_self_eq_true, t1, t2, t3, t4]
      refine hK _ ?_
      refine Gx.f rfl ?_
      refine XWP.skip ?_
      exact fun f => ⟨StIs.of (by exact rfl), by omega, by omega, by omega, by omega⟩
    rintro s ⟨hs, hg⟩
    obtain ⟨z, rfl⟩ := hs.out
    try dsimp only
    clear hs
    have hcs3 : ElK 9 rnE V3 [.int .i64 r.kind, c1, c2, c3, c4, .slice A r.ds.length c, m, c7, c8] r := hcsE.mono rnE_ok hV3
    have hwc : RatC V3 (.agg #[m, c7, c8]) r.w.q := (RawAt.rat hwr hok).mono hV3
    refine Gx.a (by kernel_rfl) fun K hK => ?_
    simp only [XU, XA, Nat.reduceAdd, Nat.reduceLeDiff, ↓reduceIte]
    refine call_go (by kernel_rfl) rfl (rprior_c _ _ r hcs3 hrl hg) fun v4 V4 hV4 h4 => ?_
    obtain ⟨w4, rfl, h4⟩ := h4
    obtain ⟨x4, y4, rfl, p1, p2⟩ := h4.form
    simp only [XA, XB]
    refine st_rat rfl rfl rfl p1 p2 ?_
    simp only [XA]
    refine hK _ ?_
    have hqp := (priorQ_QB hg).qf (by omega)
    have eD : drawsB r = decide (sgI (r.w.q - priorQ r.ds) ≤ 0) := by
      unfold drawsB
      rw [decide_eq_true k0, hok, hs0]
      have : r.ds.all Dr.goodB = true := List.all_eq_true.2 fun d hd => (Dr.goodB_iff d).2 (hg d hd)
      rw [this]; simp
    refine Gx.a (by kernel_rfl) fun K hK => ?_
    simp only [XU, XA, XB, gateX, Nat.reduceAdd, Nat.reduceLeDiff, ↓reduceIte, beq_self_eq_true, decide_true]
    refine call_go (by kernel_rfl) rfl (pcompare_c _ _ _ _ _ ((hwc.mono hV4).toV (hrq hok)) (h4.toV hqp) (hrq hok) hqp) fun v5 V5 hV5 h5 => ?_
    subst h5
    by_cases hcmp : 0 < sgI (r.w.q - priorQ r.ds)
    · have b5 : decide (0 < sgI (r.w.q - priorQ r.ds)) = true := decide_eq_true hcmp
      simp only [XA, XB, gateX, ↓reduceIte, beq_self_eq_true, b5]
      refine hK _ ?_
      refine Gx.t rfl ?_
      refine Gx.a (by kernel_rfl) fun K hK => ?_
      simp only [XA]
      refine hK _ (XWP.ret ?_)
      try simp only [thenX_ret, inBlockX_ret]
      refine ret_go _ rfl ?_
      rw [rightR_bad hrL (by rw [eD]; exact decide_eq_false (by omega))]; rfl
    · have b5 : decide (0 < sgI (r.w.q - priorQ r.ds)) = false := decide_eq_false hcmp
      simp only [XA, XB, gateX, ↓reduceIte, beq_self_eq_true, b5]
      refine hK _ ?_
      refine Gx.f rfl ?_
      refine XWP.skip ?_
      exact fun f => ⟨V5, StIs.of (by exact rfl), View.le_trans hV2 (View.le_trans hV3 (View.le_trans hV4 hV5)), by rw [eD]; exact decide_eq_true (by omega)⟩
  rintro s ⟨V2, hs, hV2, hall⟩
  obtain ⟨z, rfl⟩ := hs.out
  try dsimp only
  clear hs
  have hgood : ∀ r ∈ l, ∀ d ∈ r.ds, d.good := fun r hr d hd' => by
    have h1 := List.all_eq_true.1 hall r hr
    unfold drawsB at h1
    simp only [Bool.and_eq_true] at h1
    exact (Dr.goodB_iff d).1 (List.all_eq_true.1 h1.1.2 d hd')
  have eR : rightR l = downB l := by
    rw [rightR_def hlen, decide_eq_true h1, decide_eq_true h2, hall]; simp
  rw [eR]
  have hL2 := h.mono rnE_ok hV2
  refine XWP.cutD 0 (fun s => ∃ (V3 : View), StIs (fun Z => [Z 0,Z 1,Z 2,Z 3,Z 4,Z 5,Z 6,Z 7,Z 8,Z 9,Z 10,Z 11,Z 12,Z 13,Z 14,Z 15,Z 16,Z 17,Z 18,Z 19,Z 20,Z 21,Z 22,Z 23,Z 24,Z 25,Z 26,Z 27,Z 28,Z 29,Z 30,Z 31,Z 32,Z 33,Z 34,Z 35,Z 36,Z 37,Z 38,Z 39,Z 40,Z 41,Z 42,Z 43,Z 44,Z 45,Z 46,Z 47,Z 48,Z 49,Z 50,Z 51,Z 52,Z 53,Z 54,Z 55,Z 56,Z 57,Z 58,Z 59,Z 60,Z 61,Z 62,Z 63,Z 64,Z 65,Z 66,Z 67,Z 68,Z 69,Z 70,Z 71,Z 72,Z 73,Z 74,Z 75,Z 76,Z 77,Z 78,Z 79,Z 80,Z 81,Z 82,Z 83,Z 84,Z 85,Z 86,Z 87,Z 88,Z 89,Z 90,Z 91,Z 92,Z 93,Z 94,Z 95,Z 96,Z 97,Z 98,Z 99,Z 100,Z 101,Z 102,Z 103,Z 104,Z 105]) [] (fun _ => none) V3 s ∧ downB l = true) ?_ ?_
  · refine Gx.a (by kernel_rfl) fun K hK => ?_
    simp only [XU, XA]
    refine hK _ ?_
    clear hK
    refine XWP.block ?_
    refine XWP.loopD 0 (fun q s => ∃ (k : Nat) (V3 : View), StIs (fun Z => [.v (.slice (some ⟨bL, oL, none⟩) l.length cL), Z 1,Z 2,Z 3,Z 4,Z 5,Z 6,Z 7,Z 8,Z 9,Z 10,Z 11,Z 12,Z 13,Z 14,Z 15,Z 16,Z 17,Z 18,Z 19,Z 20,Z 21,Z 22,Z 23,Z 24,Z 25,Z 26,Z 27,Z 28,Z 29,Z 30,Z 31,Z 32,Z 33,Z 34,Z 35,Z 36,Z 37,Z 38,Z 39,Z 40,Z 41,Z 42,Z 43,Z 44,Z 45,Z 46,Z 47,Z 48,Z 49,Z 50,Z 51,Z 52,Z 53,Z 54,Z 55,Z 56,Z 57,Z 58,Z 59,Z 60,Z 61,Z 62,Z 63,Z 64,Z 65,Z 66,Z 67,Z 68,Z 69,Z 70,Z 71,Z 72,Z 73,Z 74,Z 75,Z 76,Z 77,Z 78,Z 79,Z 80,Z 81,Z 82,Z 83,Z 84, .v (.slice (some ⟨bL, oL, none⟩) l.length cL), .v (.int .i64 (l.length : Int)), .v (.int .i64 (k : Int)), Z 88,Z 89,Z 90,Z 91,Z 92,Z 93,Z 94,Z 95,Z 96,Z 97,Z 98,Z 99,Z 100,Z 101,Z 102,Z 103,Z 104,Z 105]) [] (fun _ => none) V3 s ∧ q + k = l.length ∧ V2.le V3 ∧ (l.take k).all (fun r => (List.range (r.ds.length + 1)).all fun n => partsB l (r.ds.take n)) = true) l.length ⟨0, V2, StIs.of (by exact rfl), by omega, View.le_refl _, by simp⟩ ?_
    rintro q s ⟨k, V3, hs, hq, hV3, hdn⟩
    obtain ⟨z, rfl⟩ := hs.out
    try dsimp only
    clear hs
    by_cases hk : k < l.length
    rotate_left
    · obtain rfl : k = l.length := by omega
      have bt1 : decide (((l.length : Nat) : Int) < ((l.length : Nat) : Int)) = false := decide_eq_false (by omega)
      refine Gx.a (by kernel_rfl) fun K hK => ?_
      simp only [XA, XB, bt1]
      refine hK _ ?_
      refine XWP.seq (Gx.f rfl ?_)
      refine XWP.exit ?_
      rw [List.take_length] at hdn
      exact fun f => ⟨V3, StIs.of (by exact rfl), hdn⟩
    have bt1 : decide ((k : Int) < (l.length : Int)) = true := decide_eq_true (by omega)
    refine Gx.a (by kernel_rfl) fun K hK => ?_
    simp only [XA, XB, bt1]
    refine hK _ ?_
    refine XWP.seq (Gx.t rfl ?_)
    refine XWP.skip ?_
    obtain ⟨r, hrk⟩ : ∃ r, l[k]? = some r := ⟨_, List.getElem?_eq_getElem hk⟩
    have er : l[k] = r := (List.getElem?_eq_some_iff.1 hrk).2
    have hrL : r ∈ l := List.mem_of_getElem? hrk
    have hrl := hlen r hrL
    have h3' := hL2.mono rnE_ok hV3
    obtain ⟨cs, hcs, hcell⟩ := SlK.get h3' k hk
    rw [er] at hcs
    have hcsE := hcs
    obtain ⟨_, hone, c1, c2, c3, c4, dv, m, c7, c8, rfl, hds, hwr⟩ := hcs
    obtain ⟨A, c, rfl, hc, hm⟩ := hds.form
    have etk : l.take (k + 1) = l.take k ++ [r] := by rw [List.take_add_one, hrk]; rfl
    refine XWP.cutD 0 (fun s => ∃ (V4 : View), StIs (fun Z => [.v (.slice (some ⟨bL, oL, none⟩) l.length cL), Z 1,Z 2,Z 3,Z 4,Z 5,Z 6,Z 7,Z 8,Z 9,Z 10,Z 11,Z 12,Z 13,Z 14,Z 15,Z 16,Z 17,Z 18,Z 19,Z 20,Z 21,Z 22,Z 23,Z 24,Z 25,Z 26,Z 27,Z 28,Z 29,Z 30,Z 31,Z 32,Z 33,Z 34,Z 35,Z 36,Z 37,Z 38,Z 39,Z 40,Z 41,Z 42,Z 43,Z 44,Z 45,Z 46,Z 47,Z 48,Z 49,Z 50,Z 51,Z 52,Z 53,Z 54,Z 55,Z 56,Z 57,Z 58,Z 59,Z 60,Z 61,Z 62,Z 63,Z 64,Z 65,Z 66,Z 67,Z 68,Z 69,Z 70,Z 71,Z 72,Z 73,Z 74,Z 75,Z 76,Z 77,Z 78,Z 79,Z 80,Z 81,Z 82,Z 83,Z 84, .v (.slice (some ⟨bL, oL, none⟩) l.length cL), .v (.int .i64 (l.length : Int)), .v (.int .i64 (k : Int)), Z 88,Z 89,Z 90,Z 91,Z 92,Z 93,Z 94,Z 95,Z 96,Z 97,Z 98,Z 99,Z 100,Z 101,Z 102,Z 103,Z 104,Z 105]) [] (fun _ => none) V4 s ∧ V2.le V4 ∧ ((List.range (r.ds.length + 1)).all fun n => partsB l (r.ds.take n)) = true) ?_ ?_
    rotate_left
    · rintro s ⟨V4, hs, hV4, hdr⟩
      obtain ⟨z, rfl⟩ := hs.out
      try dsimp only
      clear hs
      refine Gx.c (by kernel_rfl) fun K hK => ?_
      simp only [XA, XB, i64_succ k (by omega)]
      exact hK _ ⟨q - 1, by omega, fun f => ⟨k + 1, V4, StIs.of (by exact rfl), by omega, hV4, by rw [etk, List.all_append, hdn, List.all_cons, List.all_nil, hdr]; rfl⟩⟩
    clear hK
    refine XWP.block ?_
    refine Gx.a (by kernel_rfl) fun K hK => ?_
    simp only [XU, XA]
    refine ⟨by omega, by omega, ld_mem (loadsK shapeT_51 rfl fun j u hj => hcell _ j u hj) ?_⟩
    simp only [XU, XA]
    refine st_whole (cs := [.int .i64 r.kind, c1, c2, c3, c4, .slice A r.ds.length c, m, c7, c8]) shapeT_51 rfl rfl rfl hcsE.2.1 ?_
    simp only [XA]
    refine hK _ ?_
    refine Gx.a (by kernel_rfl) fun K hK => ?_
    simp only [XA]
    refine hK _ ?_
    refine XWP.block ?_
    refine XWP.loop (fun n s => ∃ (j : Nat) (V4 : View), StIs (fun Z => [.v (.slice (some ⟨bL, oL, none⟩) l.length cL), Z 1,Z 2,Z 3,Z 4,Z 5,Z 6,Z 7,Z 8,Z 9, .p 0 0, .v (.int .i64 (j : Int)), Z 12,Z 13,Z 14,Z 15,Z 16,Z 17,Z 18,Z 19,Z 20,Z 21,Z 22,Z 23,Z 24,Z 25,Z 26,Z 27,Z 28,Z 29,Z 30,Z 31,Z 32,Z 33,Z 34,Z 35,Z 36,Z 37,Z 38,Z 39,Z 40,Z 41,Z 42,Z 43,Z 44,Z 45,Z 46,Z 47,Z 48,Z 49,Z 50,Z 51,Z 52,Z 53,Z 54,Z 55,Z 56,Z 57,Z 58,Z 59,Z 60,Z 61,Z 62,Z 63,Z 64,Z 65,Z 66,Z 67,Z 68,Z 69,Z 70,Z 71,Z 72,Z 73,Z 74,Z 75,Z 76,Z 77,Z 78,Z 79,Z 80,Z 81,Z 82,Z 83,Z 84, .v (.slice (some ⟨bL, oL, none⟩) l.length cL), .v (.int .i64 (l.length : Int)), .v (.int .i64 (k : Int)), Z 88,Z 89,Z 90,Z 91,Z 92,Z 93,Z 94,Z 95,Z 96,Z 97,Z 98,Z 99,Z 100,Z 101,Z 102,Z 103,Z 104,Z 105]) [[.int .i64 r.kind, c1, c2, c3, c4, .slice A r.ds.length c, m, c7, c8]] (fun _ => none) V4 s ∧ n + j = r.ds.length + 1 ∧ V3.le V4 ∧ ∀ i, i < j → partsB l (r.ds.take i) = true) (r.ds.length + 1) ⟨0, V3, StIs.of (by exact rfl), by omega, View.le_refl _, fun i hi => by omega⟩ ?_
    rintro n s ⟨j, V4, hs, hn, hV4, hpb⟩
    obtain ⟨y, rfl⟩ := hs.out
    try dsimp only
    clear hs
    refine XWP.seq ?_
    by_cases hj : j ≤ r.ds.length
    rotate_left
    · have b1 : decide ((j : Int) ≤ (r.ds.length : Int)) = false := decide_eq_false (by omega)
      refine Gx.a (by kernel_rfl) fun K hK => ?_
      simp only [XU, XA, XB, b1]
      refine hK _ ?_
      refine Gx.f rfl ?_
      refine XWP.exit ?_
      refine fun f => ⟨V4, StIs.of (by exact rfl), View.le_trans hV3 hV4, ?_⟩
      rw [List.all_eq_true]
      intro i hi
      exact hpb i (by have := List.mem_range.1 hi; omega)
    have b1 : decide ((j : Int) ≤ (r.ds.length : Int)) = true := decide_eq_true (by omega)
    refine Gx.a (by kernel_rfl) fun K hK => ?_
    simp only [XU, XA, XB, b1]
    refine hK _ ?_
    refine Gx.t rfl ?_
    refine XWP.skip ?_
    have hds4 := (hds.mono drE_ok hV4).take hj
    refine XWP.cut (fun s => ∃ (V5 : View), StIs (fun Z => [.v (.slice (some ⟨bL, oL, none⟩) l.length cL), Z 1,Z 2,Z 3,Z 4,Z 5,Z 6,Z 7,Z 8,Z 9, .p 0 0, .v (.int .i64 (j : Int)), Z 12,Z 13,Z 14,Z 15,Z 16,Z 17,Z 18,Z 19,Z 20,Z 21,Z 22,Z 23,Z 24,Z 25,Z 26,Z 27,Z 28,Z 29,Z 30,Z 31,Z 32,Z 33,Z 34,Z 35,Z 36,Z 37,Z 38,Z 39,Z 40,Z 41,Z 42,Z 43,Z 44,Z 45,Z 46,Z 47,Z 48,Z 49,Z 50,Z 51,Z 52,Z 53,Z 54,Z 55,Z 56,Z 57,Z 58,Z 59,Z 60,Z 61,Z 62,Z 63,Z 64,Z 65,Z 66,Z 67,Z 68,Z 69,Z 70,Z 71,Z 72,Z 73,Z 74,Z 75,Z 76,Z 77,Z 78,Z 79,Z 80,Z 81,Z 82,Z 83,Z 84, .v (.slice (some ⟨bL, oL, none⟩) l.length cL), .v (.int .i64 (l.length : Int)), .v (.int .i64 (k : Int)), Z 88,Z 89,Z 90,Z 91,Z 92,Z 93,Z 94,Z 95,Z 96,Z 97,Z 98,Z 99,Z 100,Z 101,Z 102,Z 103,Z 104,Z 105]) [[.int .i64 r.kind, c1, c2, c3, c4, .slice A r.ds.length c, m, c7, c8]] (fun _ => none) V5 s ∧ V4.le V5 ∧ partsB l (r.ds.take j) = true) ?_ ?_
    rotate_left
    · rintro s ⟨V5, hs, hV5, hdr⟩
      obtain ⟨y, rfl⟩ := hs.out
      try dsimp only
      clear hs
      refine Gx.c (by kernel_rfl) fun K hK => ?_
      simp only [XA, XB, i64_succ j (by omega)]
      exact hK _ ⟨n - 1, by omega, j + 1, V5, StIs.of (by exact rfl), by omega, View.le_trans hV4 hV5, fun i hi => by
        by_cases ei : i = j
        · subst ei; exact hdr
        · exact hpb i (by omega)⟩
    clear hK
    refine XWP.block ?_
    refine Gx.a (by kernel_rfl) fun K hK => ?_
    simp only [XU, XA]
    refine ⟨by omega, by omega, by omega, ?_⟩
    refine call_go (by kernel_rfl) rfl (rparts_c _ _ _ l (r.ds.take j) (h3'.mono rnE_ok hV4) hds4 (by omega) (fun x hx => by have := hlen x hx; omega) hgood (withL_self hrL hj)) fun v5 V5 hV5 h5 => ?_
    subst h5
    cases hpj : partsB l (r.ds.take j)
    · simp only [XA]
      refine hK _ ?_
      refine Gx.t rfl ?_
      refine Gx.a (by kernel_rfl) fun K hK => ?_
      simp only [XA]
      refine hK _ (XWP.ret ?_)
      try simp only [thenX_ret, inBlockX_ret]
      refine ret_go _ rfl ?_
      have : downB l = false := by
        unfold downB
        rw [List.all_eq_false]
        refine ⟨r, hrL, ?_⟩
        rw [Bool.not_eq_true, List.all_eq_false]
        exact ⟨j, List.mem_range.2 (by omega), by rw [hpj]; simp⟩
      rw [this]; rfl
    · simp only [XA]
      refine hK _ ?_
      refine Gx.f rfl ?_
      refine XWP.skip ?_
      exact ⟨V5, StIs.of (by exact rfl), hV5, hpj⟩
  rintro s ⟨V3, hs, hdn⟩
  obtain ⟨z, rfl⟩ := hs.out
  try dsimp only
  refine Gx.a (by kernel_rfl) fun K hK => ?_
  simp only [XA]
  refine hK _ (XWP.ret ?_)
  try simp only [thenX_ret, inBlockX_ret]
  refine ret_go _ rfl ?_
  rw [hdn]; rfl
end Go.Proofs.YtobjjdnfgamgcaaGreat
end
section
namespace Go.Proofs.YtobjjdnfgamgcaaGreat
open Go Go.RowKit
set_option linter.unusedSimpArgs false
set_option linter.unusedVariables false
attribute [local irreducible] XWP Spec SpecO XPub XCall seqX clX apX stX ldX iaX slX
/-- the matrix, as far as written -/
def kst (od : Nat → Nat → Rat) (n i k : Nat) : Grid := fun a b => if a < i then moveG od n a b else if a = i ∧ b < k ∧ b ≠ i then od a b else 0
theorem kst_zero (od : Nat → Nat → Rat) (n : Nat) : (mk (n * n) fun _ => 0) = flatG (kst od n 0 0) n n := by
  unfold flatG
  refine mk_eq fun j _ => ?_
  unfold flatF kst
  rw [if_neg (Nat.not_lt_zero _), if_neg (fun e => Nat.not_lt_zero _ e.2.1)]
theorem kst_same (od : Nat → Nat → Rat) (n i : Nat) : flatG (kst od n i i) n n = flatG (kst od n i (i + 1)) n n := by
  refine flatG_congr fun a b _ _ => ?_
  unfold kst
  by_cases h1 : a < i
  · rw [if_pos h1, if_pos h1]
  · rw [if_neg h1, if_neg h1]
    by_cases h2 : a = i ∧ b < i ∧ b ≠ i
    · rw [if_pos h2, if_pos ⟨h2.1, by omega, h2.2.2⟩]
    · rw [if_neg h2, if_neg (fun e => h2 ⟨e.1, by omega, e.2.2⟩)]
theorem kst_put (od : Nat → Nat → Rat) (n i k : Nat) (hk : k ≠ i) : flatG (gput (kst od n i k) i k (od i k)) n n = flatG (kst od n i (k + 1)) n n := by
  refine flatG_congr fun a b _ _ => ?_
  unfold gput kst
  by_cases h0 : a = i ∧ b = k
  · obtain ⟨rfl, rfl⟩ := h0
    rw [if_pos ⟨rfl, rfl⟩, if_neg (by omega), if_pos ⟨rfl, by omega, hk⟩]
  · rw [if_neg h0]
    by_cases h1 : a < i
    · rw [if_pos h1, if_pos h1]
    · rw [if_neg h1, if_neg h1]
      by_cases h2 : a = i ∧ b < k ∧ b ≠ i
      · rw [if_pos h2, if_pos ⟨h2.1, by omega, h2.2.2⟩]
      · rw [if_neg h2, if_neg (fun e => h2 ⟨e.1, by
          have : b ≠ k := fun eb => h0 ⟨e.1, eb⟩
          omega, e.2.2⟩)]
theorem kst_row (od : Nat → Nat → Rat) (n i : Nat) : flatG (gput (kst od n i n) i i (1 - offQ od i n)) n n = flatG (kst od n (i + 1) 0) n n := by
  refine flatG_congr fun a b _ hb => ?_
  unfold gput kst
  by_cases h0 : a = i ∧ b = i
  · obtain ⟨rfl, rfl⟩ := h0
    rw [if_pos ⟨rfl, rfl⟩, if_pos (by omega)]
    unfold moveG
    rw [if_pos rfl]
  · rw [if_neg h0]
    by_cases h1 : a < i
    · rw [if_pos h1, if_pos (by omega)]
    · rw [if_neg h1]
      by_cases h2 : a = i
      · subst h2
        have hne : b ≠ a := fun e => h0 ⟨rfl, e⟩
        rw [if_pos ⟨rfl, hb, hne⟩, if_pos (by omega)]
        unfold moveG
        rw [if_neg hne]
      · rw [if_neg (fun e => h2 e.1), if_neg (by omega), if_neg (by omega)]
theorem kst_all (od : Nat → Nat → Rat) (n : Nat) : flatG (kst od n n 0) n n = flatG (moveG od n) n n := by
  refine flatG_congr fun a b ha _ => ?_
  unfold kst
  rw [if_pos ha]
set_option maxHeartbeats 4000000 in
set_option maxRecDepth 100000 in
theorem rkernel_c (V : View) (v : Value) (c : Int) (l : List Rn) (od : Nat → Nat → Rat) (h : SlK 9 rnE V v l) (f : ∀ r ∈ l, r.fits) (fs : ∀ r ∈ l, r.ds.length ≤ 8 ∧ (r.w.ok = true → QB 128 r.w.q)) (ll : l.length ≤ 1000000) (hod : rightR l = true → OfR l c od) : Spec Tryz.prog 74 [v, .int .i64 c] V fun v' V' => (rightR l = false → v' = .tuple #[.agg #[.int .i64 0, .int .i64 0, .slice none 0 0], .int .i64 1]) ∧ (rightR l = true → ∃ s, v' = .tuple #[.agg #[.int .i64 (l.length : Int), .int .i64 (l.length : Int), s], .int .i64 0] ∧ Rats V' s (flatG (moveG od l.length) l.length l.length)) := by
  obtain ⟨A, cL, rfl, _, _⟩ := h.form
  refine (Spec.enter Tryz.func74 rfl fun Γ => ?_)
  simp only [Tryz.ntmps74, List.map_cons, List.map_nil, List.length_cons, List.length_nil, Nat.reduceAdd, Nat.reduceSub, List.replicate_succ, List.replicate_zero, List.cons_append, List.nil_append]
  refine Gx.a (by kernel_rfl) fun K hK => ?_
  simp only [XM, XA]
  refine hK _ ?_
  refine XWP.seq ?_
  refine Gx.a (by kernel_rfl) fun K hK => ?_
  simp only [XA]
  refine call_go (by kernel_rfl) rfl (kref_right_c _ _ l h f ll) fun v1 V1 hV1 h1 => ?_
  subst h1
  cases hr : rightR l
  · simp only [XA]
    refine hK _ ?_
    refine Gx.t rfl ?_
    refine Gx.a (by kernel_rfl) fun K hK => ?_
    simp only []
    refine bd_go (by kernel_rfl) #[] (by simp) bd_mat0 ?_
    simp only [XA]
    refine st_mat shapeT_30 rfl rfl rfl rfl rfl ?_
    simp only [XA]
    refine hK _ (XWP.ret ?_)
    try simp only [thenX_ret, inBlockX_ret]
    exact ret_go _ (by simp [resAll, resV, cellsV, shapeT_30]; rfl) ⟨fun _ => rfl, fun h => absurd h (by rw [hr]; simp)⟩
  obtain ⟨g1, g2, g3⟩ := right_small hr fs
  have hod := hod hr
  have hqb := hod.qb g3 g2
  obtain ⟨bL, oL, rfl⟩ := SlK.addr h (by omega)
  simp only [XA]
  refine hK _ ?_
  refine Gx.f rfl ?_
  refine XWP.skip ?_
  refine Gx.a (by kernel_rfl) fun K hK => ?_
  simp only [XU, XA]
  refine hK _ ?_
  refine Gx.a (by kernel_rfl) fun K hK => ?_
  simp only [XA]
  refine call_own (by kernel_rfl) rfl (dZero_o _ l.length l.length g2 g2) fun v3 V3 o3 hV3 hs3 h3 => ?_
  obtain ⟨sl, cells3, rfl, hown3, hrow3⟩ := h3
  have h11 : 1 ≤ l.length * l.length := Nat.mul_pos g1 g1
  have hnn : l.length * l.length ≤ 3600 := Nat.le_trans (Nat.mul_le_mul g2 g2) (by decide)
  rcases own_parts hown3 with ⟨rfl, h0, _⟩ | ⟨g, cap, rfl, hg3, hle3, hcap3, _⟩
  · omega
  simp only [XM, XA]
  refine st_mat shapeT_30 rfl rfl rfl rfl rfl ?_
  simp only [XA]
  refine hK _ ?_
  rw [kst_zero od] at hrow3
  generalize addRow (fun _ => none) o3 = H3 at *
  refine XWP.cutD 2 (fun s => ∃ (V4 : View) (H4 : Heap) (co : List Value), StIs (fun Z => [Z 0,Z 1,Z 2,Z 3, .p 0 0, Z 5,Z 6, .p 1 0, Z 8,Z 9,Z 10,Z 11,Z 12,Z 13,Z 14,Z 15,Z 16,Z 17,Z 18,Z 19,Z 20,Z 21,Z 22,Z 23,Z 24,Z 25,Z 26,Z 27,Z 28,Z 29,Z 30,Z 31,Z 32,Z 33,Z 34,Z 35,Z 36,Z 37,Z 38,Z 39,Z 40,Z 41,Z 42,Z 43,Z 44,Z 45,Z 46,Z 47,Z 48,Z 49,Z 50,Z 51,Z 52,Z 53,Z 54,Z 55,Z 56,Z 57,Z 58,Z 59,Z 60,Z 61,Z 62,Z 63,Z 64,Z 65]) [[.int .i64 0, .int .i64 0, .slice none 0 0], [.int .i64 (l.length : Int), .int .i64 (l.length : Int), .slice (some ⟨g, 0, none⟩) (l.length * l.length) cap]] H4 V4 s ∧ H4 g = some ⟨49, co, cap * 3⟩ ∧ RowAt ratE V4 co (flatG (moveG od l.length) l.length l.length)) ?_ ?_
  rotate_left
  · rintro s ⟨V4, H4, co, hs, hH, hrow⟩
    obtain ⟨z, rfl⟩ := hs.out
    try dsimp only
    refine Gx.a (by kernel_rfl) fun K hK => ?_
    simp only [XM, XA, Nat.reduceAdd, Nat.reduceLeDiff, ↓reduceIte]
    refine st_mat shapeT_30 rfl rfl rfl rfl rfl ?_
    simp only [XA]
    refine hK _ (XWP.ret ?_)
    try simp only [thenX_ret, inBlockX_ret]
    refine ret_pub g _ hH fun o ho hle' => ret_go _ (by simp [resAll, resV, cellsV, shapeT_30]; rfl) ⟨fun h => absurd h (by rw [hr]; simp), fun _ => ⟨_, rfl, ?_⟩⟩
    exact hrow.pub ratE_ok ho hle' (flatG_len _ _ _) hle3 (by unfold maxLen at hcap3; omega)
  refine Gx.a (by kernel_rfl) fun K hK => ?_
  simp only [XA]
  refine hK _ ?_
  clear hK
  refine XWP.block ?_
  refine XWP.loopD 2 (fun q s => ∃ (i : Nat) (V4 : View) (H4 : Heap) (co : List Value), StIs (fun Z => [.v (.slice (some ⟨bL, oL, none⟩) l.length cL), .v (.int .i64 c), Z 2,Z 3, .p 0 0, Z 5, .v (.int .i64 (l.length : Int)), .p 1 0, Z 8, .v (.int .i64 (i : Int)), Z 10,Z 11,Z 12,Z 13,Z 14,Z 15,Z 16,Z 17,Z 18,Z 19,Z 20,Z 21,Z 22,Z 23,Z 24,Z 25,Z 26,Z 27,Z 28,Z 29,Z 30,Z 31,Z 32,Z 33,Z 34,Z 35,Z 36,Z 37,Z 38,Z 39,Z 40,Z 41,Z 42,Z 43,Z 44,Z 45,Z 46,Z 47,Z 48,Z 49,Z 50,Z 51,Z 52,Z 53,Z 54,Z 55,Z 56,Z 57,Z 58,Z 59,Z 60,Z 61,Z 62,Z 63,Z 64,Z 65]) [[.int .i64 0, .int .i64 0, .slice none 0 0], [.int .i64 (l.length : Int), .int .i64 (l.length : Int), .slice (some ⟨g, 0, none⟩) (l.length * l.length) cap]] H4 V4 s ∧ q + i = l.length ∧ V3.le V4 ∧ H4 g = some ⟨49, co, cap * 3⟩ ∧ RowAt ratE V4 co (flatG (kst od l.length i 0) l.length l.length)) l.length ⟨0, V3, H3, _, StIs.of (by exact rfl), by omega, View.le_refl _, hg3, hrow3⟩ ?_
  clear hg3 hrow3 hown3 hs3
  rintro q s ⟨i, V4, H4, co, hs, hq, hV4, hH, hrow⟩
  obtain ⟨z, rfl⟩ := hs.out
  try dsimp only
  clear hs
  refine XWP.seq ?_
  by_cases hi : i < l.length
  rotate_left
  · obtain rfl : i = l.length := by omega
    have b2 : decide (((l.length : Nat) : Int) < ((l.length : Nat) : Int)) = false := decide_eq_false (by omega)
    refine Gx.a (by kernel_rfl) fun K hK => ?_
    simp only [XA, XB, b2]
    refine hK _ ?_
    refine Gx.f rfl ?_
    refine XWP.exit ?_
    rw [kst_all] at hrow
    exact fun f => ⟨V4, H4, co, StIs.of (by exact rfl), hH, hrow⟩
  have b2 : decide ((i : Int) < (l.length : Int)) = true := decide_eq_true (by omega)
  refine Gx.a (by kernel_rfl) fun K hK => ?_
  simp only [XA, XB, b2]
  refine hK _ ?_
  refine Gx.t rfl ?_
  refine XWP.skip ?_
  refine XWP.cutD 2 (fun s => ∃ (V5 : View) (H5 : Heap) (co : List Value), StIs (fun Z => [.v (.slice (some ⟨bL, oL, none⟩) l.length cL), .v (.int .i64 c), Z 2,Z 3, .p 0 0, Z 5, .v (.int .i64 (l.length : Int)), .p 1 0, Z 8, .v (.int .i64 (i : Int)), Z 10,Z 11,Z 12,Z 13,Z 14,Z 15,Z 16,Z 17,Z 18,Z 19,Z 20,Z 21,Z 22,Z 23,Z 24,Z 25,Z 26,Z 27,Z 28,Z 29,Z 30,Z 31,Z 32,Z 33,Z 34,Z 35,Z 36,Z 37,Z 38,Z 39,Z 40,Z 41,Z 42,Z 43,Z 44,Z 45,Z 46,Z 47,Z 48,Z 49,Z 50,Z 51,Z 52,Z 53,Z 54,Z 55,Z 56,Z 57,Z 58,Z 59,Z 60,Z 61,Z 62,Z 63,Z 64,Z 65]) [[.int .i64 0, .int .i64 0, .slice none 0 0], [.int .i64 (l.length : Int), .int .i64 (l.length : Int), .slice (some ⟨g, 0, none⟩) (l.length * l.length) cap]] H5 V5 s ∧ V4.le V5 ∧ H5 g = some ⟨49, co, cap * 3⟩ ∧ RowAt ratE V5 co (flatG (kst od l.length (i + 1) 0) l.length l.length)) ?_ ?_
  rotate_left
  · clear hH hrow
    rintro s ⟨V5, H5, co, hs, hV5, hH, hrow⟩
    obtain ⟨z, rfl⟩ := hs.out
    try dsimp only
    refine Gx.c (by kernel_rfl) fun K hK => ?_
    simp only [XA, XB, i64_succ i (by omega)]
    exact hK _ ⟨q - 1, by omega, fun f => ⟨i + 1, V5, H5, co, StIs.of (by exact rfl), by omega, View.le_trans hV4 hV5, hH, hrow⟩⟩
  clear hK
  have hS : ∀ k, k ≤ l.length → QF (1 - offQ od i k) := fun k hk => by
    have h1 := offQ_QB (od := od) (B := 600000) (n := l.length) (i := i) (fun k hk _ => hqb i k hi hk) k hk
    have h2 : k * (600000 + 1) ≤ 60 * 600001 := Nat.mul_le_mul_right _ (by omega)
    exact ((QB_one 0).sub h1).qf (by omega)
  refine XWP.block ?_
  refine Gx.a (by kernel_rfl) fun K hK => ?_
  simp only [XA]
  refine call_go (by kernel_rfl) rfl (pone_c _) fun v5 V5 hV5 h5 => ?_
  obtain ⟨x5, y5, rfl, o1, o2⟩ := h5.form
  simp only [XA, XB, Nat.reduceAdd]
  refine st_rat rfl rfl rfl o1 o2 ?_
  simp only [XA]
  refine hK _ ?_
  have h5 : RatC V5 (.agg #[.bool (ng 1), x5, y5]) (1 - offQ od i 0) := by
    have : (1 : Rat) - offQ od i 0 = 1 := by
      show (1 : Rat) - 0 = 1
      grind
    rw [this]; exact h5
  have hrow5 := hrow.mono ratE_ok hV5
  refine XWP.cutD 3 (fun s => ∃ (V6 : View) (H6 : Heap) (co : List Value) (bb x y : Value), StIs (fun Z => [.v (.slice (some ⟨bL, oL, none⟩) l.length cL), .v (.int .i64 c), Z 2,Z 3, .p 0 0, Z 5, .v (.int .i64 (l.length : Int)), .p 1 0, Z 8, .v (.int .i64 (i : Int)), .p 2 0, Z 11,Z 12,Z 13,Z 14,Z 15,Z 16,Z 17,Z 18,Z 19,Z 20,Z 21,Z 22,Z 23,Z 24,Z 25,Z 26,Z 27,Z 28,Z 29,Z 30,Z 31,Z 32,Z 33,Z 34,Z 35,Z 36,Z 37,Z 38,Z 39,Z 40,Z 41,Z 42,Z 43,Z 44,Z 45,Z 46,Z 47,Z 48,Z 49,Z 50,Z 51,Z 52,Z 53,Z 54,Z 55,Z 56,Z 57,Z 58,Z 59,Z 60,Z 61,Z 62,Z 63,Z 64,Z 65]) [[.int .i64 0, .int .i64 0, .slice none 0 0], [.int .i64 (l.length : Int), .int .i64 (l.length : Int), .slice (some ⟨g, 0, none⟩) (l.length * l.length) cap], [bb, x, y]] H6 V6 s ∧ V5.le V6 ∧ H6 g = some ⟨49, co, cap * 3⟩ ∧ RowAt ratE V6 co (flatG (kst od l.length i l.length) l.length l.length) ∧ RatC V6 (.agg #[bb, x, y]) (1 - offQ od i l.length)) ?_ ?_
  · refine Gx.a (by kernel_rfl) fun K hK => ?_
    simp only [XA]
    refine hK _ ?_
    clear hK
    refine XWP.block ?_
    refine XWP.loopD 3 (fun p s => ∃ (k : Nat) (V6 : View) (H6 : Heap) (co : List Value) (bb x y : Value), StIs (fun Z => [.v (.slice (some ⟨bL, oL, none⟩) l.length cL), .v (.int .i64 c), Z 2,Z 3, .p 0 0, Z 5, .v (.int .i64 (l.length : Int)), .p 1 0, Z 8, .v (.int .i64 (i : Int)), .p 2 0, .v (.int .i64 (k : Int)), Z 12,Z 13,Z 14,Z 15,Z 16,Z 17,Z 18,Z 19,Z 20,Z 21,Z 22,Z 23,Z 24,Z 25,Z 26,Z 27,Z 28,Z 29,Z 30,Z 31,Z 32,Z 33,Z 34,Z 35,Z 36,Z 37,Z 38,Z 39,Z 40,Z 41,Z 42,Z 43,Z 44,Z 45,Z 46,Z 47,Z 48,Z 49,Z 50,Z 51,Z 52,Z 53,Z 54,Z 55,Z 56,Z 57,Z 58,Z 59,Z 60,Z 61,Z 62,Z 63,Z 64,Z 65]) [[.int .i64 0, .int .i64 0, .slice none 0 0], [.int .i64 (l.length : Int), .int .i64 (l.length : Int), .slice (some ⟨g, 0, none⟩) (l.length * l.length) cap], [bb, x, y]] H6 V6 s ∧ p + k = l.length ∧ V5.le V6 ∧ H6 g = some ⟨49, co, cap * 3⟩ ∧ RowAt ratE V6 co (flatG (kst od l.length i k) l.length l.length) ∧ RatC V6 (.agg #[bb, x, y]) (1 - offQ od i k)) l.length ⟨0, V5, H4, co, _, x5, y5, StIs.of (by exact rfl), by omega, View.le_refl _, hH, hrow5, h5⟩ ?_
    clear hH hrow hrow5 h5 o1 o2
    rintro p s ⟨k, V6, H6, co, bb, x, y, hs, hp, hV6, hH, hrow, h6⟩
    obtain ⟨z, rfl⟩ := hs.out
    try dsimp only
    clear hs
    refine XWP.seq ?_
    by_cases hk : k < l.length
    rotate_left
    · obtain rfl : k = l.length := by omega
      have b3 : decide (((l.length : Nat) : Int) < ((l.length : Nat) : Int)) = false := decide_eq_false (by omega)
      refine Gx.a (by kernel_rfl) fun K hK => ?_
      simp only [XA, XB, b3]
      refine hK _ ?_
      refine Gx.f rfl ?_
      refine XWP.exit ?_
      exact fun f => ⟨V6, H6, co, bb, x, y, StIs.of (by exact rfl), hV6, hH, hrow, h6⟩
    have b3 : decide ((k : Int) < (l.length : Int)) = true := decide_eq_true (by omega)
    refine Gx.a (by kernel_rfl) fun K hK => ?_
    simp only [XA, XB, b3]
    refine hK _ ?_
    refine Gx.t rfl ?_
    refine XWP.skip ?_
    refine XWP.cutD 3 (fun s => ∃ (V7 : View) (H7 : Heap) (co : List Value) (bb x y : Value), StIs (fun Z => [.v (.slice (some ⟨bL, oL, none⟩) l.length cL), .v (.int .i64 c), Z 2,Z 3, .p 0 0, Z 5, .v (.int .i64 (l.length : Int)), .p 1 0, Z 8, .v (.int .i64 (i : Int)), .p 2 0, .v (.int .i64 (k : Int)), Z 12,Z 13,Z 14,Z 15,Z 16,Z 17,Z 18,Z 19,Z 20,Z 21,Z 22,Z 23,Z 24,Z 25,Z 26,Z 27,Z 28,Z 29,Z 30,Z 31,Z 32,Z 33,Z 34,Z 35,Z 36,Z 37,Z 38,Z 39,Z 40,Z 41,Z 42,Z 43,Z 44,Z 45,Z 46,Z 47,Z 48,Z 49,Z 50,Z 51,Z 52,Z 53,Z 54,Z 55,Z 56,Z 57,Z 58,Z 59,Z 60,Z 61,Z 62,Z 63,Z 64,Z 65]) [[.int .i64 0, .int .i64 0, .slice none 0 0], [.int .i64 (l.length : Int), .int .i64 (l.length : Int), .slice (some ⟨g, 0, none⟩) (l.length * l.length) cap], [bb, x, y]] H7 V7 s ∧ V6.le V7 ∧ H7 g = some ⟨49, co, cap * 3⟩ ∧ RowAt ratE V7 co (flatG (kst od l.length i (k + 1)) l.length l.length) ∧ RatC V7 (.agg #[bb, x, y]) (1 - offQ od i (k + 1))) ?_ ?_
    rotate_left
    · clear hH hrow h6
      rintro s ⟨V7, H7, co, bb, x, y, hs, hV7, hH, hrow, h7⟩
      obtain ⟨z, rfl⟩ := hs.out
      try dsimp only
      refine Gx.c (by kernel_rfl) fun K hK => ?_
      simp only [XA, XB, i64_succ k (by omega)]
      exact hK _ ⟨p - 1, by omega, fun f => ⟨k + 1, V7, H7, co, bb, x, y, StIs.of (by exact rfl), by omega, View.le_trans hV6 hV7, hH, hrow, h7⟩⟩
    clear hK
    have eo : offQ od i (k + 1) = offQ od i k + (if k = i then 0 else od i k) := rfl
    refine XWP.block ?_
    by_cases hki : k = i
    · subst hki
      have b4 : decide ((k : Int) = (k : Int)) = true := decide_eq_true (by omega)
      refine Gx.a (by kernel_rfl) fun K hK => ?_
      simp only [XA, XB]
      refine hK _ ?_
      refine Gx.f rfl ?_
      refine XWP.skip ?_
      refine fun f => ⟨V6, H6, co, bb, x, y, StIs.of (by exact rfl), View.le_refl _, hH, by rw [← kst_same]; exact hrow, ?_⟩
      rw [eo, if_pos rfl, Rat.add_zero]; exact h6
    have b4 : decide ((k : Int) = (i : Int)) = false := decide_eq_false (by omega)
    refine Gx.a (by kernel_rfl) fun K hK => ?_
    simp only [XA, XB, b4]
    refine hK _ ?_
    refine Gx.t rfl ?_
    have hV06 := View.le_trans (View.le_trans hV1 hV3) (View.le_trans hV4 (View.le_trans hV5 hV6))
    have g5 := pos_lt hi hk
    have w1 := wr_mul (i := i) (C := l.length) (by omega) (by omega)
    have w2 := wr_add (p := i * l.length) (k := k) (by omega) (by omega)
    have ho := hqb i k hi hk
    refine Gx.a (by kernel_rfl) fun K hK => ?_
    simp only [XA]
    refine call_go (by kernel_rfl) rfl (rmove_c _ i k c _ l od (h.mono rnE_ok hV06) g3 g2 hi hk hod) fun v7 V7 hV7 h7 => ?_
    obtain ⟨x7, y7, rfl, o5, o6⟩ := h7.form
    simp only [XA, XB, Nat.reduceAdd]
    refine st_rat rfl rfl rfl o5 o6 ?_
    simp only [XA]
    refine hK _ ?_
    have hrow7 := hrow.mono ratE_ok hV7
    have hl7 := hrow7.1
    rw [flatG_len] at hl7
    refine Gx.a (by kernel_rfl) fun K hK => ?_
    simp only [XM, XA, XB, Nat.reduceAdd, Nat.reduceLeDiff, ↓reduceIte, w1, w2]
    refine ⟨by omega, by omega, ?_⟩
    refine st_rowA shapeT_49 (all3 rfl o5 o6) rfl hH (by dsimp only; omega) ?_
    simp only [XA]
    refine hK _ ?_
    have hrow8 := hrow7.set (i * l.length + k) (by rw [flatG_len]; exact g5) (show isOne (.bool (ng (od i k))) = true from rfl) o5 o6 h7
    rw [flatG_set _ hi hk, kst_put od l.length i k hki] at hrow8
    refine Gx.c (by kernel_rfl) fun K hK => ?_
    simp only [XA, XB, Nat.reduceAdd, Nat.reduceLeDiff, ↓reduceIte]
    refine call_go (by kernel_rfl) rfl (psub_c _ _ _ _ _ (RatC.toV (h6.mono hV7) (hS k (by omega))) (RatC.toV h7 (ho.qf (by omega))) (hS k (by omega)) (ho.qf (by omega))) fun v8 V8 hV8 h8 => ?_
    obtain ⟨x8, y8, rfl, o7, o8⟩ := h8.form
    simp only [XA]
    refine st_rat rfl rfl rfl o7 o8 ?_
    simp only [XA]
    refine hK _ fun f => ⟨V8, _, _, _, x8, y8, StIs.of (by exact rfl), View.le_trans hV7 hV8, upd_at _ _ _, hrow8.mono ratE_ok hV8, ?_⟩
    have : 1 - offQ od i (k + 1) = 1 - offQ od i k - od i k := by rw [eo, if_neg hki]; grind
    rw [this]; exact h8
  clear hH hrow hrow5 h5 o1 o2
  rintro s ⟨V6, H6, co, bb, x, y, hs, hV6, hH, hrow, h6⟩
  obtain ⟨z, rfl⟩ := hs.out
  try dsimp only
  clear hs
  have g5 := pos_lt hi hi
  have w1 := wr_mul (i := i) (C := l.length) (by omega) (by omega)
  have w2 := wr_add (p := i * l.length) (k := i) (by omega) (by omega)
  obtain ⟨x6, y6, e6, o5, o6⟩ := h6.form
  cases e6
  have hl7 := hrow.1
  rw [flatG_len] at hl7
  refine Gx.c (by kernel_rfl) fun K hK => ?_
  simp only [XM, XA, XB, Nat.reduceAdd, Nat.reduceLeDiff, ↓reduceIte, w1, w2]
  refine ⟨by omega, by omega, ?_⟩
  refine st_rowA shapeT_49 (all3 rfl o5 o6) rfl hH (by dsimp only; omega) ?_
  simp only [XA]
  have hrow8 := hrow.set (i * l.length + i) (by rw [flatG_len]; exact g5) (show isOne (.bool (ng (1 - offQ od i l.length))) = true from rfl) o5 o6 h6
  rw [flatG_set _ hi hi, kst_row] at hrow8
  exact hK _ fun f => ⟨V6, _, _, StIs.of (by exact rfl), View.le_trans hV5 hV6, upd_at _ _ _, hrow8⟩
end Go.Proofs.YtobjjdnfgamgcaaGreat
end
section
namespace Go.Proofs.YtobjjdnfgamgcaaGreat
open Go Go.RowKit
set_option linter.unusedSimpArgs false
set_option linter.unusedVariables false
attribute [local irreducible] XWP Spec SpecO XPub XCall seqX clX apX stX ldX iaX slX
set_option maxHeartbeats 2000000 in
theorem ranew_c (V : View) (v : Value) (l : List Rn) (od : Nat → Nat → Rat) (h : SlK 9 rnE V v l) (f : ∀ r ∈ l, r.fits) (fs : ∀ r ∈ l, r.ds.length ≤ 8 ∧ (r.w.ok = true → QB 128 r.w.q)) (ll : l.length ≤ 1000000) (hod : rightR l = true → OfR l 0 od) : Spec Tryz.prog 26 [v] V fun v' V' => (rightR l = false → v' = .tuple #[.agg #[.int .i64 0, .int .i64 0, .slice none 0 0], .int .i64 1]) ∧ (rightR l = true → ∃ s, v' = .tuple #[.agg #[.int .i64 (l.length : Int), .int .i64 (l.length : Int), s], .int .i64 0] ∧ Rats V' s (flatG (moveG od l.length) l.length l.length)) := by
  obtain ⟨A, cL, rfl, _, _⟩ := h.form
  refine (Spec.enter Tryz.func26 rfl fun Γ => ?_)
  simp only [Tryz.ntmps26, List.map_cons, List.map_nil, List.length_cons, List.length_nil, Nat.reduceAdd, Nat.reduceSub, List.replicate_succ, List.replicate_zero, List.cons_append, List.nil_append]
  refine Gx.a (by kernel_rfl) fun K hK => ?_
  simp only [XM, XA]
  refine hK _ ?_
  refine Gx.a (by kernel_rfl) fun K hK => ?_
  simp only [XA]
  refine call_go (by kernel_rfl) rfl (rkernel_c _ _ 0 l od h f fs ll hod) fun v1 V1 hV1 h1 => ?_
  obtain ⟨h1a, h1b⟩ := h1
  cases hr : rightR l
  · obtain rfl := h1a hr
    simp only [XA]
    refine st_mat shapeT_30 rfl rfl rfl rfl rfl ?_
    simp only [XA]
    refine hK _ (XWP.ret ?_)
    try simp only [thenX_ret, inBlockX_ret]
    exact ret_go _ (by simp [resAll, resV, cellsV, shapeT_30]; rfl) ⟨fun _ => rfl, fun h => absurd h (by rw [hr]; simp)⟩
  obtain ⟨s, rfl, hs'⟩ := h1b hr
  obtain ⟨As, cs, rfl, _, _⟩ := hs'.form
  simp only [XA]
  refine st_mat shapeT_30 rfl rfl rfl rfl rfl ?_
  simp only [XA]
  refine hK _ (XWP.ret ?_)
  try simp only [thenX_ret, inBlockX_ret]
  exact ret_go _ (by simp [resAll, resV, cellsV, shapeT_30]; rfl) ⟨fun h => absurd h (by rw [hr]; simp), fun _ => ⟨_, rfl, hs'⟩⟩
set_option maxHeartbeats 2000000 in
theorem rsuffix_c (V : View) (v : Value) (l : List Rn) (od : Nat → Nat → Rat) (h : SlK 9 rnE V v l) (f : ∀ r ∈ l, r.fits) (fs : ∀ r ∈ l, r.ds.length ≤ 8 ∧ (r.w.ok = true → QB 128 r.w.q)) (ll : l.length ≤ 1000000) (hod : rightR l = true → OfR l 1 od) : Spec Tryz.prog 27 [v] V fun v' V' => (rightR l = false → v' = .tuple #[.agg #[.int .i64 0, .int .i64 0, .slice none 0 0], .int .i64 1]) ∧ (rightR l = true → ∃ s, v' = .tuple #[.agg #[.int .i64 (l.length : Int), .int .i64 (l.length : Int), s], .int .i64 0] ∧ Rats V' s (flatG (moveG od l.length) l.length l.length)) := by
  obtain ⟨A, cL, rfl, _, _⟩ := h.form
  refine (Spec.enter Tryz.func27 rfl fun Γ => ?_)
  simp only [Tryz.ntmps27, List.map_cons, List.map_nil, List.length_cons, List.length_nil, Nat.reduceAdd, Nat.reduceSub, List.replicate_succ, List.replicate_zero, List.cons_append, List.nil_append]
  refine Gx.a (by kernel_rfl) fun K hK => ?_
  simp only [XM, XA]
  refine hK _ ?_
  refine Gx.a (by kernel_rfl) fun K hK => ?_
  simp only [XA]
  refine call_go (by kernel_rfl) rfl (rkernel_c _ _ 1 l od h f fs ll hod) fun v1 V1 hV1 h1 => ?_
  obtain ⟨h1a, h1b⟩ := h1
  cases hr : rightR l
  · obtain rfl := h1a hr
    simp only [XA]
    refine st_mat shapeT_30 rfl rfl rfl rfl rfl ?_
    simp only [XA]
    refine hK _ (XWP.ret ?_)
    try simp only [thenX_ret, inBlockX_ret]
    exact ret_go _ (by simp [resAll, resV, cellsV, shapeT_30]; rfl) ⟨fun _ => rfl, fun h => absurd h (by rw [hr]; simp)⟩
  obtain ⟨s, rfl, hs'⟩ := h1b hr
  obtain ⟨As, cs, rfl, _, _⟩ := hs'.form
  simp only [XA]
  refine st_mat shapeT_30 rfl rfl rfl rfl rfl ?_
  simp only [XA]
  refine hK _ (XWP.ret ?_)
  try simp only [thenX_ret, inBlockX_ret]
  exact ret_go _ (by simp [resAll, resV, cellsV, shapeT_30]; rfl) ⟨fun h => absurd h (by rw [hr]; simp), fun _ => ⟨_, rfl, hs'⟩⟩
set_option maxHeartbeats 2000000 in
theorem rsite_c (V : View) (v : Value) (l : List Rn) (od : Nat → Nat → Rat) (h : SlK 9 rnE V v l) (f : ∀ r ∈ l, r.fits) (fs : ∀ r ∈ l, r.ds.length ≤ 8 ∧ (r.w.ok = true → QB 128 r.w.q)) (ll : l.length ≤ 1000000) (hod : rightR l = true → OfR l 2 od) : Spec Tryz.prog 28 [v] V fun v' V' => (rightR l = false → v' = .tuple #[.agg #[.int .i64 0, .int .i64 0, .slice none 0 0], .int .i64 1]) ∧ (rightR l = true → ∃ s, v' = .tuple #[.agg #[.int .i64 (l.length : Int), .int .i64 (l.length : Int), s], .int .i64 0] ∧ Rats V' s (flatG (moveG od l.length) l.length l.length)) := by
  obtain ⟨A, cL, rfl, _, _⟩ := h.form
  refine (Spec.enter Tryz.func28 rfl fun Γ => ?_)
  simp only [Tryz.ntmps28, List.map_cons, List.map_nil, List.length_cons, List.length_nil, Nat.reduceAdd, Nat.reduceSub, List.replicate_succ, List.replicate_zero, List.cons_append, List.nil_append]
  refine Gx.a (by kernel_rfl) fun K hK => ?_
  simp only [XM, XA]
  refine hK _ ?_
  refine Gx.a (by kernel_rfl) fun K hK => ?_
  simp only [XA]
  refine call_go (by kernel_rfl) rfl (rkernel_c _ _ 2 l od h f fs ll hod) fun v1 V1 hV1 h1 => ?_
  obtain ⟨h1a, h1b⟩ := h1
  cases hr : rightR l
  · obtain rfl := h1a hr
    simp only [XA]
    refine st_mat shapeT_30 rfl rfl rfl rfl rfl ?_
    simp only [XA]
    refine hK _ (XWP.ret ?_)
    try simp only [thenX_ret, inBlockX_ret]
    exact ret_go _ (by simp [resAll, resV, cellsV, shapeT_30]; rfl) ⟨fun _ => rfl, fun h => absurd h (by rw [hr]; simp)⟩
  obtain ⟨s, rfl, hs'⟩ := h1b hr
  obtain ⟨As, cs, rfl, _, _⟩ := hs'.form
  simp only [XA]
  refine st_mat shapeT_30 rfl rfl rfl rfl rfl ?_
  simp only [XA]
  refine hK _ (XWP.ret ?_)
  try simp only [thenX_ret, inBlockX_ret]
  exact ret_go _ (by simp [resAll, resV, cellsV, shapeT_30]; rfl) ⟨fun h => absurd h (by rw [hr]; simp), fun _ => ⟨_, rfl, hs'⟩⟩
set_option maxHeartbeats 2000000 in
theorem rslice_c (V : View) (v : Value) (l : List Rn) (od : Nat → Nat → Rat) (h : SlK 9 rnE V v l) (f : ∀ r ∈ l, r.fits) (fs : ∀ r ∈ l, r.ds.length ≤ 8 ∧ (r.w.ok = true → QB 128 r.w.q)) (ll : l.length ≤ 1000000) (hod : rightR l = true → OfR l 3 od) : Spec Tryz.prog 29 [v] V fun v' V' => (rightR l = false → v' = .tuple #[.agg #[.int .i64 0, .int .i64 0, .slice none 0 0], .int .i64 1]) ∧ (rightR l = true → ∃ s, v' = .tuple #[.agg #[.int .i64 (l.length : Int), .int .i64 (l.length : Int), s], .int .i64 0] ∧ Rats V' s (flatG (moveG od l.length) l.length l.length)) := by
  obtain ⟨A, cL, rfl, _, _⟩ := h.form
  refine (Spec.enter Tryz.func29 rfl fun Γ => ?_)
  simp only [Tryz.ntmps29, List.map_cons, List.map_nil, List.length_cons, List.length_nil, Nat.reduceAdd, Nat.reduceSub, List.replicate_succ, List.replicate_zero, List.cons_append, List.nil_append]
  refine Gx.a (by kernel_rfl) fun K hK => ?_
  simp only [XM, XA]
  refine hK _ ?_
  refine Gx.a (by kernel_rfl) fun K hK => ?_
  simp only [XA]
  refine call_go (by kernel_rfl) rfl (rkernel_c _ _ 3 l od h f fs ll hod) fun v1 V1 hV1 h1 => ?_
  obtain ⟨h1a, h1b⟩ := h1
  cases hr : rightR l
  · obtain rfl := h1a hr
    simp only [XA]
    refine st_mat shapeT_30 rfl rfl rfl rfl rfl ?_
    simp only [XA]
    refine hK _ (XWP.ret ?_)
    try simp only [thenX_ret, inBlockX_ret]
    exact ret_go _ (by simp [resAll, resV, cellsV, shapeT_30]; rfl) ⟨fun _ => rfl, fun h => absurd h (by rw [hr]; simp)⟩
  obtain ⟨s, rfl, hs'⟩ := h1b hr
  obtain ⟨As, cs, rfl, _, _⟩ := hs'.form
  simp only [XA]
  refine st_mat shapeT_30 rfl rfl rfl rfl rfl ?_
  simp only [XA]
  refine hK _ (XWP.ret ?_)
  try simp only [thenX_ret, inBlockX_ret]
  exact ret_go _ (by simp [resAll, resV, cellsV, shapeT_30]; rfl) ⟨fun h => absurd h (by rw [hr]; simp), fun _ => ⟨_, rfl, hs'⟩⟩
set_option maxHeartbeats 4000000 in
set_option maxRecDepth 100000 in
theorem rrefof_c (V : View) (v : Value) (kv : Int) (l : List Rn) (od : Nat → Nat → Rat) (h : SlK 9 rnE V v l) (f : ∀ r ∈ l, r.fits) (fs : ∀ r ∈ l, r.ds.length ≤ 8 ∧ (r.w.ok = true → QB 128 r.w.q)) (ll : l.length ≤ 1000000) (hod : rightR l = true → OfR l (andI .i64 kv 3) od) : Spec Tryz.prog 9 [v, .int .i64 kv] V fun v' V' => (rightR l = false → v' = .tuple #[.agg #[.int .i64 0, .int .i64 0, .slice none 0 0], .int .i64 1]) ∧ (rightR l = true → ∃ s, v' = .tuple #[.agg #[.int .i64 (l.length : Int), .int .i64 (l.length : Int), s], .int .i64 0] ∧ Rats V' s (flatG (moveG od l.length) l.length l.length)) := by
  obtain ⟨A, cL, rfl, _, _⟩ := h.form
  refine (Spec.enter Tryz.func9 rfl fun Γ => ?_)
  simp only [Tryz.ntmps9, List.map_cons, List.map_nil, List.length_cons, List.length_nil, Nat.reduceAdd, Nat.reduceSub, List.replicate_succ, List.replicate_zero, List.cons_append, List.nil_append]
  refine Gx.a (by kernel_rfl) fun K hK => ?_
  simp only [XM, XA]
  refine hK _ ?_
  refine XWP.seq ?_
  refine Gx.a (by kernel_rfl) fun K hK => ?_
  simp only [XA, XB]
  have hc := and3 kv
  generalize andI .i64 kv 3 = c at *
  refine hK _ ?_
  refine XWP.block ?_
  by_cases e0 : c = 0
  · subst e0
    refine Gx.a (by kernel_rfl) fun K hK => ?_
    simp only [XA, XB]
    refine hK _ ?_
    refine Gx.t rfl ?_
    refine Gx.a (by kernel_rfl) fun K hK => ?_
    simp only [XA]
    refine call_go (by kernel_rfl) rfl (ranew_c _ _ l od h f fs ll hod) fun v1 V1 hV1 h1 => ?_
    obtain ⟨h1a, h1b⟩ := h1
    cases hr : rightR l
    · obtain rfl := h1a hr
      simp only [XA]
      refine st_mat shapeT_30 rfl rfl rfl rfl rfl ?_
      simp only [XA]
      refine hK _ (XWP.ret ?_)
      try simp only [thenX_ret, inBlockX_ret]
      exact ret_go _ (by simp [resAll, resV, cellsV, shapeT_30]; rfl) ⟨fun _ => rfl, fun h => absurd h (by rw [hr]; simp)⟩
    obtain ⟨s, rfl, hs'⟩ := h1b hr
    obtain ⟨As, cs, rfl, _, _⟩ := hs'.form
    simp only [XA]
    refine st_mat shapeT_30 rfl rfl rfl rfl rfl ?_
    simp only [XA]
    refine hK _ (XWP.ret ?_)
    try simp only [thenX_ret, inBlockX_ret]
    exact ret_go _ (by simp [resAll, resV, cellsV, shapeT_30]; rfl) ⟨fun h => absurd h (by rw [hr]; simp), fun _ => ⟨_, rfl, hs'⟩⟩
  have b0 : decide (c = 0) = false := decide_eq_false e0
  refine Gx.a (by kernel_rfl) fun K hK => ?_
  simp only [XA, XB, b0]
  refine hK _ ?_
  refine Gx.f rfl ?_
  by_cases e1 : c = 1
  · subst e1
    refine Gx.a (by kernel_rfl) fun K hK => ?_
    simp only [XA, XB]
    refine hK _ ?_
    refine Gx.t rfl ?_
    refine Gx.a (by kernel_rfl) fun K hK => ?_
    simp only [XA]
    refine call_go (by kernel_rfl) rfl (rsuffix_c _ _ l od h f fs ll hod) fun v1 V1 hV1 h1 => ?_
    obtain ⟨h1a, h1b⟩ := h1
    cases hr : rightR l
    · obtain rfl := h1a hr
      simp only [XA]
      refine st_mat shapeT_30 rfl rfl rfl rfl rfl ?_
      simp only [XA]
      refine hK _ (XWP.ret ?_)
      try simp only [thenX_ret, inBlockX_ret]
      exact ret_go _ (by simp [resAll, resV, cellsV, shapeT_30]; rfl) ⟨fun _ => rfl, fun h => absurd h (by rw [hr]; simp)⟩
    obtain ⟨s, rfl, hs'⟩ := h1b hr
    obtain ⟨As, cs, rfl, _, _⟩ := hs'.form
    simp only [XA]
    refine st_mat shapeT_30 rfl rfl rfl rfl rfl ?_
    simp only [XA]
    refine hK _ (XWP.ret ?_)
    try simp only [thenX_ret, inBlockX_ret]
    exact ret_go _ (by simp [resAll, resV, cellsV, shapeT_30]; rfl) ⟨fun h => absurd h (by rw [hr]; simp), fun _ => ⟨_, rfl, hs'⟩⟩
  have b1 : decide (c = 1) = false := decide_eq_false e1
  refine Gx.a (by kernel_rfl) fun K hK => ?_
  simp only [XA, XB, b1]
  refine hK _ ?_
  refine Gx.f rfl ?_
  by_cases e2 : c = 2
  · subst e2
    refine Gx.a (by kernel_rfl) fun K hK => ?_
    simp only [XA, XB]
    refine hK _ ?_
    refine Gx.t rfl ?_
    refine Gx.a (by kernel_rfl) fun K hK => ?_
    simp only [XA]
    refine call_go (by kernel_rfl) rfl (rsite_c _ _ l od h f fs ll hod) fun v1 V1 hV1 h1 => ?_
    obtain ⟨h1a, h1b⟩ := h1
    cases hr : rightR l
    · obtain rfl := h1a hr
      simp only [XA]
      refine st_mat shapeT_30 rfl rfl rfl rfl rfl ?_
      simp only [XA]
      refine hK _ (XWP.ret ?_)
      try simp only [thenX_ret, inBlockX_ret]
      exact ret_go _ (by simp [resAll, resV, cellsV, shapeT_30]; rfl) ⟨fun _ => rfl, fun h => absurd h (by rw [hr]; simp)⟩
    obtain ⟨s, rfl, hs'⟩ := h1b hr
    obtain ⟨As, cs, rfl, _, _⟩ := hs'.form
    simp only [XA]
    refine st_mat shapeT_30 rfl rfl rfl rfl rfl ?_
    simp only [XA]
    refine hK _ (XWP.ret ?_)
    try simp only [thenX_ret, inBlockX_ret]
    exact ret_go _ (by simp [resAll, resV, cellsV, shapeT_30]; rfl) ⟨fun h => absurd h (by rw [hr]; simp), fun _ => ⟨_, rfl, hs'⟩⟩
  have b2 : decide (c = 2) = false := decide_eq_false e2
  refine Gx.a (by kernel_rfl) fun K hK => ?_
  simp only [XA, XB, b2]
  refine hK _ ?_
  refine Gx.f rfl ?_
  refine XWP.skip ?_
  obtain rfl : c = 3 := by omega
  refine Gx.a (by kernel_rfl) fun K hK => ?_
  simp only [XA]
  refine call_go (by kernel_rfl) rfl (rslice_c _ _ l od h f fs ll hod) fun v1 V1 hV1 h1 => ?_
  obtain ⟨h1a, h1b⟩ := h1
  cases hr : rightR l
  · obtain rfl := h1a hr
    simp only [XA]
    refine st_mat shapeT_30 rfl rfl rfl rfl rfl ?_
    simp only [XA]
    refine hK _ (XWP.ret ?_)
    try simp only [thenX_ret, inBlockX_ret]
    exact ret_go _ (by simp [resAll, resV, cellsV, shapeT_30]; rfl) ⟨fun _ => rfl, fun h => absurd h (by rw [hr]; simp)⟩
  obtain ⟨s, rfl, hs'⟩ := h1b hr
  obtain ⟨As, cs, rfl, _, _⟩ := hs'.form
  simp only [XA]
  refine st_mat shapeT_30 rfl rfl rfl rfl rfl ?_
  simp only [XA]
  refine hK _ (XWP.ret ?_)
  try simp only [thenX_ret, inBlockX_ret]
  exact ret_go _ (by simp [resAll, resV, cellsV, shapeT_30]; rfl) ⟨fun h => absurd h (by rw [hr]; simp), fun _ => ⟨_, rfl, hs'⟩⟩
end Go.Proofs.YtobjjdnfgamgcaaGreat
end
