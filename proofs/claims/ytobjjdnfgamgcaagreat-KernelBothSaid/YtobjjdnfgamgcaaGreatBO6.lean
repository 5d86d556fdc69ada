/- The composition and every mixture of two kernels leave the posterior invariant, at every input. (part 6 of 13) -/
import Derived.OrdersHeld
import Derived.Below
import Derived.Tactics
import Derived.KernelRfl
import Derived.RangeFuncCalls
import Derived.RangeFuncFrom
import Derived.RangeFuncLeaves
import Derived.OrdersIn
import Derived.Laws.AppendOwn
import Derived.Laws.MakeOwn
import Derived.Laws.CopyRow
import Derived.Laws.Cells
import Derived.Laws.World
import Derived.Laws.Alloc2
import Derived.Laws.NewBlocks
import Derived.Maps.AppendAt
import Derived.Test.YtobjjdnfgamgcaaGreatProg
import Init.Data.List.Lemmas
import Init.Omega
import Derived.WalkKit
import Derived.ProofKit
import Derived.OpenShut
import Derived.ChangeOld
import Derived.SizedLaws
import Derived.ChangeSlices
import Derived.ChangeArms
import Derived.Deep.Slices
import Derived.Test.YtobjjdnfgamgcaaGreatBO5
set_option linter.unusedVariables false
set_option linter.unusedSimpArgs false
section
namespace Go.Proofs.YtobjjdnfgamgcaaGreat
open Go Go.RowKit
attribute [local irreducible] XWP Spec SpecO XPub XCall seqX clX apX stX ldX iaX slX
theorem cmp_less (a b : Nat) : decide (cmpI a b < 0) = decide (a < b) := by
 rw [decide_eq_decide]
 unfold cmpI
 split
 ·omega
 ·split <;> omega
theorem ng_ne {p q : Rat} (h : ¬ ng p = ng q) : ng q = !(ng p) := by cases hp : ng p <;> cases hq : ng q <;> simp_all
theorem qadd_c (V : View) (v u : Value) (p q : Rat) (hv : RatC V v p) (hu : RatC V u q) (fp : QF p) (fq : QF q) : Spec Tryz.prog 68 [v, u] V fun v' V' => RatC V' v' (p + q) := by
 have hv0 := hv
 have hu0 := hu
 obtain ⟨n1, d1, rfl, hn1, hd1⟩ := hv
 obtain ⟨n2, d2, rfl, hn2, hd2⟩ := hu
 obtain ⟨f1, f2, f3, f4, f5, f6⟩ := QF.two fp fq
 refine (Spec.enter Tryz.func68 rfl fun Γ => ?_)
 simp only [Tryz.ntmps68, List.map_cons, List.map_nil, List.length_cons, List.length_nil, Nat.reduceAdd, Nat.reduceSub, List.replicate_succ, List.replicate_zero, List.cons_append, List.nil_append]
 refine Gx.a (by kernel_rfl) fun K hK => ?_
 simp only [XA, XB, Nat.reduceAdd]
 refine hK _ ?_
 refine XWP.seq ?_
 refine XWP.block ?_
 refine Gx.a (by kernel_rfl) fun K hK => ?_
 simp only [XA, XB, Nat.reduceAdd, Nat.reduceLeDiff, ↓reduceIte]
 refine call_go (by kernel_rfl) rfl (qsign_c _ _ _ hv0) fun v1 V1 hV1 h1 => ?_
 subst h1
 by_cases hp : p = 0
 ·have b1 : decide (p = 0) = true := decide_eq_true hp
  simp only [XA, XB, sgI_zero, b1]
  refine hK _ ?_
  refine Gx.t rfl ?_
  refine Gx.a (by kernel_rfl) fun K hK => ?_
  simp only [XA, XB]
  refine call_go (by kernel_rfl) rfl (qmade_c _ _ _ _ _ _ (hn2.mono hV1) (hd2.mono hV1) fq.fits.1 fq.fits.2) fun v2 V2 hV2 h2 => ?_
  rw [rv_self] at h2
  obtain ⟨x, y, rfl, hx, hy⟩ := h2
  simp only [XA]
  refine st_rat rfl rfl rfl hx.one hy.one ?_
  simp only [XA]
  refine hK _ (XWP.ret ?_)
  try simp only [thenX_ret, inBlockX_ret]
  subst hp
  refine ret_rat1 rfl rfl rfl ?_
  rw [Rat.zero_add]
  exact ⟨_, _, rfl, hx, hy⟩
 have b1 : decide (p = 0) = false := decide_eq_false hp
 simp only [XA, XB, sgI_zero, b1]
 refine hK _ ?_
 refine Gx.f rfl ?_
 refine Gx.a (by kernel_rfl) fun K hK => ?_
 simp only [XA, XB, Nat.reduceAdd, Nat.reduceLeDiff, ↓reduceIte]
 refine call_go (by kernel_rfl) rfl (qsign_c _ _ _ (hu0.mono hV1)) fun v2 V2 hV2 h2 => ?_
 subst h2
 by_cases hq : q = 0
 ·have b2 : decide (q = 0) = true := decide_eq_true hq
  simp only [XA, XB, sgI_zero, b2]
  refine hK _ ?_
  refine Gx.t rfl ?_
  refine Gx.a (by kernel_rfl) fun K hK => ?_
  simp only [XA, XB]
  refine call_go (by kernel_rfl) rfl (qmade_c _ _ _ _ _ _ ((hn1.mono hV1).mono hV2) ((hd1.mono hV1).mono hV2) fp.fits.1 fp.fits.2) fun v3 V3 hV3 h3 => ?_
  rw [rv_self] at h3
  obtain ⟨x, y, rfl, hx, hy⟩ := h3
  simp only [XA]
  refine st_rat rfl rfl rfl hx.one hy.one ?_
  simp only [XA]
  refine hK _ (XWP.ret ?_)
  try simp only [thenX_ret, inBlockX_ret]
  subst hq
  refine ret_rat1 rfl rfl rfl ?_
  rw [Rat.add_zero]
  exact ⟨_, _, rfl, hx, hy⟩
 have b2 : decide (q = 0) = false := decide_eq_false hq
 simp only [XA, XB, sgI_zero, b2]
 refine hK _ ?_
 refine Gx.f rfl ?_
 refine XWP.skip ?_
 have hn1 := (hn1.mono hV1).mono hV2
 have hd1 := (hd1.mono hV1).mono hV2
 have hn2 := (hn2.mono hV1).mono hV2
 have hd2 := (hd2.mono hV1).mono hV2
 (refine XWP.drw [0, 1, 2, 3, 5, 6, 7, 8, 10, 11, 12, 13, 4, 9, 14, 15, 16, 17] (by kernel_rfl) (by kernel_rfl) (by kernel_rfl) fun K hK => ?_) <;> dsimp only [pickOps, List.getElem?_cons_zero, List.getElem?_cons_succ]
 simp only [XA, XB]
 refine call_go (by kernel_rfl) rfl (mul_c _ _ _ _ _ hn1 hd2 fp.fits.1 fq.fits.2) fun v3 V3 hV3 h3 => ?_
 simp only [XA]
 refine call_go (by kernel_rfl) rfl (mul_c _ _ _ _ _ (hn2.mono hV3) (hd1.mono hV3) fq.fits.1 fp.fits.2) fun v4 V4 hV4 h4 => ?_
 simp only [XA]
 refine call_go (by kernel_rfl) rfl (mul_c _ _ _ _ _ ((hd1.mono hV3).mono hV4) ((hd2.mono hV3).mono hV4) fp.fits.2 fq.fits.2) fun v5 V5 hV5 h5 => ?_
 have h3 := (h3.mono hV4).mono hV5
 have h4 := h4.mono hV5
 simp only [XA]
 refine hK _ ?_
 by_cases he : ng p = ng q
 ·have b3 : (ng p == ng q) = true := by rw [he]; exact beq_self_eq_true _
  refine XWP.seq ?_
  refine Gx.a (by kernel_rfl) fun K hK => ?_
  simp only [XA, XB, b3]
  refine hK _ ?_
  refine Gx.t rfl ?_
  (refine XWP.drw [0, 1, 2, 3, 5, 4, 6, 7] (by kernel_rfl) (by kernel_rfl) (by kernel_rfl) fun K hK => ?_) <;> dsimp only [pickOps, List.getElem?_cons_zero, List.getElem?_cons_succ]
  simp only [XA, XB]
  refine call_go (by kernel_rfl) rfl (add_c _ _ _ _ _ h3 h4 f2 f5) fun v6 V6 hV6 h6 => ?_
  simp only [XA]
  refine call_go (by kernel_rfl) rfl (qmade_c _ _ _ _ _ _ h6 (h5.mono hV6) f6 f4) fun v7 V7 hV7 h7 => ?_
  rw [← rv_add _ p.den_nz q.den_nz, rv_self, he, rv_self] at h7
  obtain ⟨x, y, rfl, hx, hy⟩ := h7
  simp only [XA]
  refine st_rat rfl rfl rfl hx.one hy.one ?_
  simp only [XA]
  refine hK _ (XWP.ret ?_)
  try simp only [thenX_ret, inBlockX_ret]
  exact ret_rat1 rfl rfl rfl ⟨_, _, rfl, hx, hy⟩
 have b3 : (ng p == ng q) = false := by simpa using he
 refine XWP.seq ?_
 refine Gx.a (by kernel_rfl) fun K hK => ?_
 simp only [XA, XB, b3]
 refine hK _ ?_
 refine Gx.f rfl ?_
 refine XWP.skip ?_
 refine XWP.seq ?_
 refine Gx.a (by kernel_rfl) fun K hK => ?_
 simp only [XA]
 refine call_go (by kernel_rfl) rfl (compare_c _ _ _ _ _ h3 h4) fun v6 V6 hV6 h6 => ?_
 subst h6
 have h3 := h3.mono hV6
 have h4 := h4.mono hV6
 have h5 := h5.mono hV6
 by_cases hlt : p.num.natAbs * q.den < q.num.natAbs * p.den
 ·have b4 : decide (p.num.natAbs * q.den < q.num.natAbs * p.den) = true := decide_eq_true (by omega)
  simp only [XA, XB, cmp_less, b4]
  refine hK _ ?_
  refine Gx.t rfl ?_
  refine Gx.c (by kernel_rfl) fun K hK => ?_
  simp only [XA, XB, Nat.reduceAdd, Nat.reduceLeDiff, ↓reduceIte]
  refine st_rat rfl rfl rfl hn2.one hd2.one ?_
  simp only [XA]
  refine hK _ ?_
  refine Gx.a (by kernel_rfl) fun K hK => ?_
  simp only [XA]
  refine call_go (by kernel_rfl) rfl (sub_c _ _ _ _ _ h4 h3 f5) fun v7 V7 hV7 h7 => ?_
  obtain ⟨r, rfl, hr⟩ := h7.2 (Nat.le_of_lt hlt)
  simp only [XA]
  refine hK _ ?_
  refine Gx.a (by kernel_rfl) fun K hK => ?_
  simp only [XA, XB]
  refine call_go (by kernel_rfl) rfl (qmade_c _ _ _ _ _ _ hr (h5.mono hV7) (f5.mono (Nat.sub_le _ _)) f4) fun v8 V8 hV8 h8 => ?_
  have e := rv_sub (ng q) (a := q.num.natAbs) (c := p.num.natAbs) q.den_nz p.den_nz (Nat.le_of_lt hlt)
  rw [rv_self, ← ng_ne (fun e => he e.symm), rv_self, Nat.mul_comm q.den p.den] at e
  rw [← e, Rat.add_comm] at h8
  obtain ⟨x, y, rfl, hx, hy⟩ := h8
  simp only [XA]
  refine st_rat rfl rfl rfl hx.one hy.one ?_
  simp only [XA]
  refine hK _ (XWP.ret ?_)
  try simp only [thenX_ret, inBlockX_ret]
  exact ret_rat1 rfl rfl rfl ⟨_, _, rfl, hx, hy⟩
 ·have b4 : decide (p.num.natAbs * q.den < q.num.natAbs * p.den) = false := decide_eq_false (by omega)
  simp only [XA, XB, cmp_less, b4]
  refine hK _ ?_
  refine Gx.f rfl ?_
  refine XWP.skip ?_
  refine Gx.a (by kernel_rfl) fun K hK => ?_
  simp only [XA]
  refine call_go (by kernel_rfl) rfl (sub_c _ _ _ _ _ h3 h4 f2) fun v7 V7 hV7 h7 => ?_
  obtain ⟨r, rfl, hr⟩ := h7.2 (by omega)
  simp only [XA]
  refine hK _ ?_
  refine Gx.a (by kernel_rfl) fun K hK => ?_
  simp only [XA, XB]
  refine call_go (by kernel_rfl) rfl (qmade_c _ _ _ _ _ _ hr (h5.mono hV7) (f2.mono (Nat.sub_le _ _)) f4) fun v8 V8 hV8 h8 => ?_
  have e := rv_sub (ng p) (a := p.num.natAbs) (c := q.num.natAbs) p.den_nz q.den_nz (by omega)
  rw [rv_self, ← ng_ne he, rv_self] at e
  rw [← e] at h8
  obtain ⟨x, y, rfl, hx, hy⟩ := h8
  simp only [XA]
  refine st_rat rfl rfl rfl hx.one hy.one ?_
  simp only [XA]
  refine hK _ (XWP.ret ?_)
  try simp only [thenX_ret, inBlockX_ret]
  exact ret_rat1 rfl rfl rfl ⟨_, _, rfl, hx, hy⟩
theorem qsub_c (V : View) (v u : Value) (p q : Rat) (hv : RatC V v p) (hu : RatC V u q) (fp : QF p) (fq : QF q) : Spec Tryz.prog 53 [v, u] V fun v' V' => RatC V' v' (p - q) := by
 have hv0 := hv
 have hu0 := hu
 obtain ⟨n1, d1, rfl, hn1, hd1⟩ := hv
 obtain ⟨n2, d2, rfl, hn2, hd2⟩ := hu
 refine (Spec.enter Tryz.func53 rfl fun Γ => ?_)
 simp only [Tryz.ntmps53, List.map_cons, List.map_nil, List.length_cons, List.length_nil, Nat.reduceAdd, Nat.reduceSub, List.replicate_succ, List.replicate_zero, List.cons_append, List.nil_append]
 refine Gx.a (by kernel_rfl) fun K hK => ?_
 simp only [XA, XB, Nat.reduceAdd]
 refine hK _ ?_
 (refine XWP.drw [0, 1, 2, 3, 4] (by kernel_rfl) (by kernel_rfl) (by kernel_rfl) fun K hK => ?_) <;> dsimp only [pickOps, List.getElem?_cons_zero, List.getElem?_cons_succ]
 simp only [XA, XB, Nat.reduceAdd, Nat.reduceLeDiff, ↓reduceIte]
 refine call_go (by kernel_rfl) rfl (qneg_c _ _ _ hu0 fq) fun v1 V1 hV1 h1 => ?_
 simp only [XA]
 refine call_go (by kernel_rfl) rfl (qadd_c _ _ _ _ _ (hv0.mono hV1) h1 fp fq.neg) fun v2 V2 hV2 h2 => ?_
 rw [← Rat.sub_eq_add_neg] at h2
 obtain ⟨x, y, rfl, hx, hy⟩ := h2
 simp only [XA]
 refine st_rat rfl rfl rfl hx.one hy.one ?_
 simp only [XA]
 refine hK _ (XWP.ret ?_)
 try simp only [thenX_ret, inBlockX_ret]
 exact ret_rat1 rfl rfl rfl ⟨_, _, rfl, hx, hy⟩
def rawOk (m : Bool) (nd dd : List Nat) : Bool := rightB nd && rightB dd && !decide (dd.length = 0) && !(decide (nd.length = 0) && m) && decide (Nat.gcd (nv nd) (nv dd) = 1)
theorem right_dg {ds : List Nat} (h : Dig ds) (hr : rightB ds = true) : ds = dg (nv ds) := by
 refine dg_unique ds h fun d hd => ?_
 unfold rightB at hr
 rw [hd] at hr
 simpa using hr
theorem NatAt.right {V : View} {v : Value} {ds : List Nat} (h : NatAt V v ds) (hr : rightB ds = true) : NatC V v (nv ds) := by
 unfold NatC; rw [← right_dg h.dig hr]; exact h
theorem nv_eq_zero {ds : List Nat} (h : Dig ds) (hr : rightB ds = true) : nv ds = 0 ↔ ds.length = 0 := by
 constructor
 ·intro e; rw [right_dg h hr, e, dg_zero]; rfl
 ·intro e; rw [List.length_eq_zero_iff.1 e]; rfl
theorem Fit.nv {ds : List Nat} (h : Dig ds) (hl : ds.length ≤ 4398046511104) : Fit (nv ds) := Nat.le_trans (sz_le (nv_lt h)) hl
theorem RawAt.rat {V : View} {v : Value} {m : Bool} {nd dd : List Nat} (h : RawAt V v m nd dd) (hk : rawOk m nd dd = true) : RatC V v (Go.Proofs.YtobjjdnfgamgcaaGreat.rv m (nv nd) (nv dd)) := by
 obtain ⟨n, d, rfl, hn, hd⟩ := h
 unfold rawOk at hk
 simp only [Bool.and_eq_true, Bool.not_eq_true', decide_eq_false_iff_not, decide_eq_true_eq] at hk
 obtain ⟨⟨⟨⟨h1, h2⟩, h3⟩, h4⟩, h5⟩ := hk
 have hb : nv dd ≠ 0 := fun e => h3 ((nv_eq_zero hd.dig h2).1 e)
 refine RatC.rv hb ?_ ?_ ?_
 ·rw [h5, Nat.div_one]; exact hn.right h1
 ·rw [h5, Nat.div_one]; exact hd.right h2
 ·rw [h5, Nat.div_one]
  have := nv_eq_zero hn.dig h1
  by_cases e : nv nd = 0
  ·have e2 := this.1 e
   cases m
   ·simp
   ·simp [e2] at h4
  ·simp [e]
theorem qright_c (V : View) (v : Value) (m : Bool) (nd dd : List Nat) (h : RawAt V v m nd dd) (l1 : nd.length ≤ 4398046511104) (l2 : dd.length ≤ 4398046511104) : Spec Tryz.prog 49 [v] V fun v' V' => v' = .bool (rawOk m nd dd) := by
 obtain ⟨n, d, rfl, hn, hd⟩ := h
 obtain ⟨A1, c1, rfl, _, _⟩ := hn.form
 obtain ⟨A2, c2, rfl, _, _⟩ := hd.form
 refine (Spec.enter Tryz.func49 rfl fun Γ => ?_)
 simp only [Tryz.ntmps49, List.map_cons, List.map_nil, List.length_cons, List.length_nil, Nat.reduceAdd, Nat.reduceSub, List.replicate_succ, List.replicate_zero, List.cons_append, List.nil_append]
 refine Gx.a (by kernel_rfl) fun K hK => ?_
 simp only [XA]
 refine hK _ ?_
 clear hK
 have e4 : decide ((nd.length : Int) = 0) = decide (nd.length = 0) := by rw [decide_eq_decide]; omega
 refine XWP.cut (fun s => ∃ V2, StIs (fun Z => [Z 0, .p 0 0, Z 2,Z 3,Z 4,Z 5,Z 6,Z 7,Z 8,Z 9,Z 10,Z 11,Z 12,Z 13,Z 14,Z 15,Z 16,Z 17,Z 18,Z 19,Z 20,Z 21,Z 22,Z 23,Z 24,Z 25,Z 26,Z 27,Z 28,Z 29,Z 30,Z 31,Z 32,Z 33,Z 34,Z 35,Z 36,Z 37,Z 38,Z 39,Z 40,Z 41,Z 42,Z 43,Z 44]) [[.bool m, .slice A1 nd.length c1, .slice A2 dd.length c2]] (fun _ => none) V2 s ∧ V.le V2 ∧ rightB nd = true ∧ rightB dd = true ∧ dd.length ≠ 0 ∧ (decide (nd.length = 0) && m) = false) ?_ ?_
 ·refine Gx.a (by kernel_rfl) fun K hK => ?_
  simp only [XA, XB]
  refine call_go (by kernel_rfl) rfl (right_any _ _ _ hn) fun v1 V1 hV1 h1 => ?_
  subst h1
  cases r1 : rightB nd
  ·simp only [XA, XB, gateX, ↓reduceIte]
   refine hK _ ?_
   refine Gx.t rfl ?_
   refine Gx.a (by kernel_rfl) fun K hK => ?_
   simp only [XA]
   refine hK _ (XWP.ret ?_)
   try simp only [thenX_ret, inBlockX_ret]
   refine ret_go _ rfl ?_
   simp [rawOk, r1]; rfl
  simp only [XA, XB, gateX, ↓reduceIte, beq_self_eq_true]
  refine call_go (by kernel_rfl) rfl (right_any _ _ _ (hd.mono hV1)) fun v2 V2 hV2 h2 => ?_
  subst h2
  cases r2 : rightB dd
  ·simp only [XA, XB, gateX, ↓reduceIte, beq_self_eq_true]
   refine hK _ ?_
   refine Gx.t rfl ?_
   refine Gx.a (by kernel_rfl) fun K hK => ?_
   simp only [XA]
   refine hK _ (XWP.ret ?_)
   try simp only [thenX_ret, inBlockX_ret]
   refine ret_go _ rfl ?_
   simp [rawOk, r2]; rfl
  by_cases r3 : dd.length = 0
  ·have b3 : decide ((dd.length : Int) = 0) = true := decide_eq_true (by omega)
   simp only [XA, XB, gateX, ↓reduceIte, beq_self_eq_true, b3]
   refine hK _ ?_
   refine Gx.t rfl ?_
   refine Gx.a (by kernel_rfl) fun K hK => ?_
   simp only [XA]
   refine hK _ (XWP.ret ?_)
   try simp only [thenX_ret, inBlockX_ret]
   refine ret_go _ rfl ?_
   simp [rawOk, r3]; rfl
  have b3 : decide ((dd.length : Int) = 0) = false := decide_eq_false (by omega)
  cases b4 : decide (nd.length = 0)
  ·simp only [XA, XB, gateX, ↓reduceIte, beq_self_eq_true, b3, e4, b4]
   refine hK _ ?_
   refine Gx.f rfl ?_
   refine XWP.skip ?_
   exact ⟨V2, StIs.of (by exact rfl), View.le_trans hV1 hV2, r1, r2, r3, by rw [b4]; rfl⟩
  ·cases m
   ·simp only [XA, XB, gateX, ↓reduceIte, beq_self_eq_true, b3, e4, b4]
    refine hK _ ?_
    refine Gx.f rfl ?_
    refine XWP.skip ?_
    exact ⟨V2, StIs.of (by exact rfl), View.le_trans hV1 hV2, r1, r2, r3, by simp⟩
   ·simp only [XA, XB, gateX, ↓reduceIte, beq_self_eq_true, b3, e4, b4]
    refine hK _ ?_
    refine Gx.t rfl ?_
    refine Gx.a (by kernel_rfl) fun K hK => ?_
    simp only [XA]
    refine hK _ (XWP.ret ?_)
    try simp only [thenX_ret, inBlockX_ret]
    refine ret_go _ rfl ?_
    show Value.bool _ = _
    congr 1
    unfold rawOk
    rw [b4]; simp
 ·rintro s ⟨V2, hs, hV2, r1, r2, r3, r4⟩
  obtain ⟨u, rfl⟩ := hs.out
  try dsimp only
  have fin : rawOk m nd dd = decide (Nat.gcd (nv nd) (nv dd) = 1) := by
   unfold rawOk
   rw [r1, r2, r4, decide_eq_false r3]; rfl
  have k1 := (hn.right r1).mono hV2
  have k2 := (hd.right r2).mono hV2
  have f1 := Fit.nv hn.dig l1
  have f2 := Fit.nv hd.dig l2
  rw [fin]
  refine Gx.a (by kernel_rfl) fun K hK => ?_
  simp only [XA, XB]
  refine call_go (by kernel_rfl) rfl (gcd_c _ _ _ _ _ k1 k2 f1 f2) fun v3 V3 hV3 h3 => ?_
  simp only [XA]
  refine call_go (by kernel_rfl) rfl (small_c _ _ _ h3) fun v4 V4 hV4 h4 => ?_
  by_cases hs : Nat.gcd (nv nd) (nv dd) < 18446744073709551616
  ·rw [if_pos hs] at h4
   subst h4
   have e5 : decide (((Nat.gcd (nv nd) (nv dd) : Nat) : Int) = 1) = decide (Nat.gcd (nv nd) (nv dd) = 1) := by rw [decide_eq_decide]; omega
   simp only [XA]
   refine hK _ ?_
   refine Gx.a (by kernel_rfl) fun K hK => ?_
   simp only [XA, XB, gateX, ↓reduceIte, beq_self_eq_true, e5]
   refine hK _ (XWP.ret ?_)
   try simp only [thenX_ret, inBlockX_ret]
   refine ret_go _ rfl ?_
   rfl
  ·rw [if_neg hs] at h4
   subst h4
   simp only [XA]
   refine hK _ ?_
   refine Gx.a (by kernel_rfl) fun K hK => ?_
   simp only [XA, gateX, ↓reduceIte]
   refine hK _ (XWP.ret ?_)
   try simp only [thenX_ret, inBlockX_ret]
   refine ret_go _ rfl ?_
   rw [decide_eq_false (by omega)]; rfl
theorem Fit1.of_two {n B : Nat} (h : n ≤ 2 ^ B) (hB : B ≤ 70368744177664) : Fit1 n := by
 have := sz_two h
 unfold Fit1; omega
theorem Fit1.mono {a b : Nat} (h : Fit1 b) (hl : a ≤ b) : Fit1 a := Nat.le_trans (sz_mono hl) h
theorem QF.fits1 {q : Rat} (h : QF q) : Fit1 q.num.natAbs ∧ Fit1 q.den := by
 obtain ⟨B, hB, h1, h2⟩ := h
 exact ⟨Fit1.of_two h1 (by omega), Fit1.of_two h2 (by omega)⟩
theorem QF.two1 {p q : Rat} (hp : QF p) (hq : QF q) : Fit1 (p.num.natAbs * q.num.natAbs) ∧ Fit1 (p.num.natAbs * q.den) ∧ Fit1 (p.den * q.num.natAbs) ∧ Fit1 (p.den * q.den) ∧ Fit1 (q.num.natAbs * p.den) ∧ Fit1 (p.num.natAbs * q.den + q.num.natAbs * p.den) := by
 obtain ⟨A, hA, a1, a2⟩ := hp
 obtain ⟨B, hB, b1, b2⟩ := hq
 have h1 := two_mul_le a1 b2
 have h2 := two_mul_le b1 a2
 rw [Nat.add_comm B A] at h2
 exact ⟨Fit1.of_two (two_mul_le a1 b1) (by omega), Fit1.of_two h1 (by omega), Fit1.of_two (two_mul_le a2 b1) (by omega), Fit1.of_two (two_mul_le a2 b2) (by omega), Fit1.of_two h2 (by omega), Fit1.of_two (two_add_le h1 h2) (by omega)⟩
def RatV (V : View) (v : Value) (q : Rat) : Prop := ∃ (m : Bool) (a b : Nat), TripC V v m a b ∧ Fit1 a ∧ Fit1 b ∧ q = rv m a b
theorem RatV.mono {V V' : View} {v : Value} {q : Rat} (h : RatV V v q) (hV : V.le V') : RatV V' v q := by
 obtain ⟨m, a, b, h1, h2⟩ := h; exact ⟨m, a, b, h1.mono hV, h2⟩
theorem RatC.toV {V : View} {v : Value} {q : Rat} (h : RatC V v q) (f : QF q) : RatV V v q := ⟨_, _, _, h, f.fits1.1, f.fits1.2, (rv_self q).symm⟩
theorem pof_c (V : View) (m : Bool) (n d : Value) (a b : Nat) (hn : NatC V n a) (hd : NatC V d b) (fa : Fit1 a) (fb : Fit1 b) : Spec Tryz.prog 47 [.bool m, n, d] V fun v' V' => (b = 0 → v' = .tuple #[.agg #[.bool false, .slice none 0 0, .slice none 0 0], .int .i64 31]) ∧ (b ≠ 0 → ∃ r, v' = .tuple #[r, .int .i64 0] ∧ RatC V' r (rv m a b)) := by
 refine (Spec.enter Tryz.func47 rfl fun Γ => ?_)
 simp only [Tryz.ntmps47, List.map_cons, List.map_nil, List.length_cons, List.length_nil, Nat.reduceAdd, Nat.reduceSub, List.replicate_succ, List.replicate_zero, List.cons_append, List.nil_append]
 refine Gx.a (by kernel_rfl) fun K hK => ?_
 simp only [XA, XB]
 refine hK _ ?_
 refine XWP.seq ?_
 refine Gx.a (by kernel_rfl) fun K hK => ?_
 simp only [XA]
 refine call_go (by kernel_rfl) rfl (rbits_c _ _ _ hd fb.fit) fun v1 V1 hV1 h1 => ?_
 obtain ⟨r, rfl, hr⟩ := h1
 have hn := hn.mono hV1
 have hd := hd.mono hV1
 by_cases hb : b = 0
 ·have b1 : decide ((r : Int) = 0) = true := decide_eq_true (by omega)
  simp only [XA, XB, b1]
  refine hK _ ?_
  refine Gx.t rfl ?_
  refine Gx.a (by kernel_rfl) fun K hK => ?_
  refine bd_go (by kernel_rfl) #[] (by simp) bd_rat0 ?_
  simp only [XA]
  refine st_rat rfl rfl rfl rfl rfl ?_
  simp only [XA]
  refine hK _ (XWP.ret ?_)
  try simp only [thenX_ret, inBlockX_ret]
  refine ret_rat2 rfl rfl rfl rfl ?_
  exact ⟨fun _ => rfl, fun h => absurd hb h⟩
 ·have b1 : decide ((r : Int) = 0) = false := decide_eq_false (by omega)
  simp only [XA, XB, b1]
  refine hK _ ?_
  refine Gx.f rfl ?_
  refine XWP.skip ?_
  refine Gx.a (by kernel_rfl) fun K hK => ?_
  simp only [XA]
  refine call_go (by kernel_rfl) rfl (rgcd_c _ _ _ _ _ hn hd fa.fit fb.fit) fun v2 V2 hV2 h1 => ?_
  have hn := hn.mono hV2
  have hd := hd.mono hV2
  simp only [XA]
  refine hK _ ?_
  have hg : Nat.gcd a b ≠ 0 := fun e => hb (Nat.gcd_eq_zero_iff.1 e).2
  have fg : Fit (Nat.gcd a b) := fb.fit.mono (Nat.gcd_le_right _ (by omega))
  refine Gx.a (by kernel_rfl) fun K hK => ?_
  simp only [XA]
  refine call_go (by kernel_rfl) rfl (rdiv_c _ _ _ _ _ hn h1 fa fg) fun v3 V3 hV3 h3 => ?_
  obtain ⟨q3, r3, rfl, hq3, hr3⟩ := h3.2 hg
  have hd := hd.mono hV3
  have h1 := h1.mono hV3
  simp only [XA]
  refine hK _ ?_
  refine Gx.a (by kernel_rfl) fun K hK => ?_
  simp only [XA]
  refine call_go (by kernel_rfl) rfl (rdiv_c _ _ _ _ _ hd h1 fb fg) fun v4 V4 hV4 h4 => ?_
  obtain ⟨q4, r4, rfl, hq4, hr4⟩ := h4.2 hg
  have hq3 := hq3.mono hV4
  simp only [XA]
  refine hK _ ?_
  obtain ⟨A3, c3, rfl, _, _⟩ := NatAt.form hq3
  obtain ⟨A4, c4, rfl, _, _⟩ := NatAt.form hq4
  refine Gx.a (by kernel_rfl) fun K hK => ?_
  cases m
  ·simp only [XA, gateX, ↓reduceIte]
   refine bd_go (by kernel_rfl) #[(0, .bool false), (1, .slice A3 (dg (a / Nat.gcd a b)).length c3), (2, .slice A4 (dg (b / Nat.gcd a b)).length c4)] (by simp [ev_tmp, SV.val]) (bd_rat3 rfl rfl rfl) ?_
   simp only [XA]
   refine st_rat rfl rfl rfl rfl rfl ?_
   simp only [XA]
   refine hK _ (XWP.ret ?_)
   try simp only [thenX_ret, inBlockX_ret]
   refine ret_rat2 rfl rfl rfl rfl ?_
   exact ⟨fun h => absurd h hb, fun _ => ⟨_, rfl, RatC.rv hb hq3 hq4 rfl⟩⟩
  ·simp only [XA, XB, gateX, ↓reduceIte, beq_self_eq_true, len_pos]
   refine bd_go (by kernel_rfl) #[(0, .bool (decide (a / Nat.gcd a b ≠ 0))), (1, .slice A3 (dg (a / Nat.gcd a b)).length c3), (2, .slice A4 (dg (b / Nat.gcd a b)).length c4)] (by simp [ev_tmp, SV.val]) (bd_rat3 rfl rfl rfl) ?_
   simp only [XA]
   refine st_rat rfl rfl rfl rfl rfl ?_
   simp only [XA]
   refine hK _ (XWP.ret ?_)
   try simp only [thenX_ret, inBlockX_ret]
   refine ret_rat2 rfl rfl rfl rfl ?_
   exact ⟨fun h => absurd h hb, fun _ => ⟨_, rfl, RatC.rv hb hq3 hq4 (by simp)⟩⟩
theorem pzero_c (V : View) : Spec Tryz.prog 37 [] V fun v' V' => RatC V' v' 0 := by
 refine (Spec.enter Tryz.func37 rfl fun Γ => ?_)
 simp only [Tryz.ntmps37, List.map_nil, List.length_nil, Nat.reduceSub, List.replicate_succ, List.replicate_zero, List.nil_append]
 refine Gx.a (by kernel_rfl) fun K hK => ?_
 simp only [XA, XB]
 refine hK _ ?_
 refine Gx.a (by kernel_rfl) fun K hK => ?_
 simp only [XA]
 refine call_go (by kernel_rfl) rfl (rof_c _ 1 (by omega)) fun v1 V1 hV1 h1 => ?_
 simp only [XA]
 refine bd_go (by kernel_rfl) #[(2, v1)] (by simp [ev_tmp, SV.val]) (bd_rat1 h1.one) ?_
 simp only [XA]
 refine st_rat rfl rfl rfl rfl h1.one ?_
 simp only [XA]
 refine hK _ (XWP.ret ?_)
 try simp only [thenX_ret, inBlockX_ret]
 refine ret_rat1 rfl rfl rfl ?_
 exact ⟨_, _, rfl, NatC.zero _, h1⟩
theorem pone_c (V : View) : Spec Tryz.prog 43 [] V fun v' V' => RatC V' v' 1 := by
 refine (Spec.enter Tryz.func43 rfl fun Γ => ?_)
 simp only [Tryz.ntmps43, List.map_nil, List.length_nil, Nat.reduceSub, List.replicate_succ, List.replicate_zero, List.nil_append]
 refine Gx.a (by kernel_rfl) fun K hK => ?_
 simp only [XA, XB]
 refine hK _ ?_
 refine Gx.a (by kernel_rfl) fun K hK => ?_
 simp only [XA]
 refine call_go (by kernel_rfl) rfl (rof_c _ 1 (by omega)) fun v1 V1 hV1 h1 => ?_
 simp only [XA]
 refine call_go (by kernel_rfl) rfl (rof_c _ 1 (by omega)) fun v2 V2 hV2 h2 => ?_
 have h1 := h1.mono hV2
 simp only [XA]
 refine bd_go (by kernel_rfl) #[(1, v1), (2, v2)] (by simp [ev_tmp, SV.val]) (bd_rat2 h1.one h2.one) ?_
 simp only [XA]
 refine st_rat rfl rfl rfl h1.one h2.one ?_
 simp only [XA]
 refine hK _ (XWP.ret ?_)
 try simp only [thenX_ret, inBlockX_ret]
 refine ret_rat1 rfl rfl rfl ?_
 exact ⟨_, _, rfl, h1, h2⟩
theorem pvalid_c (V : View) (v : Value) (q : Rat) (h : RatV V v q) : Spec Tryz.prog 45 [v] V fun v' V' => RatC V' v' q := by
 obtain ⟨m, a, b, ⟨n, d, rfl, hn, hd⟩, fa, fb, rfl⟩ := h
 refine (Spec.enter Tryz.func45 rfl fun Γ => ?_)
 simp only [Tryz.ntmps45, List.map_cons, List.map_nil, List.length_cons, List.length_nil, Nat.reduceAdd, Nat.reduceSub, List.replicate_succ, List.replicate_zero, List.cons_append, List.nil_append]
 refine Gx.a (by kernel_rfl) fun K hK => ?_
 simp only [XA, XB]
 refine hK _ ?_
 refine Gx.a (by kernel_rfl) fun K hK => ?_
 simp only [XA, XB]
 refine call_go (by kernel_rfl) rfl (pof_c _ _ _ _ _ _ hn hd fa fb) fun v1 V1 hV1 h1 => ?_
 by_cases hb : b = 0
 ·obtain rfl := h1.1 hb
  subst hb
  simp only [XA, XB, Nat.reduceAdd]
  refine st_rat rfl rfl rfl rfl rfl ?_
  simp only [XA]
  refine hK _ ?_
  have b1 : decide ((31 : Int) = 0) = false := decide_eq_false (by omega)
  refine XWP.seq ?_
  refine Gx.a (by kernel_rfl) fun K hK => ?_
  simp only [XA, XB, b1]
  refine hK _ ?_
  refine Gx.t rfl ?_
  refine Gx.a (by kernel_rfl) fun K hK => ?_
  simp only [XA]
  refine call_go (by kernel_rfl) rfl (pzero_c _) fun v2 V2 hV2 h2 => ?_
  obtain ⟨x, y, rfl, hx, hy⟩ := h2
  simp only [XA]
  refine st_rat rfl rfl rfl hx.one hy.one ?_
  simp only [XA]
  refine hK _ (XWP.ret ?_)
  try simp only [thenX_ret, inBlockX_ret]
  refine ret_rat1 rfl rfl rfl ?_
  rw [rv_none]
  exact ⟨_, _, rfl, hx, hy⟩
 ·obtain ⟨r, rfl, x, y, rfl, hx, hy⟩ := h1.2 hb
  simp only [XA, XB, Nat.reduceAdd]
  refine st_rat rfl rfl rfl hx.one hy.one ?_
  simp only [XA]
  refine hK _ ?_
  have b1 : decide ((0 : Int) = 0) = true := decide_eq_true (by omega)
  refine XWP.seq ?_
  refine Gx.a (by kernel_rfl) fun K hK => ?_
  simp only [XA, XB]
  refine hK _ ?_
  refine Gx.f rfl ?_
  refine XWP.skip ?_
  refine Gx.a (by kernel_rfl) fun K hK => ?_
  simp only [XA, XB, Nat.reduceAdd, Nat.reduceLeDiff, ↓reduceIte]
  refine st_rat rfl rfl rfl hx.one hy.one ?_
  simp only [XA]
  refine hK _ (XWP.ret ?_)
  try simp only [thenX_ret, inBlockX_ret]
  refine ret_rat1 rfl rfl rfl ?_
  exact ⟨_, _, rfl, hx, hy⟩
theorem psign_c (V : View) (v : Value) (q : Rat) (h : RatV V v q) : Spec Tryz.prog 17 [v] V fun v' V' => v' = .int .i64 (sgI q) := by
 have h0 := h
 obtain ⟨m, a, b, ⟨n, d, rfl, hn, hd⟩, fa, fb, hq0⟩ := h
 refine (Spec.enter Tryz.func17 rfl fun Γ => ?_)
 simp only [Tryz.ntmps17, List.map_cons, List.map_nil, List.length_cons, List.length_nil, Nat.reduceAdd, Nat.reduceSub, List.replicate_succ, List.replicate_zero, List.cons_append, List.nil_append]
 refine Gx.a (by kernel_rfl) fun K hK => ?_
 simp only [XA]
 refine hK _ ?_
 refine Gx.a (by kernel_rfl) fun K hK => ?_
 simp only [XA, XB, Nat.reduceAdd, Nat.reduceLeDiff, ↓reduceIte]
 refine call_go (by kernel_rfl) rfl (pvalid_c _ _ _ h0) fun v1 V1 hV1 h1 => ?_
 obtain ⟨x, y, rfl, hx, hy⟩ := h1
 simp only [XA]
 refine st_rat rfl rfl rfl hx.one hy.one ?_
 simp only [XA]
 refine hK _ ?_
 have hq := rat_zero_iff q
 obtain ⟨A, c, rfl, _, _⟩ := NatAt.form hx
 refine XWP.seq ?_
 refine XWP.block ?_
 by_cases h0 : q.num.natAbs = 0
 ·have b1 : decide (q.num.natAbs = 0) = true := decide_eq_true (by omega)
  refine Gx.a (by kernel_rfl) fun K hK => ?_
  simp only [XA, XB, len_zero, b1]
  refine hK _ ?_
  refine Gx.t rfl ?_
  refine Gx.a (by kernel_rfl) fun K hK => ?_
  simp only [XA]
  refine hK _ (XWP.ret ?_)
  try simp only [thenX_ret, inBlockX_ret]
  refine ret_go _ rfl ?_
  unfold sgI; rw [if_pos (hq.2 h0)]; rfl
 ·have b1 : decide (q.num.natAbs = 0) = false := decide_eq_false (by omega)
  refine Gx.a (by kernel_rfl) fun K hK => ?_
  simp only [XA, XB, len_zero, b1]
  refine hK _ ?_
  refine Gx.f rfl ?_
  refine Gx.a (by kernel_rfl) fun K hK => ?_
  cases hng : ng q
  ·simp only [XA, XB]
   refine hK _ ?_
   refine Gx.f rfl ?_
   refine XWP.skip ?_
   refine Gx.a (by kernel_rfl) fun K hK => ?_
   simp only [XA]
   refine hK _ (XWP.ret ?_)
   try simp only [thenX_ret, inBlockX_ret]
   refine ret_go _ rfl ?_
   unfold sgI; rw [if_neg (fun e => h0 (hq.1 e)), hng]; rfl
  ·simp only [XA, XB]
   refine hK _ ?_
   refine Gx.t rfl ?_
   refine Gx.a (by kernel_rfl) fun K hK => ?_
   simp only [XA]
   refine hK _ (XWP.ret ?_)
   try simp only [thenX_ret, inBlockX_ret]
   refine ret_go _ rfl ?_
   unfold sgI; rw [if_neg (fun e => h0 (hq.1 e)), hng]; rfl
theorem st_fst {ops : Array Oper} {rest : List Oper} {K : XS → Prop} {s : XS} {d : Option Tmp} {i : Nat} {m m' : Bool} {n e : Value} (hb : s.bx[i]? = some [.bool m, n, e]) (h : seqX Tryz.prog ops rest K (XS.put ⟨s.t, s.bx.set i [.bool m', n, e], s.H, s.V⟩ d (.v undef))) : stX Tryz.prog ops rest K s d 4 (.p i 0) (.v (.bool m')) := by
 unfold stX loudX
 have e0 : XS.ev ⟨[.p i 0, .v (.bool m')], s.bx, s.H, s.V⟩ (.tmp 0) = .p i 0 := rfl
 have e1 : XS.ev ⟨[.p i 0, .v (.bool m')], s.bx, s.H, s.V⟩ (.tmp 1) = .v (.bool m') := rfl
 simp only [e0, e1, shapeT_4, hb]
 refine ⟨rfl, rfl, by simp, ?_⟩
 have : splice [Value.bool m, n, e] 0 (Value.bool m').cells.toList = [.bool m', n, e] := rfl
 rw [this]; exact h
theorem pneg_c (V : View) (v : Value) (q : Rat) (h : RatV V v q) : Spec Tryz.prog 122 [v] V fun v' V' => RatC V' v' (-q) := by
 have h0 := h
 obtain ⟨m, a, b, ⟨n, d, rfl, hn, hd⟩, fa, fb, hq0⟩ := h
 refine (Spec.enter Tryz.func122 rfl fun Γ => ?_)
 simp only [Tryz.ntmps122, List.map_cons, List.map_nil, List.length_cons, List.length_nil, Nat.reduceAdd, Nat.reduceSub, List.replicate_succ, List.replicate_zero, List.cons_append, List.nil_append]
 refine Gx.a (by kernel_rfl) fun K hK => ?_
 simp only [XA, XB]
 refine hK _ ?_
 refine Gx.a (by kernel_rfl) fun K hK => ?_
 simp only [XA, XB, Nat.reduceAdd, Nat.reduceLeDiff, ↓reduceIte]
 refine call_go (by kernel_rfl) rfl (pvalid_c _ _ _ h0) fun v1 V1 hV1 h1 => ?_
 obtain ⟨x, y, rfl, hx, hy⟩ := h1
 simp only [XA]
 refine st_rat rfl rfl rfl hx.one hy.one ?_
 simp only [XA]
 refine hK _ ?_
 have hx' := hx
 obtain ⟨A, c, rfl, _, _⟩ := NatAt.form hx
 have key : ng (-q) = (!(ng q) && decide (q.num.natAbs ≠ 0)) := by
  unfold ng
  rw [Rat.neg_num]
  by_cases h1 : q.num < 0
  ·rw [decide_eq_true h1, decide_eq_false (by omega)]; rfl
  ·rw [decide_eq_false h1]; simp only [Bool.not_false, Bool.true_and]; rw [decide_eq_decide]; omega
 have e1 : (-q).num.natAbs = q.num.natAbs := by rw [Rat.neg_num, Int.natAbs_neg]
 have fin : ∀ m', m' = ng (-q) → RatC V1 (.agg #[.bool m', .slice A (dg q.num.natAbs).length c, y]) (-q) := fun m' e => by
  subst e
  exact ⟨_, _, rfl, by rw [e1]; exact hx', hy⟩
 refine Gx.a (by kernel_rfl) fun K hK => ?_
 cases hng : ng q
 ·simp only [XA, XB, gateX, ↓reduceIte, beq_self_eq_true, len_pos]
  refine st_fst rfl ?_
  simp only [XA]
  refine hK _ ?_
  refine Gx.a (by kernel_rfl) fun K hK => ?_
  simp only [XA, XB, Nat.reduceAdd, Nat.reduceLeDiff, ↓reduceIte]
  refine st_rat rfl rfl rfl rfl hy.one ?_
  simp only [XA]
  refine hK _ (XWP.ret ?_)
  try simp only [thenX_ret, inBlockX_ret]
  refine ret_rat1 rfl rfl rfl ?_
  exact fin _ (by rw [key, hng]; simp)
 ·simp only [XA, XB, gateX, ↓reduceIte]
  refine st_fst rfl ?_
  simp only [XA]
  refine hK _ ?_
  refine Gx.a (by kernel_rfl) fun K hK => ?_
  simp only [XA, XB, Nat.reduceAdd, Nat.reduceLeDiff, ↓reduceIte]
  refine st_rat rfl rfl rfl rfl hy.one ?_
  simp only [XA]
  refine hK _ (XWP.ret ?_)
  try simp only [thenX_ret, inBlockX_ret]
  refine ret_rat1 rfl rfl rfl ?_
  exact fin _ (by rw [key, hng]; rfl)
theorem RatC.toV' {V : View} {v : Value} {q : Rat} {B : Nat} (h : RatC V v q) (f : QB B q) (hB : B ≤ 70368744177664) : RatV V v q := ⟨_, _, _, h, Fit1.of_two f.1 hB, Fit1.of_two f.2 hB, (rv_self q).symm⟩
theorem RatV.form {V : View} {v : Value} {q : Rat} (h : RatV V v q) : ∃ m n d, v = .agg #[.bool m, n, d] := by
 obtain ⟨m, a, b, ⟨n, d, e, _⟩, _⟩ := h; exact ⟨m, n, d, e⟩
theorem pmul_c (V : View) (v u : Value) (p q : Rat) (hv : RatV V v p) (hu : RatV V u q) (fp : QF p) (fq : QF q) : Spec Tryz.prog 44 [v, u] V fun v' V' => RatC V' v' (p * q) := by
 have hv0 := hv
 have hu0 := hu
 obtain ⟨m1, n1, d1, rfl⟩ := hv.form
 obtain ⟨m2, n2, d2, rfl⟩ := hu.form
 obtain ⟨f1, f2, f3, f4, f5, f6⟩ := QF.two1 fp fq
 refine (Spec.enter Tryz.func44 rfl fun Γ => ?_)
 simp only [Tryz.ntmps44, List.map_cons, List.map_nil, List.length_cons, List.length_nil, Nat.reduceAdd, Nat.reduceSub, List.replicate_succ, List.replicate_zero, List.cons_append, List.nil_append]
 refine Gx.a (by kernel_rfl) fun K hK => ?_
 simp only [XA, XB, Nat.reduceAdd]
 refine hK _ ?_
 (refine XWP.drw [0, 2, 1, 3, 4, 5] (by kernel_rfl) (by kernel_rfl) (by kernel_rfl) fun K hK => ?_) <;> dsimp only [pickOps, List.getElem?_cons_zero, List.getElem?_cons_succ]
 simp only [XA, XB, Nat.reduceAdd, Nat.reduceLeDiff, ↓reduceIte]
 refine call_go (by kernel_rfl) rfl (pvalid_c _ _ _ hv0) fun v1 V1 hV1 h1 => ?_
 simp only [XA]
 refine call_go (by kernel_rfl) rfl (pvalid_c _ _ _ (hu0.mono hV1)) fun v2 V2 hV2 h2 => ?_
 obtain ⟨x1, y1, rfl, hx1, hy1⟩ := h1.mono hV2
 obtain ⟨x2, y2, rfl, hx2, hy2⟩ := h2
 simp only [XA]
 refine st_rat rfl rfl rfl hx1.one hy1.one ?_
 simp only [XA]
 refine st_rat rfl rfl rfl hx2.one hy2.one ?_
 simp only [XA]
 refine hK _ ?_
 clear hK hv hu hv0 hu0 h1
 refine XWP.cut (fun s => ∃ (V' : View) (m : Bool) (x y : Value) (l : List (List Value)), StIs (fun Z => [Z 0, Z 1, .p 0 0, .p 1 0, .p 2 0, .p 3 0, Z 6,Z 7,Z 8,Z 9,Z 10,Z 11,Z 12,Z 13,Z 14,Z 15,Z 16,Z 17,Z 18,Z 19,Z 20,Z 21,Z 22,Z 23,Z 24,Z 25,Z 26,Z 27,Z 28,Z 29,Z 30]) l (fun _ => none) V' s ∧ l = [[.bool (ng p), x1, y1], [.bool (ng q), x2, y2], [.bool false, .slice none 0 0, .slice none 0 0], [.bool m, x, y]] ∧ RatC V' (.agg #[.bool m, x, y]) (p * q)) ?_ ?_
 ·(refine XWP.drwT1 (.lin [0, 1, 2, 3, 4, 5, 6, 7, 8, 10, 11, 12, 13] (.two (.lin [9] (.two (.lin [14] (.two (.lin [15, 16, 17, 18, 19, 20, 21] .nil) (.lin [19, 15, 16, 17, 18, 20, 21] .nil))) (.lin [19, 14, 15, 16, 17, 18, 20, 21] .nil))) (.lin [19, 9, 14, 15, 16, 17, 18, 20, 21] .nil))) (by kernel_rfl) (by kernel_rfl) (by kernel_rfl) fun K hK => ?_)
  simp only [XA, XB, Nat.reduceAdd]
  refine And.intro ?_ ?_
  all_goals refine call_go (by kernel_rfl) rfl (rmul_c _ _ _ _ _ hx1 hx2 fp.fits.1 fq.fits.1) fun v3 V3 hV3 h3 => ?_
  all_goals simp only [XA, XB, Nat.reduceAdd]
  all_goals try refine And.intro ?_ ?_
  all_goals refine call_go (by kernel_rfl) rfl (rmul_c _ _ _ _ _ (hy1.mono hV3) (hy2.mono hV3) fp.fits.2 fq.fits.2) fun v4 V4 hV4 h4 => ?_
  all_goals simp only [XA, XB, Nat.reduceAdd, bne_eq]
  all_goals try refine And.intro ?_ ?_
  all_goals refine call_go (by kernel_rfl) rfl (pof_c _ _ _ _ _ _ (h3.mono hV4) h4 f1 f4) fun v5 V5 hV5 h5 => ?_
  all_goals obtain ⟨r, rfl, x, y, rfl, hx, hy⟩ := h5.2 (Nat.mul_ne_zero p.den_nz q.den_nz)
  all_goals simp only [XA, XB, Nat.reduceAdd]
  all_goals refine st_rat rfl rfl rfl hx.one hy.one ?_
  all_goals simp only [XA]
  all_goals refine hK _ ⟨V5, _, x, y, _, StIs.of (by exact rfl), by exact rfl, ?_⟩
  all_goals rw [← rv_self p, ← rv_self q, rv_mul, rv_self, rv_self]
  all_goals exact ⟨x, y, rfl, hx, hy⟩
 rintro s ⟨V', m, x, y, l, hs, rfl, hr⟩
 obtain ⟨z, rfl⟩ := hs.out
 try dsimp only
 obtain ⟨x', y', e, hx, hy⟩ := hr
 cases e
 refine Gx.a (by kernel_rfl) fun K hK => ?_
 simp only [XA, XB, Nat.reduceAdd, Nat.reduceLeDiff, ↓reduceIte]
 refine st_rat rfl rfl rfl hx.one hy.one ?_
 simp only [XA]
 refine hK _ (XWP.ret ?_)
 try simp only [thenX_ret, inBlockX_ret]
 exact ret_rat1 rfl rfl rfl ⟨_, _, rfl, hx, hy⟩
theorem cmp_geq (a b : Nat) : decide (0 ≤ cmpI a b) = decide (b ≤ a) := by
 rw [decide_eq_decide]
 unfold cmpI
 split
 ·omega
 ·split <;> omega
theorem padd_c (V : View) (v u : Value) (p q : Rat) (hv : RatV V v p) (hu : RatV V u q) (fp : QF p) (fq : QF q) : Spec Tryz.prog 38 [v, u] V fun v' V' => RatC V' v' (p + q) := by
 have hv0 := hv
 have hu0 := hu
 obtain ⟨m1, n1, d1, rfl⟩ := hv.form
 obtain ⟨m2, n2, d2, rfl⟩ := hu.form
 obtain ⟨f1, f2, f3, f4, f5, f6⟩ := QF.two1 fp fq
 refine (Spec.enter Tryz.func38 rfl fun Γ => ?_)
 simp only [Tryz.ntmps38, List.map_cons, List.map_nil, List.length_cons, List.length_nil, Nat.reduceAdd, Nat.reduceSub, List.replicate_succ, List.replicate_zero, List.cons_append, List.nil_append]
 refine Gx.a (by kernel_rfl) fun K hK => ?_
 simp only [XA, XB, Nat.reduceAdd]
 refine hK _ ?_
 (refine XWP.drw [0, 2, 1, 3, 4, 5] (by kernel_rfl) (by kernel_rfl) (by kernel_rfl) fun K hK => ?_) <;> dsimp only [pickOps, List.getElem?_cons_zero, List.getElem?_cons_succ]
 simp only [XA, XB, Nat.reduceAdd, Nat.reduceLeDiff, ↓reduceIte]
 refine call_go (by kernel_rfl) rfl (pvalid_c _ _ _ hv0) fun v1 V1 hV1 h1 => ?_
 simp only [XA]
 refine call_go (by kernel_rfl) rfl (pvalid_c _ _ _ (hu0.mono hV1)) fun v2 V2 hV2 h2 => ?_
 obtain ⟨x1, y1, rfl, hx1, hy1⟩ := h1.mono hV2
 obtain ⟨x2, y2, rfl, hx2, hy2⟩ := h2
 simp only [XA]
 refine st_rat rfl rfl rfl hx1.one hy1.one ?_
 simp only [XA]
 refine st_rat rfl rfl rfl hx2.one hy2.one ?_
 simp only [XA]
 refine hK _ ?_
 clear hK hv hu hv0 hu0 h1
 (refine XWP.drw [0, 1, 2, 3, 5, 6, 7, 8, 10, 11, 12, 13, 4, 9, 14, 15, 16, 17] (by kernel_rfl) (by kernel_rfl) (by kernel_rfl) fun K hK => ?_) <;> dsimp only [pickOps, List.getElem?_cons_zero, List.getElem?_cons_succ]
 simp only [XA, XB]
 refine call_go (by kernel_rfl) rfl (rmul_c _ _ _ _ _ hx1 hy2 fp.fits.1 fq.fits.2) fun v3 V3 hV3 h3 => ?_
 simp only [XA]
 refine call_go (by kernel_rfl) rfl (rmul_c _ _ _ _ _ (hx2.mono hV3) (hy1.mono hV3) fq.fits.1 fp.fits.2) fun v4 V4 hV4 h4 => ?_
 simp only [XA]
 refine call_go (by kernel_rfl) rfl (rmul_c _ _ _ _ _ ((hy1.mono hV3).mono hV4) ((hy2.mono hV3).mono hV4) fp.fits.2 fq.fits.2) fun v5 V5 hV5 h5 => ?_
 have h3 := (h3.mono hV4).mono hV5
 have h4 := h4.mono hV5
 simp only [XA]
 refine hK _ ?_
 (refine XWP.drw [0, 1, 2, 3, 4, 5, 6] (by kernel_rfl) (by kernel_rfl) (by kernel_rfl) fun K hK => ?_) <;> dsimp only [pickOps, List.getElem?_cons_zero, List.getElem?_cons_succ]
 simp only [XA, XB]
 refine call_go (by kernel_rfl) rfl (radd_c _ _ _ _ _ h3 h4 f2.fit f5.fit) fun v6 V6 hV6 h6 => ?_
 have h3 := h3.mono hV6
 have h4 := h4.mono hV6
 have h5 := h5.mono hV6
 simp only [XA]
 refine hK _ ?_
 clear hK
 refine XWP.cut (fun s => ∃ (V' : View) (m : Bool) (w : Value) (k : Nat), StIs (fun Z => [Z 0,Z 1,Z 2,Z 3, .p 2 0, Z 5, Z 6, .v v5, .v (.bool m), .v w, Z 10,Z 11,Z 12,Z 13,Z 14,Z 15,Z 16,Z 17,Z 18,Z 19,Z 20,Z 21,Z 22,Z 23,Z 24,Z 25,Z 26,Z 27,Z 28,Z 29,Z 30,Z 31,Z 32,Z 33,Z 34,Z 35,Z 36,Z 37,Z 38,Z 39,Z 40,Z 41,Z 42,Z 43,Z 44,Z 45,Z 46,Z 47,Z 48,Z 49,Z 50,Z 51,Z 52,Z 53,Z 54,Z 55,Z 56,Z 57,Z 58,Z 59,Z 60,Z 61,Z 62,Z 63,Z 64,Z 65,Z 66]) [[.bool (ng p), x1, y1], [.bool (ng q), x2, y2], [.bool false, .slice none 0 0, .slice none 0 0]] (fun _ => none) V' s ∧ NatC V' w k ∧ NatC V' v5 (p.den * q.den) ∧ Fit1 k ∧ rv m k (p.den * q.den) = p + q) ?_ ?_
 ·refine Gx.a (by kernel_rfl) fun K hK => ?_
  by_cases he : ng p = ng q
  ·have b3 : (!(ng p == ng q)) = false := by rw [he]; simp
   simp only [XA, XB, b3]
   refine hK _ ?_
   refine Gx.f rfl ?_
   refine XWP.skip ?_
   refine ⟨V6, _, _, _, StIs.of (by exact rfl), h6, h5, f6, ?_⟩
   have := rv_add (ng p) (a := p.num.natAbs) (c := q.num.natAbs) p.den_nz q.den_nz
   rw [← this, rv_self, he, rv_self]
  ·have b3 : (!(ng p == ng q)) = true := by simpa using he
   simp only [XA, XB, b3]
   refine hK _ ?_
   refine Gx.t rfl ?_
   refine Gx.a (by kernel_rfl) fun K hK => ?_
   simp only [XA]
   refine call_go (by kernel_rfl) rfl (rcompare_c _ _ _ _ _ h3 h4 f2.fit f5.fit) fun v7 V7 hV7 h7 => ?_
   subst h7
   have h3 := h3.mono hV7
   have h4 := h4.mono hV7
   have h5 := h5.mono hV7
   by_cases hle : q.num.natAbs * p.den ≤ p.num.natAbs * q.den
   ·have b4 : decide (q.num.natAbs * p.den ≤ p.num.natAbs * q.den) = true := decide_eq_true (by omega)
    simp only [XA, XB, cmp_geq, b4]
    refine hK _ ?_
    refine Gx.t rfl ?_
    refine Gx.c (by kernel_rfl) fun K hK => ?_
    simp only [XA]
    refine call_go (by kernel_rfl) rfl (rsub_c _ _ _ _ _ h3 h4 f2.fit f5.fit) fun v8 V8 hV8 h8 => ?_
    obtain ⟨r, rfl, hr⟩ := h8.2 hle
    simp only [XA]
    refine hK _ ⟨V8, _, _, _, StIs.of (by exact rfl), hr, h5.mono hV8, f2.mono (Nat.sub_le _ _), ?_⟩
    have e := rv_sub (ng p) (a := p.num.natAbs) (c := q.num.natAbs) p.den_nz q.den_nz hle
    rw [rv_self, ← ng_ne he, rv_self] at e
    exact e.symm
   ·have b4 : decide (q.num.natAbs * p.den ≤ p.num.natAbs * q.den) = false := decide_eq_false (by omega)
    simp only [XA, XB, cmp_geq, b4]
    refine hK _ ?_
    refine Gx.f rfl ?_
    refine Gx.a (by kernel_rfl) fun K hK => ?_
    simp only [XA, XB]
    refine hK _ ?_
    refine Gx.c (by kernel_rfl) fun K hK => ?_
    simp only [XA]
    refine call_go (by kernel_rfl) rfl (rsub_c _ _ _ _ _ h4 h3 f5.fit f2.fit) fun v8 V8 hV8 h8 => ?_
    obtain ⟨r, rfl, hr⟩ := h8.2 (by omega)
    simp only [XA]
    refine hK _ ⟨V8, _, _, _, StIs.of (by exact rfl), hr, h5.mono hV8, f5.mono (Nat.sub_le _ _), ?_⟩
    have e := rv_sub (ng q) (a := q.num.natAbs) (c := p.num.natAbs) q.den_nz p.den_nz (by omega)
    rw [rv_self, ← ng_ne (fun e => he e.symm), rv_self, Nat.mul_comm q.den p.den, Rat.add_comm] at e
    exact e.symm
 clear h3 h4 h5 h6
 rintro s ⟨V', m, w, k, hs, hw, h5, fk, e⟩
 obtain ⟨z, rfl⟩ := hs.out
 try dsimp only
 refine Gx.a (by kernel_rfl) fun K hK => ?_
 simp only [XA]
 refine call_go (by kernel_rfl) rfl (pof_c _ _ _ _ _ _ hw h5 fk f4) fun v7 V7 hV7 h7 => ?_
 obtain ⟨r, rfl, x, y, rfl, hx, hy⟩ := h7.2 (Nat.mul_ne_zero p.den_nz q.den_nz)
 simp only [XA, XB, Nat.reduceAdd]
 refine st_rat rfl rfl rfl hx.one hy.one ?_
 simp only [XA]
 refine hK _ ?_
 refine Gx.a (by kernel_rfl) fun K hK => ?_
 simp only [XA, XB, Nat.reduceAdd, Nat.reduceLeDiff, ↓reduceIte]
 refine st_rat rfl rfl rfl hx.one hy.one ?_
 simp only [XA]
 refine hK _ (XWP.ret ?_)
 try simp only [thenX_ret, inBlockX_ret]
 refine ret_rat1 rfl rfl rfl ?_
 rw [← e]
 exact ⟨_, _, rfl, hx, hy⟩
theorem pdiv_c (V : View) (v u : Value) (p q : Rat) (hv : RatV V v p) (hu : RatV V u q) (fp : QF p) (fq : QF q) : Spec Tryz.prog 39 [v, u] V fun v' V' => (q = 0 → v' = .tuple #[.agg #[.bool false, .slice none 0 0, .slice none 0 0], .int .i64 31]) ∧ (q ≠ 0 → ∃ r, v' = .tuple #[r, .int .i64 0] ∧ RatC V' r (p / q)) := by
 have hv0 := hv
 have hu0 := hu
 obtain ⟨m1, n1, d1, rfl⟩ := hv.form
 obtain ⟨m2, n2, d2, rfl⟩ := hu.form
 obtain ⟨f1, f2, f3, f4, f5, f6⟩ := QF.two1 fp fq
 have hz := rat_zero_iff q
 refine (Spec.enter Tryz.func39 rfl fun Γ => ?_)
 simp only [Tryz.ntmps39, List.map_cons, List.map_nil, List.length_cons, List.length_nil, Nat.reduceAdd, Nat.reduceSub, List.replicate_succ, List.replicate_zero, List.cons_append, List.nil_append]
 refine Gx.a (by kernel_rfl) fun K hK => ?_
 simp only [XA, XB, Nat.reduceAdd]
 refine hK _ ?_
 (refine XWP.drw [0, 2, 1, 3, 4, 5] (by kernel_rfl) (by kernel_rfl) (by kernel_rfl) fun K hK => ?_) <;> dsimp only [pickOps, List.getElem?_cons_zero, List.getElem?_cons_succ]
 simp only [XA, XB, Nat.reduceAdd, Nat.reduceLeDiff, ↓reduceIte]
 refine call_go (by kernel_rfl) rfl (pvalid_c _ _ _ hv0) fun v1 V1 hV1 h1 => ?_
 simp only [XA]
 refine call_go (by kernel_rfl) rfl (pvalid_c _ _ _ (hu0.mono hV1)) fun v2 V2 hV2 h2 => ?_
 obtain ⟨x1, y1, rfl, hx1, hy1⟩ := h1.mono hV2
 obtain ⟨x2, y2, rfl, hx2, hy2⟩ := h2
 simp only [XA]
 refine st_rat rfl rfl rfl hx1.one hy1.one ?_
 simp only [XA]
 refine st_rat rfl rfl rfl hx2.one hy2.one ?_
 simp only [XA]
 refine hK _ ?_
 clear hK hv hu hv0 hu0 h1
 (refine XWP.drw [0, 1, 2, 3, 4, 5, 6, 7, 8, 10, 11, 12, 13, 9, 14, 15, 16, 17, 18, 19] (by kernel_rfl) (by kernel_rfl) (by kernel_rfl) fun K hK => ?_) <;> dsimp only [pickOps, List.getElem?_cons_zero, List.getElem?_cons_succ]
 simp only [XA, XB]
 refine call_go (by kernel_rfl) rfl (rmul_c _ _ _ _ _ hx1 hy2 fp.fits.1 fq.fits.2) fun v3 V3 hV3 h3 => ?_
 simp only [XA]
 refine call_go (by kernel_rfl) rfl (rmul_c _ _ _ _ _ (hy1.mono hV3) (hx2.mono hV3) fp.fits.2 fq.fits.1) fun v4 V4 hV4 h4 => ?_
 simp only [XA, bne_eq]
 refine call_go (by kernel_rfl) rfl (pof_c _ _ _ _ _ _ (h3.mono hV4) h4 f2 f3) fun v5 V5 hV5 h5 => ?_
 by_cases hq : q = 0
 ·obtain rfl := h5.1 (by rw [hz.1 hq, Nat.mul_zero])
  simp only [XA]
  refine st_rat rfl rfl rfl rfl rfl ?_
  simp only [XA]
  refine hK _ (XWP.ret ?_)
  try simp only [thenX_ret, inBlockX_ret]
  exact ret_rat2 rfl rfl rfl rfl ⟨fun _ => rfl, fun h => absurd hq h⟩
 ·have hq0 : q.num.natAbs ≠ 0 := fun e => hq (hz.2 e)
  obtain ⟨r, rfl, x, y, rfl, hx, hy⟩ := h5.2 (Nat.mul_ne_zero p.den_nz hq0)
  simp only [XA]
  refine st_rat rfl rfl rfl hx.one hy.one ?_
  simp only [XA]
  refine hK _ (XWP.ret ?_)
  try simp only [thenX_ret, inBlockX_ret]
  refine ret_rat2 rfl rfl rfl rfl ⟨fun h => absurd h hq, fun _ => ⟨_, rfl, ?_⟩⟩
  have e := rv_div (ng p) (ng q) (a := p.num.natAbs) (b := p.den) (d := q.den) hq0
  rw [rv_self, rv_self] at e
  rw [e]
  exact ⟨_, _, rfl, hx, hy⟩
theorem psub_c (V : View) (v u : Value) (p q : Rat) (hv : RatV V v p) (hu : RatV V u q) (fp : QF p) (fq : QF q) : Spec Tryz.prog 83 [v, u] V fun v' V' => RatC V' v' (p - q) := by
 have hv0 := hv
 have hu0 := hu
 obtain ⟨m1, n1, d1, rfl⟩ := hv.form
 obtain ⟨m2, n2, d2, rfl⟩ := hu.form
 refine (Spec.enter Tryz.func83 rfl fun Γ => ?_)
 simp only [Tryz.ntmps83, List.map_cons, List.map_nil, List.length_cons, List.length_nil, Nat.reduceAdd, Nat.reduceSub, List.replicate_succ, List.replicate_zero, List.cons_append, List.nil_append]
 refine Gx.a (by kernel_rfl) fun K hK => ?_
 simp only [XA, XB, Nat.reduceAdd]
 refine hK _ ?_
 (refine XWP.drw [0, 1, 2, 3, 4] (by kernel_rfl) (by kernel_rfl) (by kernel_rfl) fun K hK => ?_) <;> dsimp only [pickOps, List.getElem?_cons_zero, List.getElem?_cons_succ]
 simp only [XA, XB, Nat.reduceAdd, Nat.reduceLeDiff, ↓reduceIte]
 refine call_go (by kernel_rfl) rfl (pneg_c _ _ _ hu0) fun v1 V1 hV1 h1 => ?_
 simp only [XA]
 refine call_go (by kernel_rfl) rfl (padd_c _ _ _ _ _ (hv0.mono hV1) (h1.toV fq.neg) fp fq.neg) fun v2 V2 hV2 h2 => ?_
 rw [← Rat.sub_eq_add_neg] at h2
 obtain ⟨x, y, rfl, hx, hy⟩ := h2
 simp only [XA]
 refine st_rat rfl rfl rfl hx.one hy.one ?_
 simp only [XA]
 refine hK _ (XWP.ret ?_)
 try simp only [thenX_ret, inBlockX_ret]
 exact ret_rat1 rfl rfl rfl ⟨_, _, rfl, hx, hy⟩
theorem pcompare_c (V : View) (v u : Value) (p q : Rat) (hv : RatV V v p) (hu : RatV V u q) (fp : QF p) (fq : QF q) : Spec Tryz.prog 35 [v, u] V fun v' V' => v' = .int .i64 (sgI (p - q)) := by
 have hv0 := hv
 have hu0 := hu
 obtain ⟨m1, n1, d1, rfl⟩ := hv.form
 obtain ⟨m2, n2, d2, rfl⟩ := hu.form
 refine (Spec.enter Tryz.func35 rfl fun Γ => ?_)
 simp only [Tryz.ntmps35, List.map_cons, List.map_nil, List.length_cons, List.length_nil, Nat.reduceAdd, Nat.reduceSub, List.replicate_succ, List.replicate_zero, List.cons_append, List.nil_append]
 refine Gx.a (by kernel_rfl) fun K hK => ?_
 simp only [XA]
 refine hK _ ?_
 refine Gx.a (by kernel_rfl) fun K hK => ?_
 simp only [XA, XB, Nat.reduceAdd, Nat.reduceLeDiff, ↓reduceIte]
 refine call_go (by kernel_rfl) rfl (psub_c _ _ _ _ _ hv0 hu0 fp fq) fun v1 V1 hV1 h1 => ?_
 obtain ⟨A, hA, a1⟩ := fp
 obtain ⟨B, hB, b1⟩ := fq
 simp only [XA]
 refine call_go (by kernel_rfl) rfl (psign_c _ _ _ (h1.toV' (a1.sub b1) (by omega))) fun v2 V2 hV2 h2 => ?_
 subst h2
 simp only [XA]
 refine hK _ (XWP.ret ?_)
 try simp only [thenX_ret, inBlockX_ret]
 refine ret_go _ rfl ?_
 rfl
theorem sub_zero_iff (p q : Rat) : p - q = 0 ↔ p = q := by
 constructor
 ·intro h
  have := Rat.sub_add_cancel (a := p) (b := q)
  rw [h, Rat.zero_add] at this
  exact this.symm
 ·intro h; rw [h, Rat.sub_self]
theorem psame_c (V : View) (v u : Value) (p q : Rat) (hv : RatV V v p) (hu : RatV V u q) (fp : QF p) (fq : QF q) : Spec Tryz.prog 30 [v, u] V fun v' V' => v' = .bool (decide (p = q)) := by
 have hv0 := hv
 have hu0 := hu
 obtain ⟨m1, n1, d1, rfl⟩ := hv.form
 obtain ⟨m2, n2, d2, rfl⟩ := hu.form
 refine (Spec.enter Tryz.func30 rfl fun Γ => ?_)
 simp only [Tryz.ntmps30, List.map_cons, List.map_nil, List.length_cons, List.length_nil, Nat.reduceAdd, Nat.reduceSub, List.replicate_succ, List.replicate_zero, List.cons_append, List.nil_append]
 refine Gx.a (by kernel_rfl) fun K hK => ?_
 simp only [XA]
 refine hK _ ?_
 refine Gx.a (by kernel_rfl) fun K hK => ?_
 simp only [XA, XB, Nat.reduceAdd, Nat.reduceLeDiff, ↓reduceIte]
 refine call_go (by kernel_rfl) rfl (pcompare_c _ _ _ _ _ hv0 hu0 fp fq) fun v1 V1 hV1 h1 => ?_
 subst h1
 simp only [XA, XB, sgI_zero]
 refine hK _ (XWP.ret ?_)
 try simp only [thenX_ret, inBlockX_ret]
 refine ret_go _ rfl ?_
 show Value.bool _ = _
 congr 1
 rw [decide_eq_decide]; exact sub_zero_iff p q
theorem pright_c (V : View) (v : Value) (m : Bool) (nd dd : List Nat) (h : RawAt V v m nd dd) (l1 : nd.length ≤ 4398046511104) (l2 : dd.length ≤ 4398046511104) : Spec Tryz.prog 33 [v] V fun v' V' => v' = .bool (rawOk m nd dd) := by
 obtain ⟨n, d, rfl, hn, hd⟩ := h
 obtain ⟨A1, c1, rfl, _, _⟩ := hn.form
 obtain ⟨A2, c2, rfl, _, _⟩ := hd.form
 refine (Spec.enter Tryz.func33 rfl fun Γ => ?_)
 simp only [Tryz.ntmps33, List.map_cons, List.map_nil, List.length_cons, List.length_nil, Nat.reduceAdd, Nat.reduceSub, List.replicate_succ, List.replicate_zero, List.cons_append, List.nil_append]
 refine Gx.a (by kernel_rfl) fun K hK => ?_
 simp only [XA]
 refine hK _ ?_
 clear hK
 have e4 : decide ((nd.length : Int) = 0) = decide (nd.length = 0) := by rw [decide_eq_decide]; omega
 refine XWP.cut (fun s => ∃ V2, StIs (fun Z => [Z 0, .p 0 0, Z 2,Z 3,Z 4,Z 5,Z 6,Z 7,Z 8,Z 9,Z 10,Z 11,Z 12,Z 13,Z 14,Z 15,Z 16,Z 17,Z 18,Z 19,Z 20,Z 21,Z 22,Z 23,Z 24,Z 25,Z 26,Z 27,Z 28,Z 29,Z 30,Z 31,Z 32,Z 33,Z 34,Z 35,Z 36,Z 37,Z 38,Z 39,Z 40]) [[.bool m, .slice A1 nd.length c1, .slice A2 dd.length c2]] (fun _ => none) V2 s ∧ V.le V2 ∧ rightB nd = true ∧ rightB dd = true ∧ dd.length ≠ 0) ?_ ?_
 ·refine Gx.a (by kernel_rfl) fun K hK => ?_
  simp only [XA, XB]
  refine call_go (by kernel_rfl) rfl (rright_any _ _ _ hn) fun v1 V1 hV1 h1 => ?_
  subst h1
  cases r1 : rightB nd
  ·simp only [XA, gateX, ↓reduceIte]
   refine hK _ ?_
   refine Gx.t rfl ?_
   refine Gx.a (by kernel_rfl) fun K hK => ?_
   simp only [XA]
   refine hK _ (XWP.ret ?_)
   try simp only [thenX_ret, inBlockX_ret]
   refine ret_go _ rfl ?_
   simp [rawOk, r1]; rfl
  simp only [XA, XB, gateX, ↓reduceIte, beq_self_eq_true]
  refine call_go (by kernel_rfl) rfl (rright_any _ _ _ (hd.mono hV1)) fun v2 V2 hV2 h2 => ?_
  subst h2
  cases r2 : rightB dd
  ·simp only [XA, gateX, ↓reduceIte, beq_self_eq_true]
   refine hK _ ?_
   refine Gx.t rfl ?_
   refine Gx.a (by kernel_rfl) fun K hK => ?_
   simp only [XA]
   refine hK _ (XWP.ret ?_)
   try simp only [thenX_ret, inBlockX_ret]
   refine ret_go _ rfl ?_
   simp [rawOk, r2]; rfl
  by_cases r3 : dd.length = 0
  ·have b3 : decide ((dd.length : Int) = 0) = true := decide_eq_true (by omega)
   simp only [XA, XB, gateX, ↓reduceIte, beq_self_eq_true, b3]
   refine hK _ ?_
   refine Gx.t rfl ?_
   refine Gx.a (by kernel_rfl) fun K hK => ?_
   simp only [XA]
   refine hK _ (XWP.ret ?_)
   try simp only [thenX_ret, inBlockX_ret]
   refine ret_go _ rfl ?_
   simp [rawOk, r3]; rfl
  have b3 : decide ((dd.length : Int) = 0) = false := decide_eq_false (by omega)
  simp only [XA, XB, gateX, ↓reduceIte, beq_self_eq_true, b3]
  refine hK _ ?_
  refine Gx.f rfl ?_
  refine XWP.skip ?_
  exact ⟨V2, StIs.of (by exact rfl), View.le_trans hV1 hV2, r1, r2, r3⟩
 rintro s ⟨V2, hs, hV2, r1, r2, r3⟩
 obtain ⟨u, rfl⟩ := hs.out
 try dsimp only
 have k1 := (hn.right r1).mono hV2
 have k2 := (hd.right r2).mono hV2
 have f1 := Fit.nv hn.dig l1
 have f2 := Fit.nv hd.dig l2
 have f3 : Fit 1 := by
  have := sz_le (n := 1) (k := 1) (by unfold BB; omega)
  unfold Fit; omega
 have ec : ∀ x y : Nat, decide (cmpI x y = 0) = decide (x = y) := by
  intro x y
  rw [decide_eq_decide]
  unfold cmpI
  split
  ·omega
  ·split <;> omega
 refine XWP.seq ?_
 by_cases r5 : nd.length = 0
 ·have b5 : decide ((nd.length : Int) = 0) = true := decide_eq_true (by omega)
  have e5 : nv nd = 0 := (nv_eq_zero hn.dig r1).2 r5
  refine Gx.a (by kernel_rfl) fun K hK => ?_
  simp only [XA, XB, b5]
  refine hK _ ?_
  refine Gx.t rfl ?_
  (refine XWP.drw [0, 1, 2, 3, 4, 5, 6, 7, 8, 9, 10] (by kernel_rfl) (by kernel_rfl) (by kernel_rfl) fun K hK => ?_) <;> dsimp only [pickOps, List.getElem?_cons_zero, List.getElem?_cons_succ]
  cases m
  ·simp only [XA, XB, gateX, ↓reduceIte, beq_self_eq_true]
   refine call_go (by kernel_rfl) rfl (rof_c _ 1 (by omega)) fun v3 V3 hV3 h3 => ?_
   simp only [XA, gateX, ↓reduceIte, beq_self_eq_true]
   refine call_go (by kernel_rfl) rfl (rcompare_c _ _ _ _ _ (k2.mono hV3) h3 f2 f3) fun v4 V4 hV4 h4 => ?_
   subst h4
   simp only [XA, XB, gateX, ↓reduceIte, beq_self_eq_true, ec]
   refine hK _ (XWP.ret ?_)
   try simp only [thenX_ret, inBlockX_ret]
   refine ret_go _ rfl ?_
   show Value.bool _ = _
   congr 1
   unfold rawOk
   rw [r1, r2, decide_eq_false r3, decide_eq_true r5]; simp [e5]
  ·simp only [XA, XB, gateX, ↓reduceIte]
   refine hK _ (XWP.ret ?_)
   try simp only [thenX_ret, inBlockX_ret]
   refine ret_go _ rfl ?_
   show Value.bool _ = _
   congr 1
   unfold rawOk
   rw [r1, r2, decide_eq_false r3, decide_eq_true r5]; rfl
 ·have b5 : decide ((nd.length : Int) = 0) = false := decide_eq_false (by omega)
  have fg : Fit (Nat.gcd (nv nd) (nv dd)) := f2.mono (Nat.gcd_le_right _ (Nat.pos_of_ne_zero fun e => r3 ((nv_eq_zero hd.dig r2).1 e)))
  refine Gx.a (by kernel_rfl) fun K hK => ?_
  simp only [XA, XB, b5]
  refine hK _ ?_
  refine Gx.f rfl ?_
  refine XWP.skip ?_
  refine Gx.a (by kernel_rfl) fun K hK => ?_
  simp only [XA, XB]
  refine call_go (by kernel_rfl) rfl (rgcd_c _ _ _ _ _ k1 k2 f1 f2) fun v3 V3 hV3 h3 => ?_
  simp only [XA]
  refine call_go (by kernel_rfl) rfl (rof_c _ 1 (by omega)) fun v4 V4 hV4 h4 => ?_
  simp only [XA]
  refine call_go (by kernel_rfl) rfl (rcompare_c _ _ _ _ _ (h3.mono hV4) h4 fg f3) fun v5 V5 hV5 h5 => ?_
  subst h5
  simp only [XA, XB, ec]
  refine hK _ (XWP.ret ?_)
  try simp only [thenX_ret, inBlockX_ret]
  refine ret_go _ rfl ?_
  show Value.bool _ = _
  congr 1
  unfold rawOk
  rw [r1, r2, decide_eq_false r3, decide_eq_false r5]; rfl
end Go.Proofs.YtobjjdnfgamgcaaGreat
end
section
namespace Go.Proofs.YtobjjdnfgamgcaaGreat
open Go Go.RowKit
def keepS (k : Nat) (f : Nat → Nat → Value) : SV → SV
 | .v x => .v x
 | .p j o => if j < k then .p j o else .v (f j o)
def Drop (k : Nat) (J : XS → Prop) (s : XS) : Prop := ∀ f, J ⟨s.t.map (keepS k f), s.bx.take k, s.H, s.V⟩
theorem Drop.conc {Γ : Cx} {bl : Nat → Nat} {s : XS} {a : Act} {w : World} (k : Nat) (h : Conc Γ bl s a w) : Conc Γ bl ⟨s.t.map (keepS k fun j o => (SV.p j o).conc bl), s.bx.take k, s.H, s.V⟩ a w := by
 have hget : ∀ i vs, (s.bx.take k)[i]? = some vs → s.bx[i]? = some vs := fun i vs hi => by
  rw [List.getElem?_take] at hi
  split at hi
  ·exact hi
  ·cases hi
 have hlen : ∀ i, i < (s.bx.take k).length → i < s.bx.length := fun i hi => by
  rw [List.length_take] at hi; omega
 refine ⟨?_, h.df, ⟨fun i vs hi => h.cw.box i vs (hget i vs hi), h.cw.row, h.cw.view, h.cw.below⟩, ⟨fun i j hi hj => h.cs.inj i j (hlen i hi) (hlen j hj), fun i hi => h.cs.bxH i (hlen i hi), h.cs.HV, h.cs.V0, h.cs.frm⟩, fun x hx => ?_⟩
 ·rw [h.tm, List.map_map]
  congr 1
  refine List.map_congr_left fun x _ => ?_
  cases x with
  | v x => rfl
  | p j o =>
   simp only [Function.comp_apply, keepS]
   split <;> rfl
 ·obtain ⟨y, hy, rfl⟩ := List.mem_map.1 hx
  have := h.ok y hy
  cases y with
  | v x => trivial
  | p j o =>
   have hj' : j < s.bx.length := this
   show SV.ok _ (if j < k then SV.p j o else .v _)
   split
   ·rename_i hj
    show j < (s.bx.take k).length
    rw [List.length_take]; omega
   ·trivial
theorem Drop.mono {k : Nat} {J J' : XS → Prop} {s : XS} (h : Drop k J s) (hj : ∀ s, J s → J' s) : Drop k J' s := fun f => hj _ (h f)
section
variable {Γ : Cx} {P : Program} {Q : Exit → XS → Prop} {s : XS}
theorem XWP.drop {c : Code} (k : Nat) (h : Drop k (XWP Γ P c Q) s) : XWP Γ P c Q s := fun bl a w hc => h _ bl a w (Drop.conc k hc)
theorem XWP.cutD {x y : Code} (k : Nat) (J : XS → Prop) (h1 : XWP Γ P x (thenX (Drop k J) Q) s) (h2 : ∀ s', J s' → XWP Γ P y Q s') : XWP Γ P (.seq x y) Q s :=
 XWP.cut (Drop k J) h1 fun _ h => XWP.drop k (h.mono h2)
theorem XWP.loopD {c : Code} (k : Nat) (I : Nat → XS → Prop) (n : Nat) (h0 : I n s) (hr : ∀ n s, I n s → XWP Γ P c (thenX (fun s' => ∃ m, m < n ∧ Drop k (I m) s') Q) s) : XWP Γ P (.loop c) Q s := by
 refine XWP.loop (fun n s => I n s ∨ Drop k (I n) s) n (.inl h0) fun n s h => ?_
 have up : ∀ s, I n s → XWP Γ P c (thenX (fun s' => ∃ m, m < n ∧ (I m s' ∨ Drop k (I m) s')) Q) s := fun s h =>
  (hr n s h).mono fun e s h => by
   cases e with
   | normal => obtain ⟨m, h1, h2⟩ := h; exact ⟨m, h1, .inr h2⟩
   | _ => exact h
 rcases h with h | h
 ·exact up s h
 ·exact XWP.drop k (h.mono up)
end
end Go.Proofs.YtobjjdnfgamgcaaGreat
end
section
namespace Go.Proofs.YtobjjdnfgamgcaaGreat
open Go Go.RowKit
attribute [local irreducible] XWP Spec SpecO XPub XCall seqX clX apX stX ldX iaX slX
abbrev El (α : Type) := View → Value → α → Prop
def ElOk {α : Type} (E : El α) : Prop := ∀ V V' v x, View.le V V' → E V v x → E V' v x
def Cell3 {α : Type} (E : El α) (V : View) (get : Nat → Option Value) (i : Nat) (x : α) : Prop := ∃ m n d, get (i * 3) = some m ∧ get (i * 3 + 1) = some n ∧ get (i * 3 + 2) = some d ∧ isOne m = true ∧ isOne n = true ∧ isOne d = true ∧ E V (.agg #[m, n, d]) x
def SlAt {α : Type} (E : El α) (V : View) (v : Value) (xs : List α) : Prop := ∃ A c, v = .slice A xs.length c ∧ xs.length ≤ c ∧ c ≤ 9223372036854775807 ∧ (xs = [] ∨ ∃ b o arr ty fr, A = some ⟨b, o, none⟩ ∧ V b = some (.cells arr ty fr) ∧ ∀ i x, xs[i]? = some x → Cell3 E V (fun k => arr[o + k]?) i x)
def RowAt {α : Type} (E : El α) (V : View) (cells : List Value) (xs : List α) : Prop := cells.length = xs.length * 3 ∧ ∀ i x, xs[i]? = some x → Cell3 E V (fun k => cells[k]?) i x
def ratE : El Rat := fun V v q => RatC V v q
structure Raw where
 m : Bool
 nd : List Nat
 dd : List Nat
def rawE : El Raw := fun V v r => RawAt V v r.m r.nd r.dd
def optE {α : Type} (E : El α) : El (Option α) := fun V v x => match x with
 | none => True
 | some x => E V v x
theorem ratE_ok : ElOk ratE := fun _ _ _ _ hV h => RatC.mono h hV
theorem RawAt.mono {V V' : View} {v : Value} {m : Bool} {nd dd : List Nat} (h : RawAt V v m nd dd) (hV : V.le V') : RawAt V' v m nd dd := by
 obtain ⟨n, d, e, h1, h2⟩ := h; exact ⟨n, d, e, h1.mono hV, h2.mono hV⟩
theorem rawE_ok : ElOk rawE := fun _ _ _ _ hV h => RawAt.mono h hV
theorem optE_ok {α : Type} {E : El α} (h : ElOk E) : ElOk (optE E) := fun V V' v x hV hx => by
 cases x with
 | none => trivial
 | some x => exact h V V' v x hV hx
section
variable {α : Type} {E : El α}
theorem Cell3.mono (hE : ElOk E) {V V' : View} {get : Nat → Option Value} {i : Nat} {x : α} (h : Cell3 E V get i x) (hV : V.le V') : Cell3 E V' get i x := by
 obtain ⟨m, n, d, h1, h2, h3, h4, h5, h6, h7⟩ := h
 exact ⟨m, n, d, h1, h2, h3, h4, h5, h6, hE _ _ _ _ hV h7⟩
theorem SlAt.mono (hE : ElOk E) {V V' : View} {v : Value} {xs : List α} (h : SlAt E V v xs) (hV : V.le V') : SlAt E V' v xs := by
 obtain ⟨A, c, e, h1, h2, h3⟩ := h
 refine ⟨A, c, e, h1, h2, ?_⟩
 rcases h3 with h3 | ⟨b, o, arr, ty, fr, e1, e2, h4⟩
 ·exact .inl h3
 ·exact .inr ⟨b, o, arr, ty, fr, e1, hV _ _ e2, fun i x hi => (h4 i x hi).mono hE hV⟩
theorem SlAt.form {V : View} {v : Value} {xs : List α} (h : SlAt E V v xs) : ∃ A c, v = .slice A xs.length c ∧ xs.length ≤ c ∧ c ≤ 9223372036854775807 := by
 obtain ⟨A, c, e, h1, h2, _⟩ := h; exact ⟨A, c, e, h1, h2⟩
theorem SlAt.one {V : View} {v : Value} {xs : List α} (h : SlAt E V v xs) : isOne v = true := by obtain ⟨A, c, rfl, _⟩ := h.form; rfl
theorem SlAt.nil (V : View) : SlAt E V (.slice none 0 0) ([] : List α) := ⟨none, 0, rfl, Nat.le_refl _, by omega, .inl rfl⟩
theorem SlAt.addr {V : View} {A : Option Addr} {n c : Nat} {xs : List α} (h : SlAt E V (.slice A n c) xs) (hk : 0 < xs.length) : ∃ b o, A = some ⟨b, o, none⟩ := by
 obtain ⟨A', c', e, _, _, h3⟩ := h
 cases e
 rcases h3 with rfl | ⟨b, o, _, _, _, e1, _⟩
 ·simp at hk
 ·exact ⟨b, o, e1⟩
theorem loads3 {H : Heap} {V : View} {b o i : Nat} {m n d : Value} (h1 : CellAt H V b (o + i * 3) m) (h2 : CellAt H V b (o + i * 3 + 1) n) (h3 : CellAt H V b (o + i * 3 + 2) d) : Loads Tryz.prog H V 49 b (o + i * 3) (.agg #[m, n, d]) := by
 refine ⟨true, 3, shapeT_49, .inl ⟨rfl, [m, n, d], rfl, fun j u hj => ?_, rfl⟩⟩
 match j, hj with
 | 0, hj => cases hj; exact h1
 | 1, hj => cases hj; exact h2
 | 2, hj => cases hj; exact h3
theorem SlAt.load {V : View} {b o n c : Nat} {xs : List α} (h : SlAt E V (.slice (some ⟨b, o, none⟩) n c) xs) (i : Nat) (hi : i < xs.length) : ∃ v, E V v xs[i] ∧ (∃ m n d, v = .agg #[m, n, d] ∧ isOne m = true ∧ isOne n = true ∧ isOne d = true) ∧ ∀ H, Loads Tryz.prog H V 49 b (o + i * 3) v := by
 obtain ⟨A', c', e, _, _, h3⟩ := h
 cases e
 rcases h3 with rfl | ⟨b', o', arr, ty, fr, e1, e2, h4⟩
 ·simp at hi
 ·cases e1
  obtain ⟨m, n, d, g1, g2, g3, o1, o2, o3, hE⟩ := h4 i xs[i] (List.getElem?_eq_getElem hi)
  exact ⟨_, hE, ⟨m, n, d, rfl, o1, o2, o3⟩, fun H => loads3 (.inr ⟨arr, ty, fr, e2, g1⟩) (.inr ⟨arr, ty, fr, e2, g2⟩) (.inr ⟨arr, ty, fr, e2, g3⟩)⟩
theorem SlAt.take {V : View} {A : Option Addr} {n c : Nat} {xs : List α} (h : SlAt E V (.slice A n c) xs) {k : Nat} (hk : k ≤ xs.length) : SlAt E V (.slice A k c) (xs.take k) := by
 obtain ⟨A', c', e, h1, h2, h3⟩ := h
 cases e
 refine ⟨A, c, by simp [Nat.min_eq_left hk], by simp; omega, h2, ?_⟩
 rcases h3 with rfl | ⟨b, o, arr, ty, fr, e1, e2, h4⟩
 ·exact .inl (by simp)
 ·refine .inr ⟨b, o, arr, ty, fr, e1, e2, fun i x hi => h4 i x ?_⟩
  rw [List.getElem?_take] at hi
  split at hi
  ·exact hi
  ·cases hi
theorem SlAt.drop {V : View} {A : Option Addr} {n c : Nat} {xs : List α} (h : SlAt E V (.slice A n c) xs) {k : Nat} (hk : k ≤ xs.length) : SlAt E V (sliceV A c 3 k n) (xs.drop k) := by
 obtain ⟨A', c', e, h1, h2, h3⟩ := h
 cases e
 unfold sliceV
 refine ⟨_, _, by rw [List.length_drop], by rw [List.length_drop]; omega, by omega, ?_⟩
 by_cases hc : c = k
 ·have hx : xs.drop k = [] := List.drop_eq_nil_of_le (by omega)
  rw [if_pos hc, hx]
  exact .inl rfl
 ·rw [if_neg hc]
  rcases h3 with rfl | ⟨b, o, arr, ty, fr, rfl, e2, h4⟩
  ·exact .inl (by simp)
  ·refine .inr ⟨b, o + k * 3, arr, ty, fr, ?_, e2, fun i x hi => ?_⟩
   ·rw [Option.map_some, addr_add]
   ·rw [List.getElem?_drop] at hi
    obtain ⟨m, n, d, g1, g2, g3, r⟩ := h4 (k + i) x hi
    refine ⟨m, n, d, ?_, ?_, ?_, r⟩
    ·show arr[o + k * 3 + i * 3]? = _
     rw [show o + k * 3 + i * 3 = o + (k + i) * 3 from by omega]; exact g1
    ·show arr[o + k * 3 + (i * 3 + 1)]? = _
     rw [show o + k * 3 + (i * 3 + 1) = o + ((k + i) * 3 + 1) from by omega]; exact g2
    ·show arr[o + k * 3 + (i * 3 + 2)]? = _
     rw [show o + k * 3 + (i * 3 + 2) = o + ((k + i) * 3 + 2) from by omega]; exact g3
theorem RowAt.mono (hE : ElOk E) {V V' : View} {cells : List Value} {xs : List α} (h : RowAt E V cells xs) (hV : V.le V') : RowAt E V' cells xs := ⟨h.1, fun i x hi => (h.2 i x hi).mono hE hV⟩
theorem RowAt.nil (V : View) : RowAt E V [] ([] : List α) := ⟨rfl, fun i x hi => by simp at hi⟩
theorem RowAt.load {H : Heap} {V : View} {b e tot : Nat} {cells : List Value} {xs : List α} (hr : H b = some ⟨e, cells, tot⟩) (h : RowAt E V cells xs) (i : Nat) (hi : i < xs.length) : ∃ v, E V v xs[i] ∧ (∃ m n d, v = .agg #[m, n, d] ∧ isOne m = true ∧ isOne n = true ∧ isOne d = true) ∧ Loads Tryz.prog H V 49 b (i * 3) v := by
 obtain ⟨m, n, d, g1, g2, g3, o1, o2, o3, hE⟩ := h.2 i xs[i] (List.getElem?_eq_getElem hi)
 have := loads3 (H := H) (V := V) (b := b) (o := 0) (i := i) (m := m) (n := n) (d := d) (.inl ⟨_, hr, by rw [Nat.zero_add]; exact g1⟩) (.inl ⟨_, hr, by rw [Nat.zero_add]; exact g2⟩) (.inl ⟨_, hr, by rw [Nat.zero_add]; exact g3⟩)
 rw [Nat.zero_add] at this
 exact ⟨_, hE, ⟨m, n, d, rfl, o1, o2, o3⟩, this⟩
theorem RowAt.pub (hE : ElOk E) {V : View} {b n c tot e : Nat} {o : Obj} {cells : List Value} {xs : List α} (h : RowAt E V cells xs) (ho : RowObj ⟨e, cells, tot⟩ o) (hle : V.le (addV V b o)) (hn : xs.length = n) (hc : n ≤ c) (hm : c ≤ 9223372036854775807) : SlAt E (addV V b o) (.slice (some ⟨b, 0, none⟩) n c) xs := by
 obtain ⟨ex, rfl, _⟩ := ho
 refine ⟨some ⟨b, 0, none⟩, c, by rw [hn], by omega, hm, .inr ⟨b, 0, _, e, (0, 0), rfl, by simp [addV]; rfl, fun i x hi => ?_⟩⟩
 obtain ⟨m, n, d, g1, g2, g3, r1, r2, r3, r4⟩ := h.2 i x hi
 have hlt : i < xs.length := by
  rcases Nat.lt_or_ge i xs.length with h1 | h1
  ·exact h1
  ·rw [List.getElem?_eq_none h1] at hi; cases hi
 have hl := h.1
 refine ⟨m, n, d, ?_, ?_, ?_, r1, r2, r3, hE _ _ _ _ hle r4⟩
 ·simp only [Nat.zero_add, List.getElem?_toArray]; rw [List.getElem?_append_left (by omega)]; exact g1
 ·simp only [Nat.zero_add, List.getElem?_toArray]; rw [List.getElem?_append_left (by omega)]; exact g2
 ·simp only [Nat.zero_add, List.getElem?_toArray]; rw [List.getElem?_append_left (by omega)]; exact g3
theorem RowAt.snoc {V : View} {cells : List Value} {xs : List α} (h : RowAt E V cells xs) {m n d : Value} {x : α} (h1 : isOne m = true) (h2 : isOne n = true) (h3 : isOne d = true) (hx : E V (.agg #[m, n, d]) x) : RowAt E V (cells ++ [m, n, d]) (xs ++ [x]) := by
 have hl := h.1
 refine ⟨by simp [hl]; omega, fun i y hi => ?_⟩
 by_cases hlt : i < xs.length
 ·rw [List.getElem?_append_left hlt] at hi
  obtain ⟨m, n, d, g1, g2, g3, r⟩ := h.2 i y hi
  refine ⟨m, n, d, ?_, ?_, ?_, r⟩
  ·dsimp only; rw [List.getElem?_append_left (by omega)]; exact g1
  ·dsimp only; rw [List.getElem?_append_left (by omega)]; exact g2
  ·dsimp only; rw [List.getElem?_append_left (by omega)]; exact g3
 ·rw [List.getElem?_append_right (by omega)] at hi
  have e : i = xs.length := by
   rcases Nat.eq_zero_or_pos (i - xs.length) with h0 | h0
   ·omega
   ·rw [List.getElem?_eq_none (by simp; omega)] at hi; cases hi
  subst e
  simp at hi
  subst hi
  refine ⟨m, n, d, ?_, ?_, ?_, h1, h2, h3, hx⟩
  ·dsimp only; rw [List.getElem?_append_right (by omega), hl]; simp
  ·dsimp only; rw [List.getElem?_append_right (by omega), hl, show xs.length * 3 + 1 - xs.length * 3 = 1 from by omega]; rfl
  ·dsimp only; rw [List.getElem?_append_right (by omega), hl, show xs.length * 3 + 2 - xs.length * 3 = 2 from by omega]; rfl
theorem splice_get (l : List Value) (i : Nat) (m n d : Value) (h : i * 3 + 3 ≤ l.length) (k : Nat) : (splice l (i * 3) [m, n, d])[k]? = if k = i * 3 then some m else if k = i * 3 + 1 then some n else if k = i * 3 + 2 then some d else l[k]? := by
 unfold splice
 by_cases h1 : k < i * 3
 ·rw [List.append_assoc, List.getElem?_append_left (by rw [List.length_take]; omega), List.getElem?_take, if_pos h1, if_neg (by omega), if_neg (by omega), if_neg (by omega)]
 ·rw [List.append_assoc, List.getElem?_append_right (by rw [List.length_take]; omega), List.length_take, Nat.min_eq_left (by omega)]
  by_cases h2 : k < i * 3 + 3
  ·rw [List.getElem?_append_left (by simp; omega)]
   have : k = i * 3 ∨ k = i * 3 + 1 ∨ k = i * 3 + 2 := by omega
   rcases this with rfl | rfl | rfl
   ·simp
   ·rw [show i * 3 + 1 - i * 3 = 1 from by omega, if_neg (by omega), if_pos rfl]; rfl
   ·rw [show i * 3 + 2 - i * 3 = 2 from by omega, if_neg (by omega), if_neg (by omega), if_pos rfl]; rfl
  ·rw [List.getElem?_append_right (by simp; omega), List.getElem?_drop, if_neg (by omega), if_neg (by omega), if_neg (by omega)]
   congr 1
   simp only [List.length_cons, List.length_nil]
   omega
theorem RowAt.set {V : View} {cells : List Value} {xs : List α} (h : RowAt E V cells xs) (i : Nat) (hi : i < xs.length) {m n d : Value} {x : α} (h1 : isOne m = true) (h2 : isOne n = true) (h3 : isOne d = true) (hx : E V (.agg #[m, n, d]) x) : RowAt E V (splice cells (i * 3) [m, n, d]) (xs.set i x) := by
 have hl := h.1
 refine ⟨?_, fun j y hj => ?_⟩
 ·rw [List.length_set, ← hl]; unfold splice; simp; omega
 ·by_cases e : i = j
  ·subst e
   rw [List.getElem?_set_self hi] at hj
   cases hj
   refine ⟨m, n, d, ?_, ?_, ?_, h1, h2, h3, hx⟩
   ·dsimp only; rw [splice_get _ _ _ _ _ (by omega), if_pos rfl]
   ·dsimp only; rw [splice_get _ _ _ _ _ (by omega), if_neg (by omega), if_pos rfl]
   ·dsimp only; rw [splice_get _ _ _ _ _ (by omega), if_neg (by omega), if_neg (by omega), if_pos rfl]
  ·rw [List.getElem?_set_ne e] at hj
   obtain ⟨m', n', d', g1, g2, g3, r⟩ := h.2 j y hj
   refine ⟨m', n', d', ?_, ?_, ?_, r⟩
   ·dsimp only; rw [splice_get _ _ _ _ _ (by omega), if_neg (by omega), if_neg (by omega), if_neg (by omega)]; exact g1
   ·dsimp only; rw [splice_get _ _ _ _ _ (by omega), if_neg (by omega), if_neg (by omega), if_neg (by omega)]; exact g2
   ·dsimp only; rw [splice_get _ _ _ _ _ (by omega), if_neg (by omega), if_neg (by omega), if_neg (by omega)]; exact g3
theorem RowAt.new (V : View) (n : Nat) : RowAt (optE E) V (List.replicate n [Value.bool false, .slice none 0 0, .slice none 0 0]).flatten (List.replicate n none) := by
 induction n with
 | zero => exact RowAt.nil V
 | succ n ih =>
  rw [List.replicate_succ', List.replicate_succ', List.flatten_append]
  exact ih.snoc (x := none) rfl rfl rfl trivial
theorem RowAt.all {V : View} {cells : List Value} {xs : List α} (h : RowAt (optE E) V cells (xs.map some)) : RowAt E V cells xs := by
 refine ⟨by rw [h.1, List.length_map], fun i x hi => ?_⟩
 obtain ⟨m, n, d, g1, g2, g3, r1, r2, r3, r4⟩ := h.2 i (some x) (by rw [List.getElem?_map, hi]; rfl)
 exact ⟨m, n, d, g1, g2, g3, r1, r2, r3, r4⟩
theorem RowAt.src {H : Heap} {V : View} {b e tot n c : Nat} {cells : List Value} {xs : List α} (h : RowAt E V cells xs) (hr : H b = some ⟨e, cells, tot⟩) (hn : xs.length = n) : Src H V 3 (.slice (some ⟨b, 0, none⟩) n c) n cells := by
 refine ⟨_, c, rfl, by rw [h.1, hn], fun u hu => ?_, .inr ⟨b, 0, rfl, fun j u hj => .inl ⟨_, hr, by rw [Nat.zero_add]; exact hj⟩⟩⟩
 obtain ⟨j, hj⟩ := List.getElem?_of_mem hu
 have hlt : j < cells.length := by
  rcases Nat.lt_or_ge j cells.length with h1 | h1
  ·exact h1
  ·rw [List.getElem?_eq_none h1] at hj; cases hj
 have hl := h.1
 obtain ⟨m, n, d, g1, g2, g3, r1, r2, r3, _⟩ := h.2 (j / 3) xs[j / 3] (List.getElem?_eq_getElem (by omega))
 dsimp only at g1 g2 g3
 have : j = j / 3 * 3 ∨ j = j / 3 * 3 + 1 ∨ j = j / 3 * 3 + 2 := by omega
 rcases this with e | e | e <;> rw [e] at hj
 ·rw [hj] at g1; cases g1; exact r1
 ·rw [hj] at g2; cases g2; exact r2
 ·rw [hj] at g3; cases g3; exact r3
end
theorem own3 {H : Heap} {b n cap : Nat} {xs : List Value} {e : Nat} (h : H b = some ⟨e, xs, cap * 3⟩) (hl : xs.length = n * 3) (hc : n ≤ cap) (hm : cap ≤ 9223372036854775807) : Own H e 3 (.slice (some ⟨b, 0, none⟩) n cap) n xs := by
 refine ⟨hl, .inr ⟨b, cap, rfl, h, hc, ?_⟩⟩
 unfold maxLen; omega
theorem own_nil {H : Heap} {e sz : Nat} : Own H e sz (.slice none 0 0) 0 [] := ⟨by simp, .inl ⟨rfl, rfl⟩⟩
theorem fill_three {place : Nat → Option (Nat × Nat)} {cells : Array Value} {i off : Nat} {a b c : Value} {rest : List (Nat × Value)} (hp : place i = some (off, 3)) (ho : off + 3 ≤ cells.size) : Instr.fill place cells ((i, .agg #[a, b, c]) :: rest) = Instr.fill place (((cells.setIfInBounds off a).setIfInBounds (off + 1) b).setIfInBounds (off + 2) c) rest := by
 have h1 : ¬ (cells.size < off + 3) := by omega
 simp [Instr.fill, hp, Value.cells, h1, Array.zipIdx]
theorem bs_rat {t : Nat} {a b c : Value} (he : elemT Tryz.prog t = some 49) : BuildsSlice Tryz.prog t 1 #[(0, .agg #[a, b, c])] 49 [a, b, c] := by
 obtain ⟨i, zv, hi, hzv, h1, h2, _⟩ := zero_parts zeroT_49
 have hc : zv.cells = #[.bool false, .slice none 0 0, .slice none 0 0] := Array.toList_inj.1 h1
 refine bs_run (cells := #[a, b, c]) he hi hzv (by omega) (by omega) ?_
 rw [h2, hc]
 have : madeCells #[.bool false, .slice none 0 0, .slice none 0 0] (1 * 3) = #[.bool false, .slice none 0 0, .slice none 0 0] := Array.toList_inj.1 (by rw [made_flat _ 3 rfl (by omega)]; rfl)
 rw [this, fill_three (off := 0) rfl (by simp)]; rfl
end Go.Proofs.YtobjjdnfgamgcaaGreat
end
section
namespace Go.Proofs.YtobjjdnfgamgcaaGreat
def cf (l : List Rat) (i : Nat) : Rat := l.getD i 0
theorem cf_get {l : List Rat} {i : Nat} (h : i < l.length) : l[i] = cf l i := by simp [cf, h]
theorem cf_none {l : List Rat} {i : Nat} (h : l.length ≤ i) : cf l i = 0 := by simp [cf, h]
theorem cf_mem {l : List Rat} {i : Nat} (h : i < l.length) : cf l i ∈ l := by rw [← cf_get h]; exact List.getElem_mem h
def mk (n : Nat) (f : Nat → Rat) : List Rat := (List.range n).map f
theorem mk_len (n : Nat) (f : Nat → Rat) : (mk n f).length = n := by simp [mk]
theorem cf_mk (n : Nat) (f : Nat → Rat) (i : Nat) : cf (mk n f) i = if i < n then f i else 0 := by
 unfold cf mk
 by_cases h : i < n
 ·simp [h]
 ·simp [h]
def offS (l q : List Rat) (at_ : Nat) : Nat → Rat
 | 0 => 0
 | k + 1 => offS l q at_ k + cf q k * cf l (at_ - k)
def off (l q : List Rat) (at_ : Nat) : Rat := offS l q at_ (min q.length (at_ + 1))
end Go.Proofs.YtobjjdnfgamgcaaGreat
end
section
namespace Go.Proofs.YtobjjdnfgamgcaaGreat
open Go Go.RowKit
attribute [local irreducible] XWP Spec SpecO XPub XCall seqX clX apX stX ldX iaX slX
abbrev Rats (V : View) (v : Value) (l : List Rat) : Prop := SlAt ratE V v l
theorem Rats.up {V V' : View} {v : Value} {l : List Rat} (h : Rats V v l) (hV : V.le V') : Rats V' v l := SlAt.mono ratE_ok h hV
theorem Rats.get {V : View} {b o n c : Nat} {l : List Rat} (h : Rats V (.slice (some ⟨b, o, none⟩) n c) l) (i : Nat) (hi : i < l.length) : ∃ m n d, RatC V (.agg #[m, n, d]) (cf l i) ∧ (isOne m = true ∧ isOne n = true ∧ isOne d = true) ∧ ∀ H, Loads Tryz.prog H V 49 b (o + i * 3) (.agg #[m, n, d]) := by
 obtain ⟨v, h1, ⟨m, n, d, rfl, o1⟩, h2⟩ := SlAt.load h i hi
 rw [cf_get hi] at h1
 exact ⟨m, n, d, h1, o1, h2⟩
theorem RatC.form {V : View} {v : Value} {q : Rat} (h : RatC V v q) : ∃ x y, v = .agg #[.bool (ng q), x, y] ∧ isOne x = true ∧ isOne y = true := by
 obtain ⟨n, d, e, h1, h2⟩ := h; exact ⟨n, d, e, h1.one, h2.one⟩
theorem all3 {a b c : Value} (h1 : isOne a = true) (h2 : isOne b = true) (h3 : isOne c = true) : [a, b, c].all isOne = true := by simp [h1, h2, h3]
def part (n : Nat) (f : Nat → Rat) (k : Nat) : List (Option Rat) := (List.range n).map fun i => if i < k then some (f i) else none
def Raw.q (r : Raw) : Rat := rv r.m (nv r.nd) (nv r.dd)
def Raw.ok (r : Raw) : Bool := rawOk r.m r.nd r.dd
def Raw.fit (r : Raw) : Prop := r.nd.length ≤ 4398046511104 ∧ r.dd.length ≤ 4398046511104
abbrev Raws (V : View) (v : Value) (l : List Raw) : Prop := SlAt rawE V v l
def okR (l : List Raw) : Bool := l.all Raw.ok
def fitR (l : List Raw) : Prop := ∀ r ∈ l, r.fit
def qs (l : List Raw) : List Rat := l.map Raw.q
theorem qs_len (l : List Raw) : (qs l).length = l.length := by simp [qs]
theorem Raws.up {V V' : View} {v : Value} {l : List Raw} (h : Raws V v l) (hV : V.le V') : Raws V' v l := SlAt.mono rawE_ok h hV
theorem Raws.rats {V : View} {v : Value} {l : List Raw} (h : Raws V v l) (hk : okR l = true) : Rats V v (qs l) := by
 obtain ⟨A, c, rfl, h1, h2, h3⟩ := h
 refine ⟨A, c, by rw [qs_len], by rw [qs_len]; exact h1, h2, ?_⟩
 rcases h3 with rfl | ⟨b, o, arr, ty, fr, e1, e2, h4⟩
 ·exact .inl rfl
 ·refine .inr ⟨b, o, arr, ty, fr, e1, e2, fun i x hi => ?_⟩
  unfold qs at hi
  rw [List.getElem?_map] at hi
  cases hr : l[i]? with
  | none => rw [hr] at hi; cases hi
  | some r =>
   rw [hr] at hi; cases hi
   obtain ⟨m, n, d, g1, g2, g3, o1, o2, o3, hE⟩ := h4 i r hr
   exact ⟨m, n, d, g1, g2, g3, o1, o2, o3, RawAt.rat hE (List.all_eq_true.1 hk r (List.mem_of_getElem? hr))⟩
def toRaw (q : Rat) : Raw := ⟨ng q, dg q.num.natAbs, dg q.den⟩
theorem rightB_dg (n : Nat) : rightB (dg n) = true := by
 unfold rightB
 cases hl : (dg n).getLast? with
 | none => rfl
 | some d => have := dg_last n d hl; simp [this]
theorem toRaw_ok (q : Rat) : (toRaw q).ok = true := by
 show rawOk (ng q) (dg q.num.natAbs) (dg q.den) = true
 unfold rawOk
 rw [rightB_dg, rightB_dg, nv_dg, nv_dg]
 have h1 : (dg q.den).length ≠ 0 := fun e => q.den_nz (sz_eq_zero e)
 have h2 : Nat.gcd q.num.natAbs q.den = 1 := q.reduced
 have h3 : (decide ((dg q.num.natAbs).length = 0) && ng q) = false := by
  by_cases e : (dg q.num.natAbs).length = 0
  ·have e2 : q.num.natAbs = 0 := sz_eq_zero e
   unfold ng
   rw [decide_eq_false (p := q.num < 0) (by omega)]; simp
  ·rw [decide_eq_false e]; rfl
 rw [h3, decide_eq_false h1, decide_eq_true h2]; rfl
theorem toRaw_q (q : Rat) : (toRaw q).q = q := by
 show rv (ng q) (nv (dg q.num.natAbs)) (nv (dg q.den)) = q
 rw [nv_dg, nv_dg, rv_self]
theorem Rats.raws {V : View} {v : Value} {l : List Rat} (h : Rats V v l) : Raws V v (l.map toRaw) := by
 obtain ⟨A, c, rfl, h1, h2, h3⟩ := h
 refine ⟨A, c, by rw [List.length_map], by rw [List.length_map]; exact h1, h2, ?_⟩
 rcases h3 with rfl | ⟨b, o, arr, ty, fr, e1, e2, h4⟩
 ·exact .inl rfl
 ·refine .inr ⟨b, o, arr, ty, fr, e1, e2, fun i x hi => ?_⟩
  rw [List.getElem?_map] at hi
  cases hr : l[i]? with
  | none => rw [hr] at hi; cases hi
  | some r =>
   rw [hr] at hi; cases hi
   obtain ⟨m, n, d, g1, g2, g3, o1, o2, o3, hE⟩ := h4 i r hr
   exact ⟨m, n, d, g1, g2, g3, o1, o2, o3, hE⟩
theorem okR_toRaw (l : List Rat) : okR (l.map toRaw) = true := by
 unfold okR
 rw [List.all_map]
 exact List.all_eq_true.2 fun q _ => toRaw_ok q
theorem qs_toRaw (l : List Rat) : qs (l.map toRaw) = l := by
 unfold qs
 rw [List.map_map]
 have : Raw.q ∘ toRaw = id := by funext q; exact toRaw_q q
 rw [this, List.map_id]
theorem fitR_toRaw {l : List Rat} (h : ∀ x ∈ l, QF x) : fitR (l.map toRaw) := fun r hr => by
 obtain ⟨q, hq, rfl⟩ := List.mem_map.1 hr
 exact ⟨(h q hq).fits.1, (h q hq).fits.2⟩
end Go.Proofs.YtobjjdnfgamgcaaGreat
end
section
namespace Go.Proofs.YtobjjdnfgamgcaaGreat
def Over (D : Nat) (B : Nat) (x : Rat) : Prop := ∃ n : Int, n.natAbs ≤ 2 ^ B ∧ x = mkRat n D
def CB (B : Nat) (l : List Rat) : Prop := ∃ D : Nat, 0 < D ∧ D ≤ 2 ^ B ∧ ∀ i, Over D B (cf l i)
theorem mkRat_sg (n : Int) (d : Nat) : mkRat n d = rv (decide (n < 0)) n.natAbs d := by unfold rv; rw [sg_self]
theorem Over.qb {D B : Nat} {x : Rat} (h : Over D B x) (hD : D ≤ 2 ^ B) : QB B x := by
 obtain ⟨n, h1, rfl⟩ := h
 rw [mkRat_sg]; exact QB_rv _ h1 hD
theorem CB.at {B : Nat} {l : List Rat} (h : CB B l) (i : Nat) : QB B (cf l i) := by
 obtain ⟨D, _, h2, h3⟩ := h; exact (h3 i).qb h2
theorem Over.zero (D B : Nat) : Over D B 0 := ⟨0, by simp, by simp⟩
theorem QB.qf {B : Nat} {q : Rat} (h : QB B q) (hB : B ≤ 17592186044416) : QF q := QF.of h hB
def gb (M r s : Nat) : Nat := 5 ^ r * (2 ^ s * (M + 1))
end Go.Proofs.YtobjjdnfgamgcaaGreat
end
section
namespace Go.Proofs.YtobjjdnfgamgcaaGreat
open Go Go.RowKit
attribute [local irreducible] XWP Spec SpecO XPub XCall seqX clX apX stX ldX iaX slX




end Go.Proofs.YtobjjdnfgamgcaaGreat
end
section
namespace Go.Proofs.YtobjjdnfgamgcaaGreat
theorem mk_succ (n : Nat) (f : Nat → Rat) : mk (n + 1) f = mk n f ++ [f n] := by unfold mk; rw [List.range_succ, List.map_append]; rfl
end Go.Proofs.YtobjjdnfgamgcaaGreat
end
section
namespace Go.Proofs.YtobjjdnfgamgcaaGreat
open Go Go.RowKit
attribute [local irreducible] XWP Spec SpecO XPub XCall seqX clX apX stX ldX iaX slX
theorem src3 {H : Heap} {V : View} {b e tot : Nat} {m n d : Value} (hr : H b = some ⟨e, [m, n, d], tot⟩) (h1 : isOne m = true) (h2 : isOne n = true) (h3 : isOne d = true) : Src H V 3 (.slice (some ⟨b, 0, none⟩) 1 1) 1 [m, n, d] :=
 RowAt.src (E := optE ratE) (xs := [none]) (RowAt.snoc (RowAt.nil V) (x := none) h1 h2 h3 trivial) hr rfl


end Go.Proofs.YtobjjdnfgamgcaaGreat
end
section
namespace Go.Proofs.YtobjjdnfgamgcaaGreat
def bb (B : Nat) : Nat → Nat
 | 0 => 0
 | i + 1 => 4 * bb B i + 2 * B + 1
end Go.Proofs.YtobjjdnfgamgcaaGreat
end
section
namespace Go.Proofs.YtobjjdnfgamgcaaGreat
open Go Go.RowKit
attribute [local irreducible] XWP Spec SpecO XPub XCall seqX clX apX stX ldX iaX slX



end Go.Proofs.YtobjjdnfgamgcaaGreat
end
section
namespace Go.Proofs.YtobjjdnfgamgcaaGreat
def meet (p q : List Rat) (i : Nat) : Nat → Rat
 | 0 => 0
 | k + 1 => meet p q i k + if k ≤ i then cf p k * cf q (i - k) else 0
end Go.Proofs.YtobjjdnfgamgcaaGreat
end
section
namespace Go.Proofs.YtobjjdnfgamgcaaGreat
open Go Go.RowKit
set_option linter.unusedSimpArgs false
set_option linter.unusedVariables false
attribute [local irreducible] XWP Spec SpecO XPub XCall seqX clX apX stX ldX iaX slX
def fib : List Rat := [1, 1, 1 + 1, 1 + (1 + 1)]
attribute [local irreducible] fib
end Go.Proofs.YtobjjdnfgamgcaaGreat
end
section
namespace Go.Proofs.YtobjjdnfgamgcaaGreat
open Go Go.RowKit
attribute [local irreducible] XWP Spec SpecO XPub XCall seqX clX apX stX ldX iaX slX

end Go.Proofs.YtobjjdnfgamgcaaGreat
end
section
namespace Go.Proofs.YtobjjdnfgamgcaaGreat
open Go Go.RowKit Go.ChangeShapes
def viewW (w : World) : View := fun k => w.heap[k]?
theorem viewW_sub (w : World) : View.sub (viewW w) w := fun _ _ h => h
theorem cell_view {w : World} {a : Addr} {v : Value} (h : w.cell? a = some v) : a.spot = none ∧ ∃ arr ty fr, viewW w a.block = some (.cells arr ty fr) ∧ arr[a.off]? = some v := by
 unfold World.cell? at h
 split at h
 ·rename_i c t f hb
  split at h
  ·cases h
  ·rename_i hs
   refine ⟨?_, c, t, f, hb, h⟩
   cases hsp : a.spot with
   | none => rfl
   | some x => rw [hsp] at hs; simp at hs
 ·cases h
theorem add_off (a : Addr) (n : Nat) : (a.add n).block = a.block ∧ (a.add n).off = a.off + n := by
 unfold Addr.add; split
 ·rename_i h; subst h; exact ⟨rfl, rfl⟩
 ·exact ⟨rfl, rfl⟩
theorem cells_view {w : World} {a : Addr} {n : Nat} {f : Nat → Value} (hn : 0 < n) (h : ∀ i, i < n → w.cell? (a.add i) = some (f i)) : a.spot = none ∧ ∃ arr ty fr, viewW w a.block = some (.cells arr ty fr) ∧ ∀ i, i < n → arr[a.off + i]? = some (f i) := by
 have h0 := h 0 hn
 have e0 : a.add 0 = a := by simp [Addr.add]
 rw [e0] at h0
 obtain ⟨hs, arr, ty, fr, hb, _⟩ := cell_view h0
 refine ⟨hs, arr, ty, fr, hb, fun i hi => ?_⟩
 obtain ⟨_, arr', ty', fr', hb', hv⟩ := cell_view (h i hi)
 obtain ⟨e1, e2⟩ := add_off a i
 rw [e1, hb] at hb'
 cases hb'
 rw [e2] at hv; exact hv
theorem addr_eta (a : Addr) (h : a.spot = none) : a = ⟨a.block, a.off, none⟩ := by cases a; simp at h; subst h; rfl
section
variable {H : Type} {enc : TypeId × Value → H} {w : World} {base : Nat} {spare : Nat → Bool} {held : Bool}
theorem und_nat : (Tryz.prog).underlying 47 = some (.slice 123) := und_elem elemT_47
theorem und_u32 : (Tryz.prog).underlying 123 = some (.int .u32) := by kernel_rfl
theorem cells_u32 : (Tryz.prog).cellsOf 123 = 1 := by kernel_rfl
theorem cells_rat : (Tryz.prog).cellsOf 49 = 3 := by kernel_rfl
theorem open_nat {fuel : Nat} {v : Value} {x : DataW H × List MemPlace} (h : DataW.trod enc Tryz.prog w base spare held fuel 47 [v] = some x) : ∃ ds, NatAt (viewW w) v ds := by
 rcases open_ints und_nat und_u32 cells_u32 h with ⟨hcs, _⟩ | ⟨a, len, cap, zs, hcs, _, hl, hm, hz, _, hcell, hwz⟩
 ·cases hcs; exact ⟨[], NatAt.nil _⟩
 ·cases hcs
  have hzl : len ≤ zs.length := by rw [hz]; split <;> omega
  have hwf : ∀ z ∈ zs, 0 ≤ z ∧ z < 4294967296 := fun z hz => by
   have := hwz z hz
   simp [Lit.wf, IntKind.min, IntKind.max, IntKind.signed, IntKind.bits] at this
   omega
  refine ⟨(zs.take len).map Int.toNat, some a, cap, by simp [Nat.min_eq_left hzl], by simp; omega, by unfold maxLen at hm; omega, fun d hd => ?_, ?_⟩
  ·obtain ⟨z, hz, rfl⟩ := List.mem_map.1 hd
   have := hwf z (List.mem_of_mem_take hz)
   unfold BB; omega
  ·rcases Nat.eq_zero_or_pos len with h0 | h0
   ·subst h0; exact .inl (by simp)
   ·obtain ⟨hs, arr, ty, fr, hb, hv⟩ := cells_view (f := fun i => .int .u32 (zs.getD i 0)) (by omega) hcell
    refine .inr ⟨a.block, a.off, arr, ty, fr, by rw [← addr_eta a hs], hb, fun i d hd => ?_⟩
    rw [List.getElem?_map, List.getElem?_take] at hd
    split at hd
    ·rename_i hi
     rw [hv i (by omega)]
     have hiz : i < zs.length := by omega
     rw [List.getElem?_eq_getElem hiz] at hd
     simp at hd
     have := hwf zs[i] (List.getElem_mem hiz)
     simp [hiz]
     omega
    ·cases hd
noncomputable def ratFields : Array Field := match (Tryz.prog).underlying 49 with
 | some (.struct fs) => fs
 | _ => #[]
theorem und_rat : (Tryz.prog).underlying 49 = some (.struct ratFields) := by kernel_rfl
theorem ratFields_map : ratFields.toList.map (fun f => (f.type, f.offset)) = [(4, 0), (47, 1), (47, 2)] := by kernel_rfl
theorem und_bool : (Tryz.prog).underlying 4 = some .bool := by kernel_rfl
theorem cells_bool : (Tryz.prog).cellsOf 4 = 1 := by kernel_rfl
theorem cells_nat : (Tryz.prog).cellsOf 47 = 1 := by kernel_rfl
theorem ratField (i : Nat) (t o : Nat) (h : [(4, 0), (47, 1), (47, 2)][i]? = some (t, o)) : ∃ f, ratFields[i]? = some f ∧ f.type = t ∧ f.offset = o := by
 rw [← ratFields_map, List.getElem?_map] at h
 cases hf : ratFields.toList[i]? with
 | none => rw [hf] at h; cases h
 | some f =>
  rw [hf] at h
  simp at h
  exact ⟨f, by rw [← Array.getElem?_toList]; exact hf, h.1, h.2⟩
theorem three_of {α : Type} {l : List α} (h : l.length = 3) : ∃ a b c, l = [a, b, c] := by
 rcases l with _ | ⟨a, _ | ⟨b, _ | ⟨c, _ | ⟨d, l⟩⟩⟩⟩ <;> simp at h
 exact ⟨a, b, c, rfl⟩
theorem open_rat {fuel : Nat} {cs : List Value} {x : DataW H × List MemPlace} (h : DataW.trod enc Tryz.prog w base spare held fuel 49 cs = some x) : ∃ (r : Raw) (n d : Value), cs = [.bool r.m, n, d] ∧ NatAt (viewW w) n r.nd ∧ NatAt (viewW w) d r.dd := by
 obtain ⟨xs, m, _, _, hl, hxl, hf⟩ := DataW.trod_struct und_rat h
 rw [cells_rat] at hl
 have hsz : ratFields.size = 3 := by
  have := congrArg List.length ratFields_map
  simpa using this
 obtain ⟨c0, c1, c2, rfl⟩ := three_of hl
 obtain ⟨f0, a0, t0, o0⟩ := ratField 0 _ _ rfl
 obtain ⟨f1, a1, t1, o1⟩ := ratField 1 _ _ rfl
 obtain ⟨f2, a2, t2, o2⟩ := ratField 2 _ _ rfl
 have h0 := hf 0 f0 a0
 have h1 := hf 1 f1 a1
 have h2 := hf 2 f2 a2
 rw [t0, o0, cells_bool, List.getElem?_eq_getElem (by omega)] at h0
 rw [t1, o1, cells_nat, List.getElem?_eq_getElem (by omega)] at h1
 rw [t2, o2, cells_nat, List.getElem?_eq_getElem (by omega)] at h2
 obtain ⟨b, e, _⟩ := DataW.trod_bool und_bool h0
 have e' : c0 = .bool b := by simpa using e
 subst e'
 obtain ⟨ds, hn⟩ := open_nat h1
 obtain ⟨es, hd⟩ := open_nat h2
 exact ⟨⟨b, ds, es⟩, c1, c2, rfl, hn, hd⟩
theorem choose_list {α : Type} {Q : Nat → α → Prop} : ∀ n, (∀ i, i < n → ∃ x, Q i x) → ∃ xs : List α, xs.length = n ∧ ∀ i x, xs[i]? = some x → Q i x
 | 0, _ => ⟨[], rfl, fun i x h => by simp at h⟩
 | n + 1, h => by
  obtain ⟨xs, hl, hq⟩ := choose_list n fun i hi => h i (by omega)
  obtain ⟨x, hx⟩ := h n (by omega)
  refine ⟨xs ++ [x], by simp [hl], fun i y hi => ?_⟩
  by_cases hlt : i < n
  ·rw [List.getElem?_append_left (by omega)] at hi; exact hq i y hi
  ·rw [List.getElem?_append_right (by omega)] at hi
   have : i = n := by
    rcases Nat.eq_zero_or_pos (i - xs.length) with h0 | h0
    ·omega
    ·rw [List.getElem?_eq_none (by simp; omega)] at hi; cases hi
   subst this
   rw [hl, Nat.sub_self] at hi
   simp at hi
   subst hi; exact hx
end
end Go.Proofs.YtobjjdnfgamgcaaGreat
end
section
namespace Go.Proofs.YtobjjdnfgamgcaaGreat
def Sm (f : Nat → Rat) : Nat → Rat
 | 0 => 0
 | n + 1 => Sm f n + f n
theorem Sm_congr {f g : Nat → Rat} : ∀ (n : Nat), (∀ j, j < n → f j = g j) → Sm f n = Sm g n
 | 0, _ => rfl
 | n + 1, h => by
  have := Sm_congr n (fun j hj => h j (by omega))
  simp only [Sm, this, h n (by omega)]
theorem Sm_zero {f : Nat → Rat} (n : Nat) (h : ∀ j, j < n → f j = 0) : Sm f n = 0 := by
 induction n with
 | zero => rfl
 | succ n ih =>
  simp only [Sm, ih fun j hj => h j (by omega), h n (by omega)]
  grind
theorem Sm_add (f g : Nat → Rat) (n : Nat) : Sm (fun j => f j + g j) n = Sm f n + Sm g n := by
 induction n with
 | zero => simp only [Sm]; grind
 | succ n ih => simp only [Sm, ih]; grind
theorem Sm_mul (c : Rat) (f : Nat → Rat) (n : Nat) : Sm (fun j => c * f j) n = c * Sm f n := by
 induction n with
 | zero => simp only [Sm]; grind
 | succ n ih => simp only [Sm, ih]; grind
theorem Sm_one {f : Nat → Rat} {n k : Nat} (hk : k < n) (h : ∀ j, j < n → j ≠ k → f j = 0) : Sm f n = f k := by
 induction n with
 | zero => omega
 | succ n ih =>
  by_cases hn : k = n
  ·subst hn
   simp only [Sm, Sm_zero k fun j hj => h j (by omega) (by omega)]; grind
  ·simp only [Sm, ih (by omega) fun j hj => h j (by omega), h n (by omega) (by omega)]; grind







theorem ng_iff (q : Rat) : ng q = false ↔ 0 ≤ q := by
 unfold ng
 rw [decide_eq_false_iff_not]
 rw [Int.not_lt]; exact Rat.num_nonneg
theorem XM : type_of% (And.intro (And.intro (And.intro (@shapeT_26) (@zeroT_26)) (And.intro (@fieldT_26_0) (And.intro (@fieldT_26_1) (@fieldT_26_2)))) (And.intro (And.intro (@shapeT_30) (@zeroT_30)) (And.intro (@fieldT_30_0) (And.intro (@fieldT_30_1) (@fieldT_30_2))))) := And.intro (And.intro (And.intro (@shapeT_26) (@zeroT_26)) (And.intro (@fieldT_26_0) (And.intro (@fieldT_26_1) (@fieldT_26_2)))) (And.intro (And.intro (@shapeT_30) (@zeroT_30)) (And.intro (@fieldT_30_0) (And.intro (@fieldT_30_1) (@fieldT_30_2))))
end Go.Proofs.YtobjjdnfgamgcaaGreat
end
section
namespace Go.Proofs.YtobjjdnfgamgcaaGreat
open Go Go.RowKit
attribute [local irreducible] XWP Spec SpecO XPub XCall seqX clX apX stX ldX iaX slX
def matR (r c : Int) (L : List Raw) : Bool := decide (0 ≤ r ∧ r ≤ 60 ∧ 0 ≤ c ∧ c ≤ 60 ∧ (L.length : Int) = r * c) && okR L
theorem mul60 {r c : Int} (h1 : 0 ≤ r) (h2 : r ≤ 60) (h3 : 0 ≤ c) (h4 : c ≤ 60) : 0 ≤ r * c ∧ r * c ≤ 3600 :=
 ⟨Int.mul_nonneg h1 h3, Int.le_trans (Int.mul_le_mul h2 h4 h3 (by omega)) (by omega)⟩
theorem matR_bad {r c : Int} {L : List Raw} (h : ¬ (0 ≤ r ∧ r ≤ 60 ∧ 0 ≤ c ∧ c ≤ 60 ∧ (L.length : Int) = r * c)) : matR r c L = false := by unfold matR; rw [decide_eq_false h]; rfl
theorem cmright_c (V : View) (s : Value) (r c : Int) (l : List Raw) (h : Raws V s l) (f : fitR l) (ll : l.length ≤ 1000000) : Spec Tryz.prog 55 [.agg #[.int .i64 r, .int .i64 c, s]] V fun v' V' => v' = .bool (matR r c l) := by
 obtain ⟨A, cp, rfl, hc, hm⟩ := h.form
 refine (Spec.enter Tryz.func55 rfl fun Γ => ?_)
 simp only [Tryz.ntmps55, List.map_cons, List.map_nil, List.length_cons, List.length_nil, Nat.reduceAdd, Nat.reduceSub, List.replicate_succ, List.replicate_zero, List.cons_append, List.nil_append]
 refine Gx.a (by kernel_rfl) fun K hK => ?_
 simp only [XA]
 refine hK _ ?_
 refine XWP.seq ?_
 by_cases d1 : r < 0
 ·have b1 : decide (r < 0) = true := decide_eq_true d1
  have e := matR_bad (r := r) (c := c) (L := l) (by omega)
  refine Gx.a (by kernel_rfl) fun K hK => ?_
  simp only [XM, XA, XB, gateX, ↓reduceIte, b1]
  refine hK _ ?_
  refine Gx.t rfl ?_
  refine Gx.a (by kernel_rfl) fun K hK => ?_
  simp only [XA]
  refine hK _ (XWP.ret ?_)
  try simp only [thenX_ret, inBlockX_ret]
  refine ret_go _ rfl ?_
  rw [e]; rfl
 have b1 : decide (r < 0) = false := decide_eq_false d1
 by_cases d2 : 60 < r
 ·have b2 : decide (60 < r) = true := decide_eq_true d2
  have e := matR_bad (r := r) (c := c) (L := l) (by omega)
  refine Gx.a (by kernel_rfl) fun K hK => ?_
  simp only [XM, XA, XB, gateX, ↓reduceIte, beq_self_eq_true, b1, b2]
  refine hK _ ?_
  refine Gx.t rfl ?_
  refine Gx.a (by kernel_rfl) fun K hK => ?_
  simp only [XA]
  refine hK _ (XWP.ret ?_)
  try simp only [thenX_ret, inBlockX_ret]
  refine ret_go _ rfl ?_
  rw [e]; rfl
 have b2 : decide (60 < r) = false := decide_eq_false d2
 by_cases d3 : c < 0
 ·have b3 : decide (c < 0) = true := decide_eq_true d3
  have e := matR_bad (r := r) (c := c) (L := l) (by omega)
  refine Gx.a (by kernel_rfl) fun K hK => ?_
  simp only [XM, XA, XB, gateX, ↓reduceIte, beq_self_eq_true, b1, b2, b3]
  refine hK _ ?_
  refine Gx.t rfl ?_
  refine Gx.a (by kernel_rfl) fun K hK => ?_
  simp only [XA]
  refine hK _ (XWP.ret ?_)
  try simp only [thenX_ret, inBlockX_ret]
  refine ret_go _ rfl ?_
  rw [e]; rfl
 have b3 : decide (c < 0) = false := decide_eq_false d3
 by_cases d4 : 60 < c
 ·have b4 : decide (60 < c) = true := decide_eq_true d4
  have e := matR_bad (r := r) (c := c) (L := l) (by omega)
  refine Gx.a (by kernel_rfl) fun K hK => ?_
  simp only [XM, XA, XB, gateX, ↓reduceIte, beq_self_eq_true, b1, b2, b3, b4]
  refine hK _ ?_
  refine Gx.t rfl ?_
  refine Gx.a (by kernel_rfl) fun K hK => ?_
  simp only [XA]
  refine hK _ (XWP.ret ?_)
  try simp only [thenX_ret, inBlockX_ret]
  refine ret_go _ rfl ?_
  rw [e]; rfl
 have b4 : decide (60 < c) = false := decide_eq_false d4
 have hm60 := mul60 (r := r) (c := c) (by omega) (by omega) (by omega) (by omega)
 have w : IntKind.i64.wrap (r * c) = r * c := wrap_id (by omega) (by omega)
 by_cases d5 : (l.length : Int) = r * c
 rotate_left
 ·have b5 : decide ((l.length : Int) = r * c) = false := decide_eq_false d5
  have e := matR_bad (r := r) (c := c) (L := l) (by omega)
  refine Gx.a (by kernel_rfl) fun K hK => ?_
  simp only [XM, XA, XB, gateX, ↓reduceIte, beq_self_eq_true, b1, b2, b3, b4, w, b5]
  refine hK _ ?_
  refine Gx.t rfl ?_
  refine Gx.a (by kernel_rfl) fun K hK => ?_
  simp only [XA]
  refine hK _ (XWP.ret ?_)
  try simp only [thenX_ret, inBlockX_ret]
  refine ret_go _ rfl ?_
  rw [e]; rfl
 have b5 : decide ((l.length : Int) = r * c) = true := decide_eq_true d5
 refine Gx.a (by kernel_rfl) fun K hK => ?_
 simp only [XM, XA, XB, gateX, ↓reduceIte, beq_self_eq_true, b1, b2, b3, b4, w, b5]
 refine hK _ ?_
 refine Gx.f rfl ?_
 refine XWP.skip ?_
 have eM : matR r c l = okR l := by unfold matR; rw [decide_eq_true ⟨by omega, by omega, by omega, by omega, d5⟩]; rfl
 rw [eM]
 clear eM
 refine XWP.cutD 1 (fun s => ∃ V2, StIs (fun Z => [Z 0,Z 1,Z 2,Z 3,Z 4,Z 5,Z 6,Z 7,Z 8,Z 9,Z 10,Z 11,Z 12,Z 13,Z 14,Z 15,Z 16,Z 17,Z 18,Z 19,Z 20,Z 21,Z 22,Z 23,Z 24,Z 25,Z 26,Z 27,Z 28,Z 29,Z 30,Z 31,Z 32,Z 33,Z 34,Z 35,Z 36,Z 37,Z 38,Z 39,Z 40,Z 41,Z 42,Z 43,Z 44]) [[.int .i64 r, .int .i64 c, .slice A l.length cp]] (fun _ => none) V2 s ∧ okR l = true) ?_ ?_
 ·refine Gx.a (by kernel_rfl) fun K hK => ?_
  simp only [XM, XA, XB]
  refine hK _ ?_
  clear hK
  refine XWP.block ?_
  refine XWP.loopD 1 (fun n s => ∃ (k : Nat) (V2 : View), StIs (fun Z => [Z 0, .p 0 0, Z 2,Z 3,Z 4,Z 5,Z 6,Z 7,Z 8,Z 9,Z 10,Z 11,Z 12,Z 13,Z 14,Z 15,Z 16,Z 17,Z 18,Z 19,Z 20,Z 21,Z 22,Z 23,Z 24,Z 25,Z 26,Z 27,Z 28,Z 29,Z 30,Z 31,Z 32,Z 33,Z 34, .v (.slice A l.length cp), .v (.int .i64 (l.length : Int)), .v (.int .i64 (k : Int)), Z 38,Z 39,Z 40,Z 41,Z 42,Z 43,Z 44]) [[.int .i64 r, .int .i64 c, .slice A l.length cp]] (fun _ => none) V2 s ∧ V.le V2 ∧ n + k = l.length ∧ okR (l.take k) = true) l.length ⟨0, V, StIs.of (by exact rfl), View.le_refl _, rfl, by simp [okR]⟩ ?_
  rintro n s ⟨k, V2, hs, hV2, hn, hk⟩
  obtain ⟨u, rfl⟩ := hs.out
  try dsimp only
  by_cases hlt : k < l.length
  ·have b6 : decide ((k : Int) < (l.length : Int)) = true := decide_eq_true (by omega)
   refine Gx.a (by kernel_rfl) fun K hK => ?_
   simp only [XA, XB, b6]
   refine hK _ ?_
   refine XWP.seq (Gx.t rfl ?_)
   refine XWP.skip ?_
   refine XWP.seq ?_
   refine XWP.block ?_
   refine Gx.a (by kernel_rfl) fun K hK => ?_
   have hv2 := Raws.up h hV2
   obtain ⟨b, o, rfl⟩ := SlAt.addr hv2 (by omega)
   obtain ⟨x, hx, ⟨m3, n3, d3, rfl, p1, p2, p3⟩, hld⟩ := SlAt.load hv2 k hlt
   simp only [XA, XB]
   refine ⟨by omega, by omega, ld_mem (hld _) ?_⟩
   simp only [XA, XB]
   refine st_rat rfl rfl p1 p2 p3 ?_
   simp only [XA]
   refine hK _ ?_
   have ff := f _ (List.getElem_mem hlt)
   refine Gx.a (by kernel_rfl) fun K hK => ?_
   simp only [XA, XB, Nat.reduceAdd, Nat.reduceLeDiff, ↓reduceIte]
   refine call_go (by kernel_rfl) rfl (qright_c _ _ _ _ _ hx ff.1 ff.2) fun v3 V3 hV3 h3 => ?_
   subst h3
   have et : l.take (k + 1) = l.take k ++ [l[k]] := by rw [List.take_succ_eq_append_getElem hlt]
   cases hr : rawOk l[k].m l[k].nd l[k].dd
   ·simp only [XA]
    refine hK _ ?_
    refine Gx.t rfl ?_
    refine Gx.a (by kernel_rfl) fun K hK => ?_
    simp only [XA]
    refine hK _ (XWP.ret ?_)
    try simp only [thenX_ret, inBlockX_ret]
    refine ret_go _ rfl ?_
    have : okR l = false := by
     unfold okR
     rw [List.all_eq_false]
     exact ⟨l[k], List.getElem_mem hlt, by unfold Raw.ok; rw [hr]; simp⟩
    rw [this]; rfl
   ·simp only [XA]
    refine hK _ ?_
    refine Gx.f rfl ?_
    refine XWP.skip ?_
    refine Gx.c (by kernel_rfl) fun K hK => ?_
    simp only [XA, XB, i64_succ k (by omega)]
    refine hK _ ⟨n - 1, by omega, fun f => ⟨k + 1, V3, StIs.of (by exact rfl), View.le_trans hV2 hV3, by omega, ?_⟩⟩
    unfold okR at hk ⊢
    rw [et, List.all_append, hk]
    simp [Raw.ok, hr]
  ·have b6 : decide ((k : Int) < (l.length : Int)) = false := decide_eq_false (by omega)
   refine Gx.a (by kernel_rfl) fun K hK => ?_
   simp only [XA, XB, b6]
   refine hK _ ?_
   refine XWP.seq (Gx.f rfl ?_)
   refine XWP.exit ?_
   rw [List.take_of_length_le (by omega)] at hk
   exact fun f => ⟨V2, StIs.of (by exact rfl), hk⟩
 rintro s ⟨V2, hs, hk⟩
 obtain ⟨u, rfl⟩ := hs.out
 try dsimp only
 refine Gx.a (by kernel_rfl) fun K hK => ?_
 simp only [XA]
 refine hK _ (XWP.ret ?_)
 try simp only [thenX_ret, inBlockX_ret]
 refine ret_go _ rfl ?_
 rw [hk]; rfl
theorem sgI_abs (q : Rat) : (q.num : Int) = sgI q * (q.num.natAbs : Int) := by
 unfold sgI
 have h0 := rat_zero_iff q
 by_cases h : q = 0
 ·rw [if_pos h, h]; rfl
 ·rw [if_neg h]
  cases hn : ng q
  ·have := (ng_iff q).1 hn
   have := Rat.num_nonneg.2 this
   rw [if_neg (by simp)]; omega
  ·unfold ng at hn
   have := of_decide_eq_true hn
   rw [if_pos rfl]; omega
theorem sgI_val (q : Rat) : sgI q = 0 ∨ sgI q = 1 ∨ sgI q = -1 := by
 unfold sgI
 split
 ·exact .inl rfl
 ·split
  ·exact .inr (.inr rfl)
  ·exact .inr (.inl rfl)
theorem cmp_same {p q : Rat} (h : sgI p = sgI q) : sgI p * cmpI (p.num.natAbs * q.den) (q.num.natAbs * p.den) = 0 ↔ p = q := by
 have hp := sgI_abs p
 have hq := sgI_abs q
 constructor
 ·intro hz
  rcases Int.mul_eq_zero.1 hz with h0 | h0
  ·have e1 := sgI_zero p
   have e2 := sgI_zero q
   rw [← h, h0] at e2
   rw [h0] at e1
   have e1 : p = 0 := by simpa using e1.symm
   have e2 : q = 0 := by simpa using e2.symm
   rw [e1, e2]
  ·have e : p.num.natAbs * q.den = q.num.natAbs * p.den := by
    unfold cmpI at h0
    split at h0
    ·cases h0
    ·split at h0
     ·cases h0
     ·omega
   rw [Rat.eq_iff_mul_eq_mul, hp, hq, h, Int.mul_assoc, Int.mul_assoc, ← Int.natCast_mul, ← Int.natCast_mul, e]
 ·intro e
  subst e
  have : cmpI (p.num.natAbs * p.den) (p.num.natAbs * p.den) = 0 := by unfold cmpI; rw [if_neg (by omega), if_neg (by omega)]
  rw [this, Int.mul_zero]
theorem cmpI_val (a b : Nat) : cmpI a b = 0 ∨ cmpI a b = 1 ∨ cmpI a b = -1 := by
 unfold cmpI
 split
 ·exact .inr (.inr rfl)
 ·split
  ·exact .inr (.inl rfl)
  ·exact .inl rfl
theorem qcompare_c (V : View) (v u : Value) (p q : Rat) (hv : RatC V v p) (hu : RatC V u q) (fp : QF p) (fq : QF q) : Spec Tryz.prog 50 [v, u] V fun v' V' => ∃ z : Int, v' = .int .i64 z ∧ (z = 0 ↔ p = q) := by
 have hv0 := hv
 have hu0 := hu
 obtain ⟨n1, d1, rfl, hn1, hd1⟩ := hv
 obtain ⟨n2, d2, rfl, hn2, hd2⟩ := hu
 refine (Spec.enter Tryz.func50 rfl fun Γ => ?_)
 simp only [Tryz.ntmps50, List.map_cons, List.map_nil, List.length_cons, List.length_nil, Nat.reduceAdd, Nat.reduceSub, List.replicate_succ, List.replicate_zero, List.cons_append, List.nil_append]
 refine Gx.a (by kernel_rfl) fun K hK => ?_
 simp only [XA]
 refine hK _ ?_
 (refine XWP.drw [0, 2, 1, 3, 4, 5] (by kernel_rfl) (by kernel_rfl) (by kernel_rfl) fun K hK => ?_) <;> dsimp only [pickOps, List.getElem?_cons_zero, List.getElem?_cons_succ]
 simp only [XA, XB, Nat.reduceAdd, Nat.reduceLeDiff, ↓reduceIte]
 refine call_go (by kernel_rfl) rfl (qsign_c _ _ _ hv0) fun v1 V1 hV1 h1 => ?_
 subst h1
 simp only [XA]
 refine call_go (by kernel_rfl) rfl (qsign_c _ _ _ (hu0.mono hV1)) fun v2 V2 hV2 h2 => ?_
 subst h2
 simp only [XA]
 refine hK _ ?_
 have hV := View.le_trans hV1 hV2
 have hne : sgI p ≠ sgI q → ¬ p = q := fun h e => h (by rw [e])
 refine XWP.cut (fun s => StIs (fun Z => [Z 0,Z 1, .p 0 0, .p 1 0, Z 4, .v (.int .i64 (sgI p)), .v (.int .i64 (sgI q)), Z 7,Z 8,Z 9,Z 10,Z 11,Z 12,Z 13,Z 14,Z 15,Z 16,Z 17,Z 18,Z 19,Z 20,Z 21,Z 22,Z 23,Z 24,Z 25,Z 26,Z 27,Z 28,Z 29,Z 30,Z 31]) [[.bool (ng p), n1, d1], [.bool (ng q), n2, d2]] (fun _ => none) V2 s ∧ sgI p = sgI q) ?_ ?_
 ·refine XWP.block ?_
  by_cases k1 : sgI p < sgI q
  ·have b1 : decide (sgI p < sgI q) = true := decide_eq_true k1
   refine Gx.a (by kernel_rfl) fun K hK => ?_
   simp only [XA, XB, b1]
   refine hK _ ?_
   refine Gx.t rfl ?_
   refine Gx.a (by kernel_rfl) fun K hK => ?_
   simp only [XA]
   refine hK _ (XWP.ret ?_)
   try simp only [thenX_ret, inBlockX_ret]
   refine ret_go _ rfl ?_
   exact ⟨-1, rfl, (fun h => by cases h), fun h => absurd h (hne (by omega))⟩
  have b1 : decide (sgI p < sgI q) = false := decide_eq_false k1
  by_cases k2 : sgI q < sgI p
  ·have b2 : decide (sgI q < sgI p) = true := decide_eq_true k2
   refine Gx.a (by kernel_rfl) fun K hK => ?_
   simp only [XA, XB, b1]
   refine hK _ ?_
   refine Gx.f rfl ?_
   refine Gx.a (by kernel_rfl) fun K hK => ?_
   simp only [XA, XB, b2]
   refine hK _ ?_
   refine Gx.t rfl ?_
   refine Gx.a (by kernel_rfl) fun K hK => ?_
   simp only [XA]
   refine hK _ (XWP.ret ?_)
   try simp only [thenX_ret, inBlockX_ret]
   refine ret_go _ rfl ?_
   exact ⟨1, rfl, (fun h => by cases h), fun h => absurd h (hne (by omega))⟩
  have b2 : decide (sgI q < sgI p) = false := decide_eq_false k2
  refine Gx.a (by kernel_rfl) fun K hK => ?_
  simp only [XA, XB, b1]
  refine hK _ ?_
  refine Gx.f rfl ?_
  refine Gx.a (by kernel_rfl) fun K hK => ?_
  simp only [XA, XB, b2]
  refine hK _ ?_
  refine Gx.f rfl ?_
  refine XWP.skip ?_
  exact ⟨StIs.of (by exact rfl), by omega⟩
 rintro s ⟨hs, hsg⟩
 obtain ⟨z, rfl⟩ := hs.out
 try dsimp only
 (refine XWP.drw [0, 1, 2, 3, 4, 6, 7, 8, 9, 5, 10, 11, 12, 13] (by kernel_rfl) (by kernel_rfl) (by kernel_rfl) fun K hK => ?_) <;> dsimp only [pickOps, List.getElem?_cons_zero, List.getElem?_cons_succ]
 simp only [XA, XB]
 refine call_go (by kernel_rfl) rfl (mul_c _ _ _ _ _ (hn1.mono hV) (hd2.mono hV) fp.fits.1 fq.fits.2) fun v3 V3 hV3 h3 => ?_
 simp only [XA]
 refine call_go (by kernel_rfl) rfl (mul_c _ _ _ _ _ ((hn2.mono hV).mono hV3) ((hd1.mono hV).mono hV3) fq.fits.1 fp.fits.2) fun v4 V4 hV4 h4 => ?_
 simp only [XA]
 refine call_go (by kernel_rfl) rfl (compare_c _ _ _ _ _ (h3.mono hV4) h4) fun v5 V5 hV5 h5 => ?_
 subst h5
 have w : IntKind.i64.wrap (sgI p * cmpI (p.num.natAbs * q.den) (q.num.natAbs * p.den)) = sgI p * cmpI (p.num.natAbs * q.den) (q.num.natAbs * p.den) := by
  rcases sgI_val p with e | e | e <;> rcases cmpI_val (p.num.natAbs * q.den) (q.num.natAbs * p.den) with e' | e' | e' <;> rw [e, e'] <;> exact wrap_id (by omega) (by omega)
 simp only [XA, XB, w]
 refine hK _ (XWP.ret ?_)
 try simp only [thenX_ret, inBlockX_ret]
 refine ret_go _ rfl ?_
 exact ⟨_, rfl, cmp_same hsg⟩
theorem qsame_c (V : View) (v u : Value) (p q : Rat) (hv : RatC V v p) (hu : RatC V u q) (fp : QF p) (fq : QF q) : Spec Tryz.prog 72 [v, u] V fun v' V' => v' = .bool (decide (p = q)) := by
 have hv0 := hv
 have hu0 := hu
 obtain ⟨x1, y1, rfl, o1, o2⟩ := hv.form
 obtain ⟨x2, y2, rfl, o3, o4⟩ := hu.form
 refine (Spec.enter Tryz.func72 rfl fun Γ => ?_)
 simp only [Tryz.ntmps72, List.map_cons, List.map_nil, List.length_cons, List.length_nil, Nat.reduceAdd, Nat.reduceSub, List.replicate_succ, List.replicate_zero, List.cons_append, List.nil_append]
 refine Gx.a (by kernel_rfl) fun K hK => ?_
 simp only [XA]
 refine hK _ ?_
 refine Gx.a (by kernel_rfl) fun K hK => ?_
 simp only [XA, XB, Nat.reduceAdd, Nat.reduceLeDiff, ↓reduceIte]
 refine call_go (by kernel_rfl) rfl (qcompare_c _ _ _ _ _ hv0 hu0 fp fq) fun v1 V1 hV1 h1 => ?_
 obtain ⟨z, rfl, hz⟩ := h1
 simp only [XA, XB]
 refine hK _ (XWP.ret ?_)
 try simp only [thenX_ret, inBlockX_ret]
 refine ret_go _ rfl ?_
 show Value.bool _ = _
 congr 1
 rw [decide_eq_decide]; exact hz
theorem st_mat {P : Program} {t i : Nat} {s : XS} {ops : Array Oper} {rest : List Oper} {K : XS → Prop} {d : Option Tmp} {m n e : Value} {vs : List Value} (hs : shapeT P t = some (true, 3)) (hb : s.bx[i]? = some vs) (hl : vs.length = 3) (h0 : isOne m = true) (h1 : isOne n = true) (h2 : isOne e = true) (h : seqX P ops rest K (XS.put ⟨s.t, s.bx.set i [m, n, e], s.H, s.V⟩ d (.v undef))) : stX P ops rest K s d t (.p i 0) (.v (.agg #[m, n, e])) := by
 refine st_agg (cs := [m, n, e]) hs hb rfl ⟨rfl, by simp [h0, h1, h2], by omega, ?_⟩
 have : splice vs 0 [m, n, e] = [m, n, e] := by
  unfold splice; simp [hl]
 rw [this]; exact h






end Go.Proofs.YtobjjdnfgamgcaaGreat
end
section
namespace Go.Proofs.YtobjjdnfgamgcaaGreat
abbrev Grid := Nat → Nat → Rat
def gx (G : Grid) (wh : Nat → Int) (n c : Nat) : Rat := if 0 ≤ wh c then G (wh c).toNat n else 0
end Go.Proofs.YtobjjdnfgamgcaaGreat
end
section
namespace Go.Proofs.YtobjjdnfgamgcaaGreat
open Go Go.RowKit
attribute [local irreducible] XWP Spec SpecO XPub XCall seqX clX apX stX ldX iaX slX
theorem upd_off {H : Heap} {b k : Nat} {r : Option Row} (h : k ≠ b) : upd H b r k = H k := by unfold upd; rw [if_neg h]
theorem own_one {H : Heap} {e sz n : Nat} {v : Value} {xs : List Value} (h : Own H e sz v n xs) : isOne v = true := by
 rcases own_parts h with ⟨rfl, _, _⟩ | ⟨b, cap, rfl, _⟩ <;> rfl
def ge (B : Nat) : Nat → Nat
 | 0 => B
 | k + 1 => 4 * ge B k + 2



end Go.Proofs.YtobjjdnfgamgcaaGreat
end
section
namespace Go.Proofs.YtobjjdnfgamgcaaGreat

end Go.Proofs.YtobjjdnfgamgcaaGreat
end
section
namespace Go.Proofs.YtobjjdnfgamgcaaGreat
open Go Go.RowKit
attribute [local irreducible] XWP Spec SpecO XPub XCall seqX clX apX stX ldX iaX slX

end Go.Proofs.YtobjjdnfgamgcaaGreat
end
section
namespace Go.Proofs.YtobjjdnfgamgcaaGreat
theorem mk_eq {m : Nat} {f g : Nat → Rat} (h : ∀ j, j < m → f j = g j) : mk m f = mk m g := by
 unfold mk
 exact List.map_congr_left fun j hj => h j (List.mem_range.1 hj)
end Go.Proofs.YtobjjdnfgamgcaaGreat
end
section
namespace Go.Proofs.YtobjjdnfgamgcaaGreat
open Go Go.RowKit
attribute [local irreducible] XWP Spec SpecO XPub XCall seqX clX apX stX ldX iaX slX
theorem st_one {P : Program} {t i off : Nat} {s : XS} {ops : Array Oper} {rest : List Oper} {K : XS → Prop} {d : Option Tmp} {v : Value} {vs : List Value} (hs : shapeT P t = some (false, 1)) (hb : s.bx[i]? = some vs) (h1 : isOne v = true) (hl : off < vs.length) (h : seqX P ops rest K (XS.put ⟨s.t, s.bx.set i (vs.set off v), s.H, s.V⟩ d (.v undef))) : stX P ops rest K s d t (.p i off) (.v v) := by
 unfold stX loudX
 have e0 : XS.ev ⟨[.p i off, .v v], s.bx, s.H, s.V⟩ (.tmp 0) = .p i off := rfl
 have e1 : XS.ev ⟨[.p i off, .v v], s.bx, s.H, s.V⟩ (.tmp 1) = .v v := rfl
 simp only [e0, e1, hs, hb]
 have ec : v.cells = #[v] := by cases v <;> first | rfl | cases h1
 refine ⟨by rw [ec]; rfl, by rw [ec]; simp [h1], by omega, ?_⟩
 have : splice vs off v.cells.toList = vs.set off v := by
  rw [ec]
  unfold splice
  rw [List.set_eq_take_append_cons_drop, if_pos hl]
  simp
 rw [this]; exact h
theorem placesT_26 : placesT Tryz.prog 26 = some [(0, 1), (1, 1), (2, 1)] := by kernel_rfl
theorem bd_mtx2 {x y : Value} (hx : isOne x = true) (hy : isOne y = true) : BuildsTo Tryz.prog 26 #[(0, x), (1, y)] (.agg #[x, y, .slice none 0 0]) := by
 refine bd_run placesT_26 zeroT_26 ?_
 show Instr.fill _ _ [(0, x), (1, y)] = _
 rw [fill_one (off := 0) rfl hx (by simp), fill_one (off := 1) rfl hy (by simp)]; rfl
theorem bd_mtx0 : BuildsTo Tryz.prog 26 #[] (.agg #[.int .i64 0, .int .i64 0, .slice none 0 0]) := by
 refine bd_run placesT_26 zeroT_26 ?_
 rfl
theorem own_isOne {H : Heap} {e sz n : Nat} {v : Value} {xs : List Value} (h : Own H e sz v n xs) : isOne v = true := by
 obtain ⟨_, ⟨rfl, _⟩ | ⟨g, cap, rfl, _⟩⟩ := h <;> rfl
end Go.Proofs.YtobjjdnfgamgcaaGreat
end
