/- the exits of a chain step by step satisfy a recurrence no longer than its states, whose generating function at 1 is the chance of the exit (part 6 of 13) -/
import Derived.OrdersHeld
import Derived.Below
import Derived.Tactics
import Derived.KernelRfl
import Derived.RangeFuncCalls
import Derived.RangeFuncFrom
import Derived.RangeFuncLeaves
import Derived.OrdersIn
import Derived.Laws.AppendOwn
import Derived.Laws.MakeOwn
import Derived.Laws.CopyRow
import Derived.Laws.Cells
import Derived.Laws.World
import Derived.Laws.Alloc2
import Derived.Laws.NewBlocks
import Derived.Maps.AppendAt
import Derived.Test.YthoboehbadmlmaaGreatProg
import Init.Data.List.Lemmas
import Init.Omega
import Derived.Test.YthoboehbadmlmaaGreatCH5
set_option linter.unusedVariables false
set_option linter.unusedSimpArgs false
section
namespace Go.Proofs.YthoboehbadmlmaaGreat
open Go Go.RowKit
attribute [local irreducible] XWP Spec SpecO XPub XCall seqX clX apX stX ldX iaX slX
theorem cmp_less (a b : Nat) : decide (cmpI a b < 0) = decide (a < b) := by
 rw [decide_eq_decide]
 unfold cmpI
 split
 ·omega
 ·split <;> omega
theorem ng_ne {p q : Rat} (h : ¬ ng p = ng q) : ng q = !(ng p) := by cases hp : ng p <;> cases hq : ng q <;> simp_all
theorem qadd_c (V : View) (v u : Value) (p q : Rat) (hv : RatC V v p) (hu : RatC V u q) (fp : QF p) (fq : QF q) : Spec Tryz.prog 43 [v, u] V fun v' V' => RatC V' v' (p + q) := by
 have hv0 := hv
 have hu0 := hu
 obtain ⟨n1, d1, rfl, hn1, hd1⟩ := hv
 obtain ⟨n2, d2, rfl, hn2, hd2⟩ := hu
 obtain ⟨f1, f2, f3, f4, f5, f6⟩ := QF.two fp fq
 refine (Spec.enter Tryz.func43 rfl fun Γ => ?_)
 simp only [Tryz.ntmps43, List.map_cons, List.map_nil, List.length_cons, List.length_nil, Nat.reduceAdd, Nat.reduceSub, List.replicate_succ, List.replicate_zero, List.cons_append, List.nil_append]
 refine Gx.a (by kernel_rfl) fun K hK => ?_
 simp only [XA, XB, Nat.reduceAdd]
 refine hK _ ?_
 refine XWP.seq ?_
 refine XWP.block ?_
 refine Gx.a (by kernel_rfl) fun K hK => ?_
 simp only [XA, XB, Nat.reduceAdd, Nat.reduceLeDiff, ↓reduceIte]
 refine call_go (by kernel_rfl) rfl (qsign_c _ _ _ hv0) fun v1 V1 hV1 h1 => ?_
 subst h1
 by_cases hp : p = 0
 ·have b1 : decide (p = 0) = true := decide_eq_true hp
  simp only [XA, XB, sgI_zero, b1]
  refine hK _ ?_
  refine Gx.t rfl ?_
  refine Gx.a (by kernel_rfl) fun K hK => ?_
  simp only [XA, XB]
  refine call_go (by kernel_rfl) rfl (qmade_c _ _ _ _ _ _ (hn2.mono hV1) (hd2.mono hV1) fq.fits.1 fq.fits.2) fun v2 V2 hV2 h2 => ?_
  rw [rv_self] at h2
  obtain ⟨x, y, rfl, hx, hy⟩ := h2
  simp only [XA]
  refine st_rat rfl rfl rfl hx.one hy.one ?_
  simp only [XA]
  refine hK _ (XWP.ret ?_)
  try simp only [thenX_ret, inBlockX_ret]
  subst hp
  refine ret_rat1 rfl rfl rfl ?_
  rw [Rat.zero_add]
  exact ⟨_, _, rfl, hx, hy⟩
 have b1 : decide (p = 0) = false := decide_eq_false hp
 simp only [XA, XB, sgI_zero, b1]
 refine hK _ ?_
 refine Gx.f rfl ?_
 refine Gx.a (by kernel_rfl) fun K hK => ?_
 simp only [XA, XB, Nat.reduceAdd, Nat.reduceLeDiff, ↓reduceIte]
 refine call_go (by kernel_rfl) rfl (qsign_c _ _ _ (hu0.mono hV1)) fun v2 V2 hV2 h2 => ?_
 subst h2
 by_cases hq : q = 0
 ·have b2 : decide (q = 0) = true := decide_eq_true hq
  simp only [XA, XB, sgI_zero, b2]
  refine hK _ ?_
  refine Gx.t rfl ?_
  refine Gx.a (by kernel_rfl) fun K hK => ?_
  simp only [XA, XB]
  refine call_go (by kernel_rfl) rfl (qmade_c _ _ _ _ _ _ ((hn1.mono hV1).mono hV2) ((hd1.mono hV1).mono hV2) fp.fits.1 fp.fits.2) fun v3 V3 hV3 h3 => ?_
  rw [rv_self] at h3
  obtain ⟨x, y, rfl, hx, hy⟩ := h3
  simp only [XA]
  refine st_rat rfl rfl rfl hx.one hy.one ?_
  simp only [XA]
  refine hK _ (XWP.ret ?_)
  try simp only [thenX_ret, inBlockX_ret]
  subst hq
  refine ret_rat1 rfl rfl rfl ?_
  rw [Rat.add_zero]
  exact ⟨_, _, rfl, hx, hy⟩
 have b2 : decide (q = 0) = false := decide_eq_false hq
 simp only [XA, XB, sgI_zero, b2]
 refine hK _ ?_
 refine Gx.f rfl ?_
 refine XWP.skip ?_
 have hn1 := (hn1.mono hV1).mono hV2
 have hd1 := (hd1.mono hV1).mono hV2
 have hn2 := (hn2.mono hV1).mono hV2
 have hd2 := (hd2.mono hV1).mono hV2
 (refine XWP.drw [0, 1, 2, 3, 5, 6, 7, 8, 10, 11, 12, 13, 4, 9, 14, 15, 16, 17] (by kernel_rfl) (by kernel_rfl) (by kernel_rfl) fun K hK => ?_) <;> dsimp only [pickOps, List.getElem?_cons_zero, List.getElem?_cons_succ]
 simp only [XA, XB]
 refine call_go (by kernel_rfl) rfl (mul_c _ _ _ _ _ hn1 hd2 fp.fits.1 fq.fits.2) fun v3 V3 hV3 h3 => ?_
 simp only [XA]
 refine call_go (by kernel_rfl) rfl (mul_c _ _ _ _ _ (hn2.mono hV3) (hd1.mono hV3) fq.fits.1 fp.fits.2) fun v4 V4 hV4 h4 => ?_
 simp only [XA]
 refine call_go (by kernel_rfl) rfl (mul_c _ _ _ _ _ ((hd1.mono hV3).mono hV4) ((hd2.mono hV3).mono hV4) fp.fits.2 fq.fits.2) fun v5 V5 hV5 h5 => ?_
 have h3 := (h3.mono hV4).mono hV5
 have h4 := h4.mono hV5
 simp only [XA]
 refine hK _ ?_
 by_cases he : ng p = ng q
 ·have b3 : (ng p == ng q) = true := by rw [he]; exact beq_self_eq_true _
  refine XWP.seq ?_
  refine Gx.a (by kernel_rfl) fun K hK => ?_
  simp only [XA, XB, b3]
  refine hK _ ?_
  refine Gx.t rfl ?_
  (refine XWP.drw [0, 1, 2, 3, 5, 4, 6, 7] (by kernel_rfl) (by kernel_rfl) (by kernel_rfl) fun K hK => ?_) <;> dsimp only [pickOps, List.getElem?_cons_zero, List.getElem?_cons_succ]
  simp only [XA, XB]
  refine call_go (by kernel_rfl) rfl (add_c _ _ _ _ _ h3 h4 f2 f5) fun v6 V6 hV6 h6 => ?_
  simp only [XA]
  refine call_go (by kernel_rfl) rfl (qmade_c _ _ _ _ _ _ h6 (h5.mono hV6) f6 f4) fun v7 V7 hV7 h7 => ?_
  rw [← rv_add _ p.den_nz q.den_nz, rv_self, he, rv_self] at h7
  obtain ⟨x, y, rfl, hx, hy⟩ := h7
  simp only [XA]
  refine st_rat rfl rfl rfl hx.one hy.one ?_
  simp only [XA]
  refine hK _ (XWP.ret ?_)
  try simp only [thenX_ret, inBlockX_ret]
  exact ret_rat1 rfl rfl rfl ⟨_, _, rfl, hx, hy⟩
 have b3 : (ng p == ng q) = false := by simpa using he
 refine XWP.seq ?_
 refine Gx.a (by kernel_rfl) fun K hK => ?_
 simp only [XA, XB, b3]
 refine hK _ ?_
 refine Gx.f rfl ?_
 refine XWP.skip ?_
 refine XWP.seq ?_
 refine Gx.a (by kernel_rfl) fun K hK => ?_
 simp only [XA]
 refine call_go (by kernel_rfl) rfl (compare_c _ _ _ _ _ h3 h4) fun v6 V6 hV6 h6 => ?_
 subst h6
 have h3 := h3.mono hV6
 have h4 := h4.mono hV6
 have h5 := h5.mono hV6
 by_cases hlt : p.num.natAbs * q.den < q.num.natAbs * p.den
 ·have b4 : decide (p.num.natAbs * q.den < q.num.natAbs * p.den) = true := decide_eq_true (by omega)
  simp only [XA, XB, cmp_less, b4]
  refine hK _ ?_
  refine Gx.t rfl ?_
  refine Gx.c (by kernel_rfl) fun K hK => ?_
  simp only [XA, XB, Nat.reduceAdd, Nat.reduceLeDiff, ↓reduceIte]
  refine st_rat rfl rfl rfl hn2.one hd2.one ?_
  simp only [XA]
  refine hK _ ?_
  refine Gx.a (by kernel_rfl) fun K hK => ?_
  simp only [XA]
  refine call_go (by kernel_rfl) rfl (sub_c _ _ _ _ _ h4 h3 f5) fun v7 V7 hV7 h7 => ?_
  obtain ⟨r, rfl, hr⟩ := h7.2 (Nat.le_of_lt hlt)
  simp only [XA]
  refine hK _ ?_
  refine Gx.a (by kernel_rfl) fun K hK => ?_
  simp only [XA, XB]
  refine call_go (by kernel_rfl) rfl (qmade_c _ _ _ _ _ _ hr (h5.mono hV7) (f5.mono (Nat.sub_le _ _)) f4) fun v8 V8 hV8 h8 => ?_
  have e := rv_sub (ng q) (a := q.num.natAbs) (c := p.num.natAbs) q.den_nz p.den_nz (Nat.le_of_lt hlt)
  rw [rv_self, ← ng_ne (fun e => he e.symm), rv_self, Nat.mul_comm q.den p.den] at e
  rw [← e, Rat.add_comm] at h8
  obtain ⟨x, y, rfl, hx, hy⟩ := h8
  simp only [XA]
  refine st_rat rfl rfl rfl hx.one hy.one ?_
  simp only [XA]
  refine hK _ (XWP.ret ?_)
  try simp only [thenX_ret, inBlockX_ret]
  exact ret_rat1 rfl rfl rfl ⟨_, _, rfl, hx, hy⟩
 ·have b4 : decide (p.num.natAbs * q.den < q.num.natAbs * p.den) = false := decide_eq_false (by omega)
  simp only [XA, XB, cmp_less, b4]
  refine hK _ ?_
  refine Gx.f rfl ?_
  refine XWP.skip ?_
  refine Gx.a (by kernel_rfl) fun K hK => ?_
  simp only [XA]
  refine call_go (by kernel_rfl) rfl (sub_c _ _ _ _ _ h3 h4 f2) fun v7 V7 hV7 h7 => ?_
  obtain ⟨r, rfl, hr⟩ := h7.2 (by omega)
  simp only [XA]
  refine hK _ ?_
  refine Gx.a (by kernel_rfl) fun K hK => ?_
  simp only [XA, XB]
  refine call_go (by kernel_rfl) rfl (qmade_c _ _ _ _ _ _ hr (h5.mono hV7) (f2.mono (Nat.sub_le _ _)) f4) fun v8 V8 hV8 h8 => ?_
  have e := rv_sub (ng p) (a := p.num.natAbs) (c := q.num.natAbs) p.den_nz q.den_nz (by omega)
  rw [rv_self, ← ng_ne he, rv_self] at e
  rw [← e] at h8
  obtain ⟨x, y, rfl, hx, hy⟩ := h8
  simp only [XA]
  refine st_rat rfl rfl rfl hx.one hy.one ?_
  simp only [XA]
  refine hK _ (XWP.ret ?_)
  try simp only [thenX_ret, inBlockX_ret]
  exact ret_rat1 rfl rfl rfl ⟨_, _, rfl, hx, hy⟩
theorem qsub_c (V : View) (v u : Value) (p q : Rat) (hv : RatC V v p) (hu : RatC V u q) (fp : QF p) (fq : QF q) : Spec Tryz.prog 81 [v, u] V fun v' V' => RatC V' v' (p - q) := by
 have hv0 := hv
 have hu0 := hu
 obtain ⟨n1, d1, rfl, hn1, hd1⟩ := hv
 obtain ⟨n2, d2, rfl, hn2, hd2⟩ := hu
 refine (Spec.enter Tryz.func81 rfl fun Γ => ?_)
 simp only [Tryz.ntmps81, List.map_cons, List.map_nil, List.length_cons, List.length_nil, Nat.reduceAdd, Nat.reduceSub, List.replicate_succ, List.replicate_zero, List.cons_append, List.nil_append]
 refine Gx.a (by kernel_rfl) fun K hK => ?_
 simp only [XA, XB, Nat.reduceAdd]
 refine hK _ ?_
 (refine XWP.drw [0, 1, 2, 3, 4] (by kernel_rfl) (by kernel_rfl) (by kernel_rfl) fun K hK => ?_) <;> dsimp only [pickOps, List.getElem?_cons_zero, List.getElem?_cons_succ]
 simp only [XA, XB, Nat.reduceAdd, Nat.reduceLeDiff, ↓reduceIte]
 refine call_go (by kernel_rfl) rfl (qneg_c _ _ _ hu0 fq) fun v1 V1 hV1 h1 => ?_
 simp only [XA]
 refine call_go (by kernel_rfl) rfl (qadd_c _ _ _ _ _ (hv0.mono hV1) h1 fp fq.neg) fun v2 V2 hV2 h2 => ?_
 rw [← Rat.sub_eq_add_neg] at h2
 obtain ⟨x, y, rfl, hx, hy⟩ := h2
 simp only [XA]
 refine st_rat rfl rfl rfl hx.one hy.one ?_
 simp only [XA]
 refine hK _ (XWP.ret ?_)
 try simp only [thenX_ret, inBlockX_ret]
 exact ret_rat1 rfl rfl rfl ⟨_, _, rfl, hx, hy⟩
def rawOk (m : Bool) (nd dd : List Nat) : Bool := rightB nd && rightB dd && !decide (dd.length = 0) && !(decide (nd.length = 0) && m) && decide (Nat.gcd (nv nd) (nv dd) = 1)
theorem right_dg {ds : List Nat} (h : Dig ds) (hr : rightB ds = true) : ds = dg (nv ds) := by
 refine dg_unique ds h fun d hd => ?_
 unfold rightB at hr
 rw [hd] at hr
 simpa using hr
theorem NatAt.right {V : View} {v : Value} {ds : List Nat} (h : NatAt V v ds) (hr : rightB ds = true) : NatC V v (nv ds) := by
 unfold NatC; rw [← right_dg h.dig hr]; exact h
theorem nv_eq_zero {ds : List Nat} (h : Dig ds) (hr : rightB ds = true) : nv ds = 0 ↔ ds.length = 0 := by
 constructor
 ·intro e; rw [right_dg h hr, e, dg_zero]; rfl
 ·intro e; rw [List.length_eq_zero_iff.1 e]; rfl
theorem Fit.nv {ds : List Nat} (h : Dig ds) (hl : ds.length ≤ 4398046511104) : Fit (nv ds) := Nat.le_trans (sz_le (nv_lt h)) hl
theorem RawAt.rat {V : View} {v : Value} {m : Bool} {nd dd : List Nat} (h : RawAt V v m nd dd) (hk : rawOk m nd dd = true) : RatC V v (Go.Proofs.YthoboehbadmlmaaGreat.rv m (nv nd) (nv dd)) := by
 obtain ⟨n, d, rfl, hn, hd⟩ := h
 unfold rawOk at hk
 simp only [Bool.and_eq_true, Bool.not_eq_true', decide_eq_false_iff_not, decide_eq_true_eq] at hk
 obtain ⟨⟨⟨⟨h1, h2⟩, h3⟩, h4⟩, h5⟩ := hk
 have hb : nv dd ≠ 0 := fun e => h3 ((nv_eq_zero hd.dig h2).1 e)
 refine RatC.rv hb ?_ ?_ ?_
 ·rw [h5, Nat.div_one]; exact hn.right h1
 ·rw [h5, Nat.div_one]; exact hd.right h2
 ·rw [h5, Nat.div_one]
  have := nv_eq_zero hn.dig h1
  by_cases e : nv nd = 0
  ·have e2 := this.1 e
   cases m
   ·simp
   ·simp [e2] at h4
  ·simp [e]
theorem qright_c (V : View) (v : Value) (m : Bool) (nd dd : List Nat) (h : RawAt V v m nd dd) (l1 : nd.length ≤ 4398046511104) (l2 : dd.length ≤ 4398046511104) : Spec Tryz.prog 59 [v] V fun v' V' => v' = .bool (rawOk m nd dd) := by
 obtain ⟨n, d, rfl, hn, hd⟩ := h
 obtain ⟨A1, c1, rfl, _, _⟩ := hn.form
 obtain ⟨A2, c2, rfl, _, _⟩ := hd.form
 refine (Spec.enter Tryz.func59 rfl fun Γ => ?_)
 simp only [Tryz.ntmps59, List.map_cons, List.map_nil, List.length_cons, List.length_nil, Nat.reduceAdd, Nat.reduceSub, List.replicate_succ, List.replicate_zero, List.cons_append, List.nil_append]
 refine Gx.a (by kernel_rfl) fun K hK => ?_
 simp only [XA]
 refine hK _ ?_
 clear hK
 have e4 : decide ((nd.length : Int) = 0) = decide (nd.length = 0) := by rw [decide_eq_decide]; omega
 refine XWP.cut (fun s => ∃ V2, StIs (fun Z => [Z 0, .p 0 0, Z 2,Z 3,Z 4,Z 5,Z 6,Z 7,Z 8,Z 9,Z 10,Z 11,Z 12,Z 13,Z 14,Z 15,Z 16,Z 17,Z 18,Z 19,Z 20,Z 21,Z 22,Z 23,Z 24,Z 25,Z 26,Z 27,Z 28,Z 29,Z 30,Z 31,Z 32,Z 33,Z 34,Z 35,Z 36,Z 37,Z 38,Z 39,Z 40,Z 41,Z 42,Z 43,Z 44]) [[.bool m, .slice A1 nd.length c1, .slice A2 dd.length c2]] (fun _ => none) V2 s ∧ V.le V2 ∧ rightB nd = true ∧ rightB dd = true ∧ dd.length ≠ 0 ∧ (decide (nd.length = 0) && m) = false) ?_ ?_
 ·refine Gx.a (by kernel_rfl) fun K hK => ?_
  simp only [XA, XB]
  refine call_go (by kernel_rfl) rfl (right_any _ _ _ hn) fun v1 V1 hV1 h1 => ?_
  subst h1
  cases r1 : rightB nd
  ·simp only [XA, XB, gateX, ↓reduceIte]
   refine hK _ ?_
   refine Gx.t rfl ?_
   refine Gx.a (by kernel_rfl) fun K hK => ?_
   simp only [XA]
   refine hK _ (XWP.ret ?_)
   try simp only [thenX_ret, inBlockX_ret]
   refine ret_go _ rfl ?_
   simp [rawOk, r1]; rfl
  simp only [XA, XB, gateX, ↓reduceIte, beq_self_eq_true]
  refine call_go (by kernel_rfl) rfl (right_any _ _ _ (hd.mono hV1)) fun v2 V2 hV2 h2 => ?_
  subst h2
  cases r2 : rightB dd
  ·simp only [XA, XB, gateX, ↓reduceIte, beq_self_eq_true]
   refine hK _ ?_
   refine Gx.t rfl ?_
   refine Gx.a (by kernel_rfl) fun K hK => ?_
   simp only [XA]
   refine hK _ (XWP.ret ?_)
   try simp only [thenX_ret, inBlockX_ret]
   refine ret_go _ rfl ?_
   simp [rawOk, r2]; rfl
  by_cases r3 : dd.length = 0
  ·have b3 : decide ((dd.length : Int) = 0) = true := decide_eq_true (by omega)
   simp only [XA, XB, gateX, ↓reduceIte, beq_self_eq_true, b3]
   refine hK _ ?_
   refine Gx.t rfl ?_
   refine Gx.a (by kernel_rfl) fun K hK => ?_
   simp only [XA]
   refine hK _ (XWP.ret ?_)
   try simp only [thenX_ret, inBlockX_ret]
   refine ret_go _ rfl ?_
   simp [rawOk, r3]; rfl
  have b3 : decide ((dd.length : Int) = 0) = false := decide_eq_false (by omega)
  cases b4 : decide (nd.length = 0)
  ·simp only [XA, XB, gateX, ↓reduceIte, beq_self_eq_true, b3, e4, b4]
   refine hK _ ?_
   refine Gx.f rfl ?_
   refine XWP.skip ?_
   exact ⟨V2, StIs.of (by exact rfl), View.le_trans hV1 hV2, r1, r2, r3, by rw [b4]; rfl⟩
  ·cases m
   ·simp only [XA, XB, gateX, ↓reduceIte, beq_self_eq_true, b3, e4, b4]
    refine hK _ ?_
    refine Gx.f rfl ?_
    refine XWP.skip ?_
    exact ⟨V2, StIs.of (by exact rfl), View.le_trans hV1 hV2, r1, r2, r3, by simp⟩
   ·simp only [XA, XB, gateX, ↓reduceIte, beq_self_eq_true, b3, e4, b4]
    refine hK _ ?_
    refine Gx.t rfl ?_
    refine Gx.a (by kernel_rfl) fun K hK => ?_
    simp only [XA]
    refine hK _ (XWP.ret ?_)
    try simp only [thenX_ret, inBlockX_ret]
    refine ret_go _ rfl ?_
    show Value.bool _ = _
    congr 1
    unfold rawOk
    rw [b4]; simp
 ·rintro s ⟨V2, hs, hV2, r1, r2, r3, r4⟩
  obtain ⟨u, rfl⟩ := hs.out
  try dsimp only
  have fin : rawOk m nd dd = decide (Nat.gcd (nv nd) (nv dd) = 1) := by
   unfold rawOk
   rw [r1, r2, r4, decide_eq_false r3]; rfl
  have k1 := (hn.right r1).mono hV2
  have k2 := (hd.right r2).mono hV2
  have f1 := Fit.nv hn.dig l1
  have f2 := Fit.nv hd.dig l2
  rw [fin]
  refine Gx.a (by kernel_rfl) fun K hK => ?_
  simp only [XA, XB]
  refine call_go (by kernel_rfl) rfl (gcd_c _ _ _ _ _ k1 k2 f1 f2) fun v3 V3 hV3 h3 => ?_
  simp only [XA]
  refine call_go (by kernel_rfl) rfl (small_c _ _ _ h3) fun v4 V4 hV4 h4 => ?_
  by_cases hs : Nat.gcd (nv nd) (nv dd) < 18446744073709551616
  ·rw [if_pos hs] at h4
   subst h4
   have e5 : decide (((Nat.gcd (nv nd) (nv dd) : Nat) : Int) = 1) = decide (Nat.gcd (nv nd) (nv dd) = 1) := by rw [decide_eq_decide]; omega
   simp only [XA]
   refine hK _ ?_
   refine Gx.a (by kernel_rfl) fun K hK => ?_
   simp only [XA, XB, gateX, ↓reduceIte, beq_self_eq_true, e5]
   refine hK _ (XWP.ret ?_)
   try simp only [thenX_ret, inBlockX_ret]
   refine ret_go _ rfl ?_
   rfl
  ·rw [if_neg hs] at h4
   subst h4
   simp only [XA]
   refine hK _ ?_
   refine Gx.a (by kernel_rfl) fun K hK => ?_
   simp only [XA, gateX, ↓reduceIte]
   refine hK _ (XWP.ret ?_)
   try simp only [thenX_ret, inBlockX_ret]
   refine ret_go _ rfl ?_
   rw [decide_eq_false (by omega)]; rfl
theorem Fit1.of_two {n B : Nat} (h : n ≤ 2 ^ B) (hB : B ≤ 70368744177664) : Fit1 n := by
 have := sz_two h
 unfold Fit1; omega
theorem Fit1.mono {a b : Nat} (h : Fit1 b) (hl : a ≤ b) : Fit1 a := Nat.le_trans (sz_mono hl) h
theorem QF.fits1 {q : Rat} (h : QF q) : Fit1 q.num.natAbs ∧ Fit1 q.den := by
 obtain ⟨B, hB, h1, h2⟩ := h
 exact ⟨Fit1.of_two h1 (by omega), Fit1.of_two h2 (by omega)⟩
theorem QF.two1 {p q : Rat} (hp : QF p) (hq : QF q) : Fit1 (p.num.natAbs * q.num.natAbs) ∧ Fit1 (p.num.natAbs * q.den) ∧ Fit1 (p.den * q.num.natAbs) ∧ Fit1 (p.den * q.den) ∧ Fit1 (q.num.natAbs * p.den) ∧ Fit1 (p.num.natAbs * q.den + q.num.natAbs * p.den) := by
 obtain ⟨A, hA, a1, a2⟩ := hp
 obtain ⟨B, hB, b1, b2⟩ := hq
 have h1 := two_mul_le a1 b2
 have h2 := two_mul_le b1 a2
 rw [Nat.add_comm B A] at h2
 exact ⟨Fit1.of_two (two_mul_le a1 b1) (by omega), Fit1.of_two h1 (by omega), Fit1.of_two (two_mul_le a2 b1) (by omega), Fit1.of_two (two_mul_le a2 b2) (by omega), Fit1.of_two h2 (by omega), Fit1.of_two (two_add_le h1 h2) (by omega)⟩
def RatV (V : View) (v : Value) (q : Rat) : Prop := ∃ (m : Bool) (a b : Nat), TripC V v m a b ∧ Fit1 a ∧ Fit1 b ∧ q = rv m a b
theorem RatV.mono {V V' : View} {v : Value} {q : Rat} (h : RatV V v q) (hV : V.le V') : RatV V' v q := by
 obtain ⟨m, a, b, h1, h2⟩ := h; exact ⟨m, a, b, h1.mono hV, h2⟩
theorem RatC.toV {V : View} {v : Value} {q : Rat} (h : RatC V v q) (f : QF q) : RatV V v q := ⟨_, _, _, h, f.fits1.1, f.fits1.2, (rv_self q).symm⟩
theorem RatV.zero (V : View) : RatV V (.agg #[.bool false, .slice none 0 0, .slice none 0 0]) 0 := ⟨false, 0, 0, ⟨_, _, rfl, NatC.zero V, NatC.zero V⟩, by unfold Fit1; rw [sz_zero]; omega, by unfold Fit1; rw [sz_zero]; omega, by rw [rv_none]⟩
theorem pof_c (V : View) (m : Bool) (n d : Value) (a b : Nat) (hn : NatC V n a) (hd : NatC V d b) (fa : Fit1 a) (fb : Fit1 b) : Spec Tryz.prog 116 [.bool m, n, d] V fun v' V' => (b = 0 → v' = .tuple #[.agg #[.bool false, .slice none 0 0, .slice none 0 0], .int .i64 31]) ∧ (b ≠ 0 → ∃ r, v' = .tuple #[r, .int .i64 0] ∧ RatC V' r (rv m a b)) := by
 refine (Spec.enter Tryz.func116 rfl fun Γ => ?_)
 simp only [Tryz.ntmps116, List.map_cons, List.map_nil, List.length_cons, List.length_nil, Nat.reduceAdd, Nat.reduceSub, List.replicate_succ, List.replicate_zero, List.cons_append, List.nil_append]
 refine Gx.a (by kernel_rfl) fun K hK => ?_
 simp only [XA, XB]
 refine hK _ ?_
 refine XWP.seq ?_
 refine Gx.a (by kernel_rfl) fun K hK => ?_
 simp only [XA]
 refine call_go (by kernel_rfl) rfl (rbits_c _ _ _ hd fb.fit) fun v1 V1 hV1 h1 => ?_
 obtain ⟨r, rfl, hr⟩ := h1
 have hn := hn.mono hV1
 have hd := hd.mono hV1
 by_cases hb : b = 0
 ·have b1 : decide ((r : Int) = 0) = true := decide_eq_true (by omega)
  simp only [XA, XB, b1]
  refine hK _ ?_
  refine Gx.t rfl ?_
  refine Gx.a (by kernel_rfl) fun K hK => ?_
  refine bd_go (by kernel_rfl) #[] (by simp) bd_rat0 ?_
  simp only [XA]
  refine st_rat rfl rfl rfl rfl rfl ?_
  simp only [XA]
  refine hK _ (XWP.ret ?_)
  try simp only [thenX_ret, inBlockX_ret]
  refine ret_rat2 rfl rfl rfl rfl ?_
  exact ⟨fun _ => rfl, fun h => absurd hb h⟩
 ·have b1 : decide ((r : Int) = 0) = false := decide_eq_false (by omega)
  simp only [XA, XB, b1]
  refine hK _ ?_
  refine Gx.f rfl ?_
  refine XWP.skip ?_
  refine Gx.a (by kernel_rfl) fun K hK => ?_
  simp only [XA]
  refine call_go (by kernel_rfl) rfl (rgcd_c _ _ _ _ _ hn hd fa.fit fb.fit) fun v2 V2 hV2 h1 => ?_
  have hn := hn.mono hV2
  have hd := hd.mono hV2
  simp only [XA]
  refine hK _ ?_
  have hg : Nat.gcd a b ≠ 0 := fun e => hb (Nat.gcd_eq_zero_iff.1 e).2
  have fg : Fit (Nat.gcd a b) := fb.fit.mono (Nat.gcd_le_right _ (by omega))
  refine Gx.a (by kernel_rfl) fun K hK => ?_
  simp only [XA]
  refine call_go (by kernel_rfl) rfl (rdiv_c _ _ _ _ _ hn h1 fa fg) fun v3 V3 hV3 h3 => ?_
  obtain ⟨q3, r3, rfl, hq3, hr3⟩ := h3.2 hg
  have hd := hd.mono hV3
  have h1 := h1.mono hV3
  simp only [XA]
  refine hK _ ?_
  refine Gx.a (by kernel_rfl) fun K hK => ?_
  simp only [XA]
  refine call_go (by kernel_rfl) rfl (rdiv_c _ _ _ _ _ hd h1 fb fg) fun v4 V4 hV4 h4 => ?_
  obtain ⟨q4, r4, rfl, hq4, hr4⟩ := h4.2 hg
  have hq3 := hq3.mono hV4
  simp only [XA]
  refine hK _ ?_
  obtain ⟨A3, c3, rfl, _, _⟩ := NatAt.form hq3
  obtain ⟨A4, c4, rfl, _, _⟩ := NatAt.form hq4
  refine Gx.a (by kernel_rfl) fun K hK => ?_
  cases m
  ·simp only [XA, gateX, ↓reduceIte]
   refine bd_go (by kernel_rfl) #[(0, .bool false), (1, .slice A3 (dg (a / Nat.gcd a b)).length c3), (2, .slice A4 (dg (b / Nat.gcd a b)).length c4)] (by simp [ev_tmp, SV.val]) (bd_rat3 rfl rfl rfl) ?_
   simp only [XA]
   refine st_rat rfl rfl rfl rfl rfl ?_
   simp only [XA]
   refine hK _ (XWP.ret ?_)
   try simp only [thenX_ret, inBlockX_ret]
   refine ret_rat2 rfl rfl rfl rfl ?_
   exact ⟨fun h => absurd h hb, fun _ => ⟨_, rfl, RatC.rv hb hq3 hq4 rfl⟩⟩
  ·simp only [XA, XB, gateX, ↓reduceIte, beq_self_eq_true, len_pos]
   refine bd_go (by kernel_rfl) #[(0, .bool (decide (a / Nat.gcd a b ≠ 0))), (1, .slice A3 (dg (a / Nat.gcd a b)).length c3), (2, .slice A4 (dg (b / Nat.gcd a b)).length c4)] (by simp [ev_tmp, SV.val]) (bd_rat3 rfl rfl rfl) ?_
   simp only [XA]
   refine st_rat rfl rfl rfl rfl rfl ?_
   simp only [XA]
   refine hK _ (XWP.ret ?_)
   try simp only [thenX_ret, inBlockX_ret]
   refine ret_rat2 rfl rfl rfl rfl ?_
   exact ⟨fun h => absurd h hb, fun _ => ⟨_, rfl, RatC.rv hb hq3 hq4 (by simp)⟩⟩
theorem pzero_c (V : View) : Spec Tryz.prog 20 [] V fun v' V' => RatC V' v' 0 := by
 refine (Spec.enter Tryz.func20 rfl fun Γ => ?_)
 simp only [Tryz.ntmps20, List.map_nil, List.length_nil, Nat.reduceSub, List.replicate_succ, List.replicate_zero, List.nil_append]
 refine Gx.a (by kernel_rfl) fun K hK => ?_
 simp only [XA, XB]
 refine hK _ ?_
 refine Gx.a (by kernel_rfl) fun K hK => ?_
 simp only [XA]
 refine call_go (by kernel_rfl) rfl (rof_c _ 1 (by omega)) fun v1 V1 hV1 h1 => ?_
 simp only [XA]
 refine bd_go (by kernel_rfl) #[(2, v1)] (by simp [ev_tmp, SV.val]) (bd_rat1 h1.one) ?_
 simp only [XA]
 refine st_rat rfl rfl rfl rfl h1.one ?_
 simp only [XA]
 refine hK _ (XWP.ret ?_)
 try simp only [thenX_ret, inBlockX_ret]
 refine ret_rat1 rfl rfl rfl ?_
 exact ⟨_, _, rfl, NatC.zero _, h1⟩
theorem pone_c (V : View) : Spec Tryz.prog 22 [] V fun v' V' => RatC V' v' 1 := by
 refine (Spec.enter Tryz.func22 rfl fun Γ => ?_)
 simp only [Tryz.ntmps22, List.map_nil, List.length_nil, Nat.reduceSub, List.replicate_succ, List.replicate_zero, List.nil_append]
 refine Gx.a (by kernel_rfl) fun K hK => ?_
 simp only [XA, XB]
 refine hK _ ?_
 refine Gx.a (by kernel_rfl) fun K hK => ?_
 simp only [XA]
 refine call_go (by kernel_rfl) rfl (rof_c _ 1 (by omega)) fun v1 V1 hV1 h1 => ?_
 simp only [XA]
 refine call_go (by kernel_rfl) rfl (rof_c _ 1 (by omega)) fun v2 V2 hV2 h2 => ?_
 have h1 := h1.mono hV2
 simp only [XA]
 refine bd_go (by kernel_rfl) #[(1, v1), (2, v2)] (by simp [ev_tmp, SV.val]) (bd_rat2 h1.one h2.one) ?_
 simp only [XA]
 refine st_rat rfl rfl rfl h1.one h2.one ?_
 simp only [XA]
 refine hK _ (XWP.ret ?_)
 try simp only [thenX_ret, inBlockX_ret]
 refine ret_rat1 rfl rfl rfl ?_
 exact ⟨_, _, rfl, h1, h2⟩
theorem pvalid_c (V : View) (v : Value) (q : Rat) (h : RatV V v q) : Spec Tryz.prog 58 [v] V fun v' V' => RatC V' v' q := by
 obtain ⟨m, a, b, ⟨n, d, rfl, hn, hd⟩, fa, fb, rfl⟩ := h
 refine (Spec.enter Tryz.func58 rfl fun Γ => ?_)
 simp only [Tryz.ntmps58, List.map_cons, List.map_nil, List.length_cons, List.length_nil, Nat.reduceAdd, Nat.reduceSub, List.replicate_succ, List.replicate_zero, List.cons_append, List.nil_append]
 refine Gx.a (by kernel_rfl) fun K hK => ?_
 simp only [XA, XB]
 refine hK _ ?_
 refine Gx.a (by kernel_rfl) fun K hK => ?_
 simp only [XA, XB]
 refine call_go (by kernel_rfl) rfl (pof_c _ _ _ _ _ _ hn hd fa fb) fun v1 V1 hV1 h1 => ?_
 by_cases hb : b = 0
 ·obtain rfl := h1.1 hb
  subst hb
  simp only [XA, XB, Nat.reduceAdd]
  refine st_rat rfl rfl rfl rfl rfl ?_
  simp only [XA]
  refine hK _ ?_
  have b1 : decide ((31 : Int) = 0) = false := decide_eq_false (by omega)
  refine XWP.seq ?_
  refine Gx.a (by kernel_rfl) fun K hK => ?_
  simp only [XA, XB, b1]
  refine hK _ ?_
  refine Gx.t rfl ?_
  refine Gx.a (by kernel_rfl) fun K hK => ?_
  simp only [XA]
  refine call_go (by kernel_rfl) rfl (pzero_c _) fun v2 V2 hV2 h2 => ?_
  obtain ⟨x, y, rfl, hx, hy⟩ := h2
  simp only [XA]
  refine st_rat rfl rfl rfl hx.one hy.one ?_
  simp only [XA]
  refine hK _ (XWP.ret ?_)
  try simp only [thenX_ret, inBlockX_ret]
  refine ret_rat1 rfl rfl rfl ?_
  rw [rv_none]
  exact ⟨_, _, rfl, hx, hy⟩
 ·obtain ⟨r, rfl, x, y, rfl, hx, hy⟩ := h1.2 hb
  simp only [XA, XB, Nat.reduceAdd]
  refine st_rat rfl rfl rfl hx.one hy.one ?_
  simp only [XA]
  refine hK _ ?_
  have b1 : decide ((0 : Int) = 0) = true := decide_eq_true (by omega)
  refine XWP.seq ?_
  refine Gx.a (by kernel_rfl) fun K hK => ?_
  simp only [XA, XB]
  refine hK _ ?_
  refine Gx.f rfl ?_
  refine XWP.skip ?_
  refine Gx.a (by kernel_rfl) fun K hK => ?_
  simp only [XA, XB, Nat.reduceAdd, Nat.reduceLeDiff, ↓reduceIte]
  refine st_rat rfl rfl rfl hx.one hy.one ?_
  simp only [XA]
  refine hK _ (XWP.ret ?_)
  try simp only [thenX_ret, inBlockX_ret]
  refine ret_rat1 rfl rfl rfl ?_
  exact ⟨_, _, rfl, hx, hy⟩
theorem psign_c (V : View) (v : Value) (q : Rat) (h : RatV V v q) : Spec Tryz.prog 36 [v] V fun v' V' => v' = .int .i64 (sgI q) := by
 have h0 := h
 obtain ⟨m, a, b, ⟨n, d, rfl, hn, hd⟩, fa, fb, hq0⟩ := h
 refine (Spec.enter Tryz.func36 rfl fun Γ => ?_)
 simp only [Tryz.ntmps36, List.map_cons, List.map_nil, List.length_cons, List.length_nil, Nat.reduceAdd, Nat.reduceSub, List.replicate_succ, List.replicate_zero, List.cons_append, List.nil_append]
 refine Gx.a (by kernel_rfl) fun K hK => ?_
 simp only [XA]
 refine hK _ ?_
 refine Gx.a (by kernel_rfl) fun K hK => ?_
 simp only [XA, XB, Nat.reduceAdd, Nat.reduceLeDiff, ↓reduceIte]
 refine call_go (by kernel_rfl) rfl (pvalid_c _ _ _ h0) fun v1 V1 hV1 h1 => ?_
 obtain ⟨x, y, rfl, hx, hy⟩ := h1
 simp only [XA]
 refine st_rat rfl rfl rfl hx.one hy.one ?_
 simp only [XA]
 refine hK _ ?_
 have hq := rat_zero_iff q
 obtain ⟨A, c, rfl, _, _⟩ := NatAt.form hx
 refine XWP.seq ?_
 refine XWP.block ?_
 by_cases h0 : q.num.natAbs = 0
 ·have b1 : decide (q.num.natAbs = 0) = true := decide_eq_true (by omega)
  refine Gx.a (by kernel_rfl) fun K hK => ?_
  simp only [XA, XB, len_zero, b1]
  refine hK _ ?_
  refine Gx.t rfl ?_
  refine Gx.a (by kernel_rfl) fun K hK => ?_
  simp only [XA]
  refine hK _ (XWP.ret ?_)
  try simp only [thenX_ret, inBlockX_ret]
  refine ret_go _ rfl ?_
  unfold sgI; rw [if_pos (hq.2 h0)]; rfl
 ·have b1 : decide (q.num.natAbs = 0) = false := decide_eq_false (by omega)
  refine Gx.a (by kernel_rfl) fun K hK => ?_
  simp only [XA, XB, len_zero, b1]
  refine hK _ ?_
  refine Gx.f rfl ?_
  refine Gx.a (by kernel_rfl) fun K hK => ?_
  cases hng : ng q
  ·simp only [XA, XB]
   refine hK _ ?_
   refine Gx.f rfl ?_
   refine XWP.skip ?_
   refine Gx.a (by kernel_rfl) fun K hK => ?_
   simp only [XA]
   refine hK _ (XWP.ret ?_)
   try simp only [thenX_ret, inBlockX_ret]
   refine ret_go _ rfl ?_
   unfold sgI; rw [if_neg (fun e => h0 (hq.1 e)), hng]; rfl
  ·simp only [XA, XB]
   refine hK _ ?_
   refine Gx.t rfl ?_
   refine Gx.a (by kernel_rfl) fun K hK => ?_
   simp only [XA]
   refine hK _ (XWP.ret ?_)
   try simp only [thenX_ret, inBlockX_ret]
   refine ret_go _ rfl ?_
   unfold sgI; rw [if_neg (fun e => h0 (hq.1 e)), hng]; rfl
theorem st_fst {ops : Array Oper} {rest : List Oper} {K : XS → Prop} {s : XS} {d : Option Tmp} {i : Nat} {m m' : Bool} {n e : Value} (hb : s.bx[i]? = some [.bool m, n, e]) (h : seqX Tryz.prog ops rest K (XS.put ⟨s.t, s.bx.set i [.bool m', n, e], s.H, s.V⟩ d (.v undef))) : stX Tryz.prog ops rest K s d 4 (.p i 0) (.v (.bool m')) := by
 unfold stX loudX
 have e0 : XS.ev ⟨[.p i 0, .v (.bool m')], s.bx, s.H, s.V⟩ (.tmp 0) = .p i 0 := rfl
 have e1 : XS.ev ⟨[.p i 0, .v (.bool m')], s.bx, s.H, s.V⟩ (.tmp 1) = .v (.bool m') := rfl
 simp only [e0, e1, shapeT_4, hb]
 refine ⟨rfl, rfl, by simp, ?_⟩
 have : splice [Value.bool m, n, e] 0 (Value.bool m').cells.toList = [.bool m', n, e] := rfl
 rw [this]; exact h
theorem pneg_c (V : View) (v : Value) (q : Rat) (h : RatV V v q) : Spec Tryz.prog 18 [v] V fun v' V' => RatC V' v' (-q) := by
 have h0 := h
 obtain ⟨m, a, b, ⟨n, d, rfl, hn, hd⟩, fa, fb, hq0⟩ := h
 refine (Spec.enter Tryz.func18 rfl fun Γ => ?_)
 simp only [Tryz.ntmps18, List.map_cons, List.map_nil, List.length_cons, List.length_nil, Nat.reduceAdd, Nat.reduceSub, List.replicate_succ, List.replicate_zero, List.cons_append, List.nil_append]
 refine Gx.a (by kernel_rfl) fun K hK => ?_
 simp only [XA, XB]
 refine hK _ ?_
 refine Gx.a (by kernel_rfl) fun K hK => ?_
 simp only [XA, XB, Nat.reduceAdd, Nat.reduceLeDiff, ↓reduceIte]
 refine call_go (by kernel_rfl) rfl (pvalid_c _ _ _ h0) fun v1 V1 hV1 h1 => ?_
 obtain ⟨x, y, rfl, hx, hy⟩ := h1
 simp only [XA]
 refine st_rat rfl rfl rfl hx.one hy.one ?_
 simp only [XA]
 refine hK _ ?_
 have hx' := hx
 obtain ⟨A, c, rfl, _, _⟩ := NatAt.form hx
 have key : ng (-q) = (!(ng q) && decide (q.num.natAbs ≠ 0)) := by
  unfold ng
  rw [Rat.neg_num]
  by_cases h1 : q.num < 0
  ·rw [decide_eq_true h1, decide_eq_false (by omega)]; rfl
  ·rw [decide_eq_false h1]; simp only [Bool.not_false, Bool.true_and]; rw [decide_eq_decide]; omega
 have e1 : (-q).num.natAbs = q.num.natAbs := by rw [Rat.neg_num, Int.natAbs_neg]
 have fin : ∀ m', m' = ng (-q) → RatC V1 (.agg #[.bool m', .slice A (dg q.num.natAbs).length c, y]) (-q) := fun m' e => by
  subst e
  exact ⟨_, _, rfl, by rw [e1]; exact hx', hy⟩
 refine Gx.a (by kernel_rfl) fun K hK => ?_
 cases hng : ng q
 ·simp only [XA, XB, gateX, ↓reduceIte, beq_self_eq_true, len_pos]
  refine st_fst rfl ?_
  simp only [XA]
  refine hK _ ?_
  refine Gx.a (by kernel_rfl) fun K hK => ?_
  simp only [XA, XB, Nat.reduceAdd, Nat.reduceLeDiff, ↓reduceIte]
  refine st_rat rfl rfl rfl rfl hy.one ?_
  simp only [XA]
  refine hK _ (XWP.ret ?_)
  try simp only [thenX_ret, inBlockX_ret]
  refine ret_rat1 rfl rfl rfl ?_
  exact fin _ (by rw [key, hng]; simp)
 ·simp only [XA, XB, gateX, ↓reduceIte]
  refine st_fst rfl ?_
  simp only [XA]
  refine hK _ ?_
  refine Gx.a (by kernel_rfl) fun K hK => ?_
  simp only [XA, XB, Nat.reduceAdd, Nat.reduceLeDiff, ↓reduceIte]
  refine st_rat rfl rfl rfl rfl hy.one ?_
  simp only [XA]
  refine hK _ (XWP.ret ?_)
  try simp only [thenX_ret, inBlockX_ret]
  refine ret_rat1 rfl rfl rfl ?_
  exact fin _ (by rw [key, hng]; rfl)
theorem RatC.toV' {V : View} {v : Value} {q : Rat} {B : Nat} (h : RatC V v q) (f : QB B q) (hB : B ≤ 70368744177664) : RatV V v q := ⟨_, _, _, h, Fit1.of_two f.1 hB, Fit1.of_two f.2 hB, (rv_self q).symm⟩
theorem RatV.form {V : View} {v : Value} {q : Rat} (h : RatV V v q) : ∃ m n d, v = .agg #[.bool m, n, d] := by
 obtain ⟨m, a, b, ⟨n, d, e, _⟩, _⟩ := h; exact ⟨m, n, d, e⟩
theorem cmp_geq (a b : Nat) : decide (0 ≤ cmpI a b) = decide (b ≤ a) := by
 rw [decide_eq_decide]
 unfold cmpI
 split
 ·omega
 ·split <;> omega
theorem padd_c (V : View) (v u : Value) (p q : Rat) (hv : RatV V v p) (hu : RatV V u q) (fp : QF p) (fq : QF q) : Spec Tryz.prog 53 [v, u] V fun v' V' => RatC V' v' (p + q) := by
 have hv0 := hv
 have hu0 := hu
 obtain ⟨m1, n1, d1, rfl⟩ := hv.form
 obtain ⟨m2, n2, d2, rfl⟩ := hu.form
 obtain ⟨f1, f2, f3, f4, f5, f6⟩ := QF.two1 fp fq
 refine (Spec.enter Tryz.func53 rfl fun Γ => ?_)
 simp only [Tryz.ntmps53, List.map_cons, List.map_nil, List.length_cons, List.length_nil, Nat.reduceAdd, Nat.reduceSub, List.replicate_succ, List.replicate_zero, List.cons_append, List.nil_append]
 refine Gx.a (by kernel_rfl) fun K hK => ?_
 simp only [XA, XB, Nat.reduceAdd]
 refine hK _ ?_
 (refine XWP.drw [0, 2, 1, 3, 4, 5] (by kernel_rfl) (by kernel_rfl) (by kernel_rfl) fun K hK => ?_) <;> dsimp only [pickOps, List.getElem?_cons_zero, List.getElem?_cons_succ]
 simp only [XA, XB, Nat.reduceAdd, Nat.reduceLeDiff, ↓reduceIte]
 refine call_go (by kernel_rfl) rfl (pvalid_c _ _ _ hv0) fun v1 V1 hV1 h1 => ?_
 simp only [XA]
 refine call_go (by kernel_rfl) rfl (pvalid_c _ _ _ (hu0.mono hV1)) fun v2 V2 hV2 h2 => ?_
 obtain ⟨x1, y1, rfl, hx1, hy1⟩ := h1.mono hV2
 obtain ⟨x2, y2, rfl, hx2, hy2⟩ := h2
 simp only [XA]
 refine st_rat rfl rfl rfl hx1.one hy1.one ?_
 simp only [XA]
 refine st_rat rfl rfl rfl hx2.one hy2.one ?_
 simp only [XA]
 refine hK _ ?_
 clear hK hv hu hv0 hu0 h1
 (refine XWP.drw [0, 1, 2, 3, 5, 6, 7, 8, 10, 11, 12, 13, 4, 9, 14, 15, 16, 17] (by kernel_rfl) (by kernel_rfl) (by kernel_rfl) fun K hK => ?_) <;> dsimp only [pickOps, List.getElem?_cons_zero, List.getElem?_cons_succ]
 simp only [XA, XB]
 refine call_go (by kernel_rfl) rfl (rmul_c _ _ _ _ _ hx1 hy2 fp.fits.1 fq.fits.2) fun v3 V3 hV3 h3 => ?_
 simp only [XA]
 refine call_go (by kernel_rfl) rfl (rmul_c _ _ _ _ _ (hx2.mono hV3) (hy1.mono hV3) fq.fits.1 fp.fits.2) fun v4 V4 hV4 h4 => ?_
 simp only [XA]
 refine call_go (by kernel_rfl) rfl (rmul_c _ _ _ _ _ ((hy1.mono hV3).mono hV4) ((hy2.mono hV3).mono hV4) fp.fits.2 fq.fits.2) fun v5 V5 hV5 h5 => ?_
 have h3 := (h3.mono hV4).mono hV5
 have h4 := h4.mono hV5
 simp only [XA]
 refine hK _ ?_
 (refine XWP.drw [0, 1, 2, 3, 4, 5, 6] (by kernel_rfl) (by kernel_rfl) (by kernel_rfl) fun K hK => ?_) <;> dsimp only [pickOps, List.getElem?_cons_zero, List.getElem?_cons_succ]
 simp only [XA, XB]
 refine call_go (by kernel_rfl) rfl (radd_c _ _ _ _ _ h3 h4 f2.fit f5.fit) fun v6 V6 hV6 h6 => ?_
 have h3 := h3.mono hV6
 have h4 := h4.mono hV6
 have h5 := h5.mono hV6
 simp only [XA]
 refine hK _ ?_
 clear hK
 refine XWP.cut (fun s => ∃ (V' : View) (m : Bool) (w : Value) (k : Nat), StIs (fun Z => [Z 0,Z 1,Z 2,Z 3, .p 2 0, Z 5, Z 6, .v v5, .v (.bool m), .v w, Z 10,Z 11,Z 12,Z 13,Z 14,Z 15,Z 16,Z 17,Z 18,Z 19,Z 20,Z 21,Z 22,Z 23,Z 24,Z 25,Z 26,Z 27,Z 28,Z 29,Z 30,Z 31,Z 32,Z 33,Z 34,Z 35,Z 36,Z 37,Z 38,Z 39,Z 40,Z 41,Z 42,Z 43,Z 44,Z 45,Z 46,Z 47,Z 48,Z 49,Z 50,Z 51,Z 52,Z 53,Z 54,Z 55,Z 56,Z 57,Z 58,Z 59,Z 60,Z 61,Z 62,Z 63,Z 64,Z 65,Z 66]) [[.bool (ng p), x1, y1], [.bool (ng q), x2, y2], [.bool false, .slice none 0 0, .slice none 0 0]] (fun _ => none) V' s ∧ NatC V' w k ∧ NatC V' v5 (p.den * q.den) ∧ Fit1 k ∧ rv m k (p.den * q.den) = p + q) ?_ ?_
 ·refine Gx.a (by kernel_rfl) fun K hK => ?_
  by_cases he : ng p = ng q
  ·have b3 : (!(ng p == ng q)) = false := by rw [he]; simp
   simp only [XA, XB, b3]
   refine hK _ ?_
   refine Gx.f rfl ?_
   refine XWP.skip ?_
   refine ⟨V6, _, _, _, StIs.of (by exact rfl), h6, h5, f6, ?_⟩
   have := rv_add (ng p) (a := p.num.natAbs) (c := q.num.natAbs) p.den_nz q.den_nz
   rw [← this, rv_self, he, rv_self]
  ·have b3 : (!(ng p == ng q)) = true := by simpa using he
   simp only [XA, XB, b3]
   refine hK _ ?_
   refine Gx.t rfl ?_
   refine Gx.a (by kernel_rfl) fun K hK => ?_
   simp only [XA]
   refine call_go (by kernel_rfl) rfl (rcompare_c _ _ _ _ _ h3 h4 f2.fit f5.fit) fun v7 V7 hV7 h7 => ?_
   subst h7
   have h3 := h3.mono hV7
   have h4 := h4.mono hV7
   have h5 := h5.mono hV7
   by_cases hle : q.num.natAbs * p.den ≤ p.num.natAbs * q.den
   ·have b4 : decide (q.num.natAbs * p.den ≤ p.num.natAbs * q.den) = true := decide_eq_true (by omega)
    simp only [XA, XB, cmp_geq, b4]
    refine hK _ ?_
    refine Gx.t rfl ?_
    refine Gx.c (by kernel_rfl) fun K hK => ?_
    simp only [XA]
    refine call_go (by kernel_rfl) rfl (rsub_c _ _ _ _ _ h3 h4 f2.fit f5.fit) fun v8 V8 hV8 h8 => ?_
    obtain ⟨r, rfl, hr⟩ := h8.2 hle
    simp only [XA]
    refine hK _ ⟨V8, _, _, _, StIs.of (by exact rfl), hr, h5.mono hV8, f2.mono (Nat.sub_le _ _), ?_⟩
    have e := rv_sub (ng p) (a := p.num.natAbs) (c := q.num.natAbs) p.den_nz q.den_nz hle
    rw [rv_self, ← ng_ne he, rv_self] at e
    exact e.symm
   ·have b4 : decide (q.num.natAbs * p.den ≤ p.num.natAbs * q.den) = false := decide_eq_false (by omega)
    simp only [XA, XB, cmp_geq, b4]
    refine hK _ ?_
    refine Gx.f rfl ?_
    refine Gx.a (by kernel_rfl) fun K hK => ?_
    simp only [XA, XB]
    refine hK _ ?_
    refine Gx.c (by kernel_rfl) fun K hK => ?_
    simp only [XA]
    refine call_go (by kernel_rfl) rfl (rsub_c _ _ _ _ _ h4 h3 f5.fit f2.fit) fun v8 V8 hV8 h8 => ?_
    obtain ⟨r, rfl, hr⟩ := h8.2 (by omega)
    simp only [XA]
    refine hK _ ⟨V8, _, _, _, StIs.of (by exact rfl), hr, h5.mono hV8, f5.mono (Nat.sub_le _ _), ?_⟩
    have e := rv_sub (ng q) (a := q.num.natAbs) (c := p.num.natAbs) q.den_nz p.den_nz (by omega)
    rw [rv_self, ← ng_ne (fun e => he e.symm), rv_self, Nat.mul_comm q.den p.den, Rat.add_comm] at e
    exact e.symm
 clear h3 h4 h5 h6
 rintro s ⟨V', m, w, k, hs, hw, h5, fk, e⟩
 obtain ⟨z, rfl⟩ := hs.out
 try dsimp only
 refine Gx.a (by kernel_rfl) fun K hK => ?_
 simp only [XA]
 refine call_go (by kernel_rfl) rfl (pof_c _ _ _ _ _ _ hw h5 fk f4) fun v7 V7 hV7 h7 => ?_
 obtain ⟨r, rfl, x, y, rfl, hx, hy⟩ := h7.2 (Nat.mul_ne_zero p.den_nz q.den_nz)
 simp only [XA, XB, Nat.reduceAdd]
 refine st_rat rfl rfl rfl hx.one hy.one ?_
 simp only [XA]
 refine hK _ ?_
 refine Gx.a (by kernel_rfl) fun K hK => ?_
 simp only [XA, XB, Nat.reduceAdd, Nat.reduceLeDiff, ↓reduceIte]
 refine st_rat rfl rfl rfl hx.one hy.one ?_
 simp only [XA]
 refine hK _ (XWP.ret ?_)
 try simp only [thenX_ret, inBlockX_ret]
 refine ret_rat1 rfl rfl rfl ?_
 rw [← e]
 exact ⟨_, _, rfl, hx, hy⟩
theorem psub_c (V : View) (v u : Value) (p q : Rat) (hv : RatV V v p) (hu : RatV V u q) (fp : QF p) (fq : QF q) : Spec Tryz.prog 103 [v, u] V fun v' V' => RatC V' v' (p - q) := by
 have hv0 := hv
 have hu0 := hu
 obtain ⟨m1, n1, d1, rfl⟩ := hv.form
 obtain ⟨m2, n2, d2, rfl⟩ := hu.form
 refine (Spec.enter Tryz.func103 rfl fun Γ => ?_)
 simp only [Tryz.ntmps103, List.map_cons, List.map_nil, List.length_cons, List.length_nil, Nat.reduceAdd, Nat.reduceSub, List.replicate_succ, List.replicate_zero, List.cons_append, List.nil_append]
 refine Gx.a (by kernel_rfl) fun K hK => ?_
 simp only [XA, XB, Nat.reduceAdd]
 refine hK _ ?_
 (refine XWP.drw [0, 1, 2, 3, 4] (by kernel_rfl) (by kernel_rfl) (by kernel_rfl) fun K hK => ?_) <;> dsimp only [pickOps, List.getElem?_cons_zero, List.getElem?_cons_succ]
 simp only [XA, XB, Nat.reduceAdd, Nat.reduceLeDiff, ↓reduceIte]
 refine call_go (by kernel_rfl) rfl (pneg_c _ _ _ hu0) fun v1 V1 hV1 h1 => ?_
 simp only [XA]
 refine call_go (by kernel_rfl) rfl (padd_c _ _ _ _ _ (hv0.mono hV1) (h1.toV fq.neg) fp fq.neg) fun v2 V2 hV2 h2 => ?_
 rw [← Rat.sub_eq_add_neg] at h2
 obtain ⟨x, y, rfl, hx, hy⟩ := h2
 simp only [XA]
 refine st_rat rfl rfl rfl hx.one hy.one ?_
 simp only [XA]
 refine hK _ (XWP.ret ?_)
 try simp only [thenX_ret, inBlockX_ret]
 exact ret_rat1 rfl rfl rfl ⟨_, _, rfl, hx, hy⟩
theorem pcompare_c (V : View) (v u : Value) (p q : Rat) (hv : RatV V v p) (hu : RatV V u q) (fp : QF p) (fq : QF q) : Spec Tryz.prog 62 [v, u] V fun v' V' => v' = .int .i64 (sgI (p - q)) := by
 have hv0 := hv
 have hu0 := hu
 obtain ⟨m1, n1, d1, rfl⟩ := hv.form
 obtain ⟨m2, n2, d2, rfl⟩ := hu.form
 refine (Spec.enter Tryz.func62 rfl fun Γ => ?_)
 simp only [Tryz.ntmps62, List.map_cons, List.map_nil, List.length_cons, List.length_nil, Nat.reduceAdd, Nat.reduceSub, List.replicate_succ, List.replicate_zero, List.cons_append, List.nil_append]
 refine Gx.a (by kernel_rfl) fun K hK => ?_
 simp only [XA]
 refine hK _ ?_
 refine Gx.a (by kernel_rfl) fun K hK => ?_
 simp only [XA, XB, Nat.reduceAdd, Nat.reduceLeDiff, ↓reduceIte]
 refine call_go (by kernel_rfl) rfl (psub_c _ _ _ _ _ hv0 hu0 fp fq) fun v1 V1 hV1 h1 => ?_
 obtain ⟨A, hA, a1⟩ := fp
 obtain ⟨B, hB, b1⟩ := fq
 simp only [XA]
 refine call_go (by kernel_rfl) rfl (psign_c _ _ _ (h1.toV' (a1.sub b1) (by omega))) fun v2 V2 hV2 h2 => ?_
 subst h2
 simp only [XA]
 refine hK _ (XWP.ret ?_)
 try simp only [thenX_ret, inBlockX_ret]
 refine ret_go _ rfl ?_
 rfl
theorem sub_zero_iff (p q : Rat) : p - q = 0 ↔ p = q := by
 constructor
 ·intro h
  have := Rat.sub_add_cancel (a := p) (b := q)
  rw [h, Rat.zero_add] at this
  exact this.symm
 ·intro h; rw [h, Rat.sub_self]
theorem psame_c (V : View) (v u : Value) (p q : Rat) (hv : RatV V v p) (hu : RatV V u q) (fp : QF p) (fq : QF q) : Spec Tryz.prog 21 [v, u] V fun v' V' => v' = .bool (decide (p = q)) := by
 have hv0 := hv
 have hu0 := hu
 obtain ⟨m1, n1, d1, rfl⟩ := hv.form
 obtain ⟨m2, n2, d2, rfl⟩ := hu.form
 refine (Spec.enter Tryz.func21 rfl fun Γ => ?_)
 simp only [Tryz.ntmps21, List.map_cons, List.map_nil, List.length_cons, List.length_nil, Nat.reduceAdd, Nat.reduceSub, List.replicate_succ, List.replicate_zero, List.cons_append, List.nil_append]
 refine Gx.a (by kernel_rfl) fun K hK => ?_
 simp only [XA]
 refine hK _ ?_
 refine Gx.a (by kernel_rfl) fun K hK => ?_
 simp only [XA, XB, Nat.reduceAdd, Nat.reduceLeDiff, ↓reduceIte]
 refine call_go (by kernel_rfl) rfl (pcompare_c _ _ _ _ _ hv0 hu0 fp fq) fun v1 V1 hV1 h1 => ?_
 subst h1
 simp only [XA, XB, sgI_zero]
 refine hK _ (XWP.ret ?_)
 try simp only [thenX_ret, inBlockX_ret]
 refine ret_go _ rfl ?_
 show Value.bool _ = _
 congr 1
 rw [decide_eq_decide]; exact sub_zero_iff p q
theorem pright_c (V : View) (v : Value) (m : Bool) (nd dd : List Nat) (h : RawAt V v m nd dd) (l1 : nd.length ≤ 4398046511104) (l2 : dd.length ≤ 4398046511104) : Spec Tryz.prog 54 [v] V fun v' V' => v' = .bool (rawOk m nd dd) := by
 obtain ⟨n, d, rfl, hn, hd⟩ := h
 obtain ⟨A1, c1, rfl, _, _⟩ := hn.form
 obtain ⟨A2, c2, rfl, _, _⟩ := hd.form
 refine (Spec.enter Tryz.func54 rfl fun Γ => ?_)
 simp only [Tryz.ntmps54, List.map_cons, List.map_nil, List.length_cons, List.length_nil, Nat.reduceAdd, Nat.reduceSub, List.replicate_succ, List.replicate_zero, List.cons_append, List.nil_append]
 refine Gx.a (by kernel_rfl) fun K hK => ?_
 simp only [XA]
 refine hK _ ?_
 clear hK
 have e4 : decide ((nd.length : Int) = 0) = decide (nd.length = 0) := by rw [decide_eq_decide]; omega
 refine XWP.cut (fun s => ∃ V2, StIs (fun Z => [Z 0, .p 0 0, Z 2,Z 3,Z 4,Z 5,Z 6,Z 7,Z 8,Z 9,Z 10,Z 11,Z 12,Z 13,Z 14,Z 15,Z 16,Z 17,Z 18,Z 19,Z 20,Z 21,Z 22,Z 23,Z 24,Z 25,Z 26,Z 27,Z 28,Z 29,Z 30,Z 31,Z 32,Z 33,Z 34,Z 35,Z 36,Z 37,Z 38,Z 39,Z 40]) [[.bool m, .slice A1 nd.length c1, .slice A2 dd.length c2]] (fun _ => none) V2 s ∧ V.le V2 ∧ rightB nd = true ∧ rightB dd = true ∧ dd.length ≠ 0) ?_ ?_
 ·refine Gx.a (by kernel_rfl) fun K hK => ?_
  simp only [XA, XB]
  refine call_go (by kernel_rfl) rfl (rright_any _ _ _ hn) fun v1 V1 hV1 h1 => ?_
  subst h1
  cases r1 : rightB nd
  ·simp only [XA, gateX, ↓reduceIte]
   refine hK _ ?_
   refine Gx.t rfl ?_
   refine Gx.a (by kernel_rfl) fun K hK => ?_
   simp only [XA]
   refine hK _ (XWP.ret ?_)
   try simp only [thenX_ret, inBlockX_ret]
   refine ret_go _ rfl ?_
   simp [rawOk, r1]; rfl
  simp only [XA, XB, gateX, ↓reduceIte, beq_self_eq_true]
  refine call_go (by kernel_rfl) rfl (rright_any _ _ _ (hd.mono hV1)) fun v2 V2 hV2 h2 => ?_
  subst h2
  cases r2 : rightB dd
  ·simp only [XA, gateX, ↓reduceIte, beq_self_eq_true]
   refine hK _ ?_
   refine Gx.t rfl ?_
   refine Gx.a (by kernel_rfl) fun K hK => ?_
   simp only [XA]
   refine hK _ (XWP.ret ?_)
   try simp only [thenX_ret, inBlockX_ret]
   refine ret_go _ rfl ?_
   simp [rawOk, r2]; rfl
  by_cases r3 : dd.length = 0
  ·have b3 : decide ((dd.length : Int) = 0) = true := decide_eq_true (by omega)
   simp only [XA, XB, gateX, ↓reduceIte, beq_self_eq_true, b3]
   refine hK _ ?_
   refine Gx.t rfl ?_
   refine Gx.a (by kernel_rfl) fun K hK => ?_
   simp only [XA]
   refine hK _ (XWP.ret ?_)
   try simp only [thenX_ret, inBlockX_ret]
   refine ret_go _ rfl ?_
   simp [rawOk, r3]; rfl
  have b3 : decide ((dd.length : Int) = 0) = false := decide_eq_false (by omega)
  simp only [XA, XB, gateX, ↓reduceIte, beq_self_eq_true, b3]
  refine hK _ ?_
  refine Gx.f rfl ?_
  refine XWP.skip ?_
  exact ⟨V2, StIs.of (by exact rfl), View.le_trans hV1 hV2, r1, r2, r3⟩
 rintro s ⟨V2, hs, hV2, r1, r2, r3⟩
 obtain ⟨u, rfl⟩ := hs.out
 try dsimp only
 have k1 := (hn.right r1).mono hV2
 have k2 := (hd.right r2).mono hV2
 have f1 := Fit.nv hn.dig l1
 have f2 := Fit.nv hd.dig l2
 have f3 : Fit 1 := by
  have := sz_le (n := 1) (k := 1) (by unfold BB; omega)
  unfold Fit; omega
 have ec : ∀ x y : Nat, decide (cmpI x y = 0) = decide (x = y) := by
  intro x y
  rw [decide_eq_decide]
  unfold cmpI
  split
  ·omega
  ·split <;> omega
 refine XWP.seq ?_
 by_cases r5 : nd.length = 0
 ·have b5 : decide ((nd.length : Int) = 0) = true := decide_eq_true (by omega)
  have e5 : nv nd = 0 := (nv_eq_zero hn.dig r1).2 r5
  refine Gx.a (by kernel_rfl) fun K hK => ?_
  simp only [XA, XB, b5]
  refine hK _ ?_
  refine Gx.t rfl ?_
  (refine XWP.drw [0, 1, 2, 3, 4, 5, 6, 7, 8, 9, 10] (by kernel_rfl) (by kernel_rfl) (by kernel_rfl) fun K hK => ?_) <;> dsimp only [pickOps, List.getElem?_cons_zero, List.getElem?_cons_succ]
  cases m
  ·simp only [XA, XB, gateX, ↓reduceIte, beq_self_eq_true]
   refine call_go (by kernel_rfl) rfl (rof_c _ 1 (by omega)) fun v3 V3 hV3 h3 => ?_
   simp only [XA, gateX, ↓reduceIte, beq_self_eq_true]
   refine call_go (by kernel_rfl) rfl (rcompare_c _ _ _ _ _ (k2.mono hV3) h3 f2 f3) fun v4 V4 hV4 h4 => ?_
   subst h4
   simp only [XA, XB, gateX, ↓reduceIte, beq_self_eq_true, ec]
   refine hK _ (XWP.ret ?_)
   try simp only [thenX_ret, inBlockX_ret]
   refine ret_go _ rfl ?_
   show Value.bool _ = _
   congr 1
   unfold rawOk
   rw [r1, r2, decide_eq_false r3, decide_eq_true r5]; simp [e5]
  ·simp only [XA, XB, gateX, ↓reduceIte]
   refine hK _ (XWP.ret ?_)
   try simp only [thenX_ret, inBlockX_ret]
   refine ret_go _ rfl ?_
   show Value.bool _ = _
   congr 1
   unfold rawOk
   rw [r1, r2, decide_eq_false r3, decide_eq_true r5]; rfl
 ·have b5 : decide ((nd.length : Int) = 0) = false := decide_eq_false (by omega)
  have fg : Fit (Nat.gcd (nv nd) (nv dd)) := f2.mono (Nat.gcd_le_right _ (Nat.pos_of_ne_zero fun e => r3 ((nv_eq_zero hd.dig r2).1 e)))
  refine Gx.a (by kernel_rfl) fun K hK => ?_
  simp only [XA, XB, b5]
  refine hK _ ?_
  refine Gx.f rfl ?_
  refine XWP.skip ?_
  refine Gx.a (by kernel_rfl) fun K hK => ?_
  simp only [XA, XB]
  refine call_go (by kernel_rfl) rfl (rgcd_c _ _ _ _ _ k1 k2 f1 f2) fun v3 V3 hV3 h3 => ?_
  simp only [XA]
  refine call_go (by kernel_rfl) rfl (rof_c _ 1 (by omega)) fun v4 V4 hV4 h4 => ?_
  simp only [XA]
  refine call_go (by kernel_rfl) rfl (rcompare_c _ _ _ _ _ (h3.mono hV4) h4 fg f3) fun v5 V5 hV5 h5 => ?_
  subst h5
  simp only [XA, XB, ec]
  refine hK _ (XWP.ret ?_)
  try simp only [thenX_ret, inBlockX_ret]
  refine ret_go _ rfl ?_
  show Value.bool _ = _
  congr 1
  unfold rawOk
  rw [r1, r2, decide_eq_false r3, decide_eq_false r5]; rfl
end Go.Proofs.YthoboehbadmlmaaGreat
end
section
namespace Go.Proofs.YthoboehbadmlmaaGreat
open Go Go.RowKit
def keepS (k : Nat) (f : Nat → Nat → Value) : SV → SV
 | .v x => .v x
 | .p j o => if j < k then .p j o else .v (f j o)
def Drop (k : Nat) (J : XS → Prop) (s : XS) : Prop := ∀ f, J ⟨s.t.map (keepS k f), s.bx.take k, s.H, s.V⟩
theorem Drop.conc {Γ : Cx} {bl : Nat → Nat} {s : XS} {a : Act} {w : World} (k : Nat) (h : Conc Γ bl s a w) : Conc Γ bl ⟨s.t.map (keepS k fun j o => (SV.p j o).conc bl), s.bx.take k, s.H, s.V⟩ a w := by
 have hget : ∀ i vs, (s.bx.take k)[i]? = some vs → s.bx[i]? = some vs := fun i vs hi => by
  rw [List.getElem?_take] at hi
  split at hi
  ·exact hi
  ·cases hi
 have hlen : ∀ i, i < (s.bx.take k).length → i < s.bx.length := fun i hi => by
  rw [List.length_take] at hi; omega
 refine ⟨?_, h.df, ⟨fun i vs hi => h.cw.box i vs (hget i vs hi), h.cw.row, h.cw.view, h.cw.below⟩, ⟨fun i j hi hj => h.cs.inj i j (hlen i hi) (hlen j hj), fun i hi => h.cs.bxH i (hlen i hi), h.cs.HV, h.cs.V0, h.cs.frm⟩, fun x hx => ?_⟩
 ·rw [h.tm, List.map_map]
  congr 1
  refine List.map_congr_left fun x _ => ?_
  cases x with
  | v x => rfl
  | p j o =>
   simp only [Function.comp_apply, keepS]
   split <;> rfl
 ·obtain ⟨y, hy, rfl⟩ := List.mem_map.1 hx
  have := h.ok y hy
  cases y with
  | v x => trivial
  | p j o =>
   have hj' : j < s.bx.length := this
   show SV.ok _ (if j < k then SV.p j o else .v _)
   split
   ·rename_i hj
    show j < (s.bx.take k).length
    rw [List.length_take]; omega
   ·trivial
theorem Drop.mono {k : Nat} {J J' : XS → Prop} {s : XS} (h : Drop k J s) (hj : ∀ s, J s → J' s) : Drop k J' s := fun f => hj _ (h f)
section
variable {Γ : Cx} {P : Program} {Q : Exit → XS → Prop} {s : XS}
theorem XWP.drop {c : Code} (k : Nat) (h : Drop k (XWP Γ P c Q) s) : XWP Γ P c Q s := fun bl a w hc => h _ bl a w (Drop.conc k hc)
theorem XWP.cutD {x y : Code} (k : Nat) (J : XS → Prop) (h1 : XWP Γ P x (thenX (Drop k J) Q) s) (h2 : ∀ s', J s' → XWP Γ P y Q s') : XWP Γ P (.seq x y) Q s :=
 XWP.cut (Drop k J) h1 fun _ h => XWP.drop k (h.mono h2)
theorem XWP.post {c : Code} (J : XS → Prop) (h1 : XWP Γ P c (thenX J Q) s) (h2 : ∀ s', J s' → Q .normal s') : XWP Γ P c Q s :=
 h1.mono fun e s h => by cases e <;> first | exact h2 s h | exact h
theorem XWP.loopD {c : Code} (k : Nat) (I : Nat → XS → Prop) (n : Nat) (h0 : I n s) (hr : ∀ n s, I n s → XWP Γ P c (thenX (fun s' => ∃ m, m < n ∧ Drop k (I m) s') Q) s) : XWP Γ P (.loop c) Q s := by
 refine XWP.loop (fun n s => I n s ∨ Drop k (I n) s) n (.inl h0) fun n s h => ?_
 have up : ∀ s, I n s → XWP Γ P c (thenX (fun s' => ∃ m, m < n ∧ (I m s' ∨ Drop k (I m) s')) Q) s := fun s h =>
  (hr n s h).mono fun e s h => by
   cases e with
   | normal => obtain ⟨m, h1, h2⟩ := h; exact ⟨m, h1, .inr h2⟩
   | _ => exact h
 rcases h with h | h
 ·exact up s h
 ·exact XWP.drop k (h.mono up)
end
end Go.Proofs.YthoboehbadmlmaaGreat
end
section
namespace Go.Proofs.YthoboehbadmlmaaGreat
open Go Go.RowKit
attribute [local irreducible] XWP Spec SpecO XPub XCall seqX clX apX stX ldX iaX slX
abbrev El (α : Type) := View → Value → α → Prop
def ElOk {α : Type} (E : El α) : Prop := ∀ V V' v x, View.le V V' → E V v x → E V' v x
def Cell3 {α : Type} (E : El α) (V : View) (get : Nat → Option Value) (i : Nat) (x : α) : Prop := ∃ m n d, get (i * 3) = some m ∧ get (i * 3 + 1) = some n ∧ get (i * 3 + 2) = some d ∧ isOne m = true ∧ isOne n = true ∧ isOne d = true ∧ E V (.agg #[m, n, d]) x
def SlAt {α : Type} (E : El α) (V : View) (v : Value) (xs : List α) : Prop := ∃ A c, v = .slice A xs.length c ∧ xs.length ≤ c ∧ c ≤ 9223372036854775807 ∧ (xs = [] ∨ ∃ b o arr ty fr, A = some ⟨b, o, none⟩ ∧ V b = some (.cells arr ty fr) ∧ ∀ i x, xs[i]? = some x → Cell3 E V (fun k => arr[o + k]?) i x)
def RowAt {α : Type} (E : El α) (V : View) (cells : List Value) (xs : List α) : Prop := cells.length = xs.length * 3 ∧ ∀ i x, xs[i]? = some x → Cell3 E V (fun k => cells[k]?) i x
def ratE : El Rat := fun V v q => RatC V v q
structure Raw where
 m : Bool
 nd : List Nat
 dd : List Nat
def rawE : El Raw := fun V v r => RawAt V v r.m r.nd r.dd
def optE {α : Type} (E : El α) : El (Option α) := fun V v x => match x with
 | none => True
 | some x => E V v x
theorem ratE_ok : ElOk ratE := fun _ _ _ _ hV h => RatC.mono h hV
theorem RawAt.mono {V V' : View} {v : Value} {m : Bool} {nd dd : List Nat} (h : RawAt V v m nd dd) (hV : V.le V') : RawAt V' v m nd dd := by
 obtain ⟨n, d, e, h1, h2⟩ := h; exact ⟨n, d, e, h1.mono hV, h2.mono hV⟩
theorem rawE_ok : ElOk rawE := fun _ _ _ _ hV h => RawAt.mono h hV
theorem optE_ok {α : Type} {E : El α} (h : ElOk E) : ElOk (optE E) := fun V V' v x hV hx => by
 cases x with
 | none => trivial
 | some x => exact h V V' v x hV hx
section
variable {α : Type} {E : El α}
theorem Cell3.mono (hE : ElOk E) {V V' : View} {get : Nat → Option Value} {i : Nat} {x : α} (h : Cell3 E V get i x) (hV : V.le V') : Cell3 E V' get i x := by
 obtain ⟨m, n, d, h1, h2, h3, h4, h5, h6, h7⟩ := h
 exact ⟨m, n, d, h1, h2, h3, h4, h5, h6, hE _ _ _ _ hV h7⟩
theorem SlAt.mono (hE : ElOk E) {V V' : View} {v : Value} {xs : List α} (h : SlAt E V v xs) (hV : V.le V') : SlAt E V' v xs := by
 obtain ⟨A, c, e, h1, h2, h3⟩ := h
 refine ⟨A, c, e, h1, h2, ?_⟩
 rcases h3 with h3 | ⟨b, o, arr, ty, fr, e1, e2, h4⟩
 ·exact .inl h3
 ·exact .inr ⟨b, o, arr, ty, fr, e1, hV _ _ e2, fun i x hi => (h4 i x hi).mono hE hV⟩
theorem SlAt.form {V : View} {v : Value} {xs : List α} (h : SlAt E V v xs) : ∃ A c, v = .slice A xs.length c ∧ xs.length ≤ c ∧ c ≤ 9223372036854775807 := by
 obtain ⟨A, c, e, h1, h2, _⟩ := h; exact ⟨A, c, e, h1, h2⟩
theorem SlAt.one {V : View} {v : Value} {xs : List α} (h : SlAt E V v xs) : isOne v = true := by obtain ⟨A, c, rfl, _⟩ := h.form; rfl
theorem SlAt.nil (V : View) : SlAt E V (.slice none 0 0) ([] : List α) := ⟨none, 0, rfl, Nat.le_refl _, by omega, .inl rfl⟩
theorem SlAt.addr {V : View} {A : Option Addr} {n c : Nat} {xs : List α} (h : SlAt E V (.slice A n c) xs) (hk : 0 < xs.length) : ∃ b o, A = some ⟨b, o, none⟩ := by
 obtain ⟨A', c', e, _, _, h3⟩ := h
 cases e
 rcases h3 with rfl | ⟨b, o, _, _, _, e1, _⟩
 ·simp at hk
 ·exact ⟨b, o, e1⟩
theorem loads3 {H : Heap} {V : View} {b o i : Nat} {m n d : Value} (h1 : CellAt H V b (o + i * 3) m) (h2 : CellAt H V b (o + i * 3 + 1) n) (h3 : CellAt H V b (o + i * 3 + 2) d) : Loads Tryz.prog H V 48 b (o + i * 3) (.agg #[m, n, d]) := by
 refine ⟨true, 3, shapeT_48, .inl ⟨rfl, [m, n, d], rfl, fun j u hj => ?_, rfl⟩⟩
 match j, hj with
 | 0, hj => cases hj; exact h1
 | 1, hj => cases hj; exact h2
 | 2, hj => cases hj; exact h3
theorem SlAt.load {V : View} {b o n c : Nat} {xs : List α} (h : SlAt E V (.slice (some ⟨b, o, none⟩) n c) xs) (i : Nat) (hi : i < xs.length) : ∃ v, E V v xs[i] ∧ (∃ m n d, v = .agg #[m, n, d] ∧ isOne m = true ∧ isOne n = true ∧ isOne d = true) ∧ ∀ H, Loads Tryz.prog H V 48 b (o + i * 3) v := by
 obtain ⟨A', c', e, _, _, h3⟩ := h
 cases e
 rcases h3 with rfl | ⟨b', o', arr, ty, fr, e1, e2, h4⟩
 ·simp at hi
 ·cases e1
  obtain ⟨m, n, d, g1, g2, g3, o1, o2, o3, hE⟩ := h4 i xs[i] (List.getElem?_eq_getElem hi)
  exact ⟨_, hE, ⟨m, n, d, rfl, o1, o2, o3⟩, fun H => loads3 (.inr ⟨arr, ty, fr, e2, g1⟩) (.inr ⟨arr, ty, fr, e2, g2⟩) (.inr ⟨arr, ty, fr, e2, g3⟩)⟩
theorem SlAt.take {V : View} {A : Option Addr} {n c : Nat} {xs : List α} (h : SlAt E V (.slice A n c) xs) {k : Nat} (hk : k ≤ xs.length) : SlAt E V (.slice A k c) (xs.take k) := by
 obtain ⟨A', c', e, h1, h2, h3⟩ := h
 cases e
 refine ⟨A, c, by simp [Nat.min_eq_left hk], by simp; omega, h2, ?_⟩
 rcases h3 with rfl | ⟨b, o, arr, ty, fr, e1, e2, h4⟩
 ·exact .inl (by simp)
 ·refine .inr ⟨b, o, arr, ty, fr, e1, e2, fun i x hi => h4 i x ?_⟩
  rw [List.getElem?_take] at hi
  split at hi
  ·exact hi
  ·cases hi
theorem SlAt.drop {V : View} {A : Option Addr} {n c : Nat} {xs : List α} (h : SlAt E V (.slice A n c) xs) {k : Nat} (hk : k ≤ xs.length) : SlAt E V (sliceV A c 3 k n) (xs.drop k) := by
 obtain ⟨A', c', e, h1, h2, h3⟩ := h
 cases e
 unfold sliceV
 refine ⟨_, _, by rw [List.length_drop], by rw [List.length_drop]; omega, by omega, ?_⟩
 by_cases hc : c = k
 ·have hx : xs.drop k = [] := List.drop_eq_nil_of_le (by omega)
  rw [if_pos hc, hx]
  exact .inl rfl
 ·rw [if_neg hc]
  rcases h3 with rfl | ⟨b, o, arr, ty, fr, rfl, e2, h4⟩
  ·exact .inl (by simp)
  ·refine .inr ⟨b, o + k * 3, arr, ty, fr, ?_, e2, fun i x hi => ?_⟩
   ·rw [Option.map_some, addr_add]
   ·rw [List.getElem?_drop] at hi
    obtain ⟨m, n, d, g1, g2, g3, r⟩ := h4 (k + i) x hi
    refine ⟨m, n, d, ?_, ?_, ?_, r⟩
    ·show arr[o + k * 3 + i * 3]? = _
     rw [show o + k * 3 + i * 3 = o + (k + i) * 3 from by omega]; exact g1
    ·show arr[o + k * 3 + (i * 3 + 1)]? = _
     rw [show o + k * 3 + (i * 3 + 1) = o + ((k + i) * 3 + 1) from by omega]; exact g2
    ·show arr[o + k * 3 + (i * 3 + 2)]? = _
     rw [show o + k * 3 + (i * 3 + 2) = o + ((k + i) * 3 + 2) from by omega]; exact g3
theorem RowAt.mono (hE : ElOk E) {V V' : View} {cells : List Value} {xs : List α} (h : RowAt E V cells xs) (hV : V.le V') : RowAt E V' cells xs := ⟨h.1, fun i x hi => (h.2 i x hi).mono hE hV⟩
theorem RowAt.nil (V : View) : RowAt E V [] ([] : List α) := ⟨rfl, fun i x hi => by simp at hi⟩
theorem RowAt.load {H : Heap} {V : View} {b e tot : Nat} {cells : List Value} {xs : List α} (hr : H b = some ⟨e, cells, tot⟩) (h : RowAt E V cells xs) (i : Nat) (hi : i < xs.length) : ∃ v, E V v xs[i] ∧ (∃ m n d, v = .agg #[m, n, d] ∧ isOne m = true ∧ isOne n = true ∧ isOne d = true) ∧ Loads Tryz.prog H V 48 b (i * 3) v := by
 obtain ⟨m, n, d, g1, g2, g3, o1, o2, o3, hE⟩ := h.2 i xs[i] (List.getElem?_eq_getElem hi)
 have := loads3 (H := H) (V := V) (b := b) (o := 0) (i := i) (m := m) (n := n) (d := d) (.inl ⟨_, hr, by rw [Nat.zero_add]; exact g1⟩) (.inl ⟨_, hr, by rw [Nat.zero_add]; exact g2⟩) (.inl ⟨_, hr, by rw [Nat.zero_add]; exact g3⟩)
 rw [Nat.zero_add] at this
 exact ⟨_, hE, ⟨m, n, d, rfl, o1, o2, o3⟩, this⟩
theorem RowAt.pub (hE : ElOk E) {V : View} {b n c tot e : Nat} {o : Obj} {cells : List Value} {xs : List α} (h : RowAt E V cells xs) (ho : RowObj ⟨e, cells, tot⟩ o) (hle : V.le (addV V b o)) (hn : xs.length = n) (hc : n ≤ c) (hm : c ≤ 9223372036854775807) : SlAt E (addV V b o) (.slice (some ⟨b, 0, none⟩) n c) xs := by
 obtain ⟨ex, rfl, _⟩ := ho
 refine ⟨some ⟨b, 0, none⟩, c, by rw [hn], by omega, hm, .inr ⟨b, 0, _, e, (0, 0), rfl, by simp [addV]; rfl, fun i x hi => ?_⟩⟩
 obtain ⟨m, n, d, g1, g2, g3, r1, r2, r3, r4⟩ := h.2 i x hi
 have hlt : i < xs.length := by
  rcases Nat.lt_or_ge i xs.length with h1 | h1
  ·exact h1
  ·rw [List.getElem?_eq_none h1] at hi; cases hi
 have hl := h.1
 refine ⟨m, n, d, ?_, ?_, ?_, r1, r2, r3, hE _ _ _ _ hle r4⟩
 ·simp only [Nat.zero_add, List.getElem?_toArray]; rw [List.getElem?_append_left (by omega)]; exact g1
 ·simp only [Nat.zero_add, List.getElem?_toArray]; rw [List.getElem?_append_left (by omega)]; exact g2
 ·simp only [Nat.zero_add, List.getElem?_toArray]; rw [List.getElem?_append_left (by omega)]; exact g3
theorem RowAt.snoc {V : View} {cells : List Value} {xs : List α} (h : RowAt E V cells xs) {m n d : Value} {x : α} (h1 : isOne m = true) (h2 : isOne n = true) (h3 : isOne d = true) (hx : E V (.agg #[m, n, d]) x) : RowAt E V (cells ++ [m, n, d]) (xs ++ [x]) := by
 have hl := h.1
 refine ⟨by simp [hl]; omega, fun i y hi => ?_⟩
 by_cases hlt : i < xs.length
 ·rw [List.getElem?_append_left hlt] at hi
  obtain ⟨m, n, d, g1, g2, g3, r⟩ := h.2 i y hi
  refine ⟨m, n, d, ?_, ?_, ?_, r⟩
  ·dsimp only; rw [List.getElem?_append_left (by omega)]; exact g1
  ·dsimp only; rw [List.getElem?_append_left (by omega)]; exact g2
  ·dsimp only; rw [List.getElem?_append_left (by omega)]; exact g3
 ·rw [List.getElem?_append_right (by omega)] at hi
  have e : i = xs.length := by
   rcases Nat.eq_zero_or_pos (i - xs.length) with h0 | h0
   ·omega
   ·rw [List.getElem?_eq_none (by simp; omega)] at hi; cases hi
  subst e
  simp at hi
  subst hi
  refine ⟨m, n, d, ?_, ?_, ?_, h1, h2, h3, hx⟩
  ·dsimp only; rw [List.getElem?_append_right (by omega), hl]; simp
  ·dsimp only; rw [List.getElem?_append_right (by omega), hl, show xs.length * 3 + 1 - xs.length * 3 = 1 from by omega]; rfl
  ·dsimp only; rw [List.getElem?_append_right (by omega), hl, show xs.length * 3 + 2 - xs.length * 3 = 2 from by omega]; rfl
theorem splice_get (l : List Value) (i : Nat) (m n d : Value) (h : i * 3 + 3 ≤ l.length) (k : Nat) : (splice l (i * 3) [m, n, d])[k]? = if k = i * 3 then some m else if k = i * 3 + 1 then some n else if k = i * 3 + 2 then some d else l[k]? := by
 unfold splice
 by_cases h1 : k < i * 3
 ·rw [List.append_assoc, List.getElem?_append_left (by rw [List.length_take]; omega), List.getElem?_take, if_pos h1, if_neg (by omega), if_neg (by omega), if_neg (by omega)]
 ·rw [List.append_assoc, List.getElem?_append_right (by rw [List.length_take]; omega), List.length_take, Nat.min_eq_left (by omega)]
  by_cases h2 : k < i * 3 + 3
  ·rw [List.getElem?_append_left (by simp; omega)]
   have : k = i * 3 ∨ k = i * 3 + 1 ∨ k = i * 3 + 2 := by omega
   rcases this with rfl | rfl | rfl
   ·simp
   ·rw [show i * 3 + 1 - i * 3 = 1 from by omega, if_neg (by omega), if_pos rfl]; rfl
   ·rw [show i * 3 + 2 - i * 3 = 2 from by omega, if_neg (by omega), if_neg (by omega), if_pos rfl]; rfl
  ·rw [List.getElem?_append_right (by simp; omega), List.getElem?_drop, if_neg (by omega), if_neg (by omega), if_neg (by omega)]
   congr 1
   simp only [List.length_cons, List.length_nil]
   omega
theorem RowAt.set {V : View} {cells : List Value} {xs : List α} (h : RowAt E V cells xs) (i : Nat) (hi : i < xs.length) {m n d : Value} {x : α} (h1 : isOne m = true) (h2 : isOne n = true) (h3 : isOne d = true) (hx : E V (.agg #[m, n, d]) x) : RowAt E V (splice cells (i * 3) [m, n, d]) (xs.set i x) := by
 have hl := h.1
 refine ⟨?_, fun j y hj => ?_⟩
 ·rw [List.length_set, ← hl]; unfold splice; simp; omega
 ·by_cases e : i = j
  ·subst e
   rw [List.getElem?_set_self hi] at hj
   cases hj
   refine ⟨m, n, d, ?_, ?_, ?_, h1, h2, h3, hx⟩
   ·dsimp only; rw [splice_get _ _ _ _ _ (by omega), if_pos rfl]
   ·dsimp only; rw [splice_get _ _ _ _ _ (by omega), if_neg (by omega), if_pos rfl]
   ·dsimp only; rw [splice_get _ _ _ _ _ (by omega), if_neg (by omega), if_neg (by omega), if_pos rfl]
  ·rw [List.getElem?_set_ne e] at hj
   obtain ⟨m', n', d', g1, g2, g3, r⟩ := h.2 j y hj
   refine ⟨m', n', d', ?_, ?_, ?_, r⟩
   ·dsimp only; rw [splice_get _ _ _ _ _ (by omega), if_neg (by omega), if_neg (by omega), if_neg (by omega)]; exact g1
   ·dsimp only; rw [splice_get _ _ _ _ _ (by omega), if_neg (by omega), if_neg (by omega), if_neg (by omega)]; exact g2
   ·dsimp only; rw [splice_get _ _ _ _ _ (by omega), if_neg (by omega), if_neg (by omega), if_neg (by omega)]; exact g3
theorem RowAt.new (V : View) (n : Nat) : RowAt (optE E) V (List.replicate n [Value.bool false, .slice none 0 0, .slice none 0 0]).flatten (List.replicate n none) := by
 induction n with
 | zero => exact RowAt.nil V
 | succ n ih =>
  rw [List.replicate_succ', List.replicate_succ', List.flatten_append]
  exact ih.snoc (x := none) rfl rfl rfl trivial
theorem RowAt.all {V : View} {cells : List Value} {xs : List α} (h : RowAt (optE E) V cells (xs.map some)) : RowAt E V cells xs := by
 refine ⟨by rw [h.1, List.length_map], fun i x hi => ?_⟩
 obtain ⟨m, n, d, g1, g2, g3, r1, r2, r3, r4⟩ := h.2 i (some x) (by rw [List.getElem?_map, hi]; rfl)
 exact ⟨m, n, d, g1, g2, g3, r1, r2, r3, r4⟩
theorem RowAt.src {H : Heap} {V : View} {b e tot n c : Nat} {cells : List Value} {xs : List α} (h : RowAt E V cells xs) (hr : H b = some ⟨e, cells, tot⟩) (hn : xs.length = n) : Src H V 3 (.slice (some ⟨b, 0, none⟩) n c) n cells := by
 refine ⟨_, c, rfl, by rw [h.1, hn], fun u hu => ?_, .inr ⟨b, 0, rfl, fun j u hj => .inl ⟨_, hr, by rw [Nat.zero_add]; exact hj⟩⟩⟩
 obtain ⟨j, hj⟩ := List.getElem?_of_mem hu
 have hlt : j < cells.length := by
  rcases Nat.lt_or_ge j cells.length with h1 | h1
  ·exact h1
  ·rw [List.getElem?_eq_none h1] at hj; cases hj
 have hl := h.1
 obtain ⟨m, n, d, g1, g2, g3, r1, r2, r3, _⟩ := h.2 (j / 3) xs[j / 3] (List.getElem?_eq_getElem (by omega))
 dsimp only at g1 g2 g3
 have : j = j / 3 * 3 ∨ j = j / 3 * 3 + 1 ∨ j = j / 3 * 3 + 2 := by omega
 rcases this with e | e | e <;> rw [e] at hj
 ·rw [hj] at g1; cases g1; exact r1
 ·rw [hj] at g2; cases g2; exact r2
 ·rw [hj] at g3; cases g3; exact r3
theorem SlAt.src {V : View} {v : Value} {xs : List α} (h : SlAt E V v xs) : ∃ cells, RowAt E V cells xs ∧ ∀ H, Src H V 3 v xs.length cells := by
 obtain ⟨A, c, rfl, h1, h2, h3⟩ := h
 rcases h3 with rfl | ⟨b, o, arr, ty, fr, rfl, e2, h4⟩
 ·exact ⟨[], RowAt.nil V, fun H => ⟨A, c, rfl, rfl, fun u hu => (by cases hu), .inl rfl⟩⟩
 ·have hcell : ∀ k, k < xs.length * 3 → ∃ u, arr[o + k]? = some u ∧ isOne u = true := fun k hk => by
   obtain ⟨m, n, d, g1, g2, g3, r1, r2, r3, _⟩ := h4 (k / 3) xs[k / 3] (List.getElem?_eq_getElem (by omega))
   dsimp only at g1 g2 g3
   have : k = k / 3 * 3 ∨ k = k / 3 * 3 + 1 ∨ k = k / 3 * 3 + 2 := by omega
   rcases this with e | e | e <;> rw [e]
   ·exact ⟨m, g1, r1⟩
   ·exact ⟨n, g2, r2⟩
   ·exact ⟨d, g3, r3⟩
  have hget : ∀ k, ((List.range (xs.length * 3)).map fun k => arr.getD (o + k) undef)[k]? = if k < xs.length * 3 then arr[o + k]? else none := fun k => by
   by_cases hk : k < xs.length * 3
   ·obtain ⟨u, e1, _⟩ := hcell k hk
    rw [if_pos hk, List.getElem?_map, List.getElem?_range hk]
    simp only [Option.map_some, Array.getD_eq_getD_getElem?]
    rw [e1]; rfl
   ·rw [if_neg hk]; exact List.getElem?_eq_none (by simp; omega)
  refine ⟨(List.range (xs.length * 3)).map fun k => arr.getD (o + k) undef, ⟨by simp, fun i x hi => ?_⟩, fun H => ⟨_, c, rfl, by simp, fun u hu => ?_, .inr ⟨b, o, rfl, fun j u hj => .inr ⟨arr, ty, fr, e2, ?_⟩⟩⟩⟩
  ·have hlt : i < xs.length := by
    rcases Nat.lt_or_ge i xs.length with h1 | h1
    ·exact h1
    ·rw [List.getElem?_eq_none h1] at hi; cases hi
   obtain ⟨m, n, d, g1, g2, g3, r⟩ := h4 i x hi
   refine ⟨m, n, d, ?_, ?_, ?_, r⟩
   ·dsimp only; rw [hget, if_pos (by omega)]; exact g1
   ·dsimp only; rw [hget, if_pos (by omega)]; exact g2
   ·dsimp only; rw [hget, if_pos (by omega)]; exact g3
  ·simp only [List.mem_map, List.mem_range] at hu
   obtain ⟨k, hk, rfl⟩ := hu
   obtain ⟨u, e1, h1⟩ := hcell k hk
   simp only [Array.getD_eq_getD_getElem?]
   rw [e1]; exact h1
  ·rw [hget] at hj
   split at hj
   ·exact hj
   ·cases hj
end
theorem own3 {H : Heap} {b n cap : Nat} {xs : List Value} {e : Nat} (h : H b = some ⟨e, xs, cap * 3⟩) (hl : xs.length = n * 3) (hc : n ≤ cap) (hm : cap ≤ 9223372036854775807) : Own H e 3 (.slice (some ⟨b, 0, none⟩) n cap) n xs := by
 refine ⟨hl, .inr ⟨b, cap, rfl, h, hc, ?_⟩⟩
 unfold maxLen; omega
theorem own_nil {H : Heap} {e sz : Nat} : Own H e sz (.slice none 0 0) 0 [] := ⟨by simp, .inl ⟨rfl, rfl⟩⟩
theorem fill_three {place : Nat → Option (Nat × Nat)} {cells : Array Value} {i off : Nat} {a b c : Value} {rest : List (Nat × Value)} (hp : place i = some (off, 3)) (ho : off + 3 ≤ cells.size) : Instr.fill place cells ((i, .agg #[a, b, c]) :: rest) = Instr.fill place (((cells.setIfInBounds off a).setIfInBounds (off + 1) b).setIfInBounds (off + 2) c) rest := by
 have h1 : ¬ (cells.size < off + 3) := by omega
 simp [Instr.fill, hp, Value.cells, h1, Array.zipIdx]
theorem bs_rat {t : Nat} {a b c : Value} (he : elemT Tryz.prog t = some 48) : BuildsSlice Tryz.prog t 1 #[(0, .agg #[a, b, c])] 48 [a, b, c] := by
 obtain ⟨i, zv, hi, hzv, h1, h2, _⟩ := zero_parts zeroT_48
 have hc : zv.cells = #[.bool false, .slice none 0 0, .slice none 0 0] := Array.toList_inj.1 h1
 refine bs_run (cells := #[a, b, c]) he hi hzv (by omega) (by omega) ?_
 rw [h2, hc]
 have : madeCells #[.bool false, .slice none 0 0, .slice none 0 0] (1 * 3) = #[.bool false, .slice none 0 0, .slice none 0 0] := Array.toList_inj.1 (by rw [made_flat _ 3 rfl (by omega)]; rfl)
 rw [this, fill_three (off := 0) rfl (by simp)]; rfl
end Go.Proofs.YthoboehbadmlmaaGreat
end
section
namespace Go.Proofs.YthoboehbadmlmaaGreat
def cf (l : List Rat) (i : Nat) : Rat := l.getD i 0
def trimQ (l : List Rat) : List Rat := (l.reverse.dropWhile (· == 0)).reverse
theorem cf_get {l : List Rat} {i : Nat} (h : i < l.length) : l[i] = cf l i := by simp [cf, h]
theorem cf_none {l : List Rat} {i : Nat} (h : l.length ≤ i) : cf l i = 0 := by simp [cf, h]
theorem cf_mem {l : List Rat} {i : Nat} (h : i < l.length) : cf l i ∈ l := by rw [← cf_get h]; exact List.getElem_mem h
theorem trimQ_snoc_zero (l : List Rat) : trimQ (l ++ [0]) = trimQ l := by simp [trimQ]
theorem trimQ_snoc (l : List Rat) (d : Rat) (h : d ≠ 0) : trimQ (l ++ [d]) = l ++ [d] := by simp [trimQ, h]
theorem snocQ (l : List Rat) : l = [] ∨ ∃ a d, l = a ++ [d] := by
 cases h : l.reverse with
 | nil => left; simpa using h
 | cons d r => right; exact ⟨r.reverse, d, by rw [← List.reverse_reverse l, h]; simp⟩
theorem takeQ_snoc {l : List Rat} {k : Nat} (h : k < l.length) : l.take (k + 1) = l.take k ++ [cf l k] := by rw [List.take_succ_eq_append_getElem h, cf_get h]
theorem trimQ_take (l : List Rat) : ∃ k, k ≤ l.length ∧ trimQ l = l.take k ∧ (∀ i, k ≤ i → cf l i = 0) ∧ (0 < k → cf l (k - 1) ≠ 0) := by
 generalize hn : l.length = n
 induction n generalizing l with
 | zero =>
  have : l = [] := List.length_eq_zero_iff.1 hn
  subst this
  exact ⟨0, by simp, rfl, fun i _ => by simp [cf], fun h => by omega⟩
 | succ n ih =>
  rcases snocQ l with rfl | ⟨a, d, rfl⟩
  ·simp at hn
  ·have ha : a.length = n := by simpa using hn
   by_cases hd : d = 0
   ·subst hd
    obtain ⟨k, h1, h2, h3, h4⟩ := ih a ha
    refine ⟨k, by omega, ?_, fun i hi => ?_, fun h0 => ?_⟩
    ·rw [trimQ_snoc_zero, h2, List.take_append_of_le_length (by omega)]
    ·by_cases hi2 : i < a.length
     ·have := h3 i hi
      unfold cf at this ⊢
      simp only [List.getD_eq_getElem?_getD, List.getElem?_append_left hi2] at this ⊢
      exact this
     ·by_cases hi3 : i = a.length
      ·subst hi3; simp [cf]
      ·exact cf_none (by simp; omega)
    ·have := h4 h0
     unfold cf at this ⊢
     simp only [List.getD_eq_getElem?_getD] at this ⊢
     rw [List.getElem?_append_left (by omega)]; exact this
   ·refine ⟨n + 1, Nat.le_refl _, ?_, fun i hi => cf_none (by simp; omega), fun _ => ?_⟩
    ·rw [trimQ_snoc a d hd, List.take_of_length_le (by simp; omega)]
    ·unfold cf
     simp only [Nat.add_sub_cancel, List.getD_eq_getElem?_getD]
     rw [List.getElem?_append_right (by omega), ha, Nat.sub_self]; exact hd
theorem cf_trimQ (l : List Rat) (i : Nat) : cf (trimQ l) i = cf l i := by
 obtain ⟨k, h1, h2, h3, _⟩ := trimQ_take l
 rw [h2]
 by_cases hi : i < k
 ·unfold cf; simp only [List.getD_eq_getElem?_getD, List.getElem?_take, hi, if_true]
 ·rw [h3 i (by omega)]; exact cf_none (by simp; omega)
theorem trimQ_len (l : List Rat) : (trimQ l).length ≤ l.length := by
 obtain ⟨k, h1, h2, _⟩ := trimQ_take l
 rw [h2]; simp; omega
def PolQ (l : List Rat) : Prop := 0 < l.length → cf l (l.length - 1) ≠ 0
theorem trimQ_pol (l : List Rat) : PolQ (trimQ l) := by
 obtain ⟨k, h1, h2, h3, h4⟩ := trimQ_take l
 intro h0
 rw [cf_trimQ]
 have : (trimQ l).length = k := by rw [h2]; simp; omega
 rw [this] at h0 ⊢
 exact h4 h0
theorem PolQ.trim {l : List Rat} (h : PolQ l) : trimQ l = l := by
 obtain ⟨k, h1, h2, h3, h4⟩ := trimQ_take l
 rw [h2]
 rcases Nat.lt_or_ge k l.length with hk | hk
 ·have h0 : 0 < l.length := by omega
  exact absurd (h3 (l.length - 1) (by omega)) (h h0)
 ·exact List.take_of_length_le hk
theorem PolQ.ext {a b : List Rat} (ha : PolQ a) (hb : PolQ b) (h : ∀ i, cf a i = cf b i) : a = b := by
 have hl : a.length = b.length := by
  rcases Nat.lt_trichotomy a.length b.length with h1 | h1 | h1
  ·have := hb (by omega)
   rw [← h, cf_none (by omega)] at this
   exact absurd rfl this
  ·exact h1
  ·have := ha (by omega)
   rw [h, cf_none (by omega)] at this
   exact absurd rfl this
 refine List.ext_getElem hl fun i h1 h2 => ?_
 rw [cf_get h1, cf_get h2, h i]
def mk (n : Nat) (f : Nat → Rat) : List Rat := (List.range n).map f
theorem mk_len (n : Nat) (f : Nat → Rat) : (mk n f).length = n := by simp [mk]
theorem cf_mk (n : Nat) (f : Nat → Rat) (i : Nat) : cf (mk n f) i = if i < n then f i else 0 := by
 unfold cf mk
 by_cases h : i < n
 ·simp [h]
 ·simp [h]
def pAt (p q : List Rat) (c : Rat) (up i : Nat) : Rat := cf p i + if up ≤ i then cf q (i - up) * c else 0
def pAdd (p q : List Rat) (c : Rat) (up : Nat) : List Rat := trimQ (mk (max p.length (q.length + up)) (pAt p q c up))
theorem cf_pAdd (p q : List Rat) (c : Rat) (up i : Nat) : cf (pAdd p q c up) i = pAt p q c up i := by
 unfold pAdd
 rw [cf_trimQ, cf_mk]
 split
 ·rfl
 ·rename_i h
  unfold pAt
  rw [cf_none (by omega), Rat.zero_add]
  split
  ·rw [cf_none (by omega), Rat.zero_mul]
  ·rfl
theorem pAdd_pol (p q : List Rat) (c : Rat) (up : Nat) : PolQ (pAdd p q c up) := trimQ_pol _
theorem pAdd_len (p q : List Rat) (c : Rat) (up : Nat) : (pAdd p q c up).length ≤ max p.length (q.length + up) := by
 have := trimQ_len (mk (max p.length (q.length + up)) (pAt p q c up))
 rw [mk_len] at this; exact this
def offS (l q : List Rat) (at_ : Nat) : Nat → Rat
 | 0 => 0
 | k + 1 => offS l q at_ k + cf q k * cf l (at_ - k)
def off (l q : List Rat) (at_ : Nat) : Rat := offS l q at_ (min q.length (at_ + 1))
end Go.Proofs.YthoboehbadmlmaaGreat
end
section
namespace Go.Proofs.YthoboehbadmlmaaGreat
open Go Go.RowKit
attribute [local irreducible] XWP Spec SpecO XPub XCall seqX clX apX stX ldX iaX slX
abbrev Rats (V : View) (v : Value) (l : List Rat) : Prop := SlAt ratE V v l
theorem Rats.up {V V' : View} {v : Value} {l : List Rat} (h : Rats V v l) (hV : V.le V') : Rats V' v l := SlAt.mono ratE_ok h hV
theorem Rats.get {V : View} {b o n c : Nat} {l : List Rat} (h : Rats V (.slice (some ⟨b, o, none⟩) n c) l) (i : Nat) (hi : i < l.length) : ∃ m n d, RatC V (.agg #[m, n, d]) (cf l i) ∧ (isOne m = true ∧ isOne n = true ∧ isOne d = true) ∧ ∀ H, Loads Tryz.prog H V 48 b (o + i * 3) (.agg #[m, n, d]) := by
 obtain ⟨v, h1, ⟨m, n, d, rfl, o1⟩, h2⟩ := SlAt.load h i hi
 rw [cf_get hi] at h1
 exact ⟨m, n, d, h1, o1, h2⟩
theorem RatC.form {V : View} {v : Value} {q : Rat} (h : RatC V v q) : ∃ x y, v = .agg #[.bool (ng q), x, y] ∧ isOne x = true ∧ isOne y = true := by
 obtain ⟨n, d, e, h1, h2⟩ := h; exact ⟨n, d, e, h1.one, h2.one⟩
theorem czero_c (V : View) (v : Value) (q : Rat) (h : RatC V v q) : Spec Tryz.prog 68 [v] V fun v' V' => v' = .bool (decide (q = 0)) := by
 obtain ⟨n, d, rfl, hn, hd⟩ := h
 obtain ⟨A, c, rfl, _, _⟩ := NatAt.form hn
 refine (Spec.enter Tryz.func68 rfl fun Γ => ?_)
 simp only [Tryz.ntmps68, List.map_cons, List.map_nil, List.length_cons, List.length_nil, Nat.reduceAdd, Nat.reduceSub, List.replicate_succ, List.replicate_zero, List.cons_append, List.nil_append]
 refine Gx.a (by kernel_rfl) fun K hK => ?_
 simp only [XA]
 refine hK _ ?_
 refine Gx.a (by kernel_rfl) fun K hK => ?_
 simp only [XA, XB, len_zero]
 refine hK _ (XWP.ret ?_)
 try simp only [thenX_ret, inBlockX_ret]
 refine ret_go _ rfl ?_
 show Value.bool _ = _
 congr 1
 rw [decide_eq_decide]
 exact (rat_zero_iff q).symm
theorem cget_c (V : View) (v : Value) (l : List Rat) (i : Nat) (h : Rats V v l) (hi : i ≤ 4611686018427387904) : Spec Tryz.prog 72 [v, .int .i64 (i : Int)] V fun v' V' => RatC V' v' (cf l i) := by
 obtain ⟨A, c, rfl, hc, hm⟩ := h.form
 refine (Spec.enter Tryz.func72 rfl fun Γ => ?_)
 simp only [Tryz.ntmps72, List.map_cons, List.map_nil, List.length_cons, List.length_nil, Nat.reduceAdd, Nat.reduceSub, List.replicate_succ, List.replicate_zero, List.cons_append, List.nil_append]
 refine Gx.a (by kernel_rfl) fun K hK => ?_
 simp only [XA, XB]
 refine hK _ ?_
 refine XWP.seq ?_
 by_cases hlt : i < l.length
 ·have b1 : decide ((i : Int) < (l.length : Int)) = true := decide_eq_true (by omega)
  obtain ⟨b, o, rfl⟩ := h.addr (by omega)
  obtain ⟨m, n, d, hx, ⟨o1, o2, o3⟩, hld⟩ := Rats.get h i hlt
  refine Gx.a (by kernel_rfl) fun K hK => ?_
  simp only [XA, XB, b1]
  refine hK _ ?_
  refine Gx.t rfl ?_
  refine Gx.a (by kernel_rfl) fun K hK => ?_
  simp only [XA, XB]
  refine ⟨by omega, by omega, ld_mem (hld _) ?_⟩
  simp only [XA]
  refine st_rat rfl rfl o1 o2 o3 ?_
  simp only [XA]
  refine hK _ (XWP.ret ?_)
  try simp only [thenX_ret, inBlockX_ret]
  exact ret_rat1 rfl rfl rfl hx
 ·have b1 : decide ((i : Int) < (l.length : Int)) = false := decide_eq_false (by omega)
  refine Gx.a (by kernel_rfl) fun K hK => ?_
  simp only [XA, XB, b1]
  refine hK _ ?_
  refine Gx.f rfl ?_
  refine XWP.skip ?_
  refine Gx.a (by kernel_rfl) fun K hK => ?_
  simp only [XA]
  refine call_go (by kernel_rfl) rfl (qzero_c _) fun v1 V1 hV1 h1 => ?_
  obtain ⟨x, y, rfl, hx, hy⟩ := h1
  simp only [XA]
  refine st_rat rfl rfl rfl hx.one hy.one ?_
  simp only [XA]
  refine hK _ (XWP.ret ?_)
  try simp only [thenX_ret, inBlockX_ret]
  refine ret_rat1 rfl rfl rfl ?_
  rw [cf_none (by omega)]
  exact ⟨_, _, rfl, hx, hy⟩
theorem ctrim_c (V : View) (v : Value) (l : List Rat) (h : Rats V v l) : Spec Tryz.prog 76 [v] V fun v' V' => Rats V' v' (trimQ l) := by
 obtain ⟨A, c, rfl, hc, hm⟩ := h.form
 refine (Spec.enter Tryz.func76 rfl fun Γ => ?_)
 simp only [Tryz.ntmps76, List.map_cons, List.map_nil, List.length_cons, List.length_nil, Nat.reduceAdd, Nat.reduceSub, List.replicate_succ, List.replicate_zero, List.cons_append, List.nil_append]
 refine Gx.a (by kernel_rfl) fun K hK => ?_
 simp only [XA]
 refine hK _ ?_
 clear hK
 refine XWP.cut (fun s => ∃ (k : Nat) (V2 : View), StIs (fun Z => [.v (.slice A k c), Z 1,Z 2,Z 3,Z 4,Z 5,Z 6,Z 7,Z 8,Z 9,Z 10,Z 11,Z 12,Z 13,Z 14,Z 15,Z 16,Z 17,Z 18,Z 19,Z 20]) [] (fun _ => none) V2 s ∧ V.le V2 ∧ k ≤ l.length ∧ l.take k = trimQ l) ?_ ?_
 ·refine XWP.block ?_
  refine XWP.loop (fun k s => ∃ (V2 : View), StIs (fun Z => [.v (.slice A k c), Z 1,Z 2,Z 3,Z 4,Z 5,Z 6,Z 7,Z 8,Z 9,Z 10,Z 11,Z 12,Z 13,Z 14,Z 15,Z 16,Z 17,Z 18,Z 19,Z 20]) [] (fun _ => none) V2 s ∧ V.le V2 ∧ k ≤ l.length ∧ trimQ (l.take k) = trimQ l) l.length ⟨V, StIs.of (by exact rfl), View.le_refl _, Nat.le_refl _, by simp⟩ ?_
  rintro k s ⟨V2, hs, hV2, hk, ht⟩
  obtain ⟨u, rfl⟩ := hs.out
  try dsimp only
  refine XWP.seq ?_
  by_cases h0 : k = 0
  ·subst h0
   have b1 : decide ((0 : Int) < ((0 : Nat) : Int)) = false := decide_eq_false (by omega)
   refine Gx.a (by kernel_rfl) fun K hK => ?_
   simp only [XA, XB, gateX, ↓reduceIte, b1]
   refine hK _ ?_
   refine Gx.f rfl ?_
   refine XWP.exit ?_
   exact ⟨0, V2, StIs.of (by exact rfl), hV2, hk, ht⟩
  ·have b1 : decide ((0 : Int) < (k : Int)) = true := decide_eq_true (by omega)
   obtain ⟨b, o, rfl⟩ := h.addr (by omega)
   obtain ⟨m, n, d, hx, ⟨o1, o2, o3⟩, hld⟩ := Rats.get (h.up hV2) (k - 1) (by omega)
   have w1 := i64_pred k (by omega) (by omega)
   have ek : l.take k = l.take (k - 1) ++ [cf l (k - 1)] := by rw [← takeQ_snoc (by omega)]; congr 1; omega
   refine Gx.a (by kernel_rfl) fun K hK => ?_
   simp only [XA, XB, gateX, ↓reduceIte, beq_self_eq_true, b1, w1]
   refine ⟨by omega, by omega, ld_mem (hld _) ?_⟩
   simp only [XA, gateX, ↓reduceIte, beq_self_eq_true]
   refine call_go (by kernel_rfl) rfl (czero_c _ _ _ hx) fun v3 V3 hV3 h3 => ?_
   subst h3
   by_cases hz : cf l (k - 1) = 0
   ·have b2 : decide (cf l (k - 1) = 0) = true := decide_eq_true hz
    simp only [XA, ↓reduceIte, b2]
    refine hK _ ?_
    refine Gx.t rfl ?_
    refine XWP.skip ?_
    refine XWP.block ?_
    refine Gx.c (by kernel_rfl) fun K hK => ?_
    simp only [XA, XB, w1]
    refine ⟨by omega, by omega, by omega, ?_⟩
    refine hK _ ⟨k - 1, by omega, V3, StIs.of (by exact rfl), View.le_trans hV2 hV3, by omega, ?_⟩
    rw [← ht, ek, hz, trimQ_snoc_zero]
   ·have b2 : decide (cf l (k - 1) = 0) = false := decide_eq_false hz
    simp only [XA, ↓reduceIte, b2]
    refine hK _ ?_
    refine Gx.f rfl ?_
    refine XWP.exit ?_
    refine ⟨k, V3, StIs.of (by exact rfl), View.le_trans hV2 hV3, hk, ?_⟩
    rw [← ht, ek, trimQ_snoc _ _ hz]
 rintro s ⟨k, V2, hs, hV2, hk, ht⟩
 obtain ⟨u, rfl⟩ := hs.out
 try dsimp only
 refine Gx.a (by kernel_rfl) fun K hK => ?_
 simp only [XA]
 refine hK _ (XWP.ret ?_)
 try simp only [thenX_ret, inBlockX_ret]
 refine ret_go _ rfl ?_
 rw [← ht]
 exact SlAt.take (h.up hV2) hk
theorem all3 {a b c : Value} (h1 : isOne a = true) (h2 : isOne b = true) (h3 : isOne c = true) : [a, b, c].all isOne = true := by simp [h1, h2, h3]
theorem max_nat (a b : Nat) : (if (b : Int) > (a : Int) then (b : Int) else (a : Int)) = ((max a b : Nat) : Int) := by split <;> omega
theorem mk_set {β : Type} (n : Nat) (g : Nat → β) (k : Nat) (x : β) : ((List.range n).map g).set k x = (List.range n).map fun i => if i = k then x else g i := by
 refine List.ext_getElem? fun i => ?_
 by_cases hi : i < n
 ·by_cases e : k = i
  ·subst e
   rw [List.getElem?_set_self (by simpa using hi)]
   simp [hi]
  ·rw [List.getElem?_set_ne e]
   simp only [List.getElem?_map, List.getElem?_range hi, Option.map_some]
   rw [if_neg (fun e' => e e'.symm)]
 ·rw [List.getElem?_eq_none (by simp; omega), List.getElem?_eq_none (by simp; omega)]
def part (n : Nat) (f : Nat → Rat) (k : Nat) : List (Option Rat) := (List.range n).map fun i => if i < k then some (f i) else none
theorem part_zero (n : Nat) (f : Nat → Rat) : part n f 0 = List.replicate n none := by
 unfold part
 refine List.ext_getElem? fun i => ?_
 by_cases hi : i < n
 ·simp [hi]
 ·rw [List.getElem?_eq_none (by simp; omega), List.getElem?_eq_none (by simp; omega)]
theorem part_len (n : Nat) (f : Nat → Rat) (k : Nat) : (part n f k).length = n := by simp [part]
theorem part_step (n : Nat) (f : Nat → Rat) (k : Nat) : (part n f k).set k (some (f k)) = part n f (k + 1) := by
 unfold part
 rw [mk_set]
 refine List.map_congr_left fun i _ => ?_
 by_cases e : i = k
 ·subst e; simp
 ·rw [if_neg e]
  by_cases h : i < k
  ·rw [if_pos h, if_pos (by omega)]
  ·rw [if_neg h, if_neg (by omega)]
theorem part_all (n : Nat) (f : Nat → Rat) : part n f n = (mk n f).map some := by
 unfold part mk
 rw [List.map_map]
 refine List.map_congr_left fun i hi => ?_
 rw [if_pos (List.mem_range.1 hi)]; rfl
theorem part_set2 (n : Nat) (f : Nat → Rat) (k : Nat) (x y : Option Rat) : ((part n f k).set k x).set k y = (part n f k).set k y := List.set_set ..
theorem cadd_c (V : View) (v u w : Value) (p q : List Rat) (c : Rat) (up A B C : Nat) (hv : Rats V v p) (hu : Rats V u q) (hw : RatC V w c) (hp : ∀ x ∈ p, QB A x) (hq : ∀ x ∈ q, QB B x) (hc : QB C c) (hABC : A + B + C + 2 ≤ 17592186044416) (lp : p.length ≤ 1000000) (lq : q.length + up ≤ 1000000) :
  Spec Tryz.prog 70 [v, u, w, .int .i64 (up : Int)] V fun v' V' => Rats V' v' (pAdd p q c up) := by
 obtain ⟨A1, c1, rfl, hc1, hm1⟩ := hv.form
 obtain ⟨A2, c2, rfl, hc2, hm2⟩ := hu.form
 obtain ⟨xw, yw, rfl, ow1, ow2⟩ := hw.form
 refine (Spec.enter Tryz.func70 rfl fun Γ => ?_)
 simp only [Tryz.ntmps70, List.map_cons, List.map_nil, List.length_cons, List.length_nil, Nat.reduceAdd, Nat.reduceSub, List.replicate_succ, List.replicate_zero, List.cons_append, List.nil_append]
 refine Gx.a (by kernel_rfl) fun K hK => ?_
 simp only [XA]
 refine hK _ ?_
 refine Gx.a (by kernel_rfl) fun K hK => ?_
 simp only [XA, XB, i64_add q.length up (by omega), max_nat]
 obtain ⟨N, hN⟩ : ∃ N, N = max p.length (q.length + up) := ⟨_, rfl⟩
 rw [← hN]
 have hNl : N ≤ 1000000 := by omega
 refine mk_go rfl rfl elemT_22 zeroT_48 (by omega) (by omega) (by omega) (by omega) rfl (by omega) fun g hg1 hg2 => ?_
 simp only [XA]
 refine hK _ ?_
 clear hK
 refine XWP.cut (fun s => ∃ (V2 : View) (H5 : Heap) (cells : List Value), StIs (fun Z => [Z 0,Z 1,Z 2,Z 3,Z 4,Z 5,Z 6,Z 7,Z 8, .v (.slice (some ⟨g, 0, none⟩) N N), Z 10,Z 11,Z 12,Z 13,Z 14,Z 15,Z 16,Z 17,Z 18,Z 19,Z 20,Z 21,Z 22,Z 23,Z 24,Z 25,Z 26,Z 27,Z 28,Z 29,Z 30,Z 31,Z 32,Z 33,Z 34,Z 35,Z 36,Z 37,Z 38,Z 39,Z 40,Z 41,Z 42,Z 43,Z 44,Z 45,Z 46,Z 47,Z 48,Z 49,Z 50,Z 51,Z 52,Z 53,Z 54,Z 55,Z 56,Z 57,Z 58,Z 59,Z 60,Z 61]) [[.bool (ng c), xw, yw]] H5 V2 s ∧ H5 g = some ⟨48, cells, N * 3⟩ ∧ RowAt ratE V2 cells (mk N (pAt p q c up))) ?_ ?_
 ·refine Gx.a (by kernel_rfl) fun K hK => ?_
  simp only [XA, XB]
  refine hK _ ?_
  clear hK
  refine XWP.block ?_
  refine XWP.loop (fun n s => ∃ (k : Nat) (V2 : View) (H5 : Heap) (cells : List Value), StIs (fun Z => [.v (.slice A1 p.length c1), .v (.slice A2 q.length c2), Z 2, .v (.int .i64 (up : Int)), Z 4, Z 5, .p 0 0, Z 7,Z 8, .v (.slice (some ⟨g, 0, none⟩) N N), Z 10,Z 11,Z 12,Z 13,Z 14,Z 15,Z 16,Z 17,Z 18,Z 19, .v (.int .i64 (N : Int)), .v (.int .i64 (k : Int)), Z 22,Z 23,Z 24,Z 25,Z 26,Z 27,Z 28,Z 29,Z 30,Z 31,Z 32,Z 33,Z 34,Z 35,Z 36,Z 37,Z 38,Z 39,Z 40,Z 41,Z 42,Z 43,Z 44,Z 45,Z 46,Z 47,Z 48,Z 49,Z 50,Z 51,Z 52,Z 53,Z 54,Z 55,Z 56,Z 57,Z 58,Z 59,Z 60,Z 61]) [[.bool (ng c), xw, yw]] H5 V2 s ∧ V.le V2 ∧ n + k = N ∧ H5 g = some ⟨48, cells, N * 3⟩ ∧ RowAt (optE ratE) V2 cells (part N (pAt p q c up) k)) N ⟨0, V, _, _, StIs.of (by exact rfl), View.le_refl _, rfl, by rw [upd_at], by rw [part_zero]; exact RowAt.new V N⟩ ?_
  rintro n s ⟨k, V2, H5, cells, hs, hV2, hn, hH, hrow⟩
  obtain ⟨z, rfl⟩ := hs.out
  try dsimp only
  by_cases hk : k < N
  ·have b1 : decide ((k : Int) < (N : Int)) = true := decide_eq_true (by omega)
   refine Gx.a (by kernel_rfl) fun K hK => ?_
   simp only [XA, XB, b1]
   refine hK _ ?_
   refine XWP.seq (Gx.t rfl ?_)
   refine XWP.skip ?_
   refine XWP.seq ?_
   refine XWP.block ?_
   refine Gx.a (by kernel_rfl) fun K hK => ?_
   simp only [XA]
   refine hK _ ?_
   refine Gx.a (by kernel_rfl) fun K hK => ?_
   simp only [XA]
   refine call_go (by kernel_rfl) rfl (cget_c _ _ _ k (Rats.up hv hV2) (by omega)) fun v3 V3 hV3 h3 => ?_
   simp only [XA]
   refine call_go (by kernel_rfl) rfl (qzero_c _) fun v4 V4 hV4 h4 => ?_
   simp only [XA]
   have f1 : QB A (cf p k) := by
    by_cases h : k < p.length
    ·exact hp _ (cf_mem h)
    ·rw [cf_none (by omega)]; exact QB_zero A
   refine call_go (by kernel_rfl) rfl (qadd_c _ _ _ _ _ (h3.mono hV4) h4 (QF.of f1 (by omega)) QF_zero) fun v5 V5 hV5 h5 => ?_
   rw [Rat.add_zero] at h5
   obtain ⟨x5, y5, rfl, o5, o6⟩ := h5.form
   have hrow := ((hrow.mono (optE_ok ratE_ok) hV3).mono (optE_ok ratE_ok) hV4).mono (optE_ok ratE_ok) hV5
   have hl := hrow.1
   rw [part_len] at hl
   simp only [XA, XB]
   refine ⟨by omega, by omega, ?_⟩
   refine st_rowA shapeT_48 (all3 rfl o5 o6) rfl hH (by dsimp only; omega) ?_
   simp only [XA]
   refine hK _ ?_
   have hrow2 := hrow.set k (by rw [part_len]; omega) (x := some (cf p k)) (show isOne (.bool (ng (cf p k))) = true from rfl) o5 o6 h5
   clear hK
   refine XWP.post (fun s => ∃ (V6 : View) (H6 : Heap) (cells : List Value), StIs (fun Z => [.v (.slice A1 p.length c1), .v (.slice A2 q.length c2), Z 2, .v (.int .i64 (up : Int)), Z 4, Z 5, .p 0 0, Z 7,Z 8, .v (.slice (some ⟨g, 0, none⟩) N N), Z 10,Z 11,Z 12,Z 13,Z 14,Z 15,Z 16,Z 17,Z 18,Z 19, .v (.int .i64 (N : Int)), .v (.int .i64 (k : Int)), Z 22,Z 23,Z 24,Z 25,Z 26,Z 27,Z 28,Z 29,Z 30,Z 31,Z 32,Z 33,Z 34,Z 35,Z 36,Z 37,Z 38,Z 39,Z 40,Z 41,Z 42,Z 43,Z 44,Z 45,Z 46,Z 47,Z 48,Z 49,Z 50,Z 51,Z 52,Z 53,Z 54,Z 55,Z 56,Z 57,Z 58,Z 59,Z 60,Z 61]) [[.bool (ng c), xw, yw]] H6 V6 s ∧ V.le V6 ∧ H6 g = some ⟨48, cells, N * 3⟩ ∧ RowAt (optE ratE) V6 cells (part N (pAt p q c up) (k + 1))) ?_ ?_
   ·refine Gx.a (by kernel_rfl) fun K hK => ?_
    by_cases hin : up ≤ k ∧ k - up < q.length
    ·obtain ⟨hup, hlt⟩ := hin
     have b2 : decide ((up : Int) ≤ (k : Int)) = true := decide_eq_true (by omega)
     have w1 := i64_sub k up (by omega) (by omega)
     have b3 : decide (((k - up : Nat) : Int) < (q.length : Int)) = true := decide_eq_true (by omega)
     simp only [XA, XB, gateX, ↓reduceIte, beq_self_eq_true, b2, w1, b3]
     refine hK _ ?_
     refine Gx.t rfl ?_
     (refine XWP.drw1 [0, 1, 2, 3, 4, 5, 6, 7, 8, 9, 10, 11, 12, 13, 14, 15, 16] (by kernel_rfl) (by kernel_rfl) (by kernel_rfl) fun K hK => ?_) <;> dsimp only [pickOps, List.getElem?_cons_zero, List.getElem?_cons_succ]
     have hu5 := Rats.up hu (View.le_trans hV2 (View.le_trans hV3 (View.le_trans hV4 hV5)))
     obtain ⟨b, o, rfl⟩ := SlAt.addr hu5 (by omega)
     obtain ⟨m, n', d, hx, ⟨o1, o2, o3⟩, hld⟩ := Rats.get hu5 (k - up) hlt
     have hH6 : upd H5 g (some ⟨48, splice cells (k * 3) [.bool (ng (cf p k)), x5, y5], N * 3⟩) g = some ⟨48, splice cells (k * 3) [.bool (ng (cf p k)), x5, y5], N * 3⟩ := upd_at _ _ _
     have hl2 := hrow2.1
     rw [List.length_set, part_len] at hl2
     have hcell : ∀ j u, [Value.bool (ng (cf p k)), x5, y5][j]? = some u → CellAt (upd H5 g (some ⟨48, splice cells (k * 3) [.bool (ng (cf p k)), x5, y5], N * 3⟩)) V5 g (k * 3 + j) u := fun j u hj => .inl ⟨_, hH6, by
      dsimp only
      rw [splice_get _ _ _ _ _ (by omega)]
      match j, hj with
      | 0, hj => rw [if_pos (by omega)]; exact hj
      | 1, hj => rw [if_neg (by omega), if_pos (by omega)]; exact hj
      | 2, hj => rw [if_neg (by omega), if_neg (by omega), if_pos (by omega)]; exact hj⟩
     simp only [XA, XB]
     refine ⟨by omega, by omega, ld_mem ⟨true, 3, shapeT_48, .inl ⟨rfl, _, rfl, hcell, rfl⟩⟩ ?_⟩
     simp only [XA, XB, w1]
     refine ⟨by omega, by omega, ld_mem (hld _) ?_⟩
     simp only [XA, XB, Nat.reduceAdd, Nat.reduceLeDiff, ↓reduceIte]
     have f2 : QB B (cf q (k - up)) := hq _ (cf_mem hlt)
     have f3 := f2.mul hc
     refine call_go (by kernel_rfl) rfl (qmul_c _ _ _ _ _ hx (RatC.mono hw (View.le_trans hV2 (View.le_trans hV3 (View.le_trans hV4 hV5)))) (QF.of f2 (by omega)) (QF.of hc (by omega))) fun v6 V6 hV6 h6 => ?_
     simp only [XA]
     refine call_go (by kernel_rfl) rfl (qadd_c _ _ _ _ _ (h5.mono hV6) h6 (QF.of f1 (by omega)) (QF.of f3 (by omega))) fun v7 V7 hV7 h7 => ?_
     obtain ⟨x7, y7, rfl, o7, o8⟩ := h7.form
     simp only [XA, XB]
     refine ⟨by omega, by omega, ?_⟩
     refine st_rowA shapeT_48 (all3 rfl o7 o8) rfl hH6 (by dsimp only; omega) ?_
     simp only [XA]
     have hrow3 := ((hrow2.mono (optE_ok ratE_ok) hV6).mono (optE_ok ratE_ok) hV7).set k (by rw [List.length_set, part_len]; omega) (x := some (cf p k + cf q (k - up) * c)) (show isOne (.bool (ng (cf p k + cf q (k - up) * c))) = true from rfl) o7 o8 h7
     refine hK _ ⟨V7, _, _, StIs.of (by exact rfl), View.le_trans hV2 (View.le_trans hV3 (View.le_trans hV4 (View.le_trans hV5 (View.le_trans hV6 hV7)))), upd_at _ _ _, ?_⟩
     have e : cf p k + cf q (k - up) * c = pAt p q c up k := by unfold pAt; rw [if_pos hup]
     rw [part_set2, e, part_step, ← e] at hrow3
     exact hrow3
    ·have e : cf p k = pAt p q c up k := by
      unfold pAt
      by_cases hup : up ≤ k
      ·rw [if_pos hup, cf_none (l := q) (by omega), Rat.zero_mul, Rat.add_zero]
      ·rw [if_neg hup, Rat.add_zero]
     rw [e, part_step, ← e] at hrow2
     by_cases hup : up ≤ k
     ·have b2 : decide ((up : Int) ≤ (k : Int)) = true := decide_eq_true (by omega)
      have w1 := i64_sub k up (by omega) (by omega)
      have b3 : decide (((k - up : Nat) : Int) < (q.length : Int)) = false := decide_eq_false (by omega)
      simp only [XA, XB, gateX, ↓reduceIte, beq_self_eq_true, b2, w1, b3]
      refine hK _ ?_
      refine Gx.f rfl ?_
      refine XWP.skip ?_
      exact ⟨V5, _, _, StIs.of (by exact rfl), View.le_trans hV2 (View.le_trans hV3 (View.le_trans hV4 hV5)), upd_at _ _ _, hrow2⟩
     ·have b2 : decide ((up : Int) ≤ (k : Int)) = false := decide_eq_false (by omega)
      simp only [XA, XB, gateX, ↓reduceIte, b2]
      refine hK _ ?_
      refine Gx.f rfl ?_
      refine XWP.skip ?_
      exact ⟨V5, _, _, StIs.of (by exact rfl), View.le_trans hV2 (View.le_trans hV3 (View.le_trans hV4 hV5)), upd_at _ _ _, hrow2⟩
   ·rintro s ⟨V6, H6, cells6, hs6, hV6, hH6, hrow6⟩
    obtain ⟨z6, rfl⟩ := hs6.out
    try dsimp only
    refine Gx.c (by kernel_rfl) fun K hK => ?_
    simp only [XA, XB, i64_succ k (by omega)]
    exact hK _ ⟨n - 1, by omega, k + 1, V6, H6, cells6, StIs.of (by exact rfl), hV6, by omega, hH6, hrow6⟩
  ·have b1 : decide ((k : Int) < (N : Int)) = false := decide_eq_false (by omega)
   obtain rfl : k = N := by omega
   refine Gx.a (by kernel_rfl) fun K hK => ?_
   simp only [XA, XB, b1]
   refine hK _ ?_
   refine XWP.seq (Gx.f rfl ?_)
   refine XWP.exit ?_
   rw [part_all] at hrow
   exact ⟨V2, H5, cells, StIs.of (by exact rfl), hH, hrow.all⟩
 rintro s ⟨V2, H5, cells, hs, hH, hrow⟩
 obtain ⟨z, rfl⟩ := hs.out
 try dsimp only
 refine Gx.a (by kernel_rfl) fun K hK => ?_
 simp only [XA]
 refine call_pub g _ hH (fun o ho hle' => ?_) (by kernel_rfl) rfl
 refine call_go (by kernel_rfl) rfl (ctrim_c _ _ _ (hrow.pub ratE_ok ho hle' (mk_len _ _) (Nat.le_refl _) (by omega))) fun v3 V3 hV3 h3 => ?_
 simp only [XA]
 refine hK _ (XWP.ret ?_)
 try simp only [thenX_ret, inBlockX_ret]
 refine ret_go _ rfl ?_
 unfold pAdd
 rw [← hN]
 exact h3
theorem off_c (V : View) (v u : Value) (l q : List Rat) (t : Nat) (hv : Rats V v l) (hu : Rats V u q) (ht : t < l.length) (ll : l.length ≤ 1000000) (lq : q.length ≤ 1000000) (hl : ∀ x ∈ l, QF x) (hq : ∀ x ∈ q, QF x) (hs : ∀ k, k < min q.length (t + 1) → QF (offS l q t k) ∧ QF (cf q k * cf l (t - k))) :
  Spec Tryz.prog 67 [v, u, .int .i64 (t : Int)] V fun v' V' => RatC V' v' (off l q t) := by
 obtain ⟨A1, c1, rfl, hc1, hm1⟩ := hv.form
 obtain ⟨A2, c2, rfl, hc2, hm2⟩ := hu.form
 refine (Spec.enter Tryz.func67 rfl fun Γ => ?_)
 simp only [Tryz.ntmps67, List.map_cons, List.map_nil, List.length_cons, List.length_nil, Nat.reduceAdd, Nat.reduceSub, List.replicate_succ, List.replicate_zero, List.cons_append, List.nil_append]
 refine Gx.a (by kernel_rfl) fun K hK => ?_
 simp only [XA, XB]
 refine hK _ ?_
 refine Gx.a (by kernel_rfl) fun K hK => ?_
 simp only [XA]
 refine call_go (by kernel_rfl) rfl (qzero_c _) fun v1 V1 hV1 h1 => ?_
 obtain ⟨x1, y1, rfl, o1, o2⟩ := h1.form
 simp only [XA, XB]
 refine st_rat rfl rfl rfl o1 o2 ?_
 simp only [XA]
 refine hK _ ?_
 clear hK
 obtain ⟨M, hM⟩ : ∃ M, M = min q.length (t + 1) := ⟨_, rfl⟩
 refine XWP.cut (fun s => ∃ (V2 : View) (m : Bool) (x y : Value), StIs (fun Z => [Z 0,Z 1,Z 2,Z 3,Z 4,Z 5, .p 0 0, .p 1 0, Z 8,Z 9,Z 10,Z 11,Z 12,Z 13,Z 14,Z 15,Z 16,Z 17,Z 18,Z 19,Z 20,Z 21,Z 22,Z 23,Z 24,Z 25,Z 26,Z 27,Z 28,Z 29,Z 30,Z 31,Z 32,Z 33,Z 34]) [[.bool false, .slice none 0 0, .slice none 0 0], [.bool m, x, y]] (fun _ => none) V2 s ∧ RatC V2 (.agg #[.bool m, x, y]) (off l q t) ∧ isOne x = true ∧ isOne y = true) ?_ ?_
 ·refine Gx.a (by kernel_rfl) fun K hK => ?_
  simp only [XA]
  refine hK _ ?_
  clear hK
  refine XWP.block ?_
  refine XWP.loop (fun n s => ∃ (k : Nat) (V2 : View) (m : Bool) (x y : Value), StIs (fun Z => [.v (.slice A1 l.length c1), .v (.slice A2 q.length c2), .v (.int .i64 (t : Int)), Z 3,Z 4,Z 5, .p 0 0, .p 1 0, .v (.int .i64 (k : Int)), Z 9,Z 10,Z 11,Z 12,Z 13,Z 14,Z 15,Z 16,Z 17,Z 18,Z 19,Z 20,Z 21,Z 22,Z 23,Z 24,Z 25,Z 26,Z 27,Z 28,Z 29,Z 30,Z 31,Z 32,Z 33,Z 34]) [[.bool false, .slice none 0 0, .slice none 0 0], [.bool m, x, y]] (fun _ => none) V2 s ∧ V.le V2 ∧ n + k = M ∧ RatC V2 (.agg #[.bool m, x, y]) (offS l q t k) ∧ isOne x = true ∧ isOne y = true) M ⟨0, V1, _, x1, y1, StIs.of (by exact rfl), hV1, rfl, h1, o1, o2⟩ ?_
  clear h1 o1 o2
  rintro n s ⟨k, V2, m, x, y, hs', hV2, hn, h1, o1, o2⟩
  obtain ⟨z, rfl⟩ := hs'.out
  try dsimp only
  refine XWP.seq ?_
  by_cases hk : k < M
  ·have b1 : decide ((k : Int) < (q.length : Int)) = true := decide_eq_true (by omega)
   have b2 : decide ((k : Int) ≤ (t : Int)) = true := decide_eq_true (by omega)
   refine Gx.a (by kernel_rfl) fun K hK => ?_
   simp only [XA, XB, gateX, ↓reduceIte, beq_self_eq_true, b1, b2]
   refine hK _ ?_
   refine Gx.t rfl ?_
   refine XWP.skip ?_
   refine XWP.seq ?_
   refine XWP.block ?_
   (refine XWP.drw1 [0, 1, 2, 3, 4, 5, 6, 7, 8, 9, 10, 11, 12, 13] (by kernel_rfl) (by kernel_rfl) (by kernel_rfl) fun K hK => ?_) <;> dsimp only [pickOps, List.getElem?_cons_zero, List.getElem?_cons_succ]
   have hv2 := Rats.up hv hV2
   have hu2 := Rats.up hu hV2
   obtain ⟨b, o, rfl⟩ := SlAt.addr hv2 (by omega)
   obtain ⟨b', o', rfl⟩ := SlAt.addr hu2 (by omega)
   obtain ⟨m3, n3, d3, hx3, ⟨p1, p2, p3⟩, hld3⟩ := Rats.get hv2 (t - k) (by omega)
   obtain ⟨m4, n4, d4, hx4, ⟨r1, r2, r3⟩, hld4⟩ := Rats.get hu2 k (by omega)
   have w1 := i64_sub t k (by omega) (by omega)
   obtain ⟨g1, g2⟩ := hs k (by omega)
   simp only [XA, XB, Nat.reduceAdd, Nat.reduceLeDiff, ↓reduceIte]
   refine ⟨by omega, by omega, ld_mem (hld4 _) ?_⟩
   simp only [XA, XB, w1]
   refine ⟨by omega, by omega, ld_mem (hld3 _) ?_⟩
   simp only [XA]
   refine call_go (by kernel_rfl) rfl (qmul_c _ _ _ _ _ hx4 hx3 (hq _ (cf_mem (by omega))) (hl _ (cf_mem (by omega)))) fun v5 V5 hV5 h5 => ?_
   simp only [XA]
   refine call_go (by kernel_rfl) rfl (qadd_c _ _ _ _ _ (h1.mono hV5) h5 g1 g2) fun v6 V6 hV6 h6 => ?_
   obtain ⟨x6, y6, rfl, o6, o7⟩ := h6.form
   simp only [XA]
   refine st_rat rfl rfl rfl o6 o7 ?_
   simp only [XA]
   refine hK _ ?_
   refine Gx.c (by kernel_rfl) fun K hK => ?_
   simp only [XA, XB, i64_succ k (by omega)]
   exact hK _ ⟨n - 1, by omega, k + 1, V6, _, x6, y6, StIs.of (by exact rfl), View.le_trans hV2 (View.le_trans hV5 hV6), by omega, h6, o6, o7⟩
  ·obtain rfl : k = M := by omega
   have fin : RatC V2 (.agg #[.bool m, x, y]) (off l q t) := by unfold off; rw [← hM]; exact h1
   by_cases hk1 : k < q.length
   ·have b1 : decide ((k : Int) < (q.length : Int)) = true := decide_eq_true (by omega)
    have b2 : decide ((k : Int) ≤ (t : Int)) = false := decide_eq_false (by omega)
    refine Gx.a (by kernel_rfl) fun K hK => ?_
    simp only [XA, XB, gateX, ↓reduceIte, beq_self_eq_true, b1, b2]
    refine hK _ ?_
    refine Gx.f rfl ?_
    refine XWP.exit ?_
    exact ⟨V2, m, x, y, StIs.of (by exact rfl), fin, o1, o2⟩
   ·have b1 : decide ((k : Int) < (q.length : Int)) = false := decide_eq_false (by omega)
    refine Gx.a (by kernel_rfl) fun K hK => ?_
    simp only [XA, XB, gateX, ↓reduceIte, b1]
    refine hK _ ?_
    refine Gx.f rfl ?_
    refine XWP.exit ?_
    exact ⟨V2, m, x, y, StIs.of (by exact rfl), fin, o1, o2⟩
 rintro s ⟨V2, m, x, y, hs', h1, o1, o2⟩
 obtain ⟨z, rfl⟩ := hs'.out
 try dsimp only
 refine Gx.a (by kernel_rfl) fun K hK => ?_
 simp only [XA, XB, Nat.reduceAdd, Nat.reduceLeDiff, ↓reduceIte]
 refine st_rat rfl rfl rfl o1 o2 ?_
 simp only [XA]
 refine hK _ (XWP.ret ?_)
 try simp only [thenX_ret, inBlockX_ret]
 exact ret_rat1 rfl rfl rfl h1
def Raw.q (r : Raw) : Rat := rv r.m (nv r.nd) (nv r.dd)
def Raw.ok (r : Raw) : Bool := rawOk r.m r.nd r.dd
def Raw.fit (r : Raw) : Prop := r.nd.length ≤ 4398046511104 ∧ r.dd.length ≤ 4398046511104
abbrev Raws (V : View) (v : Value) (l : List Raw) : Prop := SlAt rawE V v l
def okR (l : List Raw) : Bool := l.all Raw.ok
def fitR (l : List Raw) : Prop := ∀ r ∈ l, r.fit
def qs (l : List Raw) : List Rat := l.map Raw.q
theorem qs_len (l : List Raw) : (qs l).length = l.length := by simp [qs]
theorem Raws.up {V V' : View} {v : Value} {l : List Raw} (h : Raws V v l) (hV : V.le V') : Raws V' v l := SlAt.mono rawE_ok h hV
theorem Raws.rats {V : View} {v : Value} {l : List Raw} (h : Raws V v l) (hk : okR l = true) : Rats V v (qs l) := by
 obtain ⟨A, c, rfl, h1, h2, h3⟩ := h
 refine ⟨A, c, by rw [qs_len], by rw [qs_len]; exact h1, h2, ?_⟩
 rcases h3 with rfl | ⟨b, o, arr, ty, fr, e1, e2, h4⟩
 ·exact .inl rfl
 ·refine .inr ⟨b, o, arr, ty, fr, e1, e2, fun i x hi => ?_⟩
  unfold qs at hi
  rw [List.getElem?_map] at hi
  cases hr : l[i]? with
  | none => rw [hr] at hi; cases hi
  | some r =>
   rw [hr] at hi; cases hi
   obtain ⟨m, n, d, g1, g2, g3, o1, o2, o3, hE⟩ := h4 i r hr
   exact ⟨m, n, d, g1, g2, g3, o1, o2, o3, RawAt.rat hE (List.all_eq_true.1 hk r (List.mem_of_getElem? hr))⟩
def toRaw (q : Rat) : Raw := ⟨ng q, dg q.num.natAbs, dg q.den⟩
theorem rightB_dg (n : Nat) : rightB (dg n) = true := by
 unfold rightB
 cases hl : (dg n).getLast? with
 | none => rfl
 | some d => have := dg_last n d hl; simp [this]
theorem toRaw_ok (q : Rat) : (toRaw q).ok = true := by
 show rawOk (ng q) (dg q.num.natAbs) (dg q.den) = true
 unfold rawOk
 rw [rightB_dg, rightB_dg, nv_dg, nv_dg]
 have h1 : (dg q.den).length ≠ 0 := fun e => q.den_nz (sz_eq_zero e)
 have h2 : Nat.gcd q.num.natAbs q.den = 1 := q.reduced
 have h3 : (decide ((dg q.num.natAbs).length = 0) && ng q) = false := by
  by_cases e : (dg q.num.natAbs).length = 0
  ·have e2 : q.num.natAbs = 0 := sz_eq_zero e
   unfold ng
   rw [decide_eq_false (p := q.num < 0) (by omega)]; simp
  ·rw [decide_eq_false e]; rfl
 rw [h3, decide_eq_false h1, decide_eq_true h2]; rfl
theorem toRaw_q (q : Rat) : (toRaw q).q = q := by
 show rv (ng q) (nv (dg q.num.natAbs)) (nv (dg q.den)) = q
 rw [nv_dg, nv_dg, rv_self]
theorem Rats.raws {V : View} {v : Value} {l : List Rat} (h : Rats V v l) : Raws V v (l.map toRaw) := by
 obtain ⟨A, c, rfl, h1, h2, h3⟩ := h
 refine ⟨A, c, by rw [List.length_map], by rw [List.length_map]; exact h1, h2, ?_⟩
 rcases h3 with rfl | ⟨b, o, arr, ty, fr, e1, e2, h4⟩
 ·exact .inl rfl
 ·refine .inr ⟨b, o, arr, ty, fr, e1, e2, fun i x hi => ?_⟩
  rw [List.getElem?_map] at hi
  cases hr : l[i]? with
  | none => rw [hr] at hi; cases hi
  | some r =>
   rw [hr] at hi; cases hi
   obtain ⟨m, n, d, g1, g2, g3, o1, o2, o3, hE⟩ := h4 i r hr
   exact ⟨m, n, d, g1, g2, g3, o1, o2, o3, hE⟩
theorem okR_toRaw (l : List Rat) : okR (l.map toRaw) = true := by
 unfold okR
 rw [List.all_map]
 exact List.all_eq_true.2 fun q _ => toRaw_ok q
theorem qs_toRaw (l : List Rat) : qs (l.map toRaw) = l := by
 unfold qs
 rw [List.map_map]
 have : Raw.q ∘ toRaw = id := by funext q; exact toRaw_q q
 rw [this, List.map_id]
theorem fitR_toRaw {l : List Rat} (h : ∀ x ∈ l, QF x) : fitR (l.map toRaw) := fun r hr => by
 obtain ⟨q, hq, rfl⟩ := List.mem_map.1 hr
 exact ⟨(h q hq).fits.1, (h q hq).fits.2⟩
theorem fine1_c (V : View) (v : Value) (r : Raw) (h : rawE V v r) (f : r.fit) : Spec Tryz.prog 128 [v] V fun v' V' => v' = .bool (!r.ok) := by
 have h0 := h
 obtain ⟨n, d, rfl, hn, hd⟩ := h
 refine (Spec.enter Tryz.func128 rfl fun Γ => ?_)
 simp only [Tryz.ntmps128, List.map_cons, List.map_nil, List.length_cons, List.length_nil, Nat.reduceAdd, Nat.reduceSub, List.replicate_succ, List.replicate_zero, List.cons_append, List.nil_append]
 refine Gx.a (by kernel_rfl) fun K hK => ?_
 simp only [XA]
 refine hK _ ?_
 refine Gx.a (by kernel_rfl) fun K hK => ?_
 simp only [XA, XB, Nat.reduceAdd, Nat.reduceLeDiff, ↓reduceIte]
 refine call_go (by kernel_rfl) rfl (qright_c _ _ _ _ _ h0 f.1 f.2) fun v1 V1 hV1 h1 => ?_
 subst h1
 simp only [XA]
 refine hK _ (XWP.ret ?_)
 try simp only [thenX_ret, inBlockX_ret]
 refine ret_go _ rfl ?_
 rfl
theorem index_c (V : View) (v : Value) (l : List Raw) (h : Raws V v l) (f : fitR l) (ll : l.length ≤ 1000000) : Spec Tryz.prog 151 [v, .func (.func 128) #[] #[]] V fun v' V' => ∃ r : Int, v' = .int .i64 r ∧ decide (0 ≤ r) = !okR l := by
 obtain ⟨A, c, rfl, hc, hm⟩ := h.form
 refine (Spec.enter Tryz.func151 rfl fun Γ => ?_)
 simp only [Tryz.ntmps151, List.map_cons, List.map_nil, List.length_cons, List.length_nil, Nat.reduceAdd, Nat.reduceSub, List.replicate_succ, List.replicate_zero, List.cons_append, List.nil_append]
 refine Gx.a (by kernel_rfl) fun K hK => ?_
 simp only [XA]
 refine hK _ ?_
 refine XWP.cut (fun s => StIs (fun Z => [Z 0,Z 1,Z 2,Z 3,Z 4,Z 5,Z 6,Z 7,Z 8,Z 9,Z 10,Z 11,Z 12,Z 13,Z 14,Z 15,Z 16,Z 17,Z 18]) [] (fun _ => none) s.V s ∧ okR l = true) ?_ ?_
 ·refine Gx.a (by kernel_rfl) fun K hK => ?_
  simp only [XA, XB]
  refine hK _ ?_
  clear hK
  refine XWP.block ?_
  refine XWP.loop (fun n s => ∃ (k : Nat) (V2 : View), StIs (fun Z => [.v (.slice A l.length c), .v (.func (.func 128) #[] #[]), Z 2,Z 3,Z 4,Z 5,Z 6, .v (.int .i64 (l.length : Int)), .v (.int .i64 (k : Int)), Z 9,Z 10,Z 11,Z 12,Z 13,Z 14,Z 15,Z 16,Z 17,Z 18]) [] (fun _ => none) V2 s ∧ V.le V2 ∧ n + k = l.length ∧ okR (l.take k) = true) l.length ⟨0, V, StIs.of (by exact rfl), View.le_refl _, rfl, by simp [okR]⟩ ?_
  rintro n s ⟨k, V2, hs, hV2, hn, hk⟩
  obtain ⟨u, rfl⟩ := hs.out
  try dsimp only
  by_cases hlt : k < l.length
  ·have b1 : decide ((k : Int) < (l.length : Int)) = true := decide_eq_true (by omega)
   refine Gx.a (by kernel_rfl) fun K hK => ?_
   simp only [XA, XB, b1]
   refine hK _ ?_
   refine XWP.seq (Gx.t rfl ?_)
   refine XWP.skip ?_
   refine XWP.seq ?_
   refine XWP.block ?_
   refine Gx.a (by kernel_rfl) fun K hK => ?_
   simp only [XA]
   refine hK _ ?_
   refine Gx.a (by kernel_rfl) fun K hK => ?_
   have hv2 := Raws.up h hV2
   obtain ⟨b, o, rfl⟩ := SlAt.addr hv2 (by omega)
   obtain ⟨x, hx, ⟨m3, n3, d3, rfl, p1, p2, p3⟩, hld⟩ := SlAt.load hv2 k hlt
   simp only [XA, XB]
   refine ⟨by omega, by omega, ld_mem (hld _) ?_⟩
   simp only [XA]
   refine call_go (by kernel_rfl) rfl (fine1_c _ _ _ hx (f _ (List.getElem_mem hlt))) fun v3 V3 hV3 h3 => ?_
   subst h3
   have et : l.take (k + 1) = l.take k ++ [l[k]] := by rw [List.take_succ_eq_append_getElem hlt]
   cases hr : l[k].ok
   ·simp only [XA]
    refine hK _ ?_
    refine Gx.t rfl ?_
    refine Gx.a (by kernel_rfl) fun K hK => ?_
    simp only [XA]
    refine hK _ (XWP.ret ?_)
    try simp only [thenX_ret, inBlockX_ret]
    refine ret_go _ rfl ?_
    refine ⟨k, rfl, ?_⟩
    have : okR l = false := by
     unfold okR
     rw [List.all_eq_false]
     exact ⟨l[k], List.getElem_mem hlt, by rw [hr]; simp⟩
    rw [this, decide_eq_true (by omega)]; rfl
   ·simp only [XA]
    refine hK _ ?_
    refine Gx.f rfl ?_
    refine XWP.skip ?_
    refine Gx.c (by kernel_rfl) fun K hK => ?_
    simp only [XA, XB, i64_succ k (by omega)]
    refine hK _ ⟨n - 1, by omega, k + 1, V3, StIs.of (by exact rfl), View.le_trans hV2 hV3, by omega, ?_⟩
    unfold okR at hk ⊢
    rw [et, List.all_append, hk]
    simp [hr]
  ·have b1 : decide ((k : Int) < (l.length : Int)) = false := decide_eq_false (by omega)
   refine Gx.a (by kernel_rfl) fun K hK => ?_
   simp only [XA, XB, b1]
   refine hK _ ?_
   refine XWP.seq (Gx.f rfl ?_)
   refine XWP.exit ?_
   rw [List.take_of_length_le (by omega)] at hk
   exact ⟨StIs.of (by exact rfl), hk⟩
 rintro s ⟨hs, hk⟩
 obtain ⟨t, bx, H, V2⟩ := s
 obtain ⟨u, e⟩ := hs.out
 cases e
 try dsimp only
 refine Gx.a (by kernel_rfl) fun K hK => ?_
 simp only [XA]
 refine hK _ (XWP.ret ?_)
 try simp only [thenX_ret, inBlockX_ret]
 refine ret_go _ rfl ?_
 exact ⟨-1, rfl, by rw [hk]; rfl⟩
theorem contains_c (V : View) (v : Value) (l : List Raw) (h : Raws V v l) (f : fitR l) (ll : l.length ≤ 1000000) : Spec Tryz.prog 125 [v, .func (.func 128) #[] #[]] V fun v' V' => v' = .bool (!okR l) := by
 refine (Spec.enter Tryz.func125 rfl fun Γ => ?_)
 simp only [Tryz.ntmps125, List.map_cons, List.map_nil, List.length_cons, List.length_nil, Nat.reduceAdd, Nat.reduceSub, List.replicate_succ, List.replicate_zero, List.cons_append, List.nil_append]
 refine Gx.a (by kernel_rfl) fun K hK => ?_
 simp only [XA]
 refine hK _ ?_
 refine Gx.a (by kernel_rfl) fun K hK => ?_
 simp only [XA]
 refine call_go (by kernel_rfl) rfl (index_c _ _ _ h f ll) fun v1 V1 hV1 h1 => ?_
 obtain ⟨r, rfl, hr⟩ := h1
 simp only [XA, XB, hr]
 refine hK _ (XWP.ret ?_)
 try simp only [thenX_ret, inBlockX_ret]
 refine ret_go _ rfl ?_
 rfl
theorem fine_c (V : View) (v : Value) (l : List Raw) (h : Raws V v l) (f : fitR l) (ll : l.length ≤ 1000000) : Spec Tryz.prog 66 [v] V fun v' V' => v' = .bool (okR l) := by
 refine (Spec.enter Tryz.func66 rfl fun Γ => ?_)
 simp only [Tryz.ntmps66, List.map_cons, List.map_nil, List.length_cons, List.length_nil, Nat.reduceAdd, Nat.reduceSub, List.replicate_succ, List.replicate_zero, List.cons_append, List.nil_append]
 refine Gx.a (by kernel_rfl) fun K hK => ?_
 simp only [XA]
 refine hK _ ?_
 refine Gx.a (by kernel_rfl) fun K hK => ?_
 simp only [XA]
 refine call_go (by kernel_rfl) rfl (contains_c _ _ _ h f ll) fun v1 V1 hV1 h1 => ?_
 subst h1
 simp only [XA]
 refine hK _ (XWP.ret ?_)
 try simp only [thenX_ret, inBlockX_ret]
 refine ret_go _ rfl ?_
 show Value.bool _ = _
 rw [Bool.not_not]
def polB (l : List Rat) : Bool := decide (l.length = 0) || !decide (cf l (l.length - 1) = 0)
def rightP (l : List Raw) : Bool := decide (l.length ≤ 1000) && okR l && polB (qs l)
theorem polB_iff (l : List Rat) : polB l = true ↔ PolQ l := by
 unfold polB PolQ
 rw [Bool.or_eq_true, decide_eq_true_eq, Bool.not_eq_true', decide_eq_false_iff_not]
 constructor
 ·rintro (h | h) h0
  ·omega
  ·exact h
 ·intro h
  rcases Nat.eq_zero_or_pos l.length with h0 | h0
  ·exact .inl h0
  ·exact .inr (h h0)
theorem cright_c (V : View) (v : Value) (l : List Raw) (h : Raws V v l) (f : fitR l) (ll : l.length ≤ 1000000) : Spec Tryz.prog 47 [v] V fun v' V' => v' = .bool (rightP l) := by
 obtain ⟨A, c, rfl, hc, hm⟩ := h.form
 refine (Spec.enter Tryz.func47 rfl fun Γ => ?_)
 simp only [Tryz.ntmps47, List.map_cons, List.map_nil, List.length_cons, List.length_nil, Nat.reduceAdd, Nat.reduceSub, List.replicate_succ, List.replicate_zero, List.cons_append, List.nil_append]
 refine Gx.a (by kernel_rfl) fun K hK => ?_
 simp only [XA]
 refine hK _ ?_
 refine Gx.a (by kernel_rfl) fun K hK => ?_
 by_cases h1 : l.length ≤ 1000
 ·have b1 : decide ((l.length : Int) ≤ 1000) = true := decide_eq_true (by omega)
  simp only [XA, XB, gateX, ↓reduceIte, beq_self_eq_true, b1]
  refine call_go (by kernel_rfl) rfl (fine_c _ _ _ h f ll) fun v1 V1 hV1 h1' => ?_
  subst h1'
  cases hk : okR l
  ·simp only [XA, XB, gateX, ↓reduceIte]
   refine hK _ (XWP.ret ?_)
   try simp only [thenX_ret, inBlockX_ret]
   refine ret_go _ rfl ?_
   unfold rightP; rw [hk, decide_eq_true h1]; rfl
  by_cases h0 : l.length = 0
  ·have b2 : decide ((l.length : Int) = 0) = true := decide_eq_true (by omega)
   simp only [XA, XB, gateX, ↓reduceIte, beq_self_eq_true, b2]
   refine hK _ (XWP.ret ?_)
   try simp only [thenX_ret, inBlockX_ret]
   refine ret_go _ rfl ?_
   unfold rightP polB; rw [hk, decide_eq_true h1, decide_eq_true (p := (qs l).length = 0) (by rw [qs_len]; exact h0)]; rfl
  ·have b2 : decide ((l.length : Int) = 0) = false := decide_eq_false (by omega)
   have w1 := i64_pred l.length (by omega) (by omega)
   have hr := (Raws.rats h hk).up hV1
   obtain ⟨b, o, rfl⟩ := h.addr (by omega)
   obtain ⟨m3, n3, d3, hx, ⟨p1, p2, p3⟩, hld⟩ := Rats.get hr (l.length - 1) (by rw [qs_len]; omega)
   simp only [XA, XB, gateX, ↓reduceIte, beq_self_eq_true, b2, w1]
   refine ⟨by omega, by omega, ld_mem (hld _) ?_⟩
   simp only [XA, gateX, ↓reduceIte, beq_self_eq_true]
   refine call_go (by kernel_rfl) rfl (czero_c _ _ _ hx) fun v2 V2 hV2 h2 => ?_
   subst h2
   simp only [XA, gateX, ↓reduceIte, beq_self_eq_true]
   refine hK _ (XWP.ret ?_)
   try simp only [thenX_ret, inBlockX_ret]
   refine ret_go _ rfl ?_
   unfold rightP polB; rw [hk, decide_eq_true h1, qs_len, decide_eq_false (p := l.length = 0) h0]; rfl
 ·have b1 : decide ((l.length : Int) ≤ 1000) = false := decide_eq_false (by omega)
  simp only [XA, XB, gateX, ↓reduceIte, b1]
  refine hK _ (XWP.ret ?_)
  try simp only [thenX_ret, inBlockX_ret]
  refine ret_go _ rfl ?_
  unfold rightP; rw [decide_eq_false h1]; rfl
end Go.Proofs.YthoboehbadmlmaaGreat
end
section
namespace Go.Proofs.YthoboehbadmlmaaGreat
def Over (D : Nat) (B : Nat) (x : Rat) : Prop := ∃ n : Int, n.natAbs ≤ 2 ^ B ∧ x = mkRat n D
def CB (B : Nat) (l : List Rat) : Prop := ∃ D : Nat, 0 < D ∧ D ≤ 2 ^ B ∧ ∀ i, Over D B (cf l i)
theorem mkRat_sg (n : Int) (d : Nat) : mkRat n d = rv (decide (n < 0)) n.natAbs d := by unfold rv; rw [sg_self]
theorem Over.qb {D B : Nat} {x : Rat} (h : Over D B x) (hD : D ≤ 2 ^ B) : QB B x := by
 obtain ⟨n, h1, rfl⟩ := h
 rw [mkRat_sg]; exact QB_rv _ h1 hD
theorem CB.at {B : Nat} {l : List Rat} (h : CB B l) (i : Nat) : QB B (cf l i) := by
 obtain ⟨D, _, h2, h3⟩ := h; exact (h3 i).qb h2
theorem CB.mem {B : Nat} {l : List Rat} (h : CB B l) : ∀ x ∈ l, QB B x := fun x hx => by
 obtain ⟨i, hi, rfl⟩ := List.mem_iff_getElem.1 hx
 rw [cf_get hi]; exact h.at i
theorem CB.mono {A B : Nat} {l : List Rat} (h : CB A l) (hB : A ≤ B) : CB B l := by
 obtain ⟨D, h1, h2, h3⟩ := h
 refine ⟨D, h1, Nat.le_trans h2 (two_mono hB), fun i => ?_⟩
 obtain ⟨n, h4, h5⟩ := h3 i
 exact ⟨n, Nat.le_trans h4 (two_mono hB), h5⟩
theorem Over.zero (D B : Nat) : Over D B 0 := ⟨0, by simp, by simp⟩
theorem CB_nil (B : Nat) : CB B [] := ⟨1, by omega, Nat.succ_le_of_lt (two_pos B), fun i => by rw [cf_none (by simp)]; exact Over.zero _ _⟩
theorem Over.scale {D E B C : Nat} {x : Rat} (h : Over D B x) (hE : 0 < E) (hC : E ≤ 2 ^ C) : Over (D * E) (B + C) x := by
 obtain ⟨n, h1, rfl⟩ := h
 refine ⟨n * E, ?_, ?_⟩
 ·rw [Int.natAbs_mul, Int.natAbs_natCast]; exact two_mul_le h1 hC
 ·rw [Rat.mkRat_mul_right (by omega)]
theorem Over.mul {D E B C : Nat} {x y : Rat} (hx : Over D B x) (hy : Over E C y) : Over (D * E) (B + C) (x * y) := by
 obtain ⟨n, h1, rfl⟩ := hx
 obtain ⟨m, h2, rfl⟩ := hy
 exact ⟨n * m, by rw [Int.natAbs_mul]; exact two_mul_le h1 h2, Rat.mkRat_mul_mkRat _ _ _ _⟩
theorem mkRat_add_same (n m : Int) {D : Nat} (hD : 0 < D) : mkRat n D + mkRat m D = mkRat (n + m) D := by
 rw [Rat.mkRat_add_mkRat _ _ (by omega) (by omega), ← Int.add_mul, Rat.mkRat_mul_right (by omega)]
theorem Over.add {D B : Nat} {x y : Rat} (hD : 0 < D) (hx : Over D B x) (hy : Over D B y) : Over D (B + 1) (x + y) := by
 obtain ⟨n, h1, rfl⟩ := hx
 obtain ⟨m, h2, rfl⟩ := hy
 exact ⟨n + m, Nat.le_trans (Int.natAbs_add_le _ _) (two_add_le h1 h2), mkRat_add_same n m hD⟩
theorem Over.mono {D A B : Nat} {x : Rat} (h : Over D A x) (hB : A ≤ B) : Over D B x := by
 obtain ⟨n, h1, h2⟩ := h; exact ⟨n, Nat.le_trans h1 (two_mono hB), h2⟩
theorem Over.neg {D A : Nat} {x : Rat} (h : Over D A x) : Over D A (-x) := by
 obtain ⟨n, h1, rfl⟩ := h; exact ⟨-n, by rw [Int.natAbs_neg]; exact h1, Rat.neg_mkRat _ _⟩
theorem QB.over {B : Nat} {x : Rat} (h : QB B x) : Over x.den B x := ⟨x.num, h.1, (Rat.mkRat_self x).symm⟩
theorem den_pos (x : Rat) : 0 < x.den := Nat.pos_of_ne_zero x.den_nz
theorem CB_one {B : Nat} {x : Rat} (h : QB B x) : CB B [x] := ⟨x.den, den_pos x, h.2, fun i => by
 cases i with
 | zero => exact h.over
 | succ i => rw [cf_none (by simp)]; exact Over.zero _ _⟩
theorem cf_append_left {l m : List Rat} {i : Nat} (h : i < l.length) : cf (l ++ m) i = cf l i := by
 unfold cf; simp only [List.getD_eq_getElem?_getD]; rw [List.getElem?_append_left h]
theorem cf_append_right {l m : List Rat} {i : Nat} (h : l.length ≤ i) : cf (l ++ m) i = cf m (i - l.length) := by
 unfold cf; simp only [List.getD_eq_getElem?_getD]; rw [List.getElem?_append_right h]
theorem CB.append {A B : Nat} {l m : List Rat} (hl : CB A l) (hm : CB B m) : CB (A + B) (l ++ m) := by
 obtain ⟨D, d1, d2, d3⟩ := hl
 obtain ⟨E, e1, e2, e3⟩ := hm
 refine ⟨D * E, Nat.mul_pos d1 e1, two_mul_le d2 e2, fun i => ?_⟩
 by_cases hi : i < l.length
 ·rw [cf_append_left hi]; exact (d3 i).scale e1 e2
 ·rw [cf_append_right (by omega)]
  have := (e3 (i - l.length)).scale d1 d2
  rw [Nat.mul_comm, Nat.add_comm]; exact this
theorem CB_of {B : Nat} : ∀ (l : List Rat), (∀ x ∈ l, QB B x) → CB (l.length * B) l
 | [], _ => CB_nil _
 | x :: l, h => by
  have h1 := CB_one (h x (by simp))
  have h2 := CB_of l fun y hy => h y (by simp [hy])
  have := h1.append h2
  have e : (x :: l).length * B = B + l.length * B := by rw [List.length_cons, Nat.add_mul, Nat.one_mul, Nat.add_comm]
  rw [e]; exact this
theorem CB.take {B : Nat} {l : List Rat} (h : CB B l) (k : Nat) : CB B (l.take k) := by
 obtain ⟨D, d1, d2, d3⟩ := h
 refine ⟨D, d1, d2, fun i => ?_⟩
 by_cases hi : i < k
 ·have : cf (l.take k) i = cf l i := by unfold cf; simp [hi]
  rw [this]; exact d3 i
 ·rw [cf_none (by simp; omega)]; exact Over.zero _ _
theorem CB.trim {B : Nat} {l : List Rat} (h : CB B l) : CB B (trimQ l) := by
 obtain ⟨D, d1, d2, d3⟩ := h
 exact ⟨D, d1, d2, fun i => by rw [cf_trimQ]; exact d3 i⟩
theorem CB.padd {A B C : Nat} {p q : List Rat} {c : Rat} (hp : CB A p) (hq : CB B q) (hc : QB C c) (up : Nat) : CB (A + B + C + 1) (pAdd p q c up) := by
 obtain ⟨D, d1, d2, d3⟩ := hp
 obtain ⟨E, e1, e2, e3⟩ := hq
 have hEc : E * c.den ≤ 2 ^ (B + C) := two_mul_le e2 hc.2
 have pEc : 0 < E * c.den := Nat.mul_pos e1 (den_pos c)
 refine ⟨D * (E * c.den), Nat.mul_pos d1 pEc, Nat.le_trans (two_mul_le d2 hEc) (two_mono (by omega)), fun i => ?_⟩
 rw [cf_pAdd]
 unfold pAt
 have h1 : Over (D * (E * c.den)) (A + (B + C)) (cf p i) := (d3 i).scale pEc hEc
 have h2 : Over (D * (E * c.den)) (A + (B + C)) (if up ≤ i then cf q (i - up) * c else 0) := by
  split
  ·have := ((e3 (i - up)).mul hc.over).scale d1 d2
   rw [Nat.mul_comm, Nat.add_comm A]; exact this
  ·exact Over.zero _ _
 have := h1.add (Nat.mul_pos d1 pEc) h2
 exact this.mono (by omega)
theorem Over.offs {D E A B : Nat} {l q : List Rat} (hD : 0 < D) (hE : 0 < E) (hl : ∀ i, Over D A (cf l i)) (hq : ∀ i, Over E B (cf q i)) (t k e : Nat) (hk : k ≤ 2 ^ e) : Over (D * E) (A + B + e) (offS l q t k) := by
 have key : ∀ k, ∃ n : Int, n.natAbs ≤ k * 2 ^ (A + B) ∧ offS l q t k = mkRat n (D * E) := by
  intro k
  induction k with
  | zero => exact ⟨0, by simp, by simp [offS]⟩
  | succ k ih =>
   obtain ⟨n, h1, h2⟩ := ih
   have h3 := (hq k).mul (hl (t - k))
   rw [Nat.mul_comm E D, Nat.add_comm B A] at h3
   obtain ⟨m, h4, h5⟩ := h3
   refine ⟨n + m, ?_, ?_⟩
   ·have := Int.natAbs_add_le n m
    rw [Nat.add_mul, Nat.one_mul]; omega
   ·rw [offS, h2, h5, mkRat_add_same _ _ (Nat.mul_pos hD hE)]
 obtain ⟨n, h1, h2⟩ := key k
 refine ⟨n, ?_, h2⟩
 rw [Nat.add_comm (A + B) e, Nat.pow_add]
 exact Nat.le_trans h1 (Nat.mul_le_mul_right _ hk)
theorem CB.offs {A B : Nat} {l q : List Rat} (hl : CB A l) (hq : CB B q) (t k e : Nat) (hk : k ≤ 2 ^ e) : QB (A + B + e) (offS l q t k) := by
 obtain ⟨D, d1, d2, d3⟩ := hl
 obtain ⟨E, e1, e2, e3⟩ := hq
 exact (Over.offs d1 e1 d3 e3 t k e hk).qb (Nat.le_trans (two_mul_le d2 e2) (two_mono (by omega)))
theorem QB.qf {B : Nat} {q : Rat} (h : QB B q) (hB : B ≤ 17592186044416) : QF q := QF.of h hB
theorem CB.qf {B : Nat} {l : List Rat} (h : CB B l) (hB : B ≤ 17592186044416) : ∀ x ∈ l, QF x := fun x hx => QF.of (h.mem x hx) hB
def mulI (p q : List Rat) : Nat → List Rat
 | 0 => []
 | k + 1 => if cf p k = 0 then mulI p q k else pAdd (mulI p q k) q (cf p k) k
def mulP (p q : List Rat) : List Rat := mulI p q p.length
theorem mulI_len (p q : List Rat) (k : Nat) : (mulI p q k).length ≤ q.length + k := by
 induction k with
 | zero => simp [mulI]
 | succ k ih =>
  unfold mulI
  split
  ·omega
  ·have := pAdd_len (mulI p q k) q (cf p k) k; omega
theorem mulI_CB {A B : Nat} {p q : List Rat} (hp : CB A p) (hq : CB B q) (k : Nat) : CB (k * (A + B + 1)) (mulI p q k) := by
 induction k with
 | zero => exact CB_nil _
 | succ k ih =>
  unfold mulI
  split
  ·exact ih.mono (Nat.mul_le_mul_right _ (by omega))
  ·have := CB.padd ih hq (hp.at k) k
   refine this.mono ?_
   rw [Nat.add_mul]; omega
def topQ (rest q : List Rat) : Rat := cf rest (rest.length - 1) / cf q (q.length - 1)
def divF (q : List Rat) : Nat → List Rat → List Rat → List Rat × List Rat
 | 0, rest, out => (out, rest)
 | n + 1, rest, out => if q.length ≤ rest.length then divF q n (pAdd rest q (-topQ rest q) (rest.length - q.length)) (out.set (rest.length - q.length) (topQ rest q)) else (out, rest)
def divP (p q : List Rat) : List Rat × List Rat :=
 let r := pAdd p [] 1 0
 let d := divF q (r.length + 1) r (if q.length ≤ r.length then List.replicate (r.length - q.length + 1) 0 else [])
 (trimQ d.1, d.2)
theorem div_less {rest q : List Rat} (hq : 0 < q.length) (hl : cf q (q.length - 1) ≠ 0) (h : q.length ≤ rest.length) : (pAdd rest q (-topQ rest q) (rest.length - q.length)).length < rest.length := by
 have h1 := pAdd_len rest q (-topQ rest q) (rest.length - q.length)
 have h2 := pAdd_pol rest q (-topQ rest q) (rest.length - q.length)
 rcases Nat.lt_or_ge (pAdd rest q (-topQ rest q) (rest.length - q.length)).length rest.length with h3 | h3
 ·exact h3
 ·have e : (pAdd rest q (-topQ rest q) (rest.length - q.length)).length = rest.length := by omega
  have := h2 (by omega)
  rw [e, cf_pAdd] at this
  unfold pAt at this
  rw [if_pos (by omega), show rest.length - 1 - (rest.length - q.length) = q.length - 1 from by omega] at this
  refine absurd ?_ this
  unfold topQ
  rw [Rat.mul_neg, Rat.mul_comm, Rat.div_mul_cancel hl, Rat.add_neg_cancel]
theorem divF_fuel {q : List Rat} (hq : 0 < q.length) (hl : cf q (q.length - 1) ≠ 0) : ∀ (n m : Nat) (rest out : List Rat), rest.length < n → rest.length < m → divF q n rest out = divF q m rest out := by
 intro n
 induction n with
 | zero => intro m rest out h; omega
 | succ n ih =>
  intro m rest out h1 h2
  obtain ⟨m, rfl⟩ : ∃ k, m = k + 1 := ⟨m - 1, by omega⟩
  rw [divF, divF]
  split
  ·rename_i h
   have := div_less hq hl h
   exact ih m _ _ (by omega) (by omega)
  ·rfl
theorem divF_step {q : List Rat} (hq : 0 < q.length) (hl : cf q (q.length - 1) ≠ 0) {rest out : List Rat} (h : q.length ≤ rest.length) : divF q (rest.length + 1) rest out = divF q ((pAdd rest q (-topQ rest q) (rest.length - q.length)).length + 1) (pAdd rest q (-topQ rest q) (rest.length - q.length)) (out.set (rest.length - q.length) (topQ rest q)) := by
 have h1 := div_less hq hl h
 rw [divF, if_pos h]
 exact divF_fuel hq hl _ _ _ _ (by omega) (by omega)
theorem divF_end {q rest out : List Rat} (h : ¬ q.length ≤ rest.length) : divF q (rest.length + 1) rest out = (out, rest) := by rw [divF, if_neg h]
end Go.Proofs.YthoboehbadmlmaaGreat
end
