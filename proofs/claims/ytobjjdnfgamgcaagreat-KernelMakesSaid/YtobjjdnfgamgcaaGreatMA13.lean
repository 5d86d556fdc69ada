/- The transition matrices of the four kernels over executions agree with the reference, errors included, at every input. (part 13 of 13) -/
import Derived.OrdersHeld
import Derived.Below
import Derived.Tactics
import Derived.KernelRfl
import Derived.RangeFuncCalls
import Derived.RangeFuncFrom
import Derived.RangeFuncLeaves
import Derived.OrdersIn
import Derived.Laws.AppendOwn
import Derived.Laws.MakeOwn
import Derived.Laws.CopyRow
import Derived.Laws.Cells
import Derived.Laws.World
import Derived.Laws.Alloc2
import Derived.Laws.NewBlocks
import Derived.Maps.AppendAt
import Derived.Test.YtobjjdnfgamgcaaGreatProg
import Init.Data.List.Lemmas
import Init.Omega
import Derived.WalkKit
import Derived.ProofKit
import Derived.OpenShut
import Derived.ChangeOld
import Derived.SizedLaws
import Derived.ChangeSlices
import Derived.ChangeArms
import Derived.Deep.Slices
import Derived.MapKept
import Derived.Maps.RangeRun
import Derived.Shelf.SlSortCmp.WholeK
import Derived.Lib.QuietBelow
import Derived.Test.YtobjjdnfgamgcaaGreatRows
import Derived.ShutString
import Derived.Test.YtobjjdnfgamgcaaGreatMA12
section
namespace Go.Proofs.YtobjjdnfgamgcaaGreat
open Go Go.RowKit
set_option linter.unusedSimpArgs false
set_option linter.unusedVariables false
attribute [local irreducible] XWP Spec SpecO XPub XCall seqX clX apX stX ldX iaX slX
theorem dig4 {ds : List Nat} (h : Dig ds) (hl : ds.length ≤ 4) : nv ds ≤ 2 ^ 128 := by
  have h1 := nv_lt h
  have h2 : BB ^ ds.length ≤ BB ^ 4 := Nat.pow_le_pow_right (by unfold BB; omega) hl
  have h3 : BB ^ 4 = 2 ^ 128 := by rw [show BB = 2 ^ 32 from rfl, ← Nat.pow_mul]
  omega
theorem SlK.dig {V : View} {v : Value} {l : List Rn} (h : SlK 9 rnE V v l) : ∀ r ∈ l, Dig r.w.nd ∧ Dig r.w.dd := fun r hr => by
  obtain ⟨A, c, rfl, h1, h2, h3⟩ := h
  rcases h3 with rfl | ⟨b, o, arr, ty, fr, e1, e2, h4⟩
  · cases hr
  · obtain ⟨i, hi⟩ := List.getElem?_of_mem hr
    obtain ⟨cs, ⟨_, _, _, _, _, _, _, _, _, _, _, _, _, _, _, k1, k2⟩, _⟩ := h4 i r hi
    exact ⟨k1.dig, k2.dig⟩
theorem short_fits {V : View} {v : Value} {l : List Rn} (h : SlK 9 rnE V v l) (hs : shortP l) : (∀ r ∈ l, r.fits) ∧ (∀ r ∈ l, r.ds.length ≤ 8 ∧ (r.w.ok = true → QB 128 r.w.q)) ∧ l.length ≤ 1000000 := by
  have hq : ∀ r ∈ l, QB 128 r.w.q := fun r hr => by
    obtain ⟨_, _, g3, g4⟩ := hs.2 r hr
    obtain ⟨d1, d2⟩ := h.dig r hr
    exact QB_rv _ (dig4 d1 g3) (dig4 d2 g4)
  refine ⟨fun r hr => ?_, fun r hr => ⟨(hs.2 r hr).1, fun _ => hq r hr⟩, by have := hs.1; omega⟩
  obtain ⟨g1, _, g3, g4⟩ := hs.2 r hr
  exact ⟨by omega, ⟨by omega, by omega⟩, fun _ => (hq r hr).qf (by omega)⟩
end Go.Proofs.YtobjjdnfgamgcaaGreat
end
section
namespace Go.Proofs.YtobjjdnfgamgcaaGreat
open Go Go.RowKit
set_option linter.unusedSimpArgs false
set_option linter.unusedVariables false
attribute [local irreducible] XWP Spec SpecO XPub XCall seqX clX apX stX ldX iaX slX
theorem flatG_mem {G : Grid} {n : Nat} {x : Rat} (h : x ∈ flatG G n n) : ∃ i k, i < n ∧ k < n ∧ x = G i k := by
  unfold flatG mk at h
  obtain ⟨j, hj, rfl⟩ := List.mem_map.1 h
  have hj := List.mem_range.1 hj
  have hn : 0 < n := by
    rcases Nat.eq_zero_or_pos n with e | e
    · rw [e] at hj; omega
    · exact e
  exact ⟨j / n, j % n, Nat.div_lt_of_lt_mul hj, Nat.mod_lt _ hn, rfl⟩
theorem OfR.qf {l : List Rn} {c : Int} {od : Nat → Nat → Rat} (h : OfR l c od) (hl : ∀ r ∈ l, r.small) (ll : l.length ≤ 60) : ∀ x ∈ flatG (moveG od l.length) l.length l.length, QF x := fun x hx => by
  have hqb := h.qb hl ll
  obtain ⟨i, k, hi, hk, rfl⟩ := flatG_mem hx
  unfold moveG
  split
  · have h1 := offQ_QB (od := od) (B := 600000) (n := l.length) (i := i) (fun k hk _ => hqb i k hi hk) l.length (Nat.le_refl _)
    have h2 : l.length * (600000 + 1) ≤ 60 * 600001 := Nat.mul_le_mul_right _ ll
    exact ((QB_one 0).sub h1).qf (by omega)
  · exact (hqb i k hi hk).qf (by omega)
set_option maxHeartbeats 4000000 in
set_option maxRecDepth 100000 in
theorem kmakes_c (V : View) (v : Value) (l : List Rn) (kv : Int) (h : SlK 9 rvE V v l) : Spec Tryz.prog 3 [v, .int .i64 kv] V fun v' V' => v' = .bool true := by
  obtain ⟨A, cL, rfl, hc, hm⟩ := h.form
  have hr := h.rn
  refine (Spec.enter Tryz.func3 rfl fun Γ => ?_)
  simp only [Tryz.ntmps3, List.map_cons, List.map_nil, List.length_cons, List.length_nil, Nat.reduceAdd, Nat.reduceSub, List.replicate_succ, List.replicate_zero, List.cons_append, List.nil_append]
  refine Gx.a (by kernel_rfl) fun K hK => ?_
  simp only [XA]
  refine hK _ ?_
  refine XWP.seq ?_
  refine Gx.a (by kernel_rfl) fun K hK => ?_
  simp only [XA]
  refine call_go (by kernel_rfl) rfl (short33_c _ _ l h) fun v1 V1 hV1 h1 => ?_
  obtain ⟨b, rfl, hb⟩ := h1
  cases b
  · simp only [XA]
    refine hK _ ?_
    refine Gx.t rfl ?_
    refine Gx.a (by kernel_rfl) fun K hK => ?_
    simp only [XA]
    refine hK _ (XWP.ret ?_)
    try simp only [thenX_ret, inBlockX_ret]
    refine ret_go _ rfl ?_
    rfl
  obtain ⟨f1, f2, f3⟩ := short_fits hr (hb rfl)
  simp only [XA]
  refine hK _ ?_
  refine Gx.f rfl ?_
  refine XWP.skip ?_
  refine Gx.a (by kernel_rfl) fun K hK => ?_
  simp only [XA]
  refine call_go (by kernel_rfl) rfl (cof_c _ _ kv l (hr.mono rnE_ok hV1) f1 f2 f3) fun v3 V3 hV3 h3 => ?_
  have hV03 := View.le_trans hV1 hV3
  cases hrr : rightR l
  · obtain rfl := h3.1 hrr
    simp only [XM, XA]
    refine st_mat shapeT_26 rfl rfl rfl rfl rfl ?_
    simp only [XA]
    refine hK _ ?_
    refine Gx.a (by kernel_rfl) fun K hK => ?_
    simp only [XA]
    refine call_go (by kernel_rfl) rfl (rrefof_c _ _ kv l (fun _ _ => 0) (hr.mono rnE_ok hV03) f1 f2 f3 (fun e => by rw [hrr] at e; cases e)) fun v4 V4 hV4 h4 => ?_
    obtain rfl := h4.1 hrr
    simp only [XM, XA]
    refine st_mat shapeT_30 rfl rfl rfl rfl rfl ?_
    simp only [XA]
    refine hK _ ?_
    refine Gx.a (by kernel_rfl) fun K hK => ?_
    simp only [XM, XA, XB, gateX, Nat.reduceAdd, Nat.reduceLeDiff, ↓reduceIte, beq_self_eq_true, decide_true]
    refine call_go (by kernel_rfl) rfl (dMsame_c _ _ _ 0 0 0 0 [] [] (SlAt.nil _) (SlAt.nil _) (fun x hx => by cases hx) (fun x hx => by cases hx)) fun v5 V5 hV5 h5 => ?_
    have h5 : v5 = .bool true := by rw [h5]; rfl
    subst h5
    simp only [XA, gateX, ↓reduceIte, beq_self_eq_true]
    refine call_go (by kernel_rfl) rfl (alive33_c _) fun v6 V6 hV6 h6 => ?_
    subst h6
    simp only [XA, ↓reduceIte]
    refine hK _ (XWP.ret ?_)
    try simp only [thenX_ret, inBlockX_ret]
    refine ret_go _ rfl ?_
    rfl
  obtain ⟨g1, g2, g3⟩ := right_small hrr f2
  obtain ⟨od, sv, hod, rfl, hM⟩ := h3.2 hrr
  obtain ⟨As, cs, rfl, _, _⟩ := hM.form
  have hqf := hod.qf g3 g2
  simp only [XM, XA]
  refine st_mat shapeT_26 rfl rfl rfl rfl rfl ?_
  simp only [XA]
  refine hK _ ?_
  refine Gx.a (by kernel_rfl) fun K hK => ?_
  simp only [XA]
  refine call_go (by kernel_rfl) rfl (rrefof_c _ _ kv l od (hr.mono rnE_ok hV03) f1 f2 f3 (fun _ => hod)) fun v4 V4 hV4 h4 => ?_
  obtain ⟨sw, rfl, hM2⟩ := h4.2 hrr
  obtain ⟨As2, cs2, rfl, _, _⟩ := hM2.form
  simp only [XM, XA]
  refine st_mat shapeT_30 rfl rfl rfl rfl rfl ?_
  simp only [XA]
  refine hK _ ?_
  refine Gx.a (by kernel_rfl) fun K hK => ?_
  simp only [XM, XA, XB, gateX, Nat.reduceAdd, Nat.reduceLeDiff, ↓reduceIte, beq_self_eq_true, decide_true]
  refine call_go (by kernel_rfl) rfl (dMsame_c _ _ _ (l.length : Int) (l.length : Int) (l.length : Int) (l.length : Int) _ _ (hM.up hV4) hM2 hqf hqf) fun v5 V5 hV5 h5 => ?_
  have h5 : v5 = .bool true := by rw [h5]; simp
  subst h5
  simp only [XA, gateX, ↓reduceIte, beq_self_eq_true]
  refine call_go (by kernel_rfl) rfl (alive33_c _) fun v6 V6 hV6 h6 => ?_
  subst h6
  simp only [XA, ↓reduceIte]
  refine hK _ (XWP.ret ?_)
  try simp only [thenX_ret, inBlockX_ret]
  refine ret_go _ rfl ?_
  rfl
end Go.Proofs.YtobjjdnfgamgcaaGreat
end
section
namespace Go.Proofs.YtobjjdnfgamgcaaGreat.kernelMakes
open Go.ChangeShapes Go.WideShapes Go.ChangeAt Go.RowKit
set_option linter.unusedVariables false
theorem own : ownKnob Tryz.prog.godebug = none := by kernel_rfl
theorem laidOut : laidOutB Tryz.prog = true := by kernel_rfl
set_option maxHeartbeats 4000000 in
set_option maxRecDepth 100000 in
theorem lifted (os : Os) (started : os.Started) (H : Type) (enc : TypeId × Value → H) :
    ReturnsInHanded {} Tryz.checked os 3 .any (Rows.kernelMakesSpec.pre6 enc Tryz.prog Tryz.f3 Rows.kernelMakesRow.domain false) (Rows.kernelMakesSpec.post enc Tryz.prog Tryz.f3 false true false false) := by
  refine returnsInHanded_of_change_sized (C := Tryz.checked) own started (by kernel_rfl) Tryz.func3
    (ChangeSpec.witness6 (enc := enc) (C := Tryz.checked) false ⟨#[], #[.slice none 0 0, .int .i64 0], []⟩ 8 (by kernel_rfl) (by kernel_rfl) (by kernel_rfl) (by kernel_rfl)) ?_
  intro W base args ds gs before hval0 hW hcnd hsz0 _
  have hval : ∀ (j : Nat) t v, Tryz.f3.params[j]? = some t → args[j]? = some v → Value.okWide Tryz.prog W .any base t v := hval0
  have hW' := hW
  obtain ⟨p, q, hA0, hV, rfl, hfz, hnd⟩ := hW
  have hA : DataW.TrodAll enc Tryz.prog W 0 (fun _ => true) true Tryz.f3.params.toList args.toList ds p := hA0
  rw [Tryz.params3] at hA hval
  obtain ⟨v0, vs0, d0, ds0, p0, q0, hargs, rfl, rfl, h0, r0⟩ := trodAll_cons hA
  obtain ⟨v1, vs1, d1, ds1, p1, q1, rfl, rfl, rfl, h1, r1⟩ := trodAll_cons r0
  obtain ⟨rfl, rfl, rfl⟩ := trodAll_nil r1
  obtain rfl : args = #[v0, v1] := by cases args; simp_all
  obtain ⟨rfl, rfl⟩ := trodVars_none hV
  obtain ⟨a0, len0, cap0, rfl⟩ := okWide_slice (und_elem (P := Tryz.prog) (e := 51) (by kernel_rfl)) (hval 0 22 v0 rfl rfl)
  have k0 := h0
  have lt0 : ∀ x ∈ p0, x.block < W.heap.size := by obtain ⟨m, hm⟩ := k0; exact DataW.trod_lt m _ _ _ hm
  obtain ⟨fuel0, hf0⟩ := h0
  obtain ⟨L0, hL0⟩ := open_runs (by kernel_rfl) hf0
  obtain ⟨a1, rfl, rfl, rfl, w1⟩ := open_int (k := .i64) (by kernel_rfl) (hval 1 3 v1 rfl rfl) h1
  clear hA0 hval0 hsz0
  refine (kmakes_c (viewW W) _ L0 a1 hL0 W (viewW_sub W)).mono fun e W' ⟨v, V', he, _, _, _, bel, hv⟩ => ?_
  subst hv
  subst he
  exact ⟨_, rfl, _, _, _, [], _, [], hW', trodAll_mk1 (shut_bool Tryz.underlying4 _), (trodAll_cons_mk (Below.trod laidOut (by kernel_rfl) (of_decide_eq_true (by kernel_rfl)) k0 bel.toBelow lt0) (trodAll_cons_mk (shut_int (k := .i64) (by kernel_rfl) w1) trodAll_mk0)), rfl, bel.frame _, fun h => by cases h⟩
theorem over : Rows.kernelMakesRow.holds Tryz.pinned (OpenSpec.ofChange Rows.kernelMakesSpec) :=
  OpenClaim.holds_of_wide 3 Tryz.f3 rfl rfl rfl rfl rfl rfl rfl ⟨rfl, rfl, rfl, rfl, rfl⟩ rfl rfl rfl rfl rfl (by kernel_rfl) Tryz.func3 (by kernel_rfl)
    (of_decide_eq_true (by kernel_rfl)) (by unfold Func.isWrapper; first | (rw [if_pos (by decide +kernel)]; kernel_rfl) | (rw [if_neg (by decide +kernel)]; exact ⟨rfl, rfl⟩))
    (fun os started H enc _ => lifted os started H enc)
theorem proved : Rows.KernelMakesSaid := over
#print axioms proved
end Go.Proofs.YtobjjdnfgamgcaaGreat.kernelMakes
namespace Go.Proofs.YtobjjdnfgamgcaaGreat
/-- The row, under a short name, for the claim. -/
theorem kernelMakes_holds : Rows.KernelMakesSaid := kernelMakes.proved
end Go.Proofs.YtobjjdnfgamgcaaGreat
end
