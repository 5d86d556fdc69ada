/- The law BalanceClasses (the closed classes and the stationary distributions are those of the reference, errors included) answers true at every matrix: no premise. (part 7 of 12) -/
import Derived.OrdersHeld
import Derived.Below
import Derived.Tactics
import Derived.KernelRfl
import Derived.RangeFuncCalls
import Derived.RangeFuncFrom
import Derived.RangeFuncLeaves
import Derived.OrdersIn
import Derived.Laws.AppendOwn
import Derived.Laws.MakeOwn
import Derived.Laws.CopyRow
import Derived.Laws.Cells
import Derived.Laws.World
import Derived.Laws.Alloc2
import Derived.Laws.NewBlocks
import Derived.Maps.AppendAt
import Derived.Test.YtkgmicakfmllmaaGreatProg
import Init.Data.List.Lemmas
import Init.Omega
import Derived.WalkKit
import Derived.ProofKit
import Derived.OpenShut
import Derived.ChangeOld
import Derived.SizedLaws
import Derived.ChangeSlices
import Derived.ChangeArms
import Derived.Deep.Slices
import Derived.Test.YtkgmicakfmllmaaGreatCL6
section
namespace Go.Proofs.YtkgmicakfmllmaaGreat
open Go Go.RowKit
set_option linter.unusedSimpArgs false
set_option linter.unusedVariables false
attribute [local irreducible] XWP Spec SpecO XPub XCall seqX clX apX stX ldX iaX slX
theorem sgI_abs (q : Rat) : (q.num : Int) = sgI q * (q.num.natAbs : Int) := by
  unfold sgI
  have h0 := rat_zero_iff q
  by_cases h : q = 0
  · rw [if_pos h, h]; rfl
  · rw [if_neg h]
    cases hn : ng q
    · have := (ng_iff q).1 hn
      have := Rat.num_nonneg.2 this
      rw [if_neg (by simp)]; omega
    · unfold ng at hn
      have := of_decide_eq_true hn
      rw [if_pos rfl]; omega
theorem sgI_val (q : Rat) : sgI q = 0 ∨ sgI q = 1 ∨ sgI q = -1 := by
  unfold sgI
  split
  · exact .inl rfl
  · split
    · exact .inr (.inr rfl)
    · exact .inr (.inl rfl)
theorem cmp_same {p q : Rat} (h : sgI p = sgI q) : sgI p * cmpI (p.num.natAbs * q.den) (q.num.natAbs * p.den) = 0 ↔ p = q := by
  have hp := sgI_abs p
  have hq := sgI_abs q
  constructor
  · intro hz
    rcases Int.mul_eq_zero.1 hz with h0 | h0
    · have e1 := sgI_zero p
      have e2 := sgI_zero q
      rw [← h, h0] at e2
      rw [h0] at e1
      have e1 : p = 0 := by simpa using e1.symm
      have e2 : q = 0 := by simpa using e2.symm
      rw [e1, e2]
    · have e : p.num.natAbs * q.den = q.num.natAbs * p.den := by
        unfold cmpI at h0
        split at h0
        · cases h0
        · split at h0
          · cases h0
          · omega
      rw [Rat.eq_iff_mul_eq_mul, hp, hq, h, Int.mul_assoc, Int.mul_assoc, ← Int.natCast_mul, ← Int.natCast_mul, e]
  · intro e
    subst e
    have : cmpI (p.num.natAbs * p.den) (p.num.natAbs * p.den) = 0 := by unfold cmpI; rw [if_neg (by omega), if_neg (by omega)]
    rw [this, Int.mul_zero]
theorem cmpI_val (a b : Nat) : cmpI a b = 0 ∨ cmpI a b = 1 ∨ cmpI a b = -1 := by
  unfold cmpI
  split
  · exact .inr (.inr rfl)
  · split
    · exact .inr (.inl rfl)
    · exact .inl rfl
theorem qcompare_c (V : View) (v u : Value) (p q : Rat) (hv : RatC V v p) (hu : RatC V u q) (fp : QF p) (fq : QF q) : Spec Tryz.prog 115 [v, u] V fun v' V' => ∃ z : Int, v' = .int .i64 z ∧ (z = 0 ↔ p = q) := by
  have hv0 := hv
  have hu0 := hu
  obtain ⟨n1, d1, rfl, hn1, hd1⟩ := hv
  obtain ⟨n2, d2, rfl, hn2, hd2⟩ := hu
  refine (Spec.enter Tryz.func115 rfl fun Γ => ?_)
  simp only [Tryz.ntmps115, List.map_cons, List.map_nil, List.length_cons, List.length_nil, Nat.reduceAdd, Nat.reduceSub, List.replicate_succ, List.replicate_zero, List.cons_append, List.nil_append]
  refine Gx.a (by kernel_rfl) fun K hK => ?_
  simp only [XA]
  refine hK _ ?_
  (refine XWP.drw [0, 2, 1, 3, 4, 5] (by kernel_rfl) (by kernel_rfl) (by kernel_rfl) fun K hK => ?_) <;> dsimp only [pickOps, List.getElem?_cons_zero, List.getElem?_cons_succ]
  simp only [XA, XB, Nat.reduceAdd, Nat.reduceLeDiff, ↓reduceIte]
  refine call_go (by kernel_rfl) rfl (qsign_c _ _ _ hv0) fun v1 V1 hV1 h1 => ?_
  subst h1
  simp only [XA]
  refine call_go (by kernel_rfl) rfl (qsign_c _ _ _ (hu0.mono hV1)) fun v2 V2 hV2 h2 => ?_
  subst h2
  simp only [XA]
  refine hK _ ?_
  have hV := View.le_trans hV1 hV2
  have hne : sgI p ≠ sgI q → ¬ p = q := fun h e => h (by rw [e])
  refine XWP.cut (fun s => StIs (fun Z => [Z 0,Z 1, .p 0 0, .p 1 0, Z 4, .v (.int .i64 (sgI p)), .v (.int .i64 (sgI q)), Z 7,Z 8,Z 9,Z 10,Z 11,Z 12,Z 13,Z 14,Z 15,Z 16,Z 17,Z 18,Z 19,Z 20,Z 21,Z 22,Z 23,Z 24,Z 25,Z 26,Z 27,Z 28,Z 29,Z 30,Z 31]) [[.bool (ng p), n1, d1], [.bool (ng q), n2, d2]] (fun _ => none) V2 s ∧ sgI p = sgI q) ?_ ?_
  · refine XWP.block ?_
    by_cases k1 : sgI p < sgI q
    · have b1 : decide (sgI p < sgI q) = true := decide_eq_true k1
      refine Gx.a (by kernel_rfl) fun K hK => ?_
      simp only [XA, XB, b1]
      refine hK _ ?_
      refine Gx.t rfl ?_
      refine Gx.a (by kernel_rfl) fun K hK => ?_
      simp only [XA]
      refine hK _ (XWP.ret ?_)
      try simp only [thenX_ret, inBlockX_ret]
      refine ret_go _ rfl ?_
      exact ⟨-1, rfl, (fun h => by cases h), fun h => absurd h (hne (by omega))⟩
    have b1 : decide (sgI p < sgI q) = false := decide_eq_false k1
    by_cases k2 : sgI q < sgI p
    · have b2 : decide (sgI q < sgI p) = true := decide_eq_true k2
      refine Gx.a (by kernel_rfl) fun K hK => ?_
      simp only [XA, XB, b1]
      refine hK _ ?_
      refine Gx.f rfl ?_
      refine Gx.a (by kernel_rfl) fun K hK => ?_
      simp only [XA, XB, b2]
      refine hK _ ?_
      refine Gx.t rfl ?_
      refine Gx.a (by kernel_rfl) fun K hK => ?_
      simp only [XA]
      refine hK _ (XWP.ret ?_)
      try simp only [thenX_ret, inBlockX_ret]
      refine ret_go _ rfl ?_
      exact ⟨1, rfl, (fun h => by cases h), fun h => absurd h (hne (by omega))⟩
    have b2 : decide (sgI q < sgI p) = false := decide_eq_false k2
    refine Gx.a (by kernel_rfl) fun K hK => ?_
    simp only [XA, XB, b1]
    refine hK _ ?_
    refine Gx.f rfl ?_
    refine Gx.a (by kernel_rfl) fun K hK => ?_
    simp only [XA, XB, b2]
    refine hK _ ?_
    refine Gx.f rfl ?_
    refine XWP.skip ?_
    exact ⟨StIs.of (by exact rfl), by omega⟩
  rintro s ⟨hs, hsg⟩
  obtain ⟨z, rfl⟩ := hs.out
  try dsimp only
  (refine XWP.drw [0, 1, 2, 3, 4, 6, 7, 8, 9, 5, 10, 11, 12, 13] (by kernel_rfl) (by kernel_rfl) (by kernel_rfl) fun K hK => ?_) <;> dsimp only [pickOps, List.getElem?_cons_zero, List.getElem?_cons_succ]
  simp only [XA, XB]
  refine call_go (by kernel_rfl) rfl (mul_c _ _ _ _ _ (hn1.mono hV) (hd2.mono hV) fp.fits.1 fq.fits.2) fun v3 V3 hV3 h3 => ?_
  simp only [XA]
  refine call_go (by kernel_rfl) rfl (mul_c _ _ _ _ _ ((hn2.mono hV).mono hV3) ((hd1.mono hV).mono hV3) fq.fits.1 fp.fits.2) fun v4 V4 hV4 h4 => ?_
  simp only [XA]
  refine call_go (by kernel_rfl) rfl (compare_c _ _ _ _ _ (h3.mono hV4) h4) fun v5 V5 hV5 h5 => ?_
  subst h5
  have w : IntKind.i64.wrap (sgI p * cmpI (p.num.natAbs * q.den) (q.num.natAbs * p.den)) = sgI p * cmpI (p.num.natAbs * q.den) (q.num.natAbs * p.den) := by
    rcases sgI_val p with e | e | e <;> rcases cmpI_val (p.num.natAbs * q.den) (q.num.natAbs * p.den) with e' | e' | e' <;> rw [e, e'] <;> exact wrap_id (by omega) (by omega)
  simp only [XA, XB, w]
  refine hK _ (XWP.ret ?_)
  try simp only [thenX_ret, inBlockX_ret]
  refine ret_go _ rfl ?_
  exact ⟨_, rfl, cmp_same hsg⟩
theorem qsame_c (V : View) (v u : Value) (p q : Rat) (hv : RatC V v p) (hu : RatC V u q) (fp : QF p) (fq : QF q) : Spec Tryz.prog 70 [v, u] V fun v' V' => v' = .bool (decide (p = q)) := by
  have hv0 := hv
  have hu0 := hu
  obtain ⟨x1, y1, rfl, o1, o2⟩ := hv.form
  obtain ⟨x2, y2, rfl, o3, o4⟩ := hu.form
  refine (Spec.enter Tryz.func70 rfl fun Γ => ?_)
  simp only [Tryz.ntmps70, List.map_cons, List.map_nil, List.length_cons, List.length_nil, Nat.reduceAdd, Nat.reduceSub, List.replicate_succ, List.replicate_zero, List.cons_append, List.nil_append]
  refine Gx.a (by kernel_rfl) fun K hK => ?_
  simp only [XA]
  refine hK _ ?_
  refine Gx.a (by kernel_rfl) fun K hK => ?_
  simp only [XA, XB, Nat.reduceAdd, Nat.reduceLeDiff, ↓reduceIte]
  refine call_go (by kernel_rfl) rfl (qcompare_c _ _ _ _ _ hv0 hu0 fp fq) fun v1 V1 hV1 h1 => ?_
  obtain ⟨z, rfl, hz⟩ := h1
  simp only [XA, XB]
  refine hK _ (XWP.ret ?_)
  try simp only [thenX_ret, inBlockX_ret]
  refine ret_go _ rfl ?_
  show Value.bool _ = _
  congr 1
  rw [decide_eq_decide]; exact hz
end Go.Proofs.YtkgmicakfmllmaaGreat
end
section
namespace Go.Proofs.YtkgmicakfmllmaaGreat
open Go Go.RowKit
set_option linter.unusedSimpArgs false
set_option linter.unusedVariables false
attribute [local irreducible] XWP Spec SpecO XPub XCall seqX clX apX stX ldX iaX slX
theorem ld3 {H : Heap} {V : View} {b e tot o t : Nat} {cells : List Value} {x y z : Value} (hs : shapeT Tryz.prog t = some (true, 3)) (hr : H b = some ⟨e, cells, tot⟩) (h0 : cells[o]? = some x) (h1 : cells[o + 1]? = some y) (h2 : cells[o + 2]? = some z) : Loads Tryz.prog H V t b o (.agg #[x, y, z]) :=
  ⟨true, 3, hs, .inl ⟨rfl, _, rfl, fun j u hj => .inl ⟨_, hr, by
    match j, hj with
    | 0, hj => cases hj; exact h0
    | 1, hj => cases hj; exact h1
    | 2, hj => cases hj; exact h2
    | j + 3, hj => simp at hj⟩, rfl⟩⟩
theorem st_mat {P : Program} {t i : Nat} {s : XS} {ops : Array Oper} {rest : List Oper} {K : XS → Prop} {d : Option Tmp} {m n e : Value} {vs : List Value} (hs : shapeT P t = some (true, 3)) (hb : s.bx[i]? = some vs) (hl : vs.length = 3) (h0 : isOne m = true) (h1 : isOne n = true) (h2 : isOne e = true) (h : seqX P ops rest K (XS.put ⟨s.t, s.bx.set i [m, n, e], s.H, s.V⟩ d (.v undef))) : stX P ops rest K s d t (.p i 0) (.v (.agg #[m, n, e])) := by
  refine st_agg (cs := [m, n, e]) hs hb rfl ⟨rfl, by simp [h0, h1, h2], by omega, ?_⟩
  have : splice vs 0 [m, n, e] = [m, n, e] := by
    unfold splice; simp [hl]
  rw [this]; exact h
end Go.Proofs.YtkgmicakfmllmaaGreat
end
section
namespace Go.Proofs.YtkgmicakfmllmaaGreat
open Go Go.RowKit
set_option linter.unusedSimpArgs false
set_option linter.unusedVariables false
attribute [local irreducible] XWP Spec SpecO XPub XCall seqX clX apX stX ldX iaX slX
end Go.Proofs.YtkgmicakfmllmaaGreat
end
section
namespace Go.Proofs.YtkgmicakfmllmaaGreat
open Go Go.RowKit
set_option linter.unusedSimpArgs false
set_option linter.unusedVariables false
attribute [local irreducible] XWP Spec SpecO XPub XCall seqX clX apX stX ldX iaX slX
end Go.Proofs.YtkgmicakfmllmaaGreat
end
section
namespace Go.Proofs.YtkgmicakfmllmaaGreat
open Go Go.RowKit
set_option linter.unusedSimpArgs false
set_option linter.unusedVariables false
attribute [local irreducible] XWP Spec SpecO XPub XCall seqX clX apX stX ldX iaX slX
theorem rowQ_load {H : Heap} {V : View} {b e tot : Nat} {cells : List Value} {xs : List Rat} (hr : H b = some ⟨e, cells, tot⟩) (h : RowAt ratE V cells xs) (i : Nat) (hi : i < xs.length) : ∃ m n d, RatC V (.agg #[m, n, d]) (cf xs i) ∧ (isOne m = true ∧ isOne n = true ∧ isOne d = true) ∧ Loads Tryz.prog H V 49 b (i * 3) (.agg #[m, n, d]) := by
  obtain ⟨v, h1, ⟨m, n, d, rfl, o1⟩, h2⟩ := RowAt.load hr h i hi
  rw [cf_get hi] at h1
  exact ⟨m, n, d, h1, o1, h2⟩
theorem RowAt.drop {α : Type} {E : View → Value → α → Prop} {V : View} {cells : List Value} {xs : List α} (h : RowAt E V cells xs) (k : Nat) : RowAt E V (cells.drop (k * 3)) (xs.drop k) := by
  refine ⟨by rw [List.length_drop, List.length_drop, h.1]; omega, fun i x hi => ?_⟩
  rw [List.getElem?_drop] at hi
  obtain ⟨m, n, d, g1, g2, g3, r⟩ := h.2 (k + i) x hi
  refine ⟨m, n, d, ?_, ?_, ?_, r⟩
  · show (cells.drop (k * 3))[i * 3]? = _
    rw [List.getElem?_drop, show k * 3 + i * 3 = (k + i) * 3 by omega]; exact g1
  · show (cells.drop (k * 3))[i * 3 + 1]? = _
    rw [List.getElem?_drop, show k * 3 + (i * 3 + 1) = (k + i) * 3 + 1 by omega]; exact g2
  · show (cells.drop (k * 3))[i * 3 + 2]? = _
    rw [List.getElem?_drop, show k * 3 + (i * 3 + 2) = (k + i) * 3 + 2 by omega]; exact g3
theorem src_drop {α : Type} {E : View → Value → α → Prop} {H : Heap} {V : View} {b e tot n c k : Nat} {cells : List Value} {xs : List α} (h : RowAt E V cells xs) (hr : H b = some ⟨e, cells, tot⟩) (hn : xs.length = n) (hk : k ≤ n) (hc : n ≤ c) :
    Src H V 3 (sliceV (some ⟨b, 0, none⟩) c 3 k n) (n - k) (cells.drop (k * 3)) := by
  obtain ⟨_, _, _, h1, h2, _⟩ := h.src (c := c) hr hn
  unfold sliceV
  refine ⟨_, c - k, rfl, by rw [List.length_drop, h1]; omega, fun u hu => h2 u (List.mem_of_mem_drop hu), ?_⟩
  by_cases hck : c = k
  · exact .inl (by omega)
  · refine .inr ⟨b, 0 + k * 3, ?_, fun j u hj => .inl ⟨_, hr, ?_⟩⟩
    · rw [if_neg hck, Option.map_some, addr_add]
    · rw [List.getElem?_drop] at hj
      rw [Nat.zero_add]; exact hj
end Go.Proofs.YtkgmicakfmllmaaGreat
end
section
namespace Go.Proofs.YtkgmicakfmllmaaGreat
open Go Go.RowKit
set_option linter.unusedSimpArgs false
set_option linter.unusedVariables false
attribute [local irreducible] XWP Spec SpecO XPub XCall seqX clX apX stX ldX iaX slX
end Go.Proofs.YtkgmicakfmllmaaGreat
end
section
namespace Go.Proofs.YtkgmicakfmllmaaGreat
open Go Go.RowKit
set_option linter.unusedSimpArgs false
set_option linter.unusedVariables false
attribute [local irreducible] XWP Spec SpecO XPub XCall seqX clX apX stX ldX iaX slX
end Go.Proofs.YtkgmicakfmllmaaGreat
end
section
namespace Go.Proofs.YtkgmicakfmllmaaGreat
open Go Go.RowKit
set_option linter.unusedSimpArgs false
set_option linter.unusedVariables false
attribute [local irreducible] XWP Spec SpecO XPub XCall seqX clX apX stX ldX iaX slX
theorem RowAt.append {α : Type} {E : View → Value → α → Prop} {V : View} {c1 c2 : List Value} {l1 l2 : List α} (h1 : RowAt E V c1 l1) (h2 : RowAt E V c2 l2) : RowAt E V (c1 ++ c2) (l1 ++ l2) := by
  have e1 := h1.1
  have e2 := h2.1
  refine ⟨by rw [List.length_append, List.length_append, e1, e2]; omega, fun i x hi => ?_⟩
  by_cases hlt : i < l1.length
  · rw [List.getElem?_append_left hlt] at hi
    obtain ⟨m, n, d, g1, g2, g3, r⟩ := h1.2 i x hi
    refine ⟨m, n, d, ?_, ?_, ?_, r⟩
    · show (c1 ++ c2)[i * 3]? = _
      rw [List.getElem?_append_left (by omega)]; exact g1
    · show (c1 ++ c2)[i * 3 + 1]? = _
      rw [List.getElem?_append_left (by omega)]; exact g2
    · show (c1 ++ c2)[i * 3 + 2]? = _
      rw [List.getElem?_append_left (by omega)]; exact g3
  · rw [List.getElem?_append_right (by omega)] at hi
    obtain ⟨m, n, d, g1, g2, g3, r⟩ := h2.2 (i - l1.length) x hi
    refine ⟨m, n, d, ?_, ?_, ?_, r⟩
    · show (c1 ++ c2)[i * 3]? = _
      rw [List.getElem?_append_right (by omega), show i * 3 - c1.length = (i - l1.length) * 3 by omega]; exact g1
    · show (c1 ++ c2)[i * 3 + 1]? = _
      rw [List.getElem?_append_right (by omega), show i * 3 + 1 - c1.length = (i - l1.length) * 3 + 1 by omega]; exact g2
    · show (c1 ++ c2)[i * 3 + 2]? = _
      rw [List.getElem?_append_right (by omega), show i * 3 + 2 - c1.length = (i - l1.length) * 3 + 2 by omega]; exact g3
end Go.Proofs.YtkgmicakfmllmaaGreat
end
section
namespace Go.Proofs.YtkgmicakfmllmaaGreat
set_option linter.unusedVariables false
abbrev Grid := Nat → Nat → Rat
def swp (p t i : Nat) : Nat := if i = p then t else if i = t then p else i
def gsw (G : Grid) (p t : Nat) : Grid := fun i j => G (swp p t i) j
def gcol (G : Grid) (t k : Nat) : Grid := fun i j => if i = t then G t j / G t k else G i j - G i k * (G t j / G t k)
theorem swp_swp (p t i : Nat) : swp p t (swp p t i) = i := by unfold swp; split <;> (try split) <;> (try split) <;> omega
theorem swp_lt {p t i R : Nat} (hp : p < R) (ht : t < R) (hi : i < R) : swp p t i < R := by unfold swp; split <;> (try split) <;> omega
theorem Sm_div (f x : Nat → Rat) (d : Rat) (n : Nat) : Sm (fun j => f j / d * x j) n = Sm (fun j => f j * x j) n / d := by
  induction n with
  | zero => simp only [Sm, Rat.div_def]; grind
  | succ n ih => simp only [Sm, ih, Rat.div_def]; grind
theorem Sm_lin (f g x : Nat → Rat) (c : Rat) (n : Nat) : Sm (fun j => (f j - c * g j) * x j) n = Sm (fun j => f j * x j) n - c * Sm (fun j => g j * x j) n := by
  induction n with
  | zero => simp only [Sm]; grind
  | succ n ih => simp only [Sm, ih]; grind
theorem div_inj {a b d : Rat} (hd : d ≠ 0) (h : a / d = b / d) : a = b := by
  rw [← Rat.div_mul_cancel (a := a) hd, ← Rat.div_mul_cancel (a := b) hd, h]
/-- the numbers that are read off -/
def gx (G : Grid) (wh : Nat → Int) (n c : Nat) : Rat := if 0 ≤ wh c then G (wh c).toNat n else 0
end Go.Proofs.YtkgmicakfmllmaaGreat
end
section
namespace Go.Proofs.YtkgmicakfmllmaaGreat
open Go Go.RowKit
set_option linter.unusedSimpArgs false
set_option linter.unusedVariables false
attribute [local irreducible] XWP Spec SpecO XPub XCall seqX clX apX stX ldX iaX slX
theorem upd_off {H : Heap} {b k : Nat} {r : Option Row} (h : k ≠ b) : upd H b r k = H k := by unfold upd; rw [if_neg h]
def GRow (H : Heap) (V : View) (m : Nat) (f : Nat → Rat) (av : List Nat) (v : Value) : Prop :=
  ∃ b c cs, v = .slice (some ⟨b, 0, none⟩) m c ∧ H b = some ⟨49, cs, c * 3⟩ ∧ RowAt ratE V cs (mk m f) ∧ m ≤ c ∧ c ≤ maxLen ∧ b ∉ av
structure GCells (H : Heap) (V : View) (R m : Nat) (G : Grid) (av : List Nat) (cells : List Value) : Prop where
  len : cells.length = R
  row : ∀ (i : Nat) (v : Value), cells[i]? = some v → GRow H V m (G i) av v
  inj : ∀ (i j b c c' : Nat), cells[i]? = some (Value.slice (some ⟨b, 0, none⟩) m c) → cells[j]? = some (Value.slice (some ⟨b, 0, none⟩) m c') → i = j
def GridAt (H : Heap) (V : View) (v : Value) (R m : Nat) (G : Grid) (av : List Nat) : Prop :=
  ∃ cells, Own H 22 1 v R cells ∧ GCells H V R m G av cells
theorem mk_congr {m : Nat} {f g : Nat → Rat} (h : ∀ j, j < m → f j = g j) : mk m f = mk m g := by
  unfold mk
  exact List.map_congr_left fun j hj => h j (List.mem_range.1 hj)
theorem GRow.congr {H : Heap} {V : View} {m : Nat} {f g : Nat → Rat} {av : List Nat} {v : Value} (h : GRow H V m f av v) (e : ∀ j, j < m → f j = g j) : GRow H V m g av v := by
  obtain ⟨b, c, cs, h1, h2, h3, h4⟩ := h
  rw [mk_congr e] at h3
  exact ⟨b, c, cs, h1, h2, h3, h4⟩
theorem GRow.mono {H : Heap} {V V' : View} {m : Nat} {f : Nat → Rat} {av : List Nat} {v : Value} (h : GRow H V m f av v) (hV : V.le V') : GRow H V' m f av v := by
  obtain ⟨b, c, cs, h1, h2, h3, h4⟩ := h
  exact ⟨b, c, cs, h1, h2, h3.mono ratE_ok hV, h4⟩
theorem GridAt.mono {H : Heap} {V V' : View} {v : Value} {R m : Nat} {G : Grid} {av : List Nat} (h : GridAt H V v R m G av) (hV : V.le V') : GridAt H V' v R m G av := by
  obtain ⟨cells, h1, h2⟩ := h
  exact ⟨cells, h1, h2.len, fun i v hv => (h2.row i v hv).mono hV, h2.inj⟩
theorem GridAt.congr {H : Heap} {V : View} {v : Value} {R m : Nat} {G G' : Grid} {av : List Nat} (h : GridAt H V v R m G av) (e : ∀ i j, i < R → j < m → G i j = G' i j) : GridAt H V v R m G' av := by
  obtain ⟨cells, h1, h2⟩ := h
  refine ⟨cells, h1, h2.len, fun i v hv => (h2.row i v hv).congr fun j hj => e i j ?_ hj, h2.inj⟩
  rw [← h2.len]
  exact (List.getElem?_eq_some_iff.1 hv).1
/-- what else is written, leaves it -/
theorem GridAt.frame {H H' : Heap} {V : View} {v : Value} {R m : Nat} {G : Grid} {av av' : List Nat} (h : GridAt H V v R m G av)
    (h1 : ∀ k cs tot, H k = some ⟨22, cs, tot⟩ → H' k = H k) (h2 : ∀ k cs tot, k ∉ av → H k = some ⟨49, cs, tot⟩ → H' k = H k ∧ k ∉ av') : GridAt H' V v R m G av' := by
  obtain ⟨cells, ho, hc⟩ := h
  refine ⟨cells, ⟨ho.1, ?_⟩, hc.len, fun i v hv => ?_, hc.inj⟩
  · rcases ho.2 with h | ⟨b, cap, e, hb, h3⟩
    · exact .inl h
    · exact .inr ⟨b, cap, e, by rw [h1 b _ _ hb]; exact hb, h3⟩
  · obtain ⟨b, c, cs, e, hb, h3, h4, h5, h6⟩ := hc.row i v hv
    obtain ⟨a1, a2⟩ := h2 b _ _ h6 hb
    exact ⟨b, c, cs, e, by rw [a1]; exact hb, h3, h4, h5, a2⟩
/-- one row: how to read it, how to write it -/
theorem GridAt.at {H : Heap} {V : View} {v : Value} {R m : Nat} {G : Grid} {av : List Nat} (h : GridAt H V v R m G av) {i : Nat} (hi : i < R) :
    ∃ g cap b c cs, v = .slice (some ⟨g, 0, none⟩) R cap ∧ Loads Tryz.prog H V 22 g i (.slice (some ⟨b, 0, none⟩) m c) ∧ H b = some ⟨49, cs, c * 3⟩ ∧ RowAt ratE V cs (mk m (G i)) ∧ m ≤ c ∧ c ≤ maxLen ∧ b ∉ av ∧
      ∀ V' cs' f, V.le V' → RowAt ratE V' cs' (mk m f) → GridAt (upd H b (some ⟨49, cs', c * 3⟩)) V' v R m (fun i' => if i' = i then f else G i') av := by
  obtain ⟨cells, ho, hc⟩ := h
  rcases own_parts ho with ⟨_, h0, _⟩ | ⟨g, cap, rfl, hg, hle, hcap, hcl⟩
  · omega
  have hlt : i < cells.length := by rw [hc.len]; exact hi
  obtain ⟨b, c, cs, e, hb, h3, h4, h5, h6⟩ := hc.row i cells[i] (List.getElem?_eq_getElem hlt)
  refine ⟨g, cap, b, c, cs, rfl, ⟨false, 1, shapeT_22, .inr ⟨rfl, .inl ⟨_, hg, by rw [List.getElem?_eq_getElem hlt, e]⟩⟩⟩, hb, h3, h4, h5, h6, fun V' cs' f hV hrow => ?_⟩
  have hgb : g ≠ b := fun e => by subst e; rw [hg] at hb; cases hb
  refine ⟨cells, ⟨ho.1, .inr ⟨g, cap, rfl, by unfold upd; rw [if_neg hgb]; exact hg, hle, hcap⟩⟩, hc.len, fun j w hw => ?_, hc.inj⟩
  by_cases hji : j = i
  · subst hji
    rw [List.getElem?_eq_getElem hlt, e] at hw
    cases hw
    exact ⟨b, c, cs', rfl, upd_at _ _ _, by rw [if_pos rfl]; exact hrow, h4, h5, h6⟩
  · obtain ⟨b', c', cs2, e', hb', g3, g4⟩ := hc.row j w hw
    subst e'
    have hne : b' ≠ b := fun hbb => hji (hc.inj j i b' c' c hw (by rw [List.getElem?_eq_getElem hlt, e, hbb]))
    refine ⟨b', c', cs2, rfl, by unfold upd; rw [if_neg hne]; exact hb', ?_, g4⟩
    try dsimp only
    rw [if_neg hji]; exact g3.mono ratE_ok hV
/-- two rows change their places -/
theorem GridAt.swap {H : Heap} {V : View} {v : Value} {R m : Nat} {G : Grid} {av : List Nat} (h : GridAt H V v R m G av) {p t : Nat} (hp : p < R) (ht : t < R) :
    ∃ g cap cells vp vt, v = .slice (some ⟨g, 0, none⟩) R cap ∧ H g = some ⟨22, cells, cap * 1⟩ ∧ cells.length = R ∧ Loads Tryz.prog H V 22 g p vp ∧ Loads Tryz.prog H V 22 g t vt ∧ isOne vp = true ∧ isOne vt = true ∧
      GridAt (upd (upd H g (some ⟨22, cells.set p vt, cap * 1⟩)) g (some ⟨22, (cells.set p vt).set t vp, cap * 1⟩)) V v R m (gsw G p t) av := by
  obtain ⟨cells, ho, hc⟩ := h
  rcases own_parts ho with ⟨_, h0, _⟩ | ⟨g, cap, rfl, hg, hle, hcap, hcl⟩
  · omega
  have lp : p < cells.length := by rw [hc.len]; exact hp
  have lt : t < cells.length := by rw [hc.len]; exact ht
  have hone : ∀ i (hi : i < cells.length), isOne cells[i] = true := fun i hi => by
    obtain ⟨b, c, cs, e, _⟩ := hc.row i cells[i] (List.getElem?_eq_getElem hi)
    rw [e]; rfl
  have hget : ∀ i, ((cells.set p cells[t]).set t cells[p])[i]? = cells[swp p t i]? := fun i => by
    unfold swp
    by_cases e1 : t = i
    · subst e1
      rw [List.getElem?_set_self (by rw [List.length_set]; exact lt)]
      by_cases e2 : t = p
      · subst e2; rw [if_pos rfl, List.getElem?_eq_getElem lt]
      · rw [if_neg e2, if_pos rfl, List.getElem?_eq_getElem lp]
    · rw [List.getElem?_set_ne e1]
      by_cases e2 : p = i
      · subst e2; rw [List.getElem?_set_self lp, if_pos rfl, List.getElem?_eq_getElem lt]
      · rw [List.getElem?_set_ne e2, if_neg (Ne.symm e2), if_neg (Ne.symm e1)]
  refine ⟨g, cap, cells, cells[p], cells[t], rfl, hg, hc.len, ⟨false, 1, shapeT_22, .inr ⟨rfl, .inl ⟨_, hg, List.getElem?_eq_getElem lp⟩⟩⟩, ⟨false, 1, shapeT_22, .inr ⟨rfl, .inl ⟨_, hg, List.getElem?_eq_getElem lt⟩⟩⟩, hone p lp, hone t lt, ?_⟩
  refine ⟨(cells.set p cells[t]).set t cells[p], ⟨by rw [List.length_set, List.length_set]; exact ho.1, .inr ⟨g, cap, rfl, upd_at _ _ _, hle, hcap⟩⟩, by rw [List.length_set, List.length_set]; exact hc.len, fun i w hw => ?_, fun i j b c c' h1 h2 => ?_⟩
  · rw [hget] at hw
    obtain ⟨b, c, cs, e, hb, h3, h4⟩ := hc.row _ w hw
    have hbg : b ≠ g := fun e => by subst e; rw [hg] at hb; cases hb
    exact ⟨b, c, cs, e, by unfold upd; rw [if_neg hbg, if_neg hbg]; exact hb, h3, h4⟩
  · rw [hget] at h1 h2
    have := hc.inj _ _ b c c' h1 h2
    rw [← swp_swp p t i, this, swp_swp]
/-- a list that grows beside the grid -/
theorem GridAt.app {H H' : Heap} {V : View} {v w w' : Value} {R m n n' : Nat} {G : Grid} {xs xs' : List Value} (h : GridAt H V v R m G w.ownBlock.toList) (hown : Own H 49 3 w n xs) (hres : AppRes H V 49 3 w n' xs' w' H') : GridAt H' V v R m G w'.ownBlock.toList := by
  obtain ⟨ho', hk, hg⟩ := hres
  have hsame : ∀ k r, H k = some r → (r.e = 22 ∨ k ∉ w.ownBlock.toList) → H' k = H k := fun k r hr ha => by
    refine hk k fun e => ?_
    rcases hg k e with h1 | ⟨h1, _⟩
    · rcases ha with h2 | h2
      · rcases own_parts hown with ⟨rfl, _, _⟩ | ⟨b, cap, rfl, hb, _⟩
        · cases h1
        · have : b = k := by simpa [Value.ownBlock] using h1
          subst this
          rw [hb] at hr; cases hr
          simp at h2
      · exact h2 (by rw [h1]; simp)
    · rw [hr] at h1; cases h1
  refine h.frame (fun k cs tot hkk => hsame k _ hkk (.inl rfl)) fun k cs tot ha hkk => ⟨hsame k _ hkk (.inr ha), fun hin => ?_⟩
  cases hw : w'.ownBlock with
  | none => rw [hw] at hin; simp at hin
  | some g =>
    rw [hw] at hin
    have : k = g := by simpa using hin
    subst this
    rcases hg k hw with h1 | ⟨h1, _⟩
    · exact ha (by rw [h1]; simp)
    · rw [hkk] at h1; cases h1
theorem eRR : elemT Tryz.prog 38 = some 22 := elemT_38
theorem kRR : kindT Tryz.prog 38 = 2 := kindT_38
theorem eII : elemT Tryz.prog 34 = some 3 := elemT_34
theorem kII : kindT Tryz.prog 34 = 2 := kindT_34
theorem GridAt.alloc {H : Heap} {V : View} {v : Value} {R m b : Nat} {r : Option Row} {G : Grid} {av : List Nat} (h : GridAt H V v R m G av) (hb : H b = none) : GridAt (upd H b r) V v R m G av := by
  have key : ∀ k q, H k = some q → upd H b r k = H k := fun k q hk => by
    unfold upd
    split
    · rename_i e; rw [e, hb] at hk; cases hk
    · rfl
  exact h.frame (fun k cs tot hk => key k _ hk) fun k cs tot ha hk => ⟨key k _ hk, ha⟩
theorem src_one {H : Heap} {V : View} {b e tot : Nat} {a : Value} (hr : H b = some ⟨e, [a], tot⟩) (h1 : isOne a = true) : Src H V 1 (.slice (some ⟨b, 0, none⟩) 1 1) 1 [a] :=
  ⟨_, 1, rfl, rfl, fun u hu => by have : u = a := by simpa using hu
                                  rw [this]; exact h1, .inr ⟨b, 0, rfl, fun j u hj => .inl ⟨_, hr, by rw [Nat.zero_add]; exact hj⟩⟩⟩
theorem own_one {H : Heap} {e sz n : Nat} {v : Value} {xs : List Value} (h : Own H e sz v n xs) : isOne v = true := by
  rcases own_parts h with ⟨rfl, _, _⟩ | ⟨b, cap, rfl, _⟩ <;> rfl
theorem mk_set1 {m j : Nat} {f : Nat → Rat} {x : Rat} (hj : j < m) : (mk m f).set j x = mk m (fun c => if c = j then x else f c) := by
  apply List.ext_getElem?
  intro i
  by_cases hi : i < m
  · by_cases e : j = i
    · subst e; rw [List.getElem?_set_self (by rw [mk_len]; exact hj)]; simp [mk, hj]
    · rw [List.getElem?_set_ne e]
      have e' : ¬ i = j := fun h => e h.symm
      simp [mk, hi, e']
  · rw [List.getElem?_eq_none (by rw [List.length_set, mk_len]; omega), List.getElem?_eq_none (by rw [mk_len]; omega)]
def ge (B : Nat) : Nat → Nat
  | 0 => B
  | k + 1 => 4 * ge B k + 2
theorem ge_mono (B : Nat) {i j : Nat} (h : i ≤ j) : ge B i ≤ ge B j := by
  induction j with
  | zero => rw [show i = 0 by omega]; exact Nat.le_refl _
  | succ j ih =>
    rcases Nat.eq_or_lt_of_le h with h1 | h1
    · subst h1; exact Nat.le_refl _
    · have := ih (by omega)
      simp only [ge]; omega
end Go.Proofs.YtkgmicakfmllmaaGreat
end
section
namespace Go.Proofs.YtkgmicakfmllmaaGreat
open Go Go.RowKit
set_option linter.unusedSimpArgs false
set_option linter.unusedVariables false
attribute [local irreducible] XWP Spec SpecO XPub XCall seqX clX apX stX ldX iaX slX
def wtR (r : Raw) : Bool := r.ok && !ng r.q
def wtsR (l : List Raw) : Bool := l.all wtR
def wtB (n : Int) (l : List Raw) : Bool := decide ((l.length : Int) = n) && wtsR l
theorem wtsR_ok {l : List Raw} (h : wtsR l = true) : okR l = true ∧ ∀ i, i < l.length → ng (cf (qs l) i) = false := by
  unfold wtsR at h
  rw [List.all_eq_true] at h
  refine ⟨?_, fun i hi => ?_⟩
  · unfold okR
    rw [List.all_eq_true]
    intro r hr
    have := h r hr
    unfold wtR at this
    rw [Bool.and_eq_true] at this
    exact this.1
  · have := h l[i] (List.getElem_mem hi)
    unfold wtR at this
    rw [Bool.and_eq_true] at this
    have e : cf (qs l) i = l[i].q := by
      rw [← cf_get (by rw [qs_len]; exact hi)]
      unfold qs; simp
    rw [e]
    simpa using this.2
theorem RawAt.neg {V : View} {v : Value} {m : Bool} {nd dd : List Nat} (h : RawAt V v m nd dd) (hk : rawOk m nd dd = true) : ng (Go.Proofs.YtkgmicakfmllmaaGreat.rv m (nv nd) (nv dd)) = m := by
  obtain ⟨x, y, e, _, _⟩ := (RawAt.rat h hk).form
  obtain ⟨n, d, rfl, _, _⟩ := h
  simp only [Value.agg.injEq, Array.mk.injEq, List.cons.injEq, Value.bool.injEq] at e
  exact e.1.symm
end Go.Proofs.YtkgmicakfmllmaaGreat
end
section
namespace Go.Proofs.YtkgmicakfmllmaaGreat
open Go Go.RowKit
set_option linter.unusedSimpArgs false
set_option linter.unusedVariables false
attribute [local irreducible] XWP Spec SpecO XPub XCall seqX clX apX stX ldX iaX slX
end Go.Proofs.YtkgmicakfmllmaaGreat
end
section
namespace Go.Proofs.YtkgmicakfmllmaaGreat
open Go Go.RowKit
set_option linter.unusedSimpArgs false
set_option linter.unusedVariables false
attribute [local irreducible] XWP Spec SpecO XPub XCall seqX clX apX stX ldX iaX slX
end Go.Proofs.YtkgmicakfmllmaaGreat
end
section
namespace Go.Proofs.YtkgmicakfmllmaaGreat
set_option linter.unusedVariables false
end Go.Proofs.YtkgmicakfmllmaaGreat
end
section
namespace Go.Proofs.YtkgmicakfmllmaaGreat
open Go Go.RowKit
set_option linter.unusedSimpArgs false
set_option linter.unusedVariables false
attribute [local irreducible] XWP Spec SpecO XPub XCall seqX clX apX stX ldX iaX slX
theorem wtB_raw {n : Nat} {l : List Rat} (h : l.length = n) (hn : ∀ j, j < n → 0 ≤ cf l j) : wtB n (l.map toRaw) = true := by
  unfold wtB wtsR
  rw [List.length_map, decide_eq_true (by omega), Bool.true_and, List.all_eq_true]
  intro r hr
  obtain ⟨y, hy, rfl⟩ := List.mem_map.1 hr
  obtain ⟨i, hi, rfl⟩ := List.mem_iff_getElem.1 hy
  unfold wtR
  rw [toRaw_ok, toRaw_q, cf_get hi, (ng_iff _).2 (hn i (by omega))]; rfl
end Go.Proofs.YtkgmicakfmllmaaGreat
end
section
namespace Go.Proofs.YtkgmicakfmllmaaGreat
set_option linter.unusedVariables false
def mS (a b : List Rat) (n c i k : Nat) : Nat → Rat
  | 0 => 0
  | j + 1 => mS a b n c i k j + cf a (i * n + j) * cf b (j * c + k)
def mfull (a b : List Rat) (n c t : Nat) : Rat := mS a b n c (t / c) (t % c) n
/-- the numbers before tt are through, the one at tt to j -/
def mf (a b : List Rat) (n c tt j : Nat) : Nat → Rat := fun t => if t < tt then mfull a b n c t else if t = tt then mS a b n c (t / c) (t % c) j else 0
theorem mk_eq {m : Nat} {f g : Nat → Rat} (h : ∀ j, j < m → f j = g j) : mk m f = mk m g := by
  unfold mk
  exact List.map_congr_left fun j hj => h j (List.mem_range.1 hj)
theorem mk_put {m j : Nat} {f : Nat → Rat} {x : Rat} (hj : j < m) : (mk m f).set j x = mk m (fun c => if c = j then x else f c) := by
  unfold mk
  refine List.ext_getElem? fun i => ?_
  by_cases hi : i < m
  · by_cases e : j = i
    · subst e
      rw [List.getElem?_set_self (by simpa using hi)]
      simp [hi]
    · rw [List.getElem?_set_ne e]
      simp only [List.getElem?_map, List.getElem?_range hi, Option.map_some]
      rw [if_neg (fun e' => e e'.symm)]
  · rw [List.getElem?_eq_none (by simp; omega), List.getElem?_eq_none (by simp; omega)]
end Go.Proofs.YtkgmicakfmllmaaGreat
end
section
namespace Go.Proofs.YtkgmicakfmllmaaGreat
open Go Go.RowKit
set_option linter.unusedSimpArgs false
set_option linter.unusedVariables false
attribute [local irreducible] XWP Spec SpecO XPub XCall seqX clX apX stX ldX iaX slX
theorem st_one {P : Program} {t i off : Nat} {s : XS} {ops : Array Oper} {rest : List Oper} {K : XS → Prop} {d : Option Tmp} {v : Value} {vs : List Value} (hs : shapeT P t = some (false, 1)) (hb : s.bx[i]? = some vs) (h1 : isOne v = true) (hl : off < vs.length) (h : seqX P ops rest K (XS.put ⟨s.t, s.bx.set i (vs.set off v), s.H, s.V⟩ d (.v undef))) : stX P ops rest K s d t (.p i off) (.v v) := by
  unfold stX loudX
  have e0 : XS.ev ⟨[.p i off, .v v], s.bx, s.H, s.V⟩ (.tmp 0) = .p i off := rfl
  have e1 : XS.ev ⟨[.p i off, .v v], s.bx, s.H, s.V⟩ (.tmp 1) = .v v := rfl
  simp only [e0, e1, hs, hb]
  have ec : v.cells = #[v] := by cases v <;> first | rfl | cases h1
  refine ⟨by rw [ec]; rfl, by rw [ec]; simp [h1], by omega, ?_⟩
  have : splice vs off v.cells.toList = vs.set off v := by
    rw [ec]
    unfold splice
    rw [List.set_eq_take_append_cons_drop, if_pos hl]
    simp
  rw [this]; exact h
theorem placesT_31 : placesT Tryz.prog 31 = some [(0, 1), (1, 1), (2, 1)] := by kernel_rfl
theorem bd_mat2 {x y : Value} (hx : isOne x = true) (hy : isOne y = true) : BuildsTo Tryz.prog 31 #[(0, x), (1, y)] (.agg #[x, y, .slice none 0 0]) := by
  refine bd_run placesT_31 zeroT_31 ?_
  show Instr.fill _ _ [(0, x), (1, y)] = _
  rw [fill_one (off := 0) rfl hx (by simp), fill_one (off := 1) rfl hy (by simp)]; rfl
theorem placesT_24 : placesT Tryz.prog 24 = some [(0, 1), (1, 1), (2, 1)] := by kernel_rfl
theorem bd_mtx3 {x y z : Value} (hx : isOne x = true) (hy : isOne y = true) (hz : isOne z = true) : BuildsTo Tryz.prog 24 #[(0, x), (1, y), (2, z)] (.agg #[x, y, z]) := by
  refine bd_run placesT_24 zeroT_24 ?_
  show Instr.fill _ _ [(0, x), (1, y), (2, z)] = _
  rw [fill_one (off := 0) rfl hx (by simp), fill_one (off := 1) rfl hy (by simp), fill_one (off := 2) rfl hz (by simp)]; rfl
theorem bd_mtx2 {x y : Value} (hx : isOne x = true) (hy : isOne y = true) : BuildsTo Tryz.prog 24 #[(0, x), (1, y)] (.agg #[x, y, .slice none 0 0]) := by
  refine bd_run placesT_24 zeroT_24 ?_
  show Instr.fill _ _ [(0, x), (1, y)] = _
  rw [fill_one (off := 0) rfl hx (by simp), fill_one (off := 1) rfl hy (by simp)]; rfl
theorem bd_mtx0 : BuildsTo Tryz.prog 24 #[] (.agg #[.int .i64 0, .int .i64 0, .slice none 0 0]) := by
  refine bd_run placesT_24 zeroT_24 ?_
  rfl
theorem own_isOne {H : Heap} {e sz n : Nat} {v : Value} {xs : List Value} (h : Own H e sz v n xs) : isOne v = true := by
  obtain ⟨_, ⟨rfl, _⟩ | ⟨g, cap, rfl, _⟩⟩ := h <;> rfl
theorem dzeros_o (V : View) (r c : Nat) (hr : r ≤ 60) (hc : c ≤ 60) : SpecO Tryz.prog 146 [.int .i64 (r : Int), .int .i64 (c : Int)] V fun v' V' o => ∃ sl cells, v' = .agg #[.int .i64 (r : Int), .int .i64 (c : Int), sl] ∧ Own (addRow (fun _ => none) o) 49 3 sl (r * c) cells ∧ RowAt ratE V' cells (mk (r * c) fun _ => 0) := by
  have hrc : r * c ≤ 3600 := Nat.le_trans (Nat.mul_le_mul hr hc) (by decide)
  have w : IntKind.i64.wrap ((r : Int) * (c : Int)) = ((r * c : Nat) : Int) := by rw [← Int.natCast_mul, wrap_id (by omega) (by omega)]
  generalize hR : r * c = R at *
  refine (SpecO.enter Tryz.func146 rfl fun Γ => ?_)
  simp only [Tryz.ntmps146, List.map_cons, List.map_nil, List.length_cons, List.length_nil, Nat.reduceAdd, Nat.reduceSub, List.replicate_succ, List.replicate_zero, List.cons_append, List.nil_append]
  refine Gx.a (by kernel_rfl) fun K hK => ?_
  simp only [XM, XA]
  refine hK _ ?_
  refine Gx.a (by kernel_rfl) fun K hK => ?_
  simp only [XA]
  refine bd_go (by kernel_rfl) #[(0, .int .i64 (r : Int)), (1, .int .i64 (c : Int))] (by simp [ev_tmp, SV.val]) (bd_mat2 rfl rfl) ?_
  simp only [XM, XA]
  refine st_mat shapeT_31 rfl rfl rfl rfl rfl ?_
  simp only [XA]
  refine hK _ ?_
  clear hK
  refine XWP.cut (fun s => ∃ (V2 : View) (H5 : Heap) (sl : Value) (cells : List Value), StIs (fun Z => [Z 0,Z 1,Z 2,Z 3, .p 0 0, .p 1 0, Z 6,Z 7,Z 8,Z 9,Z 10,Z 11,Z 12,Z 13,Z 14,Z 15,Z 16,Z 17,Z 18,Z 19,Z 20,Z 21,Z 22,Z 23]) [[.int .i64 0, .int .i64 0, .slice none 0 0], [.int .i64 (r : Int), .int .i64 (c : Int), sl]] H5 V2 s ∧ Own H5 49 3 sl R cells ∧ RowAt ratE V2 cells (mk R fun _ => 0)) ?_ ?_
  · refine Gx.a (by kernel_rfl) fun K hK => ?_
    simp only [XA]
    refine hK _ ?_
    clear hK
    refine XWP.block ?_
    refine XWP.loop (fun q s => ∃ (k : Nat) (V2 : View) (H5 : Heap) (sl : Value) (cells : List Value), StIs (fun Z => [.v (.int .i64 (r : Int)), .v (.int .i64 (c : Int)), Z 2,Z 3, .p 0 0, .p 1 0, .v (.int .i64 (k : Int)), Z 7,Z 8,Z 9,Z 10,Z 11,Z 12,Z 13,Z 14,Z 15,Z 16,Z 17,Z 18,Z 19,Z 20,Z 21,Z 22,Z 23]) [[.int .i64 0, .int .i64 0, .slice none 0 0], [.int .i64 (r : Int), .int .i64 (c : Int), sl]] H5 V2 s ∧ q + k = R ∧ Own H5 49 3 sl k cells ∧ RowAt ratE V2 cells (mk k fun _ => 0)) R ⟨0, V, _, _, [], StIs.of (by exact rfl), by omega, own_nil, RowAt.nil _⟩ ?_
    rintro q s ⟨k, V2, H5, sl, cells, hs, hq, hown, hrow⟩
    obtain ⟨z, rfl⟩ := hs.out
    try dsimp only
    clear hs
    refine XWP.seq ?_
    by_cases hk : k < R
    rotate_left
    · obtain rfl : k = R := by omega
      have b1 : decide ((k : Int) < (k : Int)) = false := decide_eq_false (by omega)
      refine Gx.a (by kernel_rfl) fun K hK => ?_
      simp only [XA, XB, w, b1]
      refine hK _ ?_
      refine Gx.f rfl ?_
      refine XWP.exit ?_
      exact ⟨V2, H5, sl, cells, StIs.of (by exact rfl), hown, hrow⟩
    have b1 : decide ((k : Int) < (R : Int)) = true := decide_eq_true (by omega)
    refine Gx.a (by kernel_rfl) fun K hK => ?_
    simp only [XA, XB, w, b1]
    refine hK _ ?_
    refine Gx.t rfl ?_
    refine XWP.skip ?_
    refine XWP.seq ?_
    refine XWP.block ?_
    (refine XWP.drw1 [0, 1, 2, 3, 4, 5, 6] (by kernel_rfl) (by kernel_rfl) (by kernel_rfl) fun K hK => ?_) <;> dsimp only [pickOps, List.getElem?_cons_zero, List.getElem?_cons_succ]
    simp only [XM, XA, XB]
    refine call_go (by kernel_rfl) rfl (pzero_c _) fun v3 V3 hV3 h3 => ?_
    obtain ⟨x3, y3, rfl, o1, o2⟩ := h3.form
    simp only [XA]
    refine bs_go (by kernel_rfl) #[(0, .agg #[.bool (ng 0), x3, y3])] (by simp [ev_tmp, SV.val]) (bs_rat elemT_22) fun b3 hb3 hb4 => ?_
    simp only [XA, Nat.reduceAdd]
    refine ap_go elemT_22 (by kernel_rfl) zeroT_49 rfl (by omega) (own_upd hown hb3) (src3 (upd_at _ _ _) rfl o1 o2) (by omega) (by omega) fun v' H' hres => ?_
    simp only [XM, XA]
    refine st_one shapeT_22 rfl (own_isOne hres.1) (by simp) ?_
    simp only [XA]
    refine hK _ ?_
    refine Gx.c (by kernel_rfl) fun K hK => ?_
    simp only [XA, XB, i64_succ k (by omega)]
    have hrow' := (hrow.mono ratE_ok hV3).snoc (show isOne (.bool (ng 0)) = true from rfl) o1 o2 h3
    rw [← mk_succ k fun _ => 0] at hrow'
    exact hK _ ⟨q - 1, by omega, k + 1, V3, _, _, _, StIs.of (by exact rfl), by omega, hres.1, hrow'⟩
  rintro s ⟨V2, H5, sl, cells, hs, hown, hrow⟩
  obtain ⟨z, rfl⟩ := hs.out
  try dsimp only
  have osl := own_isOne hown
  refine Gx.a (by kernel_rfl) fun K hK => ?_
  simp only [XM, XA, Nat.reduceAdd, Nat.reduceLeDiff, ↓reduceIte]
  refine st_mat shapeT_31 rfl rfl rfl rfl osl ?_
  simp only [XA]
  refine hK _ (XWP.ret ?_)
  try simp only [thenX_ret, inBlockX_ret]
  rcases own_parts hown with ⟨rfl, h0, rfl⟩ | ⟨g, cap, rfl, hg, hle, hcap, hcl⟩
  · refine ret_own _ none (by simp [resAll, resV, cellsV, shapeT_31]; rfl) (fun g' q e => by cases e) ⟨_, [], rfl, ⟨by rw [h0]; rfl, .inl ⟨rfl, h0⟩⟩, hrow⟩
  · refine ret_own _ (some (g, _)) (by simp [resAll, resV, cellsV, shapeT_31]; rfl) (fun g' q e => by cases e; exact hg) ⟨_, cells, rfl, own3 (show upd (fun _ => none) g (some _) g = some _ from upd_at _ _ _) hcl hle (by unfold maxLen at hcap; omega), hrow⟩
end Go.Proofs.YtkgmicakfmllmaaGreat
end
section
namespace Go.Proofs.YtkgmicakfmllmaaGreat
open Go Go.RowKit
/-! ### The last box becomes a row -/
def rowS (m b : Nat) : SV → SV
  | .v x => .v x
  | .p j o => if j = m then .v (.pointer (some ⟨b, o, none⟩)) else .p j o
theorem rowS_v (m b : Nat) (x : Value) : rowS m b (.v x) = .v x := rfl
theorem rowS_p (m b j o : Nat) : rowS m b (.p j o) = if j = m then .v (.pointer (some ⟨b, o, none⟩)) else .p j o := rfl
theorem XWP.row1 {Γ : Cx} {P : Program} {c : Code} {Q : Exit → XS → Prop} {t : List SV} {bx : List (List Value)} {vs : List Value} {H : Heap} {V : View}
    (h : ∀ b e, H b = none → V b = none → XWP Γ P c Q ⟨t.map (rowS bx.length b), bx, upd H b (some ⟨e, vs, vs.length⟩), V⟩) : XWP Γ P c Q ⟨t, bx ++ [vs], H, V⟩ := by
  intro bl a w hc
  have hlt : bx.length < (bx ++ [vs]).length := by simp
  obtain ⟨ty, hh⟩ := hc.cw.box bx.length vs (by simp)
  obtain ⟨b1, b2, b3⟩ := hc.cs.bxH bx.length hlt
  refine h (bl bx.length) ty b1 b2 bl a w ⟨?_, hc.df, ⟨fun i us hi => hc.cw.box i us ?_, fun b r hb => ?_, hc.cw.view, hc.cw.below⟩, ⟨fun i j hi hj => hc.cs.inj i j (by dsimp only at hi ⊢; rw [List.length_append]; omega) (by dsimp only at hj ⊢; rw [List.length_append]; omega), fun i hi => ?_, fun b r hb => ?_, hc.cs.V0, hc.cs.frm⟩, fun x hx => ?_⟩
  · rw [hc.tm, List.map_map]
    congr 1
    refine List.map_congr_left fun x _ => ?_
    cases x with
    | v x => rfl
    | p j o =>
      simp only [Function.comp_apply, rowS]
      split
      · rename_i e; subst e; rfl
      · rfl
  · dsimp only at hi ⊢
    have hl : i < bx.length := (List.getElem?_eq_some_iff.1 hi).1
    rw [List.getElem?_append_left hl]; exact hi
  · dsimp only at hb
    unfold upd at hb
    split at hb
    · rename_i e; subst e; cases hb
      exact ⟨[], by simpa using hh, by simp⟩
    · exact hc.cw.row b r hb
  · dsimp only at hi
    have hl : i < (bx ++ [vs]).length := by rw [List.length_append]; omega
    have := hc.cs.bxH i hl
    refine ⟨?_, this.2⟩
    dsimp only
    unfold upd
    rw [if_neg (fun e => by have := hc.cs.inj i bx.length hl hlt e; omega)]; exact this.1
  · dsimp only at hb
    unfold upd at hb
    split at hb
    · rename_i e; subst e; exact ⟨b2, b3⟩
    · exact hc.cs.HV b r hb
  · obtain ⟨y, hy, rfl⟩ := List.mem_map.1 hx
    have := hc.ok y hy
    cases y with
    | v x => trivial
    | p j o =>
      have hj : j < (bx ++ [vs]).length := this
      show SV.ok _ (if j = bx.length then SV.v _ else .p j o)
      split
      · trivial
      · rename_i hne
        show j < bx.length
        rw [List.length_append] at hj
        simp only [List.length_cons, List.length_nil] at hj
        omega

/-! ### What an iterator promises: it yields these, in order, as long as yield answers true -/
def IterX (P : Program) (gf : Nat) (lb : Array Value) (V : View) (L : List (Array Value)) : Prop :=
  ∀ (l : Nat) (J : Nat → World → Prop) (Jx : World → Prop) (W : World), J 0 W → (∀ r W1, J r W1 → V.sub W1) → (∀ W1, Jx W1 → V.sub W1) →
    (∀ r W1 args, L[r]? = some args → J r W1 → YieldAt Fence.wide 0 P l args W1 fun e W' => (e = .returned (.bool true) ∧ J (r + 1) W') ∨ (e = .returned (.bool false) ∧ Jx W')) →
    CallsIn Fence.wide 0 P gf (#[.func (.yield l) #[] #[]] ++ lb) W fun e W' => (∃ v, e = .returned v) ∧ (J L.length W' ∨ Jx W')
def setPs : List Tmp → List Value → List SV → List SV
  | p :: ps, v :: vs, t => setPs ps vs (t.set p (.v v))
  | _, _, t => t
theorem setPs_conc {bl : Nat → Nat} : ∀ (ps : List Tmp) (vs : List Value) (t : List SV), (ps.zip vs).foldl (fun (t : Array Value) (q : Tmp × Value) => t.setIfInBounds q.1 q.2) (t.map (SV.conc bl)).toArray = ((setPs ps vs t).map (SV.conc bl)).toArray
  | [], _, t => by simp [setPs]
  | _ :: _, [], t => by simp [setPs]
  | p :: ps, v :: vs, t => by
    simp only [List.zip_cons_cons, List.foldl_cons, setPs]
    rw [← setPs_conc ps vs (t.set p (.v v))]
    congr 1
    simp [List.map_set, SV.conc]
theorem setPs_ok {n : Nat} : ∀ (ps : List Tmp) (vs : List Value) (t : List SV), (∀ x ∈ t, x.ok n) → ∀ x ∈ setPs ps vs t, x.ok n
  | [], _, t, h => by simpa [setPs] using h
  | _ :: _, [], t, h => by simpa [setPs] using h
  | p :: ps, v :: vs, t, h => by
    simp only [setPs]
    refine setPs_ok ps vs _ fun x hx => ?_
    rcases List.mem_or_eq_of_mem_set hx with h1 | rfl
    · exact h x h1
    · trivial
/-- how a round's body may be left -/
def roundQ (I : Heap → View → Prop) (Ix : Heap → View → Prop) : Exit → XS → Prop
  | .normal, s => I s.H s.V
  | .ret, s => Ix s.H s.V
  | _, _ => False
theorem CW.nobox {Γ : Cx} {bl bl' : Nat → Nat} {bx : List (List Value)} {H : Heap} {V : View} {w : World} (h : CW Γ bl bx H V w) : CW Γ bl' [] H V w := ⟨fun i vs hi => by simp at hi, h.row, h.view, h.below⟩
theorem CS.nobox {Γ : Cx} {bl bl' : Nat → Nat} {bx : List (List Value)} {H : Heap} {V : View} (h : CS Γ bl bx H V) : CS Γ bl' [] H V := ⟨fun i j hi => by simp at hi, fun i hi => by simp at hi, h.HV, h.V0, h.frm⟩
theorem CW.cx {Γ Γ' : Cx} {bl : Nat → Nat} {bx : List (List Value)} {H : Heap} {V : View} {w : World} (h : CW Γ bl bx H V w) (e : Γ'.w0 = Γ.w0) : CW Γ' bl bx H V w := ⟨h.box, h.row, h.view, by rw [e]; exact h.below⟩
theorem CS.cx {Γ Γ' : Cx} {bl : Nat → Nat} {bx : List (List Value)} {H : Heap} {V : View} (h : CS Γ bl bx H V) (e : Γ'.w0 = Γ.w0) (e' : Γ'.V0 = Γ.V0) : CS Γ' bl bx H V := ⟨h.inj, fun i hi => by rw [e]; exact h.bxH i hi, fun b r hb => by rw [e]; exact h.HV b r hb, by rw [e']; exact h.V0, by rw [e, e']; exact h.frm⟩
theorem wpIn_any {Γ : Cx} {P : Program} {c : Code} {Q : Exit → Act → World → Prop} {a : Act} {w : World} {n m : Nat} (h : c.wpIn Γ.F n P Q a w) : c.wpIn Γ.F m P Q a w := fun b k cs hro hb _ => h b k cs hro hb (Γ.room _)
theorem others_put {w w1 : World} {l : Nat} (h : KeepsOthers w1 w) (hl : w1.heap.size ≤ l) (o : Obj) : KeepsOthers w1 (w.putObj l o) :=
  ⟨by rw [World.putObj_size]; exact h.size, fun k ob hk ho => by
    have := (Array.getElem?_eq_some_iff.1 hk).1
    rw [World.putObj_heap_other (by omega)]; exact h.same k ob hk ho⟩
theorem CW.allocO {Γ : Cx} {bl : Nat → Nat} {H : Heap} {V : View} {w : World} (h : CW Γ bl [] H V w) (o : Obj) : CW Γ bl [] H V (w.alloc o) :=
  ⟨fun i vs hi => by simp at hi, fun b r hb => by
    obtain ⟨ex, hh, hl⟩ := h.row b r hb
    exact ⟨ex, by rw [Below.heap_alloc w _ _ (h.lt_row hb)]; exact hh, hl⟩, view_alloc h.view _, h.below.alloc h.below.size _⟩
theorem mk_turn {Γ Γ' : Cx} {a : Act} {w : World} {l : Nat} {o o' : Obj} (h : Mk Γ a w) (hl : w.heap[l]? = some o) (ho : ∀ d, o ≠ .deferred d) (e0 : Γ'.w0 = Γ.w0) (e1 : Γ'.w1 = w.putObj l o') (e2 : ∃ r, Γ'.rd = some r) : Mk Γ' a (w.putObj l o') := by
  obtain ⟨⟨ms, h1, h2, h3⟩, _⟩ := h
  obtain ⟨r2, e2⟩ := e2
  refine ⟨⟨ms, h1, h2, fun D hD => ⟨by unfold Cx.base; rw [e2]; dsimp only; rw [e0]; exact Nat.le_trans (Cx.base_ge _) (h3 D hD).1, ?_⟩⟩, by rw [e1]; exact KeepsOthers.refl _⟩
  refine (World.putObj_heap_other (fun e => ?_)).trans (h3 D hD).2
  have := (h3 D hD).2
  rw [e, hl] at this
  cases this; exact ho _ rfl
/-- **A range over a function.** -/
theorem XWP.range {Γ : Cx} {P : Program} (hΓ : Γ.Plain) {g : Operand} {ps : Array Tmp} {assign body : Code} {Q : Exit → XS → Prop} {t : List SV} {H : Heap} {V : View} {gf : Nat} {lb : Array Value} {L : List (Array Value)} {I : Nat → Heap → View → Prop} {Ix : Heap → View → Prop}
    (hg : (⟨t, [], H, V⟩ : XS).ev g = .v (.func (.func gf) #[] lb)) (hcall : callable P gf = true) (hps : ∀ args ∈ L, args.size = ps.size) (it : IterX P gf lb V L) (h0 : I 0 H V) (hle : ∀ r H' V', I r H' V' → V.le V') (hleX : ∀ H' V', Ix H' V' → V.le V')
    (hr : ∀ (Γ' : Cx) (r : Nat) (args : Array Value) (H' : Heap) (V' : View), L[r]? = some args → I r H' V' → XWP Γ' P assign (fun e s1 => match e with | .normal => ∀ Γ'' : Cx, XWP Γ'' P body (roundQ (I (r + 1)) Ix) s1 | _ => False) ⟨setPs ps.toList args.toList t, [], H', V'⟩)
    (hdone : ∀ H' V', I L.length H' V' → Q .normal ⟨t, [], H', V'⟩) (hstop : ∀ H' V', Ix H' V' → Q .ret ⟨t, [], H', V'⟩) : XWP Γ P (.rangeFunc g ps assign body) Q ⟨t, [], H, V⟩ := by
  intro bl a w hC
  obtain ⟨⟨ms, m1, m2, m3⟩, m4⟩ := hC.df
  have eF : Γ.F = Fence.wide := by unfold Cx.F; rw [hΓ.1]; rfl
  have hev : a.eval g = .func (.func gf) #[] lb := by rw [hC.ev, hg]; rfl
  have hok : ∀ x ∈ t, x.ok 0 := hC.ok
  have htm : a.tmps = (t.map (SV.conc bl)).toArray := hC.tm
  refine wpIn_any (n := 1) (wpIn_rangeFunc fun fn _ => ?_)
  obtain ⟨rec, hrec⟩ : ∃ rec : LoopState → Option Code → Loop, rec = fun st pe => { state := st, pending := pe, fn, tmps := a.tmps, params := ps, assign, body, defers := w.heap.size } := ⟨_, rfl⟩
  obtain ⟨W1, hW1⟩ : ∃ W1, (w.alloc (.deferred (some []))).alloc (.loop (rec .ready none)) = W1 := ⟨_, rfl⟩
  have hL1 : W1.heap[w.heap.size + 1]? = some (.loop (rec .ready none)) := by
    rw [← hW1]; have := World.alloc_heap_new (w.alloc (.deferred (some []))) (.loop (rec .ready none)); rwa [World.size_alloc] at this
  have hK1 : W1.heap[w.heap.size]? = some (.deferred (some [])) := by
    rw [← hW1]; exact (Below.heap_alloc _ _ _ (by simp)).trans (World.alloc_heap_new w _)
  have hcw1 : CW Γ bl [] H V W1 := by rw [← hW1]; exact (CW.allocO hC.cw _).allocO _
  have hko1 : KeepsOthers w W1 := by rw [← hW1]; exact (KeepsOthers.alloc _ _).trans (KeepsOthers.alloc _ _)
  have hws : Γ.w0.heap.size ≤ w.heap.size := hC.cw.below.size
  have hw1s : Γ.w1.heap.size ≤ w.heap.size := m4.size
  have hmlt : ∀ E ∈ ms, E < w.heap.size := fun E hE => (Array.getElem?_eq_some_iff.1 (m3 E hE).2).1
  refine ⟨w.heap.size + 1, [{ target := .collected w.heap.size, args := #[] }], W1, { target := .fn (.func gf) lb, args := #[.func (.yield (w.heap.size + 1)) #[] #[]] }, W1, gf, #[.func (.yield (w.heap.size + 1)) #[] #[]] ++ lb, W1, ?_, ?_, fun _ _ => trivial, ?_, fun _ => Nat.le_refl _, ?_⟩
  · show (Instr.enterLoop fn a.tmps ps assign body Γ.rd).run P w = _
    rw [hΓ.1, ← hW1, hrec]; exact run_enterLoop_outer _ _ _ _ _
  · simp only [resolve, hev]
    simp [go_sem]
  · unfold callable at hcall
    cases hf : P.funcs[gf]? with
    | none => simp [hf] at hcall
    | some fn =>
      simp [hf] at hcall
      have hb : fn.body ≠ none := fun hn => by simp [hn] at hcall
      simp [invoke, callFunc, hf, hcall.1, hb]
  rw [eF]
  have keepE : ∀ {A B : World}, (∀ E ∈ ms, A.heap[E]? = some (.deferred (some []))) → KeepsOthers A B → ∀ E ∈ ms, B.heap[E]? = some (.deferred (some [])) := fun h k E hE => k.same E _ (h E hE) rfl
  have putE : ∀ {A : World} (o : Obj), (∀ E ∈ ms, A.heap[E]? = some (.deferred (some []))) → ∀ E ∈ ms, (A.putObj (w.heap.size + 1) o).heap[E]? = some (.deferred (some [])) := fun o h E hE =>
    (World.putObj_heap_other (by have := hmlt E hE; omega)).trans (h E hE)
  have fini : ∀ (A : World) (H' : Heap) (V' : View), CW Γ bl [] H' V' A → CS Γ bl [] H' V' → (∀ E ∈ ms, A.heap[E]? = some (.deferred (some []))) → KeepsOthers Γ.w1 A → A.heap[w.heap.size]? = some (.deferred (some [])) →
      Conc Γ bl ⟨t, [], H', V'⟩ { a with defers := { target := .collected w.heap.size, args := #[] } :: a.defers } A := fun A H' V' c1 c2 c3 c4 c5 =>
    ⟨htm, ⟨⟨w.heap.size :: ms, by simp [m1], List.nodup_cons.2 ⟨fun h => by have := hmlt _ h; omega, m2⟩, fun D hD => by
      rcases List.mem_cons.1 hD with rfl | h
      · exact ⟨Cx.base_le _ hws hw1s, c5⟩
      · exact ⟨(m3 D h).1, c3 D h⟩⟩, c4⟩, c1, c2, hok⟩
  refine (it (w.heap.size + 1)
    (fun r W => ∃ H' V', I r H' V' ∧ CW Γ bl [] H' V' W ∧ CS Γ bl [] H' V' ∧ (∀ E ∈ ms, W.heap[E]? = some (.deferred (some []))) ∧ KeepsOthers Γ.w1 W ∧ W.heap[w.heap.size + 1]? = some (.loop (rec .ready none)) ∧ W.heap[w.heap.size]? = some (.deferred (some [])))
    (fun W => ∃ H' V', Ix H' V' ∧ CW Γ bl [] H' V' W ∧ CS Γ bl [] H' V' ∧ (∀ E ∈ ms, W.heap[E]? = some (.deferred (some []))) ∧ KeepsOthers Γ.w1 W ∧ W.heap[w.heap.size + 1]? = some (.loop (rec .done (some .ret))) ∧ W.heap[w.heap.size]? = some (.deferred (some [])))
    W1 ⟨H, V, h0, hcw1, hC.cs.nobox, keepE (fun E hE => (m3 E hE).2) hko1, m4.trans hko1, hL1, hK1⟩ (fun r W ⟨H', V', hI, cw, _⟩ k o hk => cw.view k o (hle r H' V' hI k o hk)) (fun W ⟨H', V', hI, cw, _⟩ k o hk => cw.view k o (hleX H' V' hI k o hk)) ?_).mono ?_
  · rintro r W args hLr ⟨H', V', hI, cw, cs, me, ko, hl, hk⟩
    have hsz : args.size = ps.size := hps args (List.mem_of_getElem? hLr)
    have hy := run_yield (P := P) (args := args) hl (by rw [hrec]; exact hsz)
    refine ⟨fn, _, assign, body, by rw [hy, hrec], roundIn_of_wpIn trivial ?_⟩
    have hx := hr ⟨Γ.w0, Γ.V0, W, some (w.heap.size + 1)⟩ r args H' V' hLr hI bl { tmps := (ps.zip args).foldl (fun tmps (t, a) => tmps.setIfInBounds t a) a.tmps, defers := [] } W
      ⟨by rw [htm, ← setPs_conc, ← Array.foldl_toList, Array.toList_zip], ⟨⟨[], rfl, List.nodup_nil, fun D hD => by simp at hD⟩, KeepsOthers.refl _⟩, cw.cx rfl, cs.cx rfl rfl, setPs_ok _ _ _ hok⟩
    refine wpIn_mono hx ?_
    rintro e a1 Wa ⟨bl1, s1, hC1, hq⟩
    cases e with
    | normal =>
      have hla := hC1.df.2.same _ _ hl rfl
      have hka := hC1.df.2.same _ _ hk rfl
      have hlt : w.heap.size + 1 < Wa.heap.size := (Array.getElem?_eq_some_iff.1 hla).1
      refine ⟨_, run_beginRound hla (by rw [hrec]), ?_⟩
      obtain ⟨W2, hW2⟩ : ∃ W2, W2 = Wa.putObj (w.heap.size + 1) (.loop { rec .ready none with state := .busy }) := ⟨_, rfl⟩
      rw [← hW2]
      have hl2 : W2.heap[w.heap.size + 1]? = some (.loop { rec .ready none with state := .busy }) := by rw [hW2]; exact World.putObj_heap_same hlt
      have hk2 : W2.heap[w.heap.size]? = some (.deferred (some [])) := by rw [hW2]; exact (World.putObj_heap_other (by omega)).trans hka
      have hb := hq ⟨Γ.w0, Γ.V0, W2, some (w.heap.size + 1)⟩ bl1 a1 W2 ⟨hC1.tm, by
        rw [hW2]; exact mk_turn hC1.df hla (fun d h => by cases h) rfl rfl ⟨_, rfl⟩, by
        rw [hW2]; exact (CW.turn (Γ := ⟨Γ.w0, Γ.V0, W, some (w.heap.size + 1)⟩) hΓ.2 hC1.cw hC1.cs hla rfl (Nat.le_trans hws (Nat.le_succ _)) _).cx rfl, hC1.cs.cx rfl rfl, hC1.ok⟩
      refine wpIn_mono hb ?_
      rintro e a3 W3 ⟨bl3, s3, hC3, hq3⟩
      have hl3 := hC3.df.2.same _ _ hl2 rfl
      have hk3 := hC3.df.2.same _ _ hk2 rfl
      have hlt3 : w.heap.size + 1 < W3.heap.size := (Array.getElem?_eq_some_iff.1 hl3).1
      have hend := fun jump : Option Code => run_endRound (P := P) jump hl3
      have me3 : ∀ E ∈ ms, W3.heap[E]? = some (.deferred (some [])) := keepE (by rw [hW2]; exact putE _ (keepE me hC1.df.2)) hC3.df.2
      have ko3 : KeepsOthers Γ.w1 W3 := KeepsOthers.trans (by rw [hW2]; exact others_put (ko.trans hC1.df.2) (by omega) _) hC3.df.2
      have fin4 : ∀ o : Obj, CW Γ bl [] s3.H s3.V (W3.putObj (w.heap.size + 1) o) ∧ CS Γ bl [] s3.H s3.V ∧ (∀ E ∈ ms, (W3.putObj (w.heap.size + 1) o).heap[E]? = some (.deferred (some []))) ∧ KeepsOthers Γ.w1 (W3.putObj (w.heap.size + 1) o) ∧ (W3.putObj (w.heap.size + 1) o).heap[w.heap.size + 1]? = some o ∧ (W3.putObj (w.heap.size + 1) o).heap[w.heap.size]? = some (.deferred (some [])) := fun o => by
        have c0 : CS Γ bl [] s3.H s3.V := (hC3.cs.cx (Γ' := Γ) rfl rfl).nobox
        exact ⟨((hC3.cw.cx (Γ' := Γ) rfl).nobox).turn hΓ.2 c0 hl3 rfl (by omega) o, c0, putE o me3, others_put ko3 (by omega) o, World.putObj_heap_same hlt3, (World.putObj_heap_other (by omega)).trans hk3⟩
      cases e with
      | normal =>
        obtain ⟨f1, f2, f3, f4, f5, f6⟩ := fin4 (.loop (rec .ready none))
        refine ⟨_, _, hend none, .inl ⟨rfl, s3.H, s3.V, hq3, ?_⟩⟩
        rw [hrec] at f1 f3 f4 f5 f6 ⊢
        exact ⟨f1, f2, f3, f4, f5, f6⟩
      | ret =>
        obtain ⟨f1, f2, f3, f4, f5, f6⟩ := fin4 (.loop (rec .done (some .ret)))
        refine ⟨_, _, hend (some .ret), .inr ⟨rfl, s3.H, s3.V, hq3, ?_⟩⟩
        rw [hrec] at f1 f3 f4 f5 f6 ⊢
        exact ⟨f1, f2, f3, f4, f5, f6⟩
      | _ => exact hq3.elim
    | _ => exact hq.elim
  · rintro e W2 ⟨⟨v, rfl⟩, (⟨H', V', hI, cw, cs, me, ko, hl, hk⟩ | ⟨H', V', hI, cw, cs, me, ko, hl, hk⟩)⟩
    · have he := run_endLoop (P := P) hl (by rw [hrec]; simp)
      rw [hrec] at he
      refine ⟨none, _, he, ?_⟩
      exact ⟨bl, _, fini _ H' V' (cw.turn hΓ.2 cs hl rfl (by omega) _) cs (putE _ me) (others_put ko (by omega) _) ((World.putObj_heap_other (by omega)).trans hk), hdone H' V' hI⟩
    · have he := run_endLoop (P := P) hl (by rw [hrec]; simp)
      rw [hrec] at he
      refine ⟨some .ret, _, he, ?_⟩
      exact wpIn_ret ⟨bl, _, fini _ H' V' (cw.turn hΓ.2 cs hl rfl (by omega) _) cs (putE _ me) (others_put ko (by omega) _) ((World.putObj_heap_other (by omega)).trans hk), hstop H' V' hI⟩
end Go.Proofs.YtkgmicakfmllmaaGreat
end
section
namespace Go.Proofs.YtkgmicakfmllmaaGreat
open Go Go.RowKit
set_option linter.unusedVariables false
/-- a row is published, anywhere -/
theorem XWP.pub {Γ : Cx} {P : Program} {c : Code} {Q : Exit → XS → Prop} {t : List SV} {bx : List (List Value)} {H : Heap} {V : View} (b : Nat) (r : Row) (hr : H b = some r)
    (h : ∀ o, RowObj r o → V.le (addV V b o) → XWP Γ P c Q ⟨t, bx, upd H b none, addV V b o⟩) : XWP Γ P c Q ⟨t, bx, H, V⟩ := by
  intro bl a w hc
  obtain ⟨o, ho, h3, h4, _, h6⟩ := pub_row hc.cw hc.cs hr
  exact h o ho h6 bl a w ⟨hc.tm, hc.df, h3, h4, hc.ok⟩
/-- a row made new is none that is there -/
theorem new_ne {H : Heap} {b g : Nat} {r : Row} (hb : H b = none) (hg : H g = some r) : g ≠ b := fun e => by rw [e, hb] at hg; cases hg
theorem XWP.label {Γ : Cx} {P : Program} {Q : Exit → XS → Prop} {s : XS} {l : Nat} (h : Q .normal s) : XWP Γ P (.label l) Q s := fun bl _ _ hc => wpIn_label ⟨bl, s, hc, h⟩
def MPost (P : Program) (rs : List ResultVar) (R : Value → Heap → View → Prop) : Exit → XS → Prop
  | .normal, s | .ret, s => XPub (fun s' => ∃ vs, resAll P s' rs = some vs ∧ R (oneOf vs) s'.H s'.V) s
  | _, _ => False
/-- A contract over the caller's own rows: from (H, V) to a result and (H', V'). -/
def MSpec (P : Program) (f : FuncId) (args : List Value) (H : Heap) (V : View) (R : Value → Heap → View → Prop) : Prop :=
  ∃ fn c, P.funcs[f]? = some fn ∧ fn.body = some c ∧ ∀ Γ : Cx, Γ.Plain → XWP Γ P c (MPost P fn.results.toList R) ⟨args.map .v ++ List.replicate (fn.ntmps - args.length) (.v undef), [], H, V⟩
theorem MPost_ret {P : Program} {rs : List ResultVar} {R : Value → Heap → View → Prop} {s : XS} : MPost P rs R .ret s = XPub (fun s' => ∃ vs, resAll P s' rs = some vs ∧ R (oneOf vs) s'.H s'.V) s := rfl
theorem MPost_normal {P : Program} {rs : List ResultVar} {R : Value → Heap → View → Prop} {s : XS} : MPost P rs R .normal s = XPub (fun s' => ∃ vs, resAll P s' rs = some vs ∧ R (oneOf vs) s'.H s'.V) s := rfl
theorem MSpec.enter {P : Program} {f : FuncId} {fn : Func} {c : Code} {args : List Value} {H : Heap} {V : View} {R : Value → Heap → View → Prop} (hf : P.funcs[f]? = some fn) (hb : fn.body = some c)
    (h : ∀ Γ : Cx, Γ.Plain → XWP Γ P c (MPost P fn.results.toList R) ⟨args.map .v ++ List.replicate (fn.ntmps - args.length) (.v undef), [], H, V⟩) : MSpec P f args H V R := ⟨fn, c, hf, hb, h⟩
theorem retM_go {P : Program} {rs : List ResultVar} {R : Value → Heap → View → Prop} {s : XS} (vs : List Value) (h : resAll P s rs = some vs) (hR : R (oneOf vs) s.H s.V) : MPost P rs R .ret s := by rw [MPost_ret]; exact XPub.now ⟨vs, h, hR⟩
theorem endM_go {P : Program} {rs : List ResultVar} {R : Value → Heap → View → Prop} {s : XS} (vs : List Value) (h : resAll P s rs = some vs) (hR : R (oneOf vs) s.H s.V) : MPost P rs R .normal s := by rw [MPost_normal]; exact XPub.now ⟨vs, h, hR⟩

theorem leave_marksK {Γ : Cx} {P : Program} {bl : Nat → Nat} {bx : List (List Value)} {H : Heap} {V : View} (hV0 : Γ.V0.sub Γ.w0) (W0 : World) {fn : Func} {R : Ending → World → Prop} {tmps : Array Value} (hs : CS Γ bl bx H V) : ∀ (ms : List Nat) (w : World), CW Γ bl bx H V w → KeepsOthers W0 w → ms.Nodup → (∀ D ∈ ms, (Γ.w0.heap.size ≤ D ∧ W0.heap.size ≤ D) ∧ w.heap[D]? = some (.deferred (some []))) →
    (∀ w', CW Γ bl bx H V w' → KeepsOthers W0 w' → ∃ v, (results fn tmps).run P w' = .ok v w' ∧ R (.returned v) w') → LeavesInM Fence.wide 0 P fn tmps R (ms.map fun D => { target := .collected D, args := #[] }) .returning w
  | [], w, h, ho, _, _, k => k w h ho
  | D :: ms, w, h, ho, hn, hD, k => by
    obtain ⟨⟨h1, h1'⟩, h2⟩ := hD D (by simp)
    obtain ⟨n1, n2⟩ := List.nodup_cons.1 hn
    refine ⟨by simp, .inl ⟨D, _, rfl, run_takeDeferred h2, leave_marksK hV0 W0 hs ms _ (h.turn hV0 hs h2 rfl h1 _) (others_put ho h1' _) n2 (fun E hE => ?_) k⟩⟩
    obtain ⟨h3, h4⟩ := hD E (by simp [hE])
    exact ⟨h3, (World.putObj_heap_other (fun e => n1 (by rw [← e]; exact hE))).trans h4⟩
/-- The call, in the world. -/
theorem MSpec.calls {P : Program} {f : FuncId} {args : List Value} {H : Heap} {V : View} {R : Value → Heap → View → Prop} (h : MSpec P f args H V R) {Γ : Cx} (hV0 : Γ.V0.sub Γ.w0) {bl : Nat → Nat} {w : World} (hw : CW Γ bl [] H V w) (hs : CS Γ bl [] H V) :
    Calls P f args.toArray w fun e w' => ∃ v H' V', e = .returned v ∧ CW Γ bl [] H' V' w' ∧ CS Γ bl [] H' V' ∧ KeepsOthers w w' ∧ R v H' V' := by
  obtain ⟨fn, c, hf, hb, h⟩ := h
  refine (callsIn_wide (n := 0)).1 (callsIn_of_wp_marks hf hb trivial ?_)
  have hc : Conc ⟨Γ.w0, Γ.V0, w, none⟩ bl ⟨args.map .v ++ List.replicate (fn.ntmps - args.length) (.v undef), [], H, V⟩ { tmps := args.toArray ++ Array.replicate (fn.ntmps - args.toArray.size) undef, defers := [] } w := by
    refine ⟨?_, ⟨⟨[], rfl, List.nodup_nil, fun D hD => by simp at hD⟩, KeepsOthers.refl _⟩, hw.cx rfl, hs.cx rfl rfl, fun x hx => ?_⟩
    · have e1 : (SV.conc bl) ∘ SV.v = id := rfl
      have e2 : (SV.conc bl (SV.v undef)) = undef := rfl
      simp [List.map_append, List.map_map, List.map_replicate, e1, e2]
    · simp only [List.mem_append, List.mem_map, List.mem_replicate] at hx
      rcases hx with ⟨_, _, rfl⟩ | ⟨_, rfl⟩ <;> trivial
  refine wpIn_mono (h ⟨Γ.w0, Γ.V0, w, none⟩ ⟨rfl, hV0⟩ bl _ w hc) ?_
  have fin : ∀ bl1 s a w', Conc ⟨Γ.w0, Γ.V0, w, none⟩ bl1 s a w' → MPost P fn.results.toList R .ret s → LeavesInM Fence.wide 0 P fn a.tmps (fun e w' => ∃ v H' V', e = .returned v ∧ CW Γ bl [] H' V' w' ∧ CS Γ bl [] H' V' ∧ KeepsOthers w w' ∧ R v H' V') a.defers .returning w' := by
    intro bl1 s a w' hC hR
    obtain ⟨H', V', h1, h2, _, _, vs, hvs, hR⟩ := hR ⟨Γ.w0, Γ.V0, w, none⟩ bl1 w' hC.cw hC.cs
    obtain ⟨⟨ms, e1, e2, e3⟩, e4⟩ := hC.df
    rw [e1]
    refine leave_marksK (Γ := ⟨Γ.w0, Γ.V0, w, none⟩) hV0 w h2 ms w' h1 e4 e2 (fun D hD => ⟨⟨Nat.le_trans (Cx.base_ge _) (e3 D hD).1, Nat.le_trans (Cx.base_w1 ⟨Γ.w0, Γ.V0, w, none⟩ rfl) (e3 D hD).1⟩, (e3 D hD).2⟩) fun w'' h3 h4 => ⟨_, ?_, _, H', V', rfl, (h3.cx (Γ' := Γ) rfl).nobox, (h2.cx (Γ' := Γ) rfl rfl).nobox, h4, hR⟩
    exact results_run (Γ := ⟨Γ.w0, Γ.V0, w, none⟩) (a := { tmps := a.tmps, defers := [] }) (s := ⟨s.t, s.bx, H', V'⟩) ⟨hC.tm, ⟨⟨[], rfl, List.nodup_nil, fun D hD => by simp at hD⟩, h4⟩, h3, h2, hC.ok⟩ vs hvs
  rintro e a w' ⟨bl1, s, hC, hq⟩
  cases e with
  | normal => exact fin bl1 s a w' hC hq
  | ret => exact fin bl1 s a w' hC hq
  | _ => exact hq.elim

section
variable {Γ : Cx} {P : Program} {ops : Array Oper} {Q : Exit → XS → Prop}
/-- operations in the order of the text, then what follows -/
theorem seqX_ops (rest : List Nat) : ∀ (l : List Oper) (k : Nat) (K : XS → Prop), (∀ i o, l[i]? = some o → ops[k + i]? = some o) → ∀ bl s a w, Conc Γ bl s a w → guardsIn ops s.t.length = true → seqX P ops l K s →
    (∀ bl s a w, Conc Γ bl s a w → guardsIn ops s.t.length = true → K s → wpOps P ops (XQ Γ (onlyN Q)) rest a w) → wpOps P ops (XQ Γ (onlyN Q)) (List.range' k l.length ++ rest) a w
  | [], k, K, _, bl, s, a, w, hc, hg, h, hk => by simpa using hk bl s a w hc hg h
  | o :: l, k, K, hi, bl, s, a, w, hc, hg, h, hk => by
    have ho : ops[k]? = some o := by simpa using hi 0 o (by simp)
    simp only [List.length_cons, List.range'_succ, List.cons_append]
    rw [wpOps_cons]
    refine wpOp_mono ?_ (wpOp_size hc.len (stepX_wp ho (guardsIn_spec hg ho) hc h (XQ Γ (onlyN Q))))
    rintro a' w' ⟨hsz, bl', s', hc', _, hk'⟩
    refine seqX_ops rest l (k + 1) K (fun i o' h' => ?_) bl' s' a' w' hc' (by rw [← hc'.len, hsz]; exact hg) hk' hk
    have := hi (i + 1) o' (by simpa using h')
    rw [show k + 1 + i = k + (i + 1) by omega]; exact this
def MCall (P : Program) (f : FuncId) (args : List SV) (s : XS) (K : Value → XS → Prop) : Prop :=
  s.bx = [] ∧ args.all SV.isV = true ∧ ∃ R, MSpec P f (args.map SV.val) s.H s.V R ∧ ∀ v H V, R v H V → K v ⟨s.t, [], H, V⟩
/-- A region in the order of its text, one of its operations a call over the caller's rows. -/
theorem XWP.regM {id : Nat} {s : XS} (k : Nat) {d : Option Tmp} {f : FuncId} {args : List Operand} {ts : Array TypeId} {ty pos af} (hΓ : Γ.V0.sub Γ.w0) (hk : ops.toList[k]? = some ⟨d, .call ⟨.value (.func f), args.toArray, ts⟩, ty, pos, af, none⟩) (hcl : callable P f = true) (hg : guardsIn ops s.t.length = true)
    (h : seqX P ops (ops.toList.take k) (fun s1 => MCall P f (args.map s1.ev) s1 fun v s2 => seqX P ops (ops.toList.drop (k + 1)) (fun s' => Q .normal s') (s2.put d (.v v))) s) : XWP Γ P (.region id ops false) Q s := by
  intro bl a w hc
  have hnd : noDefer ops = true := by unfold guardsIn at hg; rw [Bool.and_eq_true] at hg; exact hg.1
  refine wpIn_mono (wpIn_region (wpOps_in onlyN_out hnd _ _ _ ?_)) (onlyN_all (Q := Q))
  obtain ⟨hlt, hke⟩ := List.getElem?_eq_some_iff.1 hk
  have hlen : List.range ops.size = List.range' 0 (ops.toList.take k).length ++ (k :: (List.range' (k + 1) (ops.toList.drop (k + 1)).length ++ [])) := by
    have e1 : (ops.toList.take k).length = k := by rw [List.length_take]; omega
    have e2 : ops.size = k + ((ops.toList.drop (k + 1)).length + 1) := by rw [List.length_drop, ← Array.length_toList]; omega
    rw [e1, e2, List.range_eq_range', ← List.range'_append_1, Nat.zero_add, List.range'_succ, List.append_nil]
  rw [hlen]
  refine seqX_ops _ _ 0 _ (fun i o ho => ?_) bl s a w hc hg h ?_
  · rw [Nat.zero_add, ← Array.getElem?_toList]
    rw [List.getElem?_take] at ho
    split at ho
    · exact ho
    · cases ho
  intro bl1 s1 a1 w1 hc1 hg1 ⟨hbx, hall, R, hspec, hK⟩
  obtain ⟨t1, bx1, H1, V1⟩ := s1
  dsimp only at hbx hg1 hspec hK
  subst hbx
  have hok : ops[k]? = some ⟨d, .call ⟨.value (.func f), args.toArray, ts⟩, ty, pos, af, none⟩ := by rw [← Array.getElem?_toList]; exact hk
  rw [wpOps_cons]
  unfold wpOp
  simp only [hok]
  rw [if_pos (by unfold Region.wanted; rfl)]
  refine .inl ?_
  have eargs : ((args.map (⟨t1, [], H1, V1⟩ : XS).ev).map SV.val).toArray = args.toArray.map a1.eval := by
    apply Array.ext'
    simp only [Array.toList_map, List.map_map]
    refine List.map_congr_left fun q hq => ?_
    rw [hc1.ev]
    exact (val_conc (List.all_eq_true.1 hall _ (List.mem_map_of_mem hq))).symm
  have hrun : (execOp a1.eval ⟨d, .call ⟨.value (.func f), args.toArray, ts⟩, ty, pos, af, none⟩).run P w1 = .ok (.enter f (args.toArray.map a1.eval)) w1 := by
    have ef : a1.eval (.func f) = .func (.func f) #[] #[] := rfl
    unfold callable at hcl
    cases hf : P.funcs[f]? with
    | none => simp [hf] at hcl
    | some fn =>
      simp [hf] at hcl
      have hb : fn.body ≠ none := fun hn => by simp [hn] at hcl
      simp [execOp, resolve, ef, Deferred.ofValue, invoke, callFunc, hf, hcl.1, hb]
  unfold Oper.wp
  rw [hrun]
  show Calls P f (args.toArray.map a1.eval) w1 _
  rw [← eargs]
  refine (hspec.calls hΓ hc1.cw hc1.cs).mono ?_
  rintro e w' ⟨v, H', V', rfl, cw, cs, ko, hR⟩
  dsimp only
  have hput := Conc.put (Γ := Γ) (bl := bl1) (s := ⟨t1, [], H', V'⟩) (a := a1) (w := w') ⟨hc1.tm, hc1.df.keep ko, cw, cs, hc1.ok⟩ d (.v v) trivial
  exact seqX_ops [] _ (k + 1) _ (fun i o ho => by rw [← Array.getElem?_toList]; rw [List.getElem?_drop] at ho; exact ho) bl1 _ _ _ hput (by rw [put_len]; exact hg1) (hK v H' V' hR) fun bl s a w hc _ hq => ⟨bl, s, hc, hq⟩
theorem Gx.ma {id : Nat} {s : XS} {y : Code} (k : Nat) {d : Option Tmp} {f : FuncId} {args : List Operand} {ts : Array TypeId} {ty pos af} (hΓ : Γ.Plain) (hk : ops.toList[k]? = some ⟨d, .call ⟨.value (.func f), args.toArray, ts⟩, ty, pos, af, none⟩) (hcl : callable P f = true) (hg : guardsIn ops s.t.length = true)
    (h : ∀ K : XS → Prop, (∀ s', XWP Γ P y Q s' → K s') → seqX P ops (ops.toList.take k) (fun s1 => MCall P f (args.map s1.ev) s1 fun v s2 => seqX P ops (ops.toList.drop (k + 1)) K (s2.put d (.v v))) s) : XWP Γ P (.seq (.region id ops false) y) Q s :=
  XWP.seq (XWP.regM k hΓ.2 hk hcl hg (h _ fun _ h => h))
theorem Gx.mc {id : Nat} {s : XS} (k : Nat) {d : Option Tmp} {f : FuncId} {args : List Operand} {ts : Array TypeId} {ty pos af} (hΓ : Γ.Plain) (hk : ops.toList[k]? = some ⟨d, .call ⟨.value (.func f), args.toArray, ts⟩, ty, pos, af, none⟩) (hcl : callable P f = true) (hg : guardsIn ops s.t.length = true)
    (h : ∀ K : XS → Prop, (∀ s', Q .normal s' → K s') → seqX P ops (ops.toList.take k) (fun s1 => MCall P f (args.map s1.ev) s1 fun v s2 => seqX P ops (ops.toList.drop (k + 1)) K (s2.put d (.v v))) s) : XWP Γ P (.region id ops false) Q s :=
  XWP.regM k hΓ.2 hk hcl hg (h _ fun _ h => h)
end
/-- the call itself -/
theorem mcall_go {P : Program} {f : FuncId} {args : List SV} {s : XS} {K : Value → XS → Prop} {R : Value → Heap → View → Prop} (hb : s.bx = []) (hv : args.all SV.isV = true) (hs : MSpec P f (args.map SV.val) s.H s.V R) (h : ∀ v H V, R v H V → K v ⟨s.t, [], H, V⟩) : MCall P f args s K := ⟨hb, hv, R, hs, h⟩
end Go.Proofs.YtkgmicakfmllmaaGreat
end
section
namespace Go.Proofs.YtkgmicakfmllmaaGreat
open Go Go.RowKit
set_option linter.unusedSimpArgs false
set_option linter.unusedVariables false
attribute [local irreducible] XWP Spec SpecO XPub XCall seqX clX apX stX ldX iaX slX
/-- the slice v reads as xs, a cell each -/
def Sl1 {α : Type} (E : El α) (V : View) (v : Value) (xs : List α) : Prop := ∃ A c, v = .slice A xs.length c ∧ xs.length ≤ c ∧ c ≤ 9223372036854775807 ∧ (xs = [] ∨ ∃ b o arr ty fr, A = some ⟨b, o, none⟩ ∧ V b = some (.cells arr ty fr) ∧ ∀ (i : Nat) (x : α), xs[i]? = some x → ∃ u, arr[o + i]? = some u ∧ isOne u = true ∧ E V u x)
/-- the cells of a private row read as xs -/
def R1At {α : Type} (E : El α) (V : View) (cells : List Value) (xs : List α) : Prop := cells.length = xs.length ∧ ∀ (i : Nat) (x : α), xs[i]? = some x → ∃ u, cells[i]? = some u ∧ isOne u = true ∧ E V u x
def booE : El Bool := fun _ u x => u = .bool x
theorem booE_ok : ElOk booE := fun _ _ _ _ _ h => h
section
variable {α : Type} {E : El α}
theorem Sl1.mono (hE : ElOk E) {V V' : View} {v : Value} {xs : List α} (h : Sl1 E V v xs) (hV : V.le V') : Sl1 E V' v xs := by
  obtain ⟨A, c, e, h1, h2, h3⟩ := h
  refine ⟨A, c, e, h1, h2, ?_⟩
  rcases h3 with h3 | ⟨b, o, arr, ty, fr, e1, e2, h4⟩
  · exact .inl h3
  · exact .inr ⟨b, o, arr, ty, fr, e1, hV _ _ e2, fun i x hi => by obtain ⟨u, a, b, d⟩ := h4 i x hi; exact ⟨u, a, b, hE _ _ _ _ hV d⟩⟩
theorem Sl1_ok (hE : ElOk E) : ElOk (Sl1 E) := fun _ _ _ _ hV h => h.mono hE hV
theorem Sl1.form {V : View} {v : Value} {xs : List α} (h : Sl1 E V v xs) : ∃ A c, v = .slice A xs.length c ∧ xs.length ≤ c ∧ c ≤ 9223372036854775807 := by
  obtain ⟨A, c, e, h1, h2, _⟩ := h; exact ⟨A, c, e, h1, h2⟩
theorem Sl1.one {V : View} {v : Value} {xs : List α} (h : Sl1 E V v xs) : isOne v = true := by obtain ⟨A, c, rfl, _⟩ := h.form; rfl
theorem Sl1.nil (V : View) : Sl1 E V (.slice none 0 0) ([] : List α) := ⟨none, 0, rfl, Nat.le_refl _, by omega, .inl rfl⟩
theorem Sl1.addr {V : View} {A : Option Addr} {n c : Nat} {xs : List α} (h : Sl1 E V (.slice A n c) xs) (hk : 0 < xs.length) : ∃ b o, A = some ⟨b, o, none⟩ := by
  obtain ⟨A', c', e, _, _, h3⟩ := h
  cases e
  rcases h3 with rfl | ⟨b, o, _, _, _, e1, _⟩
  · simp at hk
  · exact ⟨b, o, e1⟩
theorem Sl1.load {V : View} {b o n c : Nat} {xs : List α} (h : Sl1 E V (.slice (some ⟨b, o, none⟩) n c) xs) (i : Nat) (hi : i < xs.length) : ∃ u, E V u xs[i] ∧ isOne u = true ∧ ∀ H (t m : Nat), shapeT Tryz.prog t = some (false, m) → Loads Tryz.prog H V t b (o + i) u := by
  obtain ⟨A', c', e, _, _, h3⟩ := h
  cases e
  rcases h3 with rfl | ⟨b', o', arr, ty, fr, e1, e2, h4⟩
  · simp at hi
  · cases e1
    obtain ⟨u, g1, g2, g3⟩ := h4 i xs[i] (List.getElem?_eq_getElem hi)
    exact ⟨u, g3, g2, fun H t m ht => ⟨false, m, ht, .inr ⟨rfl, .inr ⟨arr, ty, fr, e2, g1⟩⟩⟩⟩
theorem R1At.mono (hE : ElOk E) {V V' : View} {cells : List Value} {xs : List α} (h : R1At E V cells xs) (hV : V.le V') : R1At E V' cells xs := ⟨h.1, fun i x hi => by obtain ⟨u, a, b, d⟩ := h.2 i x hi; exact ⟨u, a, b, hE _ _ _ _ hV d⟩⟩
theorem R1At.nil (V : View) : R1At E V [] ([] : List α) := ⟨rfl, fun i x hi => by simp at hi⟩
theorem R1At.pub (hE : ElOk E) {V : View} {b n c tot e : Nat} {o : Obj} {cells : List Value} {xs : List α} (h : R1At E V cells xs) (ho : RowObj ⟨e, cells, tot⟩ o) (hle : V.le (addV V b o)) (hn : xs.length = n) (hc : n ≤ c) (hm : c ≤ 9223372036854775807) : Sl1 E (addV V b o) (.slice (some ⟨b, 0, none⟩) n c) xs := by
  obtain ⟨ex, rfl, _⟩ := ho
  refine ⟨some ⟨b, 0, none⟩, c, by rw [hn], by omega, hm, .inr ⟨b, 0, _, e, (0, 0), rfl, by simp [addV]; rfl, fun i x hi => ?_⟩⟩
  obtain ⟨u, g1, g2, g3⟩ := h.2 i x hi
  have hlt : i < xs.length := by
    rcases Nat.lt_or_ge i xs.length with h1 | h1
    · exact h1
    · rw [List.getElem?_eq_none h1] at hi; cases hi
  refine ⟨u, ?_, g2, hE _ _ _ _ hle g3⟩
  simp only [Nat.zero_add, List.getElem?_toArray]; rw [List.getElem?_append_left (by have := h.1; omega)]; exact g1
theorem R1At.snoc {V : View} {cells : List Value} {xs : List α} (h : R1At E V cells xs) {u : Value} {x : α} (h1 : isOne u = true) (hx : E V u x) : R1At E V (cells ++ [u]) (xs ++ [x]) := by
  have hl := h.1
  refine ⟨by simp [hl], fun i y hi => ?_⟩
  by_cases hlt : i < xs.length
  · rw [List.getElem?_append_left hlt] at hi
    rw [List.getElem?_append_left (by omega)]; exact h.2 i y hi
  · rw [List.getElem?_append_right (by omega)] at hi
    have e : i = xs.length := by
      rcases Nat.lt_or_ge (i - xs.length) 1 with h2 | h2
      · omega
      · rw [List.getElem?_eq_none (by simpa using h2)] at hi; cases hi
    subst e
    rw [Nat.sub_self] at hi
    cases hi
    exact ⟨u, by rw [← hl]; simp, h1, hx⟩
theorem R1At.set {V : View} {cells : List Value} {xs : List α} (h : R1At E V cells xs) (i : Nat) (hi : i < xs.length) {u : Value} {x : α} (h1 : isOne u = true) (hx : E V u x) : R1At E V (cells.set i u) (xs.set i x) := by
  refine ⟨by rw [List.length_set, List.length_set]; exact h.1, fun j y hj => ?_⟩
  by_cases e : i = j
  · subst e
    rw [List.getElem?_set_self hi] at hj
    cases hj
    exact ⟨u, by rw [List.getElem?_set_self (by rw [h.1]; exact hi)], h1, hx⟩
  · rw [List.getElem?_set_ne e] at hj ⊢
    exact h.2 j y hj
theorem R1At.rep {V : View} {u : Value} {x : α} (n : Nat) (h1 : isOne u = true) (hx : E V u x) : R1At E V (List.replicate n u) (List.replicate n x) :=
  ⟨by simp, fun i y hi => by
    have hlt : i < n := by
      rcases Nat.lt_or_ge i n with h | h
      · exact h
      · rw [List.getElem?_eq_none (by simpa using h)] at hi; cases hi
    rw [List.getElem?_replicate, if_pos hlt] at hi
    cases hi
    exact ⟨u, by rw [List.getElem?_replicate, if_pos hlt], h1, hx⟩⟩
end
theorem flat_one {n : Nat} (u : Value) : (List.replicate n [u]).flatten = List.replicate n u := by
  induction n with
  | zero => rfl
  | succ n ih => rw [List.replicate_succ, List.flatten_cons, ih, List.replicate_succ]; rfl
end Go.Proofs.YtkgmicakfmllmaaGreat
end
section
namespace Go.Proofs.YtkgmicakfmllmaaGreat
set_option linter.unusedVariables false
def LinG (G : Grid) (R n : Nat) (r x : Nat → Rat) : Prop := ∀ i, i < R → Sm (fun j => G i j * x j) n = r i
/-- row i less f times row t -/
def gsub (G : Grid) (i t : Nat) (f : Rat) : Grid := fun i' j => if i' = i then G i j - f * G t j else G i' j
def vsub (r : Nat → Rat) (i t : Nat) (f : Rat) : Nat → Rat := fun i' => if i' = i then r i - f * r t else r i'
theorem lin_sub {G : Grid} {R n i t : Nat} {f : Rat} {r x : Nat → Rat} (hi : i < R) (ht : t < R) (hne : i ≠ t) : LinG (gsub G i t f) R n (vsub r i t f) x ↔ LinG G R n r x := by
  have ei : Sm (fun j => gsub G i t f i j * x j) n = Sm (fun j => G i j * x j) n - f * Sm (fun j => G t j * x j) n := by
    rw [← Sm_lin]; exact Sm_congr _ fun j _ => by simp only [gsub, if_pos]
  have eo : ∀ k, k ≠ i → Sm (fun j => gsub G i t f k j * x j) n = Sm (fun j => G k j * x j) n := fun k hk => Sm_congr _ fun j _ => by simp only [gsub, if_neg hk]
  constructor
  · intro h
    have h1 := h t ht
    rw [eo t (Ne.symm hne)] at h1
    simp only [vsub, if_neg (Ne.symm hne)] at h1
    intro k hk
    by_cases e : k = i
    · subst e
      have h2 := h k hk
      rw [ei, h1] at h2
      simp only [vsub, if_pos] at h2; grind
    · have h2 := h k hk
      rw [eo k e] at h2
      simp only [vsub, if_neg e] at h2; exact h2
  · intro h k hk
    by_cases e : k = i
    · subst e
      rw [ei, h k hk, h t ht]; simp only [vsub, if_pos]
    · rw [eo k e, h k hk]; simp only [vsub, if_neg e]
theorem lin_swap {G : Grid} {R n p t : Nat} {r x : Nat → Rat} (hp : p < R) (ht : t < R) : LinG (gsw G p t) R n (fun i => r (swp p t i)) x ↔ LinG G R n r x := by
  constructor
  · intro h i hi
    have := h (swp p t i) (swp_lt hp ht hi)
    simp only [gsw, swp_swp] at this; exact this
  · intro h i hi; exact h (swp p t i) (swp_lt hp ht hi)
/-- the same solutions, for each right-hand side that stands in the grid, and for none -/
structure REq (G G' : Grid) (R n : Nat) : Prop where
  ker : ∀ x, LinG G' R n (fun _ => 0) x ↔ LinG G R n (fun _ => 0) x
  col : ∀ c x, LinG G' R n (fun i => G' i c) x ↔ LinG G R n (fun i => G i c) x
theorem REq.refl (G : Grid) (R n : Nat) : REq G G R n := ⟨fun _ => Iff.rfl, fun _ _ => Iff.rfl⟩
theorem REq.trans {A B C : Grid} {R n : Nat} (h : REq A B R n) (k : REq B C R n) : REq A C R n := ⟨fun x => (k.ker x).trans (h.ker x), fun c x => (k.col c x).trans (h.col c x)⟩
theorem REq.sub (G : Grid) {R n i t : Nat} (f : Rat) (hi : i < R) (ht : t < R) (hne : i ≠ t) : REq G (gsub G i t f) R n := by
  refine ⟨fun x => ?_, fun c x => ?_⟩
  · have e : (fun _ => (0 : Rat)) = vsub (fun _ => 0) i t f := by
      funext k; unfold vsub; split
      · grind
      · rfl
    rw [← lin_sub (G := G) hi ht hne (f := f) (r := fun _ => 0), ← e]
  · have e : (fun k => gsub G i t f k c) = vsub (fun k => G k c) i t f := by funext k; unfold vsub gsub; rfl
    rw [e, lin_sub hi ht hne]
theorem REq.swap (G : Grid) {R n p t : Nat} (hp : p < R) (ht : t < R) : REq G (gsw G p t) R n :=
  ⟨fun x => lin_swap (r := fun _ => 0) hp ht, fun c x => lin_swap (r := fun i => G i c) hp ht⟩
theorem gcol_lin {G : Grid} {R n t k : Nat} {r x : Nat → Rat} (ht : t < R) (hd : G t k ≠ 0) : LinG (gcol G t k) R n (fun i => if i = t then r t / G t k else r i - G i k * (r t / G t k)) x ↔ LinG G R n r x := by
  have et : Sm (fun j => gcol G t k t j * x j) n = Sm (fun j => G t j * x j) n / G t k := by
    rw [← Sm_div]; exact Sm_congr _ fun j _ => by simp only [gcol, if_pos]
  have ei : ∀ i, i ≠ t → Sm (fun j => gcol G t k i j * x j) n = Sm (fun j => G i j * x j) n - G i k * (Sm (fun j => G t j * x j) n / G t k) := fun i hi => by
    rw [← Sm_div, ← Sm_lin]; exact Sm_congr _ fun j _ => by simp only [gcol, if_neg hi]
  constructor
  · intro h
    have h0 := h t ht
    rw [et] at h0
    simp only [if_pos] at h0
    have h1 := div_inj hd h0
    intro i hi
    by_cases e : i = t
    · rw [e]; exact h1
    · have h2 := h i hi
      rw [ei i e] at h2
      simp only [if_neg e] at h2
      rw [h1] at h2; grind
  · intro h i hi
    by_cases e : i = t
    · rw [e, et, h t ht]; simp only [if_pos]
    · rw [ei i e, h i hi, h t ht]; simp only [if_neg e]
theorem REq.gcol (G : Grid) {R n t k : Nat} (ht : t < R) (hd : G t k ≠ 0) : REq G (gcol G t k) R n := by
  refine ⟨fun x => ?_, fun c x => ?_⟩
  · have e : (fun _ => (0 : Rat)) = fun i => if i = t then (0 : Rat) / G t k else 0 - G i k * (0 / G t k) := by
      funext i; rw [Rat.div_def, Rat.zero_mul]
      split
      · rfl
      · grind
    rw [← gcol_lin ht hd (r := fun _ => 0), ← e]
  · exact gcol_lin ht hd (r := fun i => G i c)
/-- fewer equations than unknowns -/
theorem few_eqs : ∀ (n R : Nat) (G : Grid), R < n → ∃ x : Nat → Rat, (∃ j, j < n ∧ x j ≠ 0) ∧ LinG G R n (fun _ => 0) x
  | 0, R, G, h => by omega
  | n + 1, R, G, h => by
    by_cases hz : ∀ i, i < R → G i n = 0
    · refine ⟨fun j => if j = n then 1 else 0, ⟨n, by omega, by dsimp only; rw [if_pos rfl]; decide⟩, fun i hi => ?_⟩
      refine Sm_zero _ fun j hj => ?_
      by_cases e : j = n
      · rw [e, hz i hi]; grind
      · dsimp only; rw [if_neg e]; grind
    · obtain ⟨p, hp⟩ := Classical.not_forall.1 hz
      obtain ⟨hpR, hd⟩ := Classical.not_imp.1 hp
      obtain ⟨s, hs⟩ : ∃ s : Nat → Nat, s = fun i => if i < p then i else i + 1 := ⟨_, rfl⟩
      obtain ⟨x, ⟨j0, hj0, hx0⟩, hx⟩ := few_eqs n (R - 1) (fun i j => G (s i) j - (G (s i) n / G p n) * G p j) (by omega)
      obtain ⟨S, hS⟩ : ∃ S, S = Sm (fun j => G p j * x j) n := ⟨_, rfl⟩
      refine ⟨fun j => if j = n then -(S / G p n) else x j, ⟨j0, by omega, by dsimp only; rw [if_neg (by omega)]; exact hx0⟩, fun i hi => ?_⟩
      have hsum : ∀ i, Sm (fun j => G i j * (if j = n then -(S / G p n) else x j)) (n + 1) = Sm (fun j => G i j * x j) n + G i n * -(S / G p n) := fun i => by
        rw [Sm, if_pos rfl]
        congr 1
        exact Sm_congr _ fun j hj => by rw [if_neg (by omega)]
      rw [hsum]
      by_cases e : i = p
      · rw [e, ← hS, Rat.mul_comm, Rat.neg_mul, Rat.div_mul_cancel hd]; grind
      · have hi' : ∃ k, k < R - 1 ∧ s k = i := by
          by_cases h1 : i < p
          · exact ⟨i, by omega, by rw [hs]; dsimp only; rw [if_pos h1]⟩
          · exact ⟨i - 1, by omega, by rw [hs]; dsimp only; rw [if_neg (by omega)]; omega⟩
        obtain ⟨k, hk, rfl⟩ := hi'
        have h1 := hx k hk
        dsimp only at h1
        rw [Sm_lin, ← hS] at h1
        rw [Rat.div_def] at h1 ⊢
        grind
/-- none but 0 solves the equations without a right-hand side -/
def UniG (G : Grid) (R n : Nat) : Prop := ∀ x, LinG G R n (fun _ => 0) x → ∀ j, j < n → x j = 0
theorem UniG.same {G : Grid} {R n : Nat} (h : UniG G R n) {r x y : Nat → Rat} (hx : LinG G R n r x) (hy : LinG G R n r y) : ∀ j, j < n → x j = y j := fun j hj => by
  have := h (fun j => x j - y j) (fun i hi => by
    have e : Sm (fun j => G i j * (x j - y j)) n = Sm (fun j => G i j * x j) n - 1 * Sm (fun j => G i j * y j) n := by
      have h1 : Sm (fun j => G i j * (x j - y j)) n = Sm (fun j => (x j - 1 * y j) * G i j) n := Sm_congr _ fun j _ => by grind
      rw [h1, Sm_lin]
      congr 1
      · exact Sm_congr _ fun j _ => by grind
      · congr 1; exact Sm_congr _ fun j _ => by grind
    rw [e, hx i hi, hy i hi]; grind) j hj
  grind
theorem UniG.req {G G' : Grid} {R n : Nat} (h : REq G G' R n) : UniG G' R n ↔ UniG G R n := ⟨fun k x hx => k x ((h.ker x).2 hx), fun k x hx => k x ((h.ker x).1 hx)⟩
theorem low_not_uni {G : Grid} {R n t : Nat} (ht : t < n) (hz : ∀ i j, t ≤ i → i < R → j < n → G i j = 0) : ¬ UniG G R n := fun h => by
  obtain ⟨x, ⟨j, hj, hx⟩, hs⟩ := few_eqs n t G ht
  refine hx (h x (fun i hi => ?_) j hj)
  by_cases e : i < t
  · exact hs i e
  · exact Sm_zero _ fun k hk => by rw [hz i k (by omega) hi hk]; grind
structure TriG (G : Grid) (n : Nat) : Prop where
  diag : ∀ i, i < n → G i i ≠ 0
  low : ∀ i j, i < n → j < i → G i j = 0
theorem TriG.uni {G : Grid} {n : Nat} (h : TriG G n) : UniG G n n := fun x hx => by
  have key : ∀ d, d ≤ n → ∀ j, n - d ≤ j → j < n → x j = 0 := by
    intro d
    induction d with
    | zero => intro _ j h1 h2; omega
    | succ d ih =>
      intro hd j h1 h2
      by_cases e : n - d ≤ j
      · exact ih (by omega) j e h2
      · have h3 := hx j h2
        rw [Sm_one h2 fun k hk hne => ?_] at h3
        · rcases Rat.mul_eq_zero.1 h3 with h4 | h4
          · exact absurd h4 (h.diag j h2)
          · exact h4
        · rcases Nat.lt_or_ge k j with h4 | h4
          · rw [h.low j k h2 h4]; grind
          · rw [ih (by omega) k (by omega) hk]; grind
  exact fun j hj => key n (Nat.le_refl _) j (by omega) hj
/-- the triangle, with the columns from c on cleared -/
structure DiaG (G : Grid) (n c : Nat) : Prop extends TriG G n where
  up : ∀ i j, i < j → c ≤ j → j < n → G i j = 0
theorem TriG.dia {G : Grid} {n : Nat} (h : TriG G n) : DiaG G n n := ⟨h, fun i j _ h1 h2 => by omega⟩
/-- a diagonal grid is solved by division -/
theorem DiaG.sol {G : Grid} {n : Nat} (h : DiaG G n 0) (r : Nat → Rat) : LinG G n n r (fun i => r i / G i i) := fun i hi => by
  rw [Sm_one hi fun k hk hne => ?_]
  · rw [Rat.mul_comm, Rat.div_mul_cancel (h.diag i hi)]
  · rcases Nat.lt_or_ge k i with h1 | h1
    · rw [h.low i k hi h1]; grind
    · rw [h.up i k (by omega) (by omega) hk]; grind
/-- how far a column of the triangle is cleared: rows below j -/
structure DiaJ (G : Grid) (n c j : Nat) : Prop extends TriG G n where
  up : ∀ i k, i < k → c < k → k < n → G i k = 0
  row : ∀ i, i < j → i < c → G i c = 0
theorem DiaJ.zero {G : Grid} {n c : Nat} (h : DiaG G n (c + 1)) : DiaJ G n c 0 := ⟨h.toTriG, fun i k a b d => h.up i k a (by omega) d, fun i a => by omega⟩
theorem DiaJ.done {G : Grid} {n c : Nat} (h : DiaJ G n c c) : DiaG G n c := ⟨h.toTriG, fun i k a b d => by
  rcases Nat.eq_or_lt_of_le b with e | e
  · subst e; exact h.row i a a
  · exact h.up i k a e d⟩
theorem DiaJ.step {G : Grid} {n c j : Nat} (h : DiaJ G n c j) (hj : j < c) (hc : c < n) : DiaJ (gsub G j c (G j c / G c c)) n c (j + 1) := by
  have hd := h.diag c hc
  refine ⟨⟨fun i hi => ?_, fun i k hi hk => ?_⟩, fun i k a b d => ?_, fun i a b => ?_⟩
  · unfold gsub; split
    · rename_i e; subst e; rw [h.low c i hc (by omega)]
      have := h.diag i hi; grind
    · exact h.diag i hi
  · unfold gsub; split
    · rename_i e; subst e; rw [h.low i k hi hk, h.low c k hc (by omega)]; grind
    · exact h.low i k hi hk
  · unfold gsub; split
    · rename_i e; subst e; rw [h.up i k a b d, h.up c k b b d]; grind
    · exact h.up i k a b d
  · unfold gsub; split
    · rename_i e; subst e; rw [Rat.div_mul_cancel hd]; grind
    · exact h.row i (by omega) b
/-- the steps under way: rank rows are done, the columns below col are -/
structure StepG (G : Grid) (R rank col : Nat) : Prop where
  le : rank ≤ R
  lc : rank ≤ col
  low : ∀ i j, rank ≤ i → i < R → j < col → G i j = 0
  tri : rank = col → (∀ i, i < rank → G i i ≠ 0) ∧ ∀ i j, i < rank → j < i → G i j = 0
theorem StepG.zero (G : Grid) (R : Nat) : StepG G R 0 0 := ⟨by omega, by omega, by omega, fun _ => ⟨by omega, by omega⟩⟩
theorem StepG.free {G : Grid} {R rank col : Nat} (h : StepG G R rank col) (hz : ∀ i, rank ≤ i → i < R → G i col = 0) : StepG G R rank (col + 1) :=
  ⟨h.le, by have := h.lc; omega, fun i j a b d => by
    by_cases e : j = col
    · rw [e]; exact hz i a b
    · exact h.low i j a b (by omega), fun e => by have := h.lc; omega⟩
theorem StepG.swap {G : Grid} {R rank col p : Nat} (h : StepG G R rank col) (h1 : rank ≤ p) (h2 : p < R) : StepG (gsw G p rank) R rank col := by
  have lo : ∀ i, i < rank → swp p rank i = i := fun i hi => by unfold swp; split <;> (try split) <;> omega
  have hi' : ∀ i, rank ≤ i → rank ≤ swp p rank i := fun i hi => by unfold swp; split <;> (try split) <;> omega
  refine ⟨h.le, h.lc, fun i j a b d => h.low _ j (hi' i a) (swp_lt h2 (by omega) b) d, fun e => ⟨fun i hi => ?_, fun i j hi hj => ?_⟩⟩
  · unfold gsw; rw [lo i hi]; exact (h.tri e).1 i hi
  · unfold gsw; rw [lo i hi]; exact (h.tri e).2 i j hi hj
/-- rows below i are cleared in the column -/
structure StepI (G : Grid) (R rank col i : Nat) : Prop extends StepG G R rank col where
  piv : G rank col ≠ 0
  clr : ∀ k, rank < k → k < i → G k col = 0
theorem StepI.step {G : Grid} {R rank col i : Nat} (h : StepI G R rank col i) (hr : rank < i) (hi : i < R) : StepI (gsub G i rank (G i col / G rank col)) R rank col (i + 1) := by
  refine ⟨⟨h.le, h.lc, fun k j a b d => ?_, fun e => ⟨fun k hk => ?_, fun k j hk hj => ?_⟩⟩, ?_, fun k a b => ?_⟩
  · unfold gsub; split
    · rename_i e; subst e; rw [h.low k j a b d, h.low rank j (Nat.le_refl _) (by omega) d]; grind
    · exact h.low k j a b d
  · unfold gsub; rw [if_neg (by omega)]; exact (h.tri e).1 k hk
  · unfold gsub; rw [if_neg (by omega)]; exact (h.tri e).2 k j hk hj
  · unfold gsub; rw [if_neg (by omega)]; exact h.piv
  · unfold gsub; split
    · rename_i e; subst e; rw [Rat.div_mul_cancel h.piv]; grind
    · exact h.clr k a (by omega)
theorem StepI.start {G : Grid} {R rank col : Nat} (h : StepG G R rank col) (hp : G rank col ≠ 0) : StepI G R rank col (rank + 1) := ⟨h, hp, fun k a b => by omega⟩
theorem StepI.done {G : Grid} {R rank col : Nat} (h : StepI G R rank col R) (hr : rank < R) : StepG G R (rank + 1) (col + 1) := by
  refine ⟨hr, by have := h.lc; omega, fun i j a b d => ?_, fun e => ?_⟩
  · by_cases e : j = col
    · rw [e]; exact h.clr i (by omega) b
    · exact h.low i j (by omega) b (by omega)
  · have e' : rank = col := by omega
    obtain ⟨t1, t2⟩ := h.tri e'
    refine ⟨fun i hi => ?_, fun i j hi hj => ?_⟩
    · by_cases h1 : i = rank
      · rw [h1]; rw (occs := .pos [2]) [e']; exact h.piv
      · exact t1 i (by omega)
    · by_cases h1 : i = rank
      · rw [h1]; exact h.low rank j (Nat.le_refl _) hr (by omega)
      · exact t2 i j (by omega) hj
theorem StepG.tri_of {G : Grid} {n col : Nat} (h : StepG G n n col) (hc : col ≤ n) : TriG G n := by
  have e : n = col := by have := h.lc; omega
  exact ⟨(h.tri e).1, (h.tri e).2⟩
end Go.Proofs.YtkgmicakfmllmaaGreat
end
section
namespace Go.Proofs.YtkgmicakfmllmaaGreat
set_option linter.unusedVariables false
theorem Sm_nonneg {f : Nat → Rat} (n : Nat) (h : ∀ j, j < n → 0 ≤ f j) : 0 ≤ Sm f n := by
  induction n with
  | zero => exact Rat.le_refl
  | succ n ih => simp only [Sm]; have h1 := ih fun j hj => h j (by omega); have h2 := h n (by omega); grind
theorem Sm_le {f g : Nat → Rat} (n : Nat) (h : ∀ j, j < n → f j ≤ g j) : Sm f n ≤ Sm g n := by
  induction n with
  | zero => exact Rat.le_refl
  | succ n ih => simp only [Sm]; have h1 := ih fun j hj => h j (by omega); have h2 := h n (by omega); grind
theorem Sm_sub (f g : Nat → Rat) (n : Nat) : Sm (fun j => f j - g j) n = Sm f n - Sm g n := by
  induction n with
  | zero => simp only [Sm]; grind
  | succ n ih => simp only [Sm, ih]; grind
theorem Sm_swap (f : Nat → Nat → Rat) (n m : Nat) : Sm (fun i => Sm (f i) m) n = Sm (fun j => Sm (fun i => f i j) n) m := by
  induction n with
  | zero => simp only [Sm]; exact (Sm_zero m fun j _ => rfl).symm
  | succ n ih => simp only [Sm, ih, Sm_add]
/-- parts that are not negative and sum to 0 -/
theorem Sm_none {f : Nat → Rat} (n : Nat) (h : ∀ j, j < n → 0 ≤ f j) (hs : Sm f n = 0) : ∀ j, j < n → f j = 0 := by
  induction n with
  | zero => intro j hj; omega
  | succ n ih =>
    simp only [Sm] at hs
    have h1 := Sm_nonneg n fun j hj => h j (by omega)
    have h2 := h n (by omega)
    have h3 : Sm f n = 0 := by grind
    have h4 : f n = 0 := by grind
    intro j hj
    by_cases e : j = n
    · rw [e]; exact h4
    · exact ih (fun j hj => h j (by omega)) h3 j (by omega)
theorem Sm_part {f : Nat → Rat} (n : Nat) (h : ∀ j, j < n → 0 ≤ f j) {k : Nat} (hk : k < n) : f k ≤ Sm f n := by
  induction n with
  | zero => omega
  | succ n ih =>
    simp only [Sm]
    have h1 := Sm_nonneg n fun j hj => h j (by omega)
    have h2 := h n (by omega)
    by_cases e : k = n
    · rw [e]; grind
    · have := ih (fun j hj => h j (by omega)) (by omega); grind
theorem Sm_pos {f : Nat → Rat} (n : Nat) (h : ∀ j, j < n → 0 < f j) (hn : 0 < n) : 0 < Sm f n := by
  have h1 := Sm_part n (fun j hj => Rat.le_of_lt (h j hj)) hn
  have h2 := h 0 hn
  grind
/-- what one comes to from a state by moves above 0 -/
inductive Rch (E : Nat → Nat → Prop) (n : Nat) (i : Nat) : Nat → Prop
  | refl : i < n → Rch E n i i
  | step {j k : Nat} : Rch E n i j → k < n → E j k → Rch E n i k
theorem Rch.lt {E : Nat → Nat → Prop} {n i k : Nat} (h : Rch E n i k) : i < n ∧ k < n := by
  induction h with
  | refl h => exact ⟨h, h⟩
  | step _ hk _ ih => exact ⟨ih.1, hk⟩
theorem Rch.trans {E : Nat → Nat → Prop} {n i j k : Nat} (h : Rch E n i j) (h2 : Rch E n j k) : Rch E n i k := by
  induction h2 with
  | refl _ => exact h
  | step _ hk he ih => exact .step ih hk he
/-- a set that holds the state and all moves out of it, holds all -/
theorem Rch.sub {E : Nat → Nat → Prop} {n i : Nat} {S : Nat → Prop} (h0 : S i) (hs : ∀ j k, S j → k < n → E j k → S k) {k : Nat} (h : Rch E n i k) : S k := by
  induction h with
  | refl _ => exact h0
  | step _ hk he ih => exact hs _ _ ih hk he
structure StoG (Q : Grid) (n : Nat) : Prop where
  nn : ∀ i k, i < n → k < n → 0 ≤ Q i k
  one : ∀ i, i < n → Sm (Q i) n = 1
def IrrG (Q : Grid) (n : Nat) : Prop := ∀ i k, i < n → k < n → Rch (fun a b => 0 < Q a b) n i k
/-- the equations of a law that stays; the last one is that the parts sum to 1 -/
def lawG (Q : Grid) (n : Nat) : Grid := fun k i => if k + 1 = n then 1 else if i = k then Q i k - 1 else Q i k
theorem lawG_row {Q : Grid} {n k : Nat} (hk : k < n) (h1 : k + 1 ≠ n) (x : Nat → Rat) : Sm (fun i => lawG Q n k i * x i) n = Sm (fun i => x i * Q i k) n - x k := by
  have e : Sm (fun i => lawG Q n k i * x i) n = Sm (fun i => x i * Q i k - (if i = k then x i else 0)) n := Sm_congr _ fun i _ => by
    unfold lawG
    rw [if_neg h1]
    split <;> grind
  rw [e, Sm_sub, Sm_one (f := fun i => if i = k then x i else 0) hk fun j _ hne => if_neg hne, if_pos rfl]
theorem lawG_last {Q : Grid} {n k : Nat} (h1 : k + 1 = n) (x : Nat → Rat) : Sm (fun i => lawG Q n k i * x i) n = Sm x n := Sm_congr _ fun i _ => by
  unfold lawG; rw [if_pos h1]; grind
/-- the equation that was left out holds too -/
theorem stays_all {Q : Grid} {n : Nat} (hQ : StoG Q n) {x : Nat → Rat} (h : ∀ k, k + 1 < n → Sm (fun i => x i * Q i k) n = x k) : ∀ k, k < n → Sm (fun i => x i * Q i k) n = x k := by
  have tot : Sm (fun k => Sm (fun i => x i * Q i k) n) n = Sm x n := by
    rw [← Sm_swap (fun i k => x i * Q i k)]
    refine Sm_congr _ fun i hi => ?_
    rw [Sm_mul, hQ.one i hi]; grind
  intro k hk
  by_cases e : k + 1 = n
  · subst e
    simp only [Sm] at tot ⊢
    rw [Sm_congr k (f := fun k_1 => Sm (fun i => x i * Q i k_1) k + x k * Q k k_1) (g := x) fun j hj => by
      have := h j (by omega)
      simp only [Sm] at this; exact this] at tot
    grind
  · exact h k (by omega)
/-- a vector that stays, above 0 somewhere, is above 0 all over -/
theorem pos_spread {Q : Grid} {n : Nat} (hQ : StoG Q n) (hI : IrrG Q n) {p : Nat → Rat} (hp : ∀ i, i < n → 0 ≤ p i) (hs : ∀ k, k < n → Sm (fun i => p i * Q i k) n = p k) {u : Nat} (hu : u < n) (h0 : 0 < p u) : ∀ k, k < n → 0 < p k := fun k hk => by
  refine Rch.sub (S := fun k => k < n ∧ 0 < p k) ⟨hu, h0⟩ (fun j k hj hk he => ⟨hk, ?_⟩) (hI u k hu hk) |>.2
  have h1 := Sm_part (f := fun i => p i * Q i k) n (fun i hi => Rat.mul_nonneg (hp i hi) (hQ.nn i k hi hk)) hj.1
  rw [hs k hk] at h1
  have h2 := Rat.mul_pos hj.2 he
  try dsimp only at h1
  grind
def posP (x : Rat) : Rat := if 0 ≤ x then x else 0
theorem posP_nn (x : Rat) : 0 ≤ posP x := by unfold posP; split <;> grind
theorem posP_ge (x : Rat) : x ≤ posP x := by unfold posP; split <;> grind
/-- the part above 0 of a vector that stays, stays -/
theorem pos_stays {Q : Grid} {n : Nat} (hQ : StoG Q n) {x : Nat → Rat} (hs : ∀ k, k < n → Sm (fun i => x i * Q i k) n = x k) : ∀ k, k < n → Sm (fun i => posP (x i) * Q i k) n = posP (x k) := by
  have hle : ∀ k, k < n → posP (x k) ≤ Sm (fun i => posP (x i) * Q i k) n := fun k hk => by
    have h1 : Sm (fun i => x i * Q i k) n ≤ Sm (fun i => posP (x i) * Q i k) n := Sm_le n fun i hi => Rat.mul_le_mul_of_nonneg_right (posP_ge _) (hQ.nn i k hi hk)
    have h2 : 0 ≤ Sm (fun i => posP (x i) * Q i k) n := Sm_nonneg n fun i hi => Rat.mul_nonneg (posP_nn _) (hQ.nn i k hi hk)
    rw [hs k hk] at h1
    rw [posP]; split <;> grind
  have tot : Sm (fun k => Sm (fun i => posP (x i) * Q i k) n) n = Sm (fun k => posP (x k)) n := by
    rw [← Sm_swap (fun i k => posP (x i) * Q i k)]
    refine Sm_congr _ fun i hi => ?_
    rw [Sm_mul, hQ.one i hi]; grind
  have h3 := Sm_none (f := fun k => Sm (fun i => posP (x i) * Q i k) n - posP (x k)) n (fun k hk => by have := hle k hk; grind) (by rw [Sm_sub, tot]; grind)
  intro k hk
  have := h3 k hk
  try dsimp only at this
  grind
/-- **An irreducible stochastic grid keeps no vector of sum 0.** -/
theorem law_uni {Q : Grid} {n : Nat} (hQ : StoG Q n) (hI : IrrG Q n) : UniG (lawG Q n) n n := by
  intro x hx
  rcases Nat.eq_zero_or_pos n with hn | hn
  · intro j hj; omega
  have hsum : Sm x n = 0 := by
    have := hx (n - 1) (by omega)
    rw [lawG_last (by omega)] at this; exact this
  have hst : ∀ k, k < n → Sm (fun i => x i * Q i k) n = x k := stays_all hQ fun k hk => by
    have := hx k (by omega)
    rw [lawG_row (by omega) (by omega)] at this; grind
  have hps := pos_stays hQ hst
  have hneg : ∀ i, i < n → x i ≤ 0 := fun i hi => by
    rcases Rat.le_total (a := x i) (b := 0) with h | h
    · exact h
    · by_cases e : x i = 0
      · rw [e]; exact Rat.le_refl
      · exfalso
        have h0 : 0 < posP (x i) := by unfold posP; rw [if_pos h]; grind
        have hall := pos_spread hQ hI (p := fun i => posP (x i)) (fun i _ => posP_nn _) hps hi h0
        have hx0 : ∀ k, k < n → 0 < x k := fun k hk => by
          have := hall k hk
          try dsimp only at this
          unfold posP at this
          split at this
          · exact this
          · grind
        have := Sm_pos n hx0 hn
        grind
  have := Sm_none (f := fun i => -1 * x i) n (fun i hi => by have := hneg i hi; grind) (by rw [Sm_mul, hsum]; grind)
  intro j hj
  have := this j hj
  try dsimp only at this
  grind
/-! ### Subsets of the states, as sorted lists -/
/-- a sum over all states of what is 0 outside a list -/
theorem Sm_list {f : Nat → Rat} : ∀ (n : Nat) (p : Nat → Bool), (∀ k, k < n → p k = false → f k = 0) → Sm f n = Sm (fun v => f (((List.range n).filter p).getD v 0)) ((List.range n).filter p).length
  | 0, p, _ => rfl
  | n + 1, p, h => by
    have ih := Sm_list n p fun k hk hp => h k (by omega) hp
    rw [List.range_succ, List.filter_append]
    simp only [Sm]
    cases hp : p n with
    | false =>
      rw [h n (by omega) hp, ih]
      simp [List.filter, hp]; grind
    | true =>
      have e : List.filter p [n] = [n] := by simp [List.filter, hp]
      rw [e, List.length_append]
      simp only [List.length_cons, List.length_nil, Nat.zero_add, Sm]
      rw [ih]
      congr 1
      · exact Sm_congr _ fun v hv => by
          rw [List.getD_eq_getElem?_getD, List.getD_eq_getElem?_getD, List.getElem?_append_left hv]
      · simp [List.getD_eq_getElem?_getD]
theorem filt_mem {n : Nat} {p : Nat → Bool} {v : Nat} (hv : v < ((List.range n).filter p).length) : ((List.range n).filter p).getD v 0 < n ∧ p (((List.range n).filter p).getD v 0) = true := by
  rw [List.getD_eq_getElem?_getD, List.getElem?_eq_getElem hv]
  have := List.getElem_mem hv
  rw [List.mem_filter, List.mem_range] at this
  simpa using this
theorem filt_get {n : Nat} {p : Nat → Bool} {k : Nat} (hk : k < n) (hp : p k = true) : ∃ v, v < ((List.range n).filter p).length ∧ ((List.range n).filter p).getD v 0 = k := by
  have : k ∈ (List.range n).filter p := by rw [List.mem_filter, List.mem_range]; exact ⟨hk, hp⟩
  obtain ⟨v, hv, e⟩ := List.mem_iff_getElem.1 this
  exact ⟨v, hv, by rw [List.getD_eq_getElem?_getD, List.getElem?_eq_getElem hv]; simpa using e⟩
/-- the moves within a list of states -/
def subG (P : Grid) (C : List Nat) : Grid := fun u v => P (C.getD u 0) (C.getD v 0)
theorem sub_sto {P : Grid} {n : Nat} {p : Nat → Bool} (hP : StoG P n) (hc : ∀ i k, i < n → k < n → p i = true → 0 < P i k → p k = true) : StoG (subG P ((List.range n).filter p)) ((List.range n).filter p).length := by
  refine ⟨fun i k hi hk => hP.nn _ _ (filt_mem hi).1 (filt_mem hk).1, fun i hi => ?_⟩
  obtain ⟨h1, h2⟩ := filt_mem hi
  have := Sm_list (f := P (((List.range n).filter p).getD i 0)) n p fun k hk hp => by
    have h3 := hP.nn _ k h1 hk
    by_cases e : 0 < P (((List.range n).filter p).getD i 0) k
    · rw [hc _ k h1 hk h2 e] at hp; cases hp
    · grind
  rw [hP.one _ h1] at this
  exact this.symm
theorem sub_irr {P : Grid} {n : Nat} {p : Nat → Bool} (hc : ∀ i k, i < n → k < n → p i = true → 0 < P i k → p k = true) (hr : ∀ i k, i < n → k < n → p i = true → p k = true → Rch (fun a b => 0 < P a b) n i k) : IrrG (subG P ((List.range n).filter p)) ((List.range n).filter p).length := by
  intro u v hu hv
  obtain ⟨h1, h2⟩ := filt_mem hu
  obtain ⟨h3, h4⟩ := filt_mem hv
  have key : ∀ k, Rch (fun a b => 0 < P a b) n (((List.range n).filter p).getD u 0) k → p k = true ∧ ∀ w, w < ((List.range n).filter p).length → ((List.range n).filter p).getD w 0 = k → Rch (fun a b => 0 < subG P ((List.range n).filter p) a b) ((List.range n).filter p).length u w := by
    intro k h
    have nod : ((List.range n).filter p).Nodup := List.Pairwise.filter p List.nodup_range
    induction h with
    | refl _ =>
      refine ⟨h2, fun w hw e => ?_⟩
      have : w = u := by
        rw [List.getD_eq_getElem?_getD, List.getD_eq_getElem?_getD, List.getElem?_eq_getElem hw, List.getElem?_eq_getElem hu] at e
        exact (List.getElem_inj nod).1 (by simpa using e)
      rw [this]; exact .refl hu
    | step hr' hk he ih =>
      rename_i j k
      obtain ⟨i1, i2⟩ := ih
      refine ⟨hc j k hr'.lt.2 hk i1 he, fun w hw e => ?_⟩
      obtain ⟨w', hw', e'⟩ := filt_get hr'.lt.2 i1
      refine .step (i2 w' hw' e') hw ?_
      show 0 < P _ _
      rw [e', e]; exact he
  exact (key _ (hr _ _ h1 h3 h2 h4)).2 v hv rfl
end Go.Proofs.YtkgmicakfmllmaaGreat
end
section
namespace Go.Proofs.YtkgmicakfmllmaaGreat
set_option linter.unusedVariables false
end Go.Proofs.YtkgmicakfmllmaaGreat
end
section
namespace Go.Proofs.YtkgmicakfmllmaaGreat
open Go Go.RowKit
set_option linter.unusedSimpArgs false
set_option linter.unusedVariables false
attribute [local irreducible] XWP Spec SpecO XPub XCall seqX clX apX stX ldX iaX slX
/-- a grid, row by row -/
def flatF (G : Grid) (C : Nat) (p : Nat) : Rat := G (p / C) (p % C)
def flatG (G : Grid) (R C : Nat) : List Rat := mk (R * C) (flatF G C)
theorem flatF_at (G : Grid) {C i k : Nat} (hk : k < C) : flatF G C (i * C + k) = G i k := by
  unfold flatF
  have e1 : (i * C + k) / C = i := by rw [Nat.mul_comm, Nat.mul_add_div (by omega), Nat.div_eq_of_lt hk, Nat.add_zero]
  have e2 : (i * C + k) % C = k := by rw [Nat.mul_comm, Nat.mul_add_mod, Nat.mod_eq_of_lt hk]
  rw [e1, e2]
theorem flatG_len (G : Grid) (R C : Nat) : (flatG G R C).length = R * C := mk_len _ _
theorem pos_lt {R C i k : Nat} (hi : i < R) (hk : k < C) : i * C + k < R * C := by
  have := Nat.mul_le_mul_right C (show i + 1 ≤ R by omega)
  rw [Nat.add_mul, Nat.one_mul] at this; omega
theorem flatG_at (G : Grid) {R C i k : Nat} (hi : i < R) (hk : k < C) : cf (flatG G R C) (i * C + k) = G i k := by
  unfold flatG
  rw [cf_mk, if_pos (pos_lt hi hk), flatF_at G hk]
theorem flatG_congr {G G' : Grid} {R C : Nat} (h : ∀ i k, i < R → k < C → G i k = G' i k) : flatG G R C = flatG G' R C := by
  unfold flatG
  refine mk_eq fun p hp => ?_
  have hC : 0 < C := by
    rcases Nat.eq_zero_or_pos C with e | e
    · rw [e, Nat.mul_zero] at hp; omega
    · exact e
  exact h _ _ (by rw [Nat.div_lt_iff_lt_mul hC]; exact hp) (Nat.mod_lt _ hC)
/-- a list, read as a grid -/
def gridL (l : List Rat) (C : Nat) : Grid := fun i k => cf l (i * C + k)
section
variable {Γ : Cx} {P : Program} {Q : Exit → XS → Prop} {t : List SV} {bx : List (List Value)} {H : Heap} {V : View}
/-- an own list of digits is published -/
theorem XWP.pubN {c : Code} {e n : Nat} {v : Value} {ds : List Nat} (hown : Own H e 1 v n (u32s ds)) (hd : Dig ds) (h : ∀ H' V', V.le V' → NatAt V' v ds → (∀ k, v.ownBlock ≠ some k → H' k = H k) → XWP Γ P c Q ⟨t, bx, H', V'⟩) : XWP Γ P c Q ⟨t, bx, H, V⟩ := by
  have hl : ds.length = n := by have := hown.1; simpa [u32s] using this
  rcases own_parts hown with ⟨rfl, h0, _⟩ | ⟨g, cap, rfl, hg, hle, hcap, _⟩
  · refine h H V (View.le_refl _) ?_ fun _ _ => rfl
    rw [List.length_eq_zero_iff.1 (show ds.length = 0 by omega)]; exact NatAt.nil V
  · refine XWP.pub g _ hg fun o ho hle' => h _ _ hle' (NatAt.pub ho hd hl hle (by unfold maxLen at hcap; omega)) fun k hk => ?_
    unfold upd
    rw [if_neg fun e => hk (by rw [e]; rfl)]
/-- an own list of fractions is published -/
theorem XWP.pubR {α : Type} {E : El α} (hE : ElOk E) {c : Code} {e n : Nat} {v : Value} {cells : List Value} {l : List α} (hown : Own H e 3 v n cells) (hrow : RowAt E V cells l) (h : ∀ H' V', V.le V' → SlAt E V' v l → (∀ k, v.ownBlock ≠ some k → H' k = H k) → XWP Γ P c Q ⟨t, bx, H', V'⟩) : XWP Γ P c Q ⟨t, bx, H, V⟩ := by
  have h1 := hown.1
  have h2 := hrow.1
  have hl : l.length = n := by omega
  rcases own_parts hown with ⟨rfl, h0, _⟩ | ⟨g, cap, rfl, hg, hle, hcap, _⟩
  · refine h H V (View.le_refl _) ?_ fun _ _ => rfl
    rw [List.length_eq_zero_iff.1 (show l.length = 0 by omega)]; exact SlAt.nil V
  · refine XWP.pub g _ hg fun o ho hle' => h _ _ hle' (hrow.pub hE ho hle' hl hle (by unfold maxLen at hcap; omega)) fun k hk => ?_
    unfold upd
    rw [if_neg fun e => hk (by rw [e]; rfl)]
variable {ops : Array Oper} {rest : List Oper} {K : XS → Prop} {s : XS} {d : Option Tmp}
/-- a call of a function value with captures -/
theorem call_gob {f : FuncId} {ys lb : List Value} {R : Value → View → Prop} (hc : callable P f = true) (hs : Spec P f (ys ++ lb) s.V R)
    (h : ∀ v V', s.V.le V' → R v V' → seqX P ops rest K (XS.put ⟨s.t, s.bx, s.H, V'⟩ d (.v v))) : clX P ops rest K s d f (ys.map .v ++ lb.map .v) := by
  have e1 : ((ys.map SV.v ++ lb.map SV.v).all SV.isV) = true := by
    rw [← List.map_append, List.all_map]; exact List.all_eq_true.2 fun _ _ => rfl
  have e2 : (ys.map SV.v ++ lb.map SV.v).map SV.val = ys ++ lb := by
    rw [← List.map_append, List.map_map]; exact List.map_id' _
  exact call_go hc e1 (by rw [e2]; exact hs) h
end
theorem copied_c (V : View) (v : Value) (q : Rat) (h : RatC V v q) (f : QF q) : Spec Tryz.prog 183 [v] V fun v' V' => RatC V' v' q := by
  obtain ⟨n, d, rfl, hn, hd⟩ := h
  obtain ⟨A1, c1, rfl, hc1, hm1⟩ := NatAt.form hn
  obtain ⟨A2, c2, rfl, hc2, hm2⟩ := NatAt.form hd
  have l1 := f.fits.1.len
  have l2 := f.fits.2.len
  refine (Spec.enter Tryz.func183 rfl fun Γ => ?_)
  simp only [Tryz.ntmps183, List.map_cons, List.map_nil, List.length_cons, List.length_nil, Nat.reduceAdd, Nat.reduceSub, List.replicate_succ, List.replicate_zero, List.cons_append, List.nil_append]
  refine Gx.a (by kernel_rfl) fun K hK => ?_
  simp only [XA, XB]
  refine hK _ ?_
  (refine XWP.drw [0, 1, 2, 3, 5, 6, 4, 7, 8, 9] (by kernel_rfl) (by kernel_rfl) (by kernel_rfl) fun K hK => ?_) <;> dsimp only [pickOps, List.getElem?_cons_zero, List.getElem?_cons_succ]
  simp only [XA, XB]
  refine ap_go elemT_47 (by kernel_rfl) zeroT_147 rfl (by omega) (n := 0) (xs := []) own_nil (src_nat hn _) (by omega) (by omega) fun v1 H1 r1 => ?_
  simp only [XA]
  refine ap_go elemT_47 (by kernel_rfl) zeroT_147 rfl (by omega) (n := 0) (xs := []) own_nil (src_nat hd _) (by omega) (by omega) fun v2 H2 r2 => ?_
  obtain ⟨o1, k1, f1⟩ := r1
  obtain ⟨o2, k2, f2⟩ := r2
  simp only [List.nil_append, Nat.zero_add] at o1 o2
  try dsimp only at k1 f1 k2 f2
  have i1 := own_one o1
  have i2 := own_one o2
  have o1' : Own H2 147 1 v1 (dg q.num.natAbs).length (u32s (dg q.num.natAbs)) := by
    refine ⟨o1.1, ?_⟩
    rcases o1.2 with h | ⟨b, cap, rfl, hb, h3⟩
    · exact .inl h
    · refine .inr ⟨b, cap, rfl, ?_, h3⟩
      rw [k2 b fun e => ?_]
      · exact hb
      · rcases f2 b e with h | ⟨h, _⟩
        · cases h
        · rw [hb] at h; cases h
  have dj : ∀ k, v1.ownBlock = some k → v2.ownBlock ≠ some k := fun k e1 e2 => by
    rcases f2 k e2 with h | ⟨h, _⟩
    · cases h
    · rcases o1.2 with ⟨rfl, _⟩ | ⟨b, cap, rfl, hb, _⟩
      · cases e1
      · have : b = k := by simpa [Value.ownBlock] using e1
        subst this; rw [hb] at h; cases h
  simp only [XA]
  refine bd_go (by kernel_rfl) #[(0, .bool (ng q)), (1, v1), (2, v2)] (by simp [ev_tmp, SV.val]) (bd_rat3 rfl i1 i2) ?_
  simp only [XA]
  refine st_rat rfl rfl rfl i1 i2 ?_
  simp only [XA]
  refine hK _ ?_
  refine XWP.pubN o1' (Dig_dg _) fun H3 V3 hV3 g1 hk3 => ?_
  have o2' : Own H3 147 1 v2 (dg q.den).length (u32s (dg q.den)) := by
    refine ⟨o2.1, ?_⟩
    rcases o2.2 with h | ⟨b, cap, rfl, hb, h3⟩
    · exact .inl h
    · exact .inr ⟨b, cap, rfl, by rw [hk3 b fun e => dj b e rfl]; exact hb, h3⟩
  refine XWP.pubN o2' (Dig_dg _) fun H4 V4 hV4 g2 hk4 => ?_
  refine XWP.ret ?_
  try simp only [thenX_ret, inBlockX_ret]
  exact ret_rat1 rfl rfl rfl ⟨_, _, rfl, NatAt.mono g1 hV4, g2⟩
/-- a filled matrix: its row is the caller's -/
theorem filled_o (V : View) {g : FuncId} {lb : List Value} (R C : Nat) (G : Grid) (hcl : callable Tryz.prog g = true) (hR : R ≤ 1000) (hC : C ≤ 1000)
    (hf : ∀ V' i k, V.le V' → i < R → k < C → Spec Tryz.prog g ([.int .i64 (i : Int), .int .i64 (k : Int)] ++ lb) V' fun v' V'' => RatC V'' v' (G i k)) :
    SpecO Tryz.prog 181 [.int .i64 (R : Int), .int .i64 (C : Int), .func (.func g) #[] lb.toArray] V fun v' V' o => ∃ sl cells, v' = .agg #[.int .i64 (R : Int), .int .i64 (C : Int), sl] ∧ Own (addRow (fun _ => none) o) 49 3 sl (R * C) cells ∧ RowAt ratE V' cells (flatG G R C) := by
  have hRC : R * C ≤ 1000000 := Nat.le_trans (Nat.mul_le_mul hR hC) (by decide)
  refine (SpecO.enter Tryz.func181 rfl fun Γ => ?_)
  simp only [Tryz.ntmps181, List.map_cons, List.map_nil, List.length_cons, List.length_nil, Nat.reduceAdd, Nat.reduceSub, List.replicate_succ, List.replicate_zero, List.cons_append, List.nil_append]
  refine Gx.a (by kernel_rfl) fun K hK => ?_
  simp only [XM, XA]
  refine hK _ ?_
  refine Gx.a (by kernel_rfl) fun K hK => ?_
  simp only [XA]
  refine bd_go (by kernel_rfl) #[(0, .int .i64 (R : Int)), (1, .int .i64 (C : Int))] (by simp [ev_tmp, SV.val]) (bd_mtx2 rfl rfl) ?_
  simp only [XM, XA]
  refine st_mat shapeT_24 rfl rfl rfl rfl rfl ?_
  simp only [XA]
  refine hK _ ?_
  clear hK
  refine XWP.cut (fun s => ∃ (V2 : View) (H5 : Heap) (sl : Value) (cells : List Value), StIs (fun Z => [Z 0,Z 1,Z 2,Z 3,Z 4,Z 5, .p 0 0, .p 1 0, Z 8,Z 9,Z 10,Z 11,Z 12,Z 13,Z 14,Z 15,Z 16,Z 17,Z 18,Z 19,Z 20,Z 21,Z 22,Z 23,Z 24,Z 25,Z 26,Z 27,Z 28,Z 29,Z 30,Z 31,Z 32]) [[.int .i64 0, .int .i64 0, .slice none 0 0], [.int .i64 (R : Int), .int .i64 (C : Int), sl]] H5 V2 s ∧ Own H5 49 3 sl (R * C) cells ∧ RowAt ratE V2 cells (flatG G R C)) ?_ ?_
  · refine Gx.a (by kernel_rfl) fun K hK => ?_
    simp only [XA]
    refine hK _ ?_
    clear hK
    refine XWP.block ?_
    refine XWP.loop (fun q s => ∃ (i : Nat) (V2 : View) (H5 : Heap) (sl : Value) (cells : List Value), StIs (fun Z => [.v (.int .i64 (R : Int)), .v (.int .i64 (C : Int)), .v (.func (.func g) #[] lb.toArray), Z 3,Z 4,Z 5, .p 0 0, .p 1 0, Z 8,Z 9,Z 10,Z 11,Z 12, .v (.int .i64 (R : Int)), .v (.int .i64 (i : Int)), Z 15,Z 16,Z 17,Z 18,Z 19,Z 20,Z 21,Z 22,Z 23,Z 24,Z 25,Z 26,Z 27,Z 28,Z 29,Z 30,Z 31,Z 32]) [[.int .i64 0, .int .i64 0, .slice none 0 0], [.int .i64 (R : Int), .int .i64 (C : Int), sl]] H5 V2 s ∧ q + i = R ∧ V.le V2 ∧ Own H5 49 3 sl (i * C) cells ∧ RowAt ratE V2 cells (mk (i * C) (flatF G C))) R ⟨0, V, _, _, [], StIs.of (by exact rfl), by omega, View.le_refl _, by rw [Nat.zero_mul]; exact own_nil, by rw [Nat.zero_mul]; exact RowAt.nil _⟩ ?_
    rintro q s ⟨i, V2, H5, sl, cells, hs, hq, hV2, hown, hrow⟩
    obtain ⟨z, rfl⟩ := hs.out
    try dsimp only
    clear hs
    by_cases hi : i < R
    rotate_left
    · obtain rfl : i = R := by omega
      have b1 : decide ((i : Int) < (i : Int)) = false := decide_eq_false (by omega)
      refine Gx.a (by kernel_rfl) fun K hK => ?_
      simp only [XA, XB, b1]
      refine hK _ ?_
      refine XWP.seq (Gx.f rfl ?_)
      refine XWP.exit ?_
      exact ⟨V2, H5, sl, cells, StIs.of (by exact rfl), hown, hrow⟩
    have b1 : decide ((i : Int) < (R : Int)) = true := decide_eq_true (by omega)
    refine Gx.a (by kernel_rfl) fun K hK => ?_
    simp only [XA, XB, b1]
    refine hK _ ?_
    refine XWP.seq (Gx.t rfl ?_)
    refine XWP.skip ?_
    refine XWP.cut (fun s => ∃ (V3 : View) (H6 : Heap) (sl : Value) (cells : List Value), StIs (fun Z => [.v (.int .i64 (R : Int)), .v (.int .i64 (C : Int)), .v (.func (.func g) #[] lb.toArray), Z 3,Z 4,Z 5, .p 0 0, .p 1 0, Z 8,Z 9,Z 10,Z 11,Z 12, .v (.int .i64 (R : Int)), .v (.int .i64 (i : Int)), Z 15,Z 16,Z 17,Z 18,Z 19,Z 20,Z 21,Z 22,Z 23,Z 24,Z 25,Z 26,Z 27,Z 28,Z 29,Z 30,Z 31,Z 32]) [[.int .i64 0, .int .i64 0, .slice none 0 0], [.int .i64 (R : Int), .int .i64 (C : Int), sl]] H6 V3 s ∧ V2.le V3 ∧ Own H6 49 3 sl ((i + 1) * C) cells ∧ RowAt ratE V3 cells (mk ((i + 1) * C) (flatF G C))) ?_ ?_
    · refine XWP.block ?_
      refine Gx.a (by kernel_rfl) fun K hK => ?_
      simp only [XA]
      refine hK _ ?_
      refine Gx.a (by kernel_rfl) fun K hK => ?_
      simp only [XA]
      refine hK _ ?_
      clear hK
      refine XWP.block ?_
      refine XWP.loop (fun r s => ∃ (k : Nat) (V3 : View) (H6 : Heap) (sl : Value) (cells : List Value), StIs (fun Z => [.v (.int .i64 (R : Int)), .v (.int .i64 (C : Int)), .v (.func (.func g) #[] lb.toArray), Z 3,Z 4,Z 5, .p 0 0, .p 1 0, .v (.int .i64 (i : Int)), Z 9,Z 10,Z 11,Z 12, .v (.int .i64 (R : Int)), .v (.int .i64 (i : Int)), Z 15,Z 16, .v (.int .i64 (C : Int)), .v (.int .i64 (k : Int)), Z 19,Z 20,Z 21,Z 22,Z 23,Z 24,Z 25,Z 26,Z 27,Z 28,Z 29,Z 30,Z 31,Z 32]) [[.int .i64 0, .int .i64 0, .slice none 0 0], [.int .i64 (R : Int), .int .i64 (C : Int), sl]] H6 V3 s ∧ r + k = C ∧ V2.le V3 ∧ Own H6 49 3 sl (i * C + k) cells ∧ RowAt ratE V3 cells (mk (i * C + k) (flatF G C))) C ⟨0, V2, _, _, _, StIs.of (by exact rfl), by omega, View.le_refl _, hown, hrow⟩ ?_
      clear hown hrow
      rintro r s ⟨k, V3, H6, sl, cells, hs, hr, hV3, hown, hrow⟩
      obtain ⟨z, rfl⟩ := hs.out
      try dsimp only
      clear hs
      by_cases hk : k < C
      rotate_left
      · obtain rfl : k = C := by omega
        have b2 : decide ((k : Int) < (k : Int)) = false := decide_eq_false (by omega)
        refine Gx.a (by kernel_rfl) fun K hK => ?_
        simp only [XA, XB, b2]
        refine hK _ ?_
        refine XWP.seq (Gx.f rfl ?_)
        refine XWP.exit ?_
        have e : (i + 1) * k = i * k + k := by rw [Nat.add_mul, Nat.one_mul]
        exact ⟨V3, H6, sl, cells, StIs.of (by exact rfl), hV3, by rw [e]; exact hown, by rw [e]; exact hrow⟩
      have b2 : decide ((k : Int) < (C : Int)) = true := decide_eq_true (by omega)
      have hp := pos_lt hi hk
      refine Gx.a (by kernel_rfl) fun K hK => ?_
      simp only [XA, XB, b2]
      refine hK _ ?_
      refine XWP.seq (Gx.t rfl ?_)
      refine XWP.skip ?_
      refine XWP.seq ?_
      refine XWP.block ?_
      refine Gx.a (by kernel_rfl) fun K hK => ?_
      simp only [XA]
      refine hK _ ?_
      (refine XWP.drw1 [0, 1, 2, 3, 4, 5, 6, 7, 8, 9] (by kernel_rfl) (by kernel_rfl) (by kernel_rfl) fun K hK => ?_) <;> dsimp only [pickOps, List.getElem?_cons_zero, List.getElem?_cons_succ]
      simp only [XM, XA, XB, cv_gob]
      refine call_gob (ys := [.int .i64 (i : Int), .int .i64 (k : Int)]) hcl (hf _ i k (View.le_trans hV2 hV3) hi hk) fun v4 V4 hV4 h4 => ?_
      obtain ⟨x4, y4, rfl, o1, o2⟩ := h4.form
      simp only [XA]
      refine bs_go (by kernel_rfl) #[(0, .agg #[.bool (ng (G i k)), x4, y4])] (by simp [ev_tmp, SV.val]) (bs_rat elemT_22) fun b3 hb3 hb4 => ?_
      simp only [XA, Nat.reduceAdd]
      refine ap_go elemT_22 (by kernel_rfl) zeroT_49 rfl (by omega) (own_upd hown hb3) (src3 (upd_at _ _ _) rfl o1 o2) (by omega) (by omega) fun v' H' hres => ?_
      simp only [XM, XA]
      refine st_one shapeT_22 rfl (own_isOne hres.1) (by simp) ?_
      simp only [XA]
      refine hK _ ?_
      have hrow' := (hrow.mono ratE_ok hV4).snoc (show isOne (.bool (ng (G i k))) = true from rfl) o1 o2 h4
      rw [← flatF_at G hk, ← mk_succ (i * C + k) (flatF G C)] at hrow'
      rw [← flatF_at G hk] at hres
      refine Gx.c (by kernel_rfl) fun K hK => ?_
      simp only [XA, XB, i64_succ k (by omega)]
      exact hK _ ⟨r - 1, by omega, k + 1, V4, _, _, _, StIs.of (by exact rfl), by omega, View.le_trans hV3 hV4, by rw [← Nat.add_assoc]; exact hres.1, by rw [← Nat.add_assoc]; exact hrow'⟩
    clear hown hrow
    rintro s ⟨V3, H6, sl, cells, hs, hV3, hown, hrow⟩
    obtain ⟨z, rfl⟩ := hs.out
    try dsimp only
    refine Gx.c (by kernel_rfl) fun K hK => ?_
    simp only [XA, XB, i64_succ i (by omega)]
    exact hK _ ⟨q - 1, by omega, i + 1, V3, _, _, _, StIs.of (by exact rfl), by omega, View.le_trans hV2 hV3, hown, hrow⟩
  rintro s ⟨V2, H5, sl, cells, hs, hown, hrow⟩
  obtain ⟨z, rfl⟩ := hs.out
  try dsimp only
  have osl := own_isOne hown
  refine Gx.a (by kernel_rfl) fun K hK => ?_
  simp only [XM, XA, Nat.reduceAdd, Nat.reduceLeDiff, ↓reduceIte]
  refine st_mat shapeT_24 rfl rfl rfl rfl osl ?_
  simp only [XA]
  refine hK _ (XWP.ret ?_)
  try simp only [thenX_ret, inBlockX_ret]
  rcases own_parts hown with ⟨rfl, h0, rfl⟩ | ⟨g, cap, rfl, hg, hle, hcap, hcl⟩
  · refine ret_own _ none (by simp [resAll, resV, cellsV, shapeT_24]; rfl) (fun g' q e => by cases e) ⟨_, [], rfl, ⟨by rw [h0]; rfl, .inl ⟨rfl, h0⟩⟩, hrow⟩
  · refine ret_own _ (some (g, _)) (by simp [resAll, resV, cellsV, shapeT_24]; rfl) (fun g' q e => by cases e; exact hg) ⟨_, cells, rfl, own3 (show upd (fun _ => none) g (some _) g = some _ from upd_at _ _ _) hcl hle (by unfold maxLen at hcap; omega), hrow⟩
end Go.Proofs.YtkgmicakfmllmaaGreat
end
