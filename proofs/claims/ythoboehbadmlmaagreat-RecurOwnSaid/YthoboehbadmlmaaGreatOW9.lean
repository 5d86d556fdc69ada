/- The law RecurOwn answers true at every input: every square matrix is a root of its characteristic polynomial. (part 9 of 11) -/
import Derived.OrdersHeld
import Derived.Below
import Derived.Tactics
import Derived.KernelRfl
import Derived.RangeFuncCalls
import Derived.RangeFuncFrom
import Derived.RangeFuncLeaves
import Derived.OrdersIn
import Derived.Laws.AppendOwn
import Derived.Laws.MakeOwn
import Derived.Laws.CopyRow
import Derived.Laws.Cells
import Derived.Laws.World
import Derived.Laws.Alloc2
import Derived.Laws.NewBlocks
import Derived.Maps.AppendAt
import Derived.Test.YthoboehbadmlmaaGreatProg
import Init.Data.List.Lemmas
import Init.Omega
import Derived.WalkKit
import Derived.ProofKit
import Derived.OpenShut
import Derived.ChangeOld
import Derived.SizedLaws
import Derived.ChangeSlices
import Derived.ChangeArms
import Derived.Deep.Slices
import Derived.Test.YthoboehbadmlmaaGreatOW8
section
namespace Go.Proofs.YthoboehbadmlmaaGreat
set_option linter.unusedVariables false
def pv (a : Nat → Rat) (d : Nat) (x : Rat) : Rat := Sm (fun k => a k * x ^ k) (d + 1)
/-- what the numbers from one on are worth -/
def hv (a : Nat → Rat) (c : Rat) : Nat → Nat → Rat
  | 0, _ => 0
  | t + 1, m => a m + c * hv a c t (m + 1)
theorem rpow_succ (x : Rat) (k : Nat) : x ^ (k + 1) = x ^ k * x := Rat.pow_succ x k
theorem rpow_zero (x : Rat) : x ^ 0 = 1 := Rat.pow_zero x
theorem hv_split (a : Nat → Rat) (c x : Rat) (T : Nat) : ∀ m, m ≤ T → Sm (fun k => a k * x ^ k) m = hv a c T 0 + (x - c) * Sm (fun k => hv a c (T - (k + 1)) (k + 1) * x ^ k) m - hv a c (T - m) m * x ^ m
  | 0, _ => by
    simp only [Sm, Nat.sub_zero, rpow_zero]; grind
  | m + 1, h => by
    have ih := hv_split a c x T m (by omega)
    show Sm (fun k => a k * x ^ k) m + a m * x ^ m = hv a c T 0 + (x - c) * (Sm (fun k => hv a c (T - (k + 1)) (k + 1) * x ^ k) m + hv a c (T - (m + 1)) (m + 1) * x ^ m) - hv a c (T - (m + 1)) (m + 1) * x ^ (m + 1)
    obtain ⟨t, ht⟩ : ∃ t, T - m = t + 1 := ⟨T - m - 1, by omega⟩
    have e1 : T - (m + 1) = t := by omega
    rw [ih, ht, e1, rpow_succ, hv]
    grind
/-- a polynomial that is 0 at more places than its degree -/
theorem poly_zero : ∀ (d : Nat) (a p : Nat → Rat), (∀ i j, i ≤ d → j ≤ d → p i = p j → i = j) → (∀ i, i ≤ d → pv a d (p i) = 0) → ∀ k, k ≤ d → a k = 0
  | 0, a, p, _, h, k, hk => by
    have := h 0 (Nat.le_refl _)
    unfold pv at this
    simp only [Sm, rpow_zero] at this
    have : k = 0 := by omega
    subst this
    grind
  | d + 1, a, p, hp, h, k, hk => by
    have hs := fun x => hv_split a (p (d + 1)) x (d + 2) (d + 2) (Nat.le_refl _)
    have e0 : ∀ x, hv a (p (d + 1)) (d + 2 - (d + 2)) (d + 2) * x ^ (d + 2) = 0 := fun x => by rw [Nat.sub_self, hv]; grind
    have hH : hv a (p (d + 1)) (d + 2) 0 = 0 := by
      have h1 := h (d + 1) (Nat.le_refl _)
      have h2 := hs (p (d + 1))
      unfold pv at h1
      rw [h1, e0] at h2
      grind
    have hq : ∀ i, i ≤ d → pv (fun k => hv a (p (d + 1)) (d + 2 - (k + 1)) (k + 1)) d (p i) = 0 := fun i hi => by
      have h1 := h i (by omega)
      have h2 := hs (p i)
      unfold pv at h1 ⊢
      rw [h1, e0, hH] at h2
      have h3 : Sm (fun k => hv a (p (d + 1)) (d + 2 - (k + 1)) (k + 1) * p i ^ k) (d + 2) = Sm (fun k => hv a (p (d + 1)) (d + 2 - (k + 1)) (k + 1) * p i ^ k) (d + 1) := by
        show Sm _ (d + 1) + hv a (p (d + 1)) (d + 2 - (d + 1 + 1)) (d + 1 + 1) * p i ^ (d + 1) = _
        rw [show d + 2 - (d + 1 + 1) = 0 by omega, hv]; grind
      rw [h3] at h2
      have hne : p i - p (d + 1) ≠ 0 := fun e => by
        have := hp i (d + 1) (by omega) (Nat.le_refl _) (by grind)
        omega
      have h4 : (p i - p (d + 1)) * Sm (fun k => hv a (p (d + 1)) (d + 2 - (k + 1)) (k + 1) * p i ^ k) (d + 1) = 0 := by grind
      rcases Rat.mul_eq_zero.1 h4 with e | e
      · exact absurd e hne
      · exact e
    have hz := poly_zero d _ p (fun i j hi hj => hp i j (by omega) (by omega)) hq
    have ha : ∀ m, m ≤ d + 2 → hv a (p (d + 1)) (d + 2 - m) m = 0 := fun m hm => by
      rcases Nat.eq_zero_or_pos m with e | e
      · subst e; exact hH
      · by_cases e2 : m = d + 2
        · subst e2; rw [Nat.sub_self, hv]
        · have := hz (m - 1) (by omega)
          simp only [show m - 1 + 1 = m by omega] at this
          exact this
    have h1 := ha k (by omega)
    obtain ⟨t, ht⟩ : ∃ t, d + 2 - k = t + 1 := ⟨d + 1 - k, by omega⟩
    have h2 := ha (k + 1) (by omega)
    rw [ht, hv] at h1
    rw [show d + 2 - (k + 1) = t by omega] at h2
    rw [h2] at h1
    grind
theorem poly_all {d : Nat} {a b : Nat → Rat} (h : ∀ x, pv a d x = pv b d x) : ∀ k, k ≤ d → a k = b k := fun k hk => by
  have := poly_zero d (fun k => a k - b k) (fun i => (i : Rat)) (fun i j _ _ e => Rat.natCast_inj.1 e) (fun i _ => by
    have := h i
    unfold pv at this ⊢
    have e : (fun k => (a k - b k) * (i : Rat) ^ k) = fun k => a k * (i : Rat) ^ k - b k * (i : Rat) ^ k := by funext k; grind
    rw [e, Sm_sub, this]; grind) k hk
  grind
def PolyF (d : Nat) (f : Rat → Rat) : Prop := ∃ a : Nat → Rat, ∀ x, f x = pv a d x
theorem pv_more {a : Nat → Rat} {d e : Nat} (h : d ≤ e) (x : Rat) : pv (fun k => if k ≤ d then a k else 0) e x = pv a d x := by
  unfold pv
  rw [Sm_more (show d + 1 ≤ e + 1 by omega) fun j h1 h2 => by
    show (if j ≤ d then a j else 0) * x ^ j = 0
    rw [if_neg (by omega)]; grind]
  exact Sm_congr _ fun j hj => by
    show (if j ≤ d then a j else 0) * x ^ j = a j * x ^ j
    rw [if_pos (by omega)]
theorem PolyF.mono {d e : Nat} {f : Rat → Rat} (h : PolyF d f) (hd : d ≤ e) : PolyF e f := by
  obtain ⟨a, ha⟩ := h
  exact ⟨_, fun x => by rw [ha, ← pv_more hd]⟩
theorem PolyF.lin {d : Nat} {f g : Rat → Rat} (u v : Rat) (h : PolyF d f) (h2 : PolyF d g) : PolyF d (fun x => u * f x + v * g x) := by
  obtain ⟨a, ha⟩ := h
  obtain ⟨b, hb⟩ := h2
  refine ⟨fun k => u * a k + v * b k, fun x => ?_⟩
  simp only [ha, hb]
  unfold pv
  rw [← Sm_mul, ← Sm_mul, ← Sm_add]
  exact Sm_congr _ fun k _ => by grind
theorem PolyF.const (c : Rat) (d : Nat) : PolyF d (fun _ => c) := by
  have : PolyF 0 (fun _ => c) := ⟨fun _ => c, fun x => by unfold pv; simp only [Sm, rpow_zero]; grind⟩
  exact this.mono (Nat.zero_le d)
/-- the numbers of (u + v x) times a polynomial -/
def affC (u v : Rat) (a : Nat → Rat) (d k : Nat) : Rat := u * (if k ≤ d then a k else 0) + v * (if 1 ≤ k then a (k - 1) else 0)
theorem affC_pv (u v : Rat) (a : Nat → Rat) (d : Nat) (x : Rat) : pv (affC u v a d) (d + 1) x = (u + x * v) * pv a d x := by
  have e : pv (affC u v a d) (d + 1) x = u * pv (fun k => if k ≤ d then a k else 0) (d + 1) x + v * Sm (fun k => (if 1 ≤ k then a (k - 1) else 0) * x ^ k) (d + 2) := by
    unfold pv affC
    rw [← Sm_mul, ← Sm_mul, ← Sm_add]
    exact Sm_congr _ fun k _ => by grind
  rw [e, pv_more (by omega), Sm_front]
  have e2 : Sm (fun j => (if 1 ≤ j + 1 then a (j + 1 - 1) else 0) * x ^ (j + 1)) (d + 1) = x * pv a d x := by
    unfold pv
    rw [← Sm_mul]
    exact Sm_congr _ fun k _ => by rw [if_pos (by omega), Nat.add_sub_cancel, rpow_succ]; grind
  rw [e2, if_neg (by omega)]
  grind
theorem PolyF.aff {d : Nat} {f : Rat → Rat} (u v : Rat) (h : PolyF d f) : PolyF (d + 1) (fun x => (u + x * v) * f x) := by
  obtain ⟨a, ha⟩ := h
  exact ⟨affC u v a d, fun x => by
    show (u + x * v) * f x = _
    rw [affC_pv, ha]⟩
/-- the determinant of a matrix whose cells go up and down with x -/
theorem det_poly : ∀ (n : Nat) (A B : Grid), ∃ a : Nat → Rat, (∀ x, detL n (fun i k => A i k + x * B i k) = pv a n x) ∧ a n = detL n B
  | 0, A, B => ⟨fun _ => 1, fun x => by unfold pv; simp only [Sm, rpow_zero, detL]; grind, rfl⟩
  | n + 1, A, B => by
    obtain ⟨α, hα⟩ := Classical.axiomOfChoice fun j => det_poly n (minor A j) (minor B j)
    refine ⟨fun k => Sm (fun j => sg1 j * affC (A 0 j) (B 0 j) (α j) n k) (n + 1), fun x => ?_, ?_⟩
    · unfold pv
      have e : (fun k => Sm (fun j => sg1 j * affC (A 0 j) (B 0 j) (α j) n k) (n + 1) * x ^ k) = fun k => Sm (fun j => sg1 j * (affC (A 0 j) (B 0 j) (α j) n k * x ^ k)) (n + 1) := by
        funext k
        rw [show Sm (fun j => sg1 j * affC (A 0 j) (B 0 j) (α j) n k) (n + 1) * x ^ k = x ^ k * Sm (fun j => sg1 j * affC (A 0 j) (B 0 j) (α j) n k) (n + 1) by grind, ← Sm_mul]
        exact Sm_congr _ fun j _ => by grind
      rw [e, Sm_swap (fun k j => sg1 j * (affC (A 0 j) (B 0 j) (α j) n k * x ^ k)), detL]
      refine Sm_congr _ fun j _ => ?_
      rw [Sm_mul]
      have := affC_pv (A 0 j) (B 0 j) (α j) n x
      unfold pv at this
      rw [this]
      have h2 := (hα j).1 x
      unfold pv at h2
      rw [← h2]
      rfl
    · rw [detL]
      refine Sm_congr _ fun j _ => ?_
      unfold affC
      rw [if_neg (by omega), if_pos (by omega), Nat.add_sub_cancel, (hα j).2]
      grind
/-- what stands of a polynomial at 0, and its slope there -/
def F1 (f : Rat → Rat) (a b : Rat) : Prop := ∃ d g, PolyF d g ∧ ∀ h, f h = a + h * b + h * h * g h
theorem F1.const (c : Rat) : F1 (fun _ => c) c 0 := ⟨0, fun _ => 0, PolyF.const 0 0, fun h => by grind⟩
theorem F1.add {f g : Rat → Rat} {a b a' b' : Rat} (h1 : F1 f a b) (h2 : F1 g a' b') : F1 (fun h => f h + g h) (a + a') (b + b') := by
  obtain ⟨d, u, hu, e⟩ := h1
  obtain ⟨d', u', hu', e'⟩ := h2
  refine ⟨d + d', _, (hu.mono (Nat.le_add_right d d')).lin 1 1 (hu'.mono (Nat.le_add_left d' d)), fun h => ?_⟩
  simp only [e, e']; grind
theorem F1.smul {f : Rat → Rat} {a b : Rat} (c : Rat) (h1 : F1 f a b) : F1 (fun h => c * f h) (c * a) (c * b) := by
  obtain ⟨d, u, hu, e⟩ := h1
  exact ⟨d, _, hu.lin c 0 hu, fun h => by simp only [e]; grind⟩
theorem F1.shift {f : Rat → Rat} {a b : Rat} (x : Rat) (h1 : F1 f a b) : F1 (fun h => (x + h) * f h) (x * a) (x * b + a) := by
  obtain ⟨d, u, hu, e⟩ := h1
  refine ⟨d + 1, _, (hu.aff x 1).lin 1 1 (PolyF.const b (d + 1)), fun h => ?_⟩
  simp only [e]; grind
theorem PolyF.low {d : Nat} {f : Rat → Rat} (h : PolyF d f) : ∃ d g, PolyF d g ∧ ∀ x, f x = f 0 + x * g x := by
  obtain ⟨a, ha⟩ := h
  have e0 : f 0 = a 0 := by
    rw [ha, pv, Sm_front, Sm_zero _ fun j _ => by rw [rpow_succ]; grind]
    rw [rpow_zero]; grind
  cases d with
  | zero => exact ⟨0, fun _ => 0, PolyF.const 0 0, fun x => by rw [e0, ha]; unfold pv; simp only [Sm, rpow_zero]; grind⟩
  | succ d =>
    refine ⟨d, fun x => pv (fun k => a (k + 1)) d x, ⟨_, fun x => rfl⟩, fun x => ?_⟩
    show f x = f 0 + x * Sm (fun k => a (k + 1) * x ^ k) (d + 1)
    rw [e0, ha, pv, Sm_front, ← Sm_mul, rpow_zero]
    have : Sm (fun j => a (j + 1) * x ^ (j + 1)) (d + 1) = Sm (fun j => x * (a (j + 1) * x ^ j)) (d + 1) := Sm_congr _ fun j _ => by rw [rpow_succ]; grind
    rw [this]; grind
theorem F1.addh {f f2 : Rat → Rat} {a b : Rat} {d : Nat} (h1 : F1 f a b) (h2 : PolyF d f2) : F1 (fun h => f h + h * f2 h) a (b + f2 0) := by
  obtain ⟨d1, u, hu, e⟩ := h1
  obtain ⟨d2, g, hg, e2⟩ := h2.low
  refine ⟨d1 + d2, _, (hu.mono (Nat.le_add_right d1 d2)).lin 1 1 (hg.mono (Nat.le_add_left d2 d1)), fun h => ?_⟩
  show f h + h * f2 h = _
  rw [e h, e2 h]; grind
theorem F1.uniq {f : Rat → Rat} {a b a' b' : Rat} (h1 : F1 f a b) (h2 : F1 f a' b') : b = b' := by
  obtain ⟨d, u, hu, e⟩ := h1
  obtain ⟨d', u', hu', e'⟩ := h2
  obtain ⟨p, hp⟩ := (hu.mono (Nat.le_add_right d d')).lin 1 (-1) (hu'.mono (Nat.le_add_left d' d))
  have hz : ∀ x, pv (fun k => if k = 0 then a - a' else if k = 1 then b - b' else p (k - 2)) (d + d' + 2) x = pv (fun _ => 0) (d + d' + 2) x := fun x => by
    have h0 : pv (fun _ => 0) (d + d' + 2) x = 0 := Sm_zero _ fun j _ => by grind
    rw [h0, pv, Sm_front, Sm_front]
    have h3 : Sm (fun j => (if j + 1 + 1 = 0 then a - a' else if j + 1 + 1 = 1 then b - b' else p (j + 1 + 1 - 2)) * x ^ (j + 1 + 1)) (d + d' + 1) = x * x * pv p (d + d') x := by
      rw [pv, ← Sm_mul]
      exact Sm_congr _ fun j _ => by rw [if_neg (by omega), if_neg (by omega), show j + 1 + 1 - 2 = j by omega, rpow_succ, rpow_succ]; grind
    rw [h3, ← hp]
    have e1 := e x
    rw [e'] at e1
    simp only [if_pos, if_neg (show ¬ (0 + 1 = 0) by omega), rpow_zero, rpow_succ]
    grind
  have := poly_all hz 1 (by omega)
  simp only [if_neg (show ¬ (1 = 0) by omega), if_pos] at this
  grind
def dv (x : Rat) : Nat → Rat
  | 0 => 0
  | k + 1 => x * dv x k + x ^ k
theorem dv_eq (x : Rat) : ∀ k, dv x (k + 1) = ((k : Rat) + 1) * x ^ k
  | 0 => by simp only [dv, rpow_zero]; grind
  | k + 1 => by
    rw [dv, dv_eq x k, rpow_succ, Rat.natCast_add]
    grind
theorem F1.pow (x : Rat) : ∀ k, F1 (fun h => (x + h) ^ k) (x ^ k) (dv x k)
  | 0 => by
    simp only [rpow_zero, dv]
    exact F1.const 1
  | k + 1 => by
    have := (F1.pow x k).shift x
    have e : (fun h => (x + h) ^ (k + 1)) = fun h => (x + h) * (x + h) ^ k := by funext h; rw [rpow_succ]; grind
    have e2 : x ^ (k + 1) = x * x ^ k := by rw [rpow_succ]; grind
    rw [e, e2, dv]
    exact this
theorem F1.pv (c : Nat → Rat) (x : Rat) : ∀ m, F1 (fun h => Sm (fun k => c k * (x + h) ^ k) m) (Sm (fun k => c k * x ^ k) m) (Sm (fun k => c k * dv x k) m)
  | 0 => F1.const 0
  | m + 1 => (F1.pv c x m).add ((F1.pow x m).smul (c m))
theorem F1.det {n : Nat} (A : Grid) : ∀ m, m ≤ n → F1 (fun h => detL n (fun i k => A i k + h * (if i < m then gid i k else 0))) (detL n A) (Sm (fun j => adjG n A j j) m)
  | 0, _ => by
    have e : (fun h : Rat => detL n (fun i k => A i k + h * (if i < 0 then gid i k else 0))) = fun _ => detL n A := by
      funext h; congr 1; funext i k; rw [if_neg (by omega)]; grind
    rw [e]; exact F1.const _
  | m + 1, hm => by
    have ih := F1.det (n := n) A m (by omega)
    obtain ⟨a, ha, _⟩ := det_poly n (setR A m (gid m)) (fun i k => if i < m then gid i k else 0)
    have := ih.addh ⟨a, ha⟩
    have e : (fun h : Rat => detL n (fun i k => A i k + h * (if i < m + 1 then gid i k else 0))) = fun h => detL n (fun i k => A i k + h * (if i < m then gid i k else 0)) + h * detL n (fun i k => setR A m (gid m) i k + h * (if i < m then gid i k else 0)) := by
      funext h
      have hl := detL_lin 1 h n (fun i k => A i k + h * (if i < m then gid i k else 0)) m (fun k => A m k + h * (if m < m then gid m k else 0)) (gid m) (by omega)
      rw [setR_self (fun i k => A i k + h * (if i < m then gid i k else 0)) m] at hl
      have e1 : (setR (fun i k => A i k + h * (if i < m then gid i k else 0)) m fun k => 1 * (A m k + h * (if m < m then gid m k else 0)) + h * gid m k) = fun i k => A i k + h * (if i < m + 1 then gid i k else 0) := by
        funext i k; unfold setR
        by_cases ei : i = m
        · subst ei; simp; grind
        · have e3 : (i < m + 1) = (i < m) := by apply propext; omega
          simp only [if_neg ei, e3]
      have e2 : setR (fun i k => A i k + h * (if i < m then gid i k else 0)) m (gid m) = fun i k => setR A m (gid m) i k + h * (if i < m then gid i k else 0) := by
        funext i k; unfold setR
        by_cases ei : i = m
        · subst ei; simp; grind
        · simp only [if_neg ei]
      rw [e1, e2] at hl
      rw [hl]; grind
    rw [e]
    have e0 : detL n (fun i k => setR A m (gid m) i k + 0 * (if i < m then gid i k else 0)) = adjG n A m m := by
      unfold adjG; congr 1; funext i k; grind
    rw [e0] at this
    exact this
end Go.Proofs.YthoboehbadmlmaaGreat
end
section
namespace Go.Proofs.YthoboehbadmlmaaGreat
set_option linter.unusedVariables false
/-- what is known of a matrix's characteristic polynomial and of the adjugate's -/
structure ChrP (M : Grid) (n : Nat) (c : Nat → Rat) (β : Nat → Nat → Nat → Rat) : Prop where
  chi : ∀ x, detL n (fun i k => -M i k + x * gid i k) = pv c n x
  top : c n = 1
  bn : ∀ i j, j < n → β i j n = 0
  rel : ∀ k j m, k < n → j < n → m ≤ n → (if 1 ≤ m then β k j (m - 1) else 0) - Sm (fun i => M k i * β i j m) n = if k = j then c m else 0
  tr : ∀ m, m < n → Sm (fun j => β j j m) n = ((m : Rat) + 1) * c (m + 1)
theorem pv_cut {a : Nat → Rat} {n : Nat} (h : a n = 0) (x : Rat) : pv a n x = Sm (fun k => a k * x ^ k) n := by
  show Sm (fun k => a k * x ^ k) n + a n * x ^ n = _
  rw [h]; grind
theorem chr_of (M : Grid) (n : Nat) : ∃ c β, ChrP M n c β := by
  obtain ⟨c, hc, hcn⟩ := det_poly n (fun i k => -M i k) gid
  rw [detL_id] at hcn
  obtain ⟨β, hβ⟩ := Classical.axiomOfChoice fun p : Nat × Nat => det_poly n (setR (fun i k => -M i k) p.2 (gid p.1)) (setR gid p.2 fun _ => 0)
  have hb0 : ∀ i j, j < n → β (i, j) n = 0 := fun i j hj => by
    rw [(hβ (i, j)).2]; exact detL_zrow hj fun k _ => setR_at _ _ _ _
  have hadj : ∀ x i j, adjG n (fun i k => -M i k + x * gid i k) i j = pv (β (i, j)) n x := fun x i j => by
    rw [← (hβ (i, j)).1]
    unfold adjG
    congr 1
    funext a k
    unfold setR
    by_cases e : a = j
    · simp only [if_pos e]; grind
    · simp only [if_neg e]
  refine ⟨c, fun i j => β (i, j), hc, hcn, hb0, fun k j m hk hj hm => ?_, fun m hm => ?_⟩
  · have key : ∀ x, pv (fun m => (if 1 ≤ m then β (k, j) (m - 1) else 0) - Sm (fun i => M k i * β (i, j) m) n - (if k = j then c m else 0)) n x = pv (fun _ => 0) n x := fun x => by
      have h0 : pv (fun _ => 0) n x = 0 := Sm_zero _ fun j _ => by grind
      have e1 : pv (fun m => (if 1 ≤ m then β (k, j) (m - 1) else 0) - Sm (fun i => M k i * β (i, j) m) n - (if k = j then c m else 0)) n x = Sm (fun m => (if 1 ≤ m then β (k, j) (m - 1) else 0) * x ^ m) (n + 1) - Sm (fun m => Sm (fun i => M k i * (β (i, j) m * x ^ m)) n) (n + 1) - (if k = j then pv c n x else 0) := by
        have e2 : (if k = j then pv c n x else 0) = Sm (fun m => (if k = j then c m else 0) * x ^ m) (n + 1) := by
          split
          · rfl
          · exact (Sm_zero _ fun j _ => by grind).symm
        rw [e2, ← Sm_sub, ← Sm_sub]
        refine Sm_congr _ fun m _ => ?_
        have e3 : Sm (fun i => M k i * (β (i, j) m * x ^ m)) n = x ^ m * Sm (fun i => M k i * β (i, j) m) n := by
          rw [← Sm_mul]; exact Sm_congr _ fun i _ => by grind
        show ((if 1 ≤ m then β (k, j) (m - 1) else 0) - Sm (fun i => M k i * β (i, j) m) n - (if k = j then c m else 0)) * x ^ m = _
        rw [e3]; grind
      have e4 : Sm (fun m => (if 1 ≤ m then β (k, j) (m - 1) else 0) * x ^ m) (n + 1) = x * pv (β (k, j)) n x := by
        rw [Sm_front, pv_cut (hb0 k j hj), ← Sm_mul]
        have : (if 1 ≤ 0 then β (k, j) (0 - 1) else 0) * x ^ 0 = 0 := by rw [if_neg (by omega)]; grind
        rw [this, Rat.zero_add]
        exact Sm_congr _ fun m _ => by rw [if_pos (by omega), Nat.add_sub_cancel, rpow_succ]; grind
      have e5 : Sm (fun m => Sm (fun i => M k i * (β (i, j) m * x ^ m)) n) (n + 1) = Sm (fun i => M k i * pv (β (i, j)) n x) n := by
        rw [Sm_swap (fun m i => M k i * (β (i, j) m * x ^ m))]
        exact Sm_congr _ fun i _ => by rw [Sm_mul]; rfl
      have e6 := adj_mul (fun i k => -M i k + x * gid i k) hk hj
      simp only [hadj] at e6
      rw [hc] at e6
      have e7 : Sm (fun i => (-M k i + x * gid k i) * pv (β (i, j)) n x) n = x * pv (β (k, j)) n x - Sm (fun i => M k i * pv (β (i, j)) n x) n := by
        have e8 : Sm (fun i => x * (gid k i * pv (β (i, j)) n x)) n = x * pv (β (k, j)) n x := by
          rw [Sm_mul, Sm_one hk fun i _ hne => by
            have : gid k i = 0 := by unfold gid; rw [if_neg (Ne.symm hne)]
            rw [this]; grind]
          have : gid k k = 1 := by unfold gid; rw [if_pos rfl]
          rw [this]; grind
        rw [← e8, ← Sm_sub]
        exact Sm_congr _ fun i _ => by grind
      rw [e7] at e6
      rw [e1, e4, e5, e6, h0]
      split <;> grind
    have := poly_all key m hm
    grind
  · have key : ∀ x, pv (fun m => Sm (fun j => β (j, j) m) n) n x = pv (fun m => if m < n then ((m : Rat) + 1) * c (m + 1) else 0) n x := fun x => by
      have f1 := F1.det (n := n) (fun i k => -M i k + x * gid i k) n (Nat.le_refl _)
      have f2 := F1.pv c x (n + 1)
      have e1 : (fun h : Rat => detL n (fun i k => -M i k + x * gid i k + h * (if i < n then gid i k else 0))) = fun h => Sm (fun k => c k * (x + h) ^ k) (n + 1) := by
        funext h
        have := hc (x + h)
        unfold pv at this
        rw [← this]
        exact detL_congr n fun i k hi _ => by rw [if_pos hi]; grind
      rw [e1] at f1
      have e2 := f1.uniq f2
      simp only [hadj] at e2
      have e3 : pv (fun m => Sm (fun j => β (j, j) m) n) n x = Sm (fun j => pv (β (j, j)) n x) n := by
        unfold pv
        rw [Sm_swap (fun j m => β (j, j) m * x ^ m)]
        refine Sm_congr _ fun m _ => ?_
        rw [show Sm (fun j => β (j, j) m) n * x ^ m = x ^ m * Sm (fun j => β (j, j) m) n by grind, ← Sm_mul]
        exact Sm_congr _ fun j _ => by grind
      rw [e3, e2, Sm_front, pv_cut (by rw [if_neg (by omega)])]
      have : c 0 * dv x 0 = 0 := by rw [dv]; grind
      rw [this, Rat.zero_add]
      exact Sm_congr _ fun m hm => by rw [if_pos hm, dv_eq]; grind
    have := poly_all key m (by omega)
    simp only [if_pos hm] at this
    exact this
/-- the numbers that the traces tell are those of the characteristic polynomial; the matrix is a root of it -/
theorem ChrP.traces {M : Grid} {n : Nat} {c : Nat → Rat} {β : Nat → Nat → Nat → Rat} (h : ChrP M n c β) (A : Nat → Grid) (r : Nat → Rat) (h0 : r 0 = 1) (hA0 : ∀ i j, i < n → j < n → A 0 i j = 0)
    (hA : ∀ k, k < n → ∀ i j, i < n → j < n → A (k + 1) i j = Sm (fun t => M i t * (A k t j + r k * gid t j)) n) (hr : ∀ k, k < n → r (k + 1) = Sm (fun i => A (k + 1) i i) n * (-1 / ((k : Rat) + 1))) :
    ∀ k, k ≤ n → r k = c (n - k) ∧ ∀ i j, i < n → j < n → A k i j + r k * gid i j = if k < n then β i j (n - 1 - k) else 0
  | 0, _ => by
    refine ⟨by rw [h0, Nat.sub_zero, h.top], fun i j hi hj => ?_⟩
    have := h.rel i j n hi hj (Nat.le_refl _)
    rw [Sm_zero _ fun t _ => by rw [h.bn t j hj]; grind, if_pos (by omega), h.top] at this
    rw [if_pos (by omega), hA0 i j hi hj, h0, Nat.sub_zero]
    unfold gid
    grind
  | k + 1, hk => by
    obtain ⟨_, ih⟩ := h.traces A r h0 hA0 hA hr k (by omega)
    obtain ⟨m, hm⟩ : ∃ m, m = n - 1 - k := ⟨_, rfl⟩
    have hAk : ∀ i j, i < n → j < n → A (k + 1) i j = Sm (fun t => M i t * β t j m) n := fun i j hi hj => by
      rw [hA k (by omega) i j hi hj]
      exact Sm_congr _ fun t ht => by rw [ih t j ht hj, if_pos (by omega), hm]
    have hrel : ∀ i j, i < n → j < n → (if 1 ≤ m then β i j (m - 1) else 0) - A (k + 1) i j = if i = j then c m else 0 := fun i j hi hj => by
      rw [hAk i j hi hj]; exact h.rel i j m hi hj (by omega)
    have htr : Sm (fun i => A (k + 1) i i) n = -((k : Rat) + 1) * c m := by
      have e1 : Sm (fun i => A (k + 1) i i) n = Sm (fun i => if 1 ≤ m then β i i (m - 1) else 0) n - Sm (fun _ => c m) n := by
        rw [← Sm_sub]
        exact Sm_congr _ fun i hi => by
          have := hrel i i hi hi
          rw [if_pos (show i = i from rfl)] at this
          grind
      have e2 : ∀ q : Nat, Sm (fun _ => c m) q = (q : Rat) * c m := by
        intro q
        induction q with
        | zero => simp only [Sm]; grind
        | succ q ihq =>
          show Sm (fun _ => c m) q + c m = _
          rw [ihq, Rat.natCast_add]; grind
      have e3 : Sm (fun i => if 1 ≤ m then β i i (m - 1) else 0) n = (m : Rat) * c m := by
        rcases Nat.eq_zero_or_pos m with z | z
        · rw [Sm_zero _ fun i _ => by rw [if_neg (by omega)], z]; grind
        · have := h.tr (m - 1) (by omega)
          have hm1 : m - 1 + 1 = m := by omega
          have hc1 : ((m - 1 : Nat) : Rat) + 1 = (m : Rat) := by
            have := Rat.natCast_add (m - 1) 1
            rw [hm1] at this
            rw [this]; grind
          rw [hm1, hc1] at this
          rw [← this]
          exact Sm_congr _ fun i _ => by rw [if_pos (by omega)]
      have e4 : (n : Rat) = (m : Rat) + ((k : Rat) + 1) := by
        have : n = m + (k + 1) := by omega
        rw [this, Rat.natCast_add, Rat.natCast_add]; grind
      rw [e1, e2, e3, e4]; grind
    have hrk : r (k + 1) = c m := by
      rw [hr k (by omega), htr]
      have : (k : Rat) + 1 ≠ 0 := by
        have h1 : ((k + 1 : Nat) : Rat) ≠ 0 := fun e => by
          have := Rat.natCast_inj.1 (e.trans (show (0 : Rat) = ((0 : Nat) : Rat) from rfl))
          omega
        rw [Rat.natCast_add] at h1
        exact h1
      grind
    refine ⟨by rw [hrk, hm]; congr 1; omega, fun i j hi hj => ?_⟩
    have hh := hrel i j hi hj
    have hgc : c m * gid i j = if i = j then c m else 0 := by unfold gid; split <;> grind
    rw [hrk, hgc, ← hh]
    clear hrel hAk ih hA hr hA0 hh hgc htr
    by_cases hm0 : 1 ≤ m
    · rw [if_pos hm0, if_pos (by omega), show n - 1 - (k + 1) = m - 1 by omega]; grind
    · rw [if_neg hm0, if_neg (by omega)]; grind
end Go.Proofs.YthoboehbadmlmaaGreat
end
section
namespace Go.Proofs.YthoboehbadmlmaaGreat
set_option linter.unusedVariables false
theorem detL_comb {n r : Nat} (G : Grid) (y : Nat → Rat) (hr : r < n) : detL n (setR G r fun k => Sm (fun i => y i * G i k) n) = y r * detL n G := by
  rw [detL_row G _ hr]
  have e : Sm (fun i => Sm (fun t => y t * G t i) n * adjG n G i r) n = Sm (fun t => y t * Sm (fun i => G t i * adjG n G i r) n) n := by
    have e1 : Sm (fun i => Sm (fun t => y t * G t i) n * adjG n G i r) n = Sm (fun i => Sm (fun t => y t * (G t i * adjG n G i r)) n) n := Sm_congr _ fun i _ => by
      rw [show Sm (fun t => y t * G t i) n * adjG n G i r = adjG n G i r * Sm (fun t => y t * G t i) n by grind, ← Sm_mul]
      exact Sm_congr _ fun t _ => by grind
    rw [e1, Sm_swap (fun i t => y t * (G t i * adjG n G i r))]
    exact Sm_congr _ fun t _ => Sm_mul _ _ _
  rw [e, Sm_one hr fun t ht hne => by rw [adj_mul G ht hr, if_neg hne]; grind, adj_mul G hr hr, if_pos rfl]
/-- rows that are few columns wide depend on one another -/
theorem detL_low {n k : Nat} {G : Grid} (hk : k < n) (h : ∀ i c, k ≤ i → i < n → c ≤ k → G i c = 0) : detL n G = 0 := by
  obtain ⟨y, ⟨j, hj, hy⟩, hl⟩ := few_eqs (n - k) (n - k - 1) (fun i j => G (k + j) (k + 1 + i)) (by omega)
  have hs : ∀ (f : Nat → Rat), (∀ i, i < k → f i = 0) → Sm f n = Sm (fun j => f (k + j)) (n - k) := fun f hf => by
    have key : ∀ m, k ≤ m → Sm f m = Sm (fun j => f (k + j)) (m - k) := by
      intro m hm
      induction m with
      | zero =>
        have : k = 0 := by omega
        subst this; rfl
      | succ m ih =>
        by_cases e : k = m + 1
        · subst e; rw [Nat.sub_self]; exact Sm_zero _ hf
        · rw [show m + 1 - k = (m - k) + 1 by omega]
          show Sm f m + f m = Sm (fun j => f (k + j)) (m - k) + f (k + (m - k))
          rw [ih (by omega), show k + (m - k) = m by omega]
    exact key n (by omega)
  have hrow : ∀ c, c < n → Sm (fun i => (if k ≤ i then y (i - k) else 0) * G i c) n = 0 := fun c hc => by
    rw [hs _ fun i hi => by rw [if_neg (by omega)]; grind]
    rcases Nat.lt_or_ge k c with g | g
    · have := hl (c - k - 1) (by omega)
      simp only [show k + 1 + (c - k - 1) = c by omega] at this
      rw [← this]
      exact Sm_congr _ fun j _ => by rw [if_pos (by omega), Nat.add_sub_cancel_left]; grind
    · exact Sm_zero _ fun j hj => by rw [h (k + j) c (by omega) (by omega) g]; grind
  have hd := detL_comb (n := n) (r := k + j) G (fun i => if k ≤ i then y (i - k) else 0) (by omega)
  have hz : detL n (setR G (k + j) fun c => Sm (fun i => (if k ≤ i then y (i - k) else 0) * G i c) n) = 0 := detL_zrow (r := k + j) (by omega) fun c hc => by rw [setR_at]; exact hrow c hc
  rw [hz] at hd
  have e : (if k ≤ k + j then y (k + j - k) else 0) = y j := by rw [if_pos (by omega), Nat.add_sub_cancel_left]
  rw [e] at hd
  rcases Rat.mul_eq_zero.1 hd.symm with g | g
  · exact absurd g hy
  · exact g
theorem detL_gcol {n t k : Nat} {G : Grid} (ht : t < n) (hd : G t k ≠ 0) : detL n (gcol G t k) * G t k = detL n G := by
  have h1 : detL n (setR G t fun j => 1 / G t k * G t j) * G t k = detL n G := by
    rw [detL_scale _ _ ht, setR_self]; grind
  rw [← h1]
  congr 1
  have key : ∀ m, m ≤ n → detL n (fun i j => if i = t then G t j / G t k else if i < m then G i j - G i k * (G t j / G t k) else G i j) = detL n (setR G t fun j => 1 / G t k * G t j) := by
    intro m
    induction m with
    | zero =>
      intro _
      refine detL_congr n fun i j _ _ => ?_
      unfold setR
      by_cases e : i = t
      · rw [if_pos e, if_pos e]; grind
      · rw [if_neg e, if_neg e, if_neg (by omega)]
    | succ m ih =>
      intro hm
      rw [← ih (by omega)]
      by_cases e : m = t
      · refine detL_congr n fun i j _ _ => ?_
        by_cases e1 : i = t
        · rw [if_pos e1, if_pos e1]
        · have : (i < m + 1) = (i < m) := by apply propext; omega
          rw [if_neg e1, if_neg e1]
          simp only [this]
      · have hs := detL_sub (n := n) (G := fun i j => if i = t then G t j / G t k else if i < m then G i j - G i k * (G t j / G t k) else G i j) (G m k) (show m < n by omega) ht e
        rw [← hs]
        refine detL_congr n fun i j _ _ => ?_
        unfold setR
        by_cases e2 : i = m
        · subst e2
          simp [e]
        · rw [if_neg e2]
          have : (i < m + 1) = (i < m) := by apply propext; omega
          simp only [this]
  rw [← key n (Nat.le_refl _)]
  refine detL_congr n fun i j hi _ => ?_
  unfold gcol
  rw [if_pos hi]
/-- an elimination with its determinant, under way -/
structure DetI (G0 : Grid) (n : Nat) (G : Grid) (k top : Nat) (D : Rat) : Prop where
  le : top ≤ k
  st : (top = k ∧ D * detL n G = detL n G0 ∧ ∀ c, c < k → ∀ i, i < n → G i c = if i = c then 1 else 0) ∨ (top < k ∧ D = 0 ∧ detL n G0 = 0)
theorem DetI.start (G : Grid) (n : Nat) : DetI G n G 0 0 1 := ⟨Nat.le_refl _, .inl ⟨rfl, by grind, fun c hc => by omega⟩⟩
theorem DetI.skip {G0 G : Grid} {n k top : Nat} {D : Rat} (h : DetI G0 n G k top D) (hk : k < n) (hz : ∀ i, top ≤ i → i < n → G i k = 0) : DetI G0 n G (k + 1) top 0 := by
  refine ⟨by have := h.le; omega, .inr ⟨by have := h.le; omega, rfl, ?_⟩⟩
  rcases h.st with ⟨rfl, h1, h2⟩ | ⟨_, _, h2⟩
  · rw [← h1, detL_low hk fun i c hi hin hc => by
      rcases Nat.lt_or_ge c top with g | g
      · rw [h2 c g i hin, if_neg (by omega)]
      · have : c = top := by omega
        subst this
        exact hz i hi hin]
    grind
  · exact h2
theorem DetI.piv {G0 G : Grid} {n k top p : Nat} {D : Rat} (h : DetI G0 n G k top D) (hk : k < n) (h1 : top ≤ p) (h2 : p < n) (hd : G p k ≠ 0) : DetI G0 n (gcol (gsw G p top) top k) (k + 1) (top + 1) ((if p = top then D else -D) * G p k) := by
  have htn : top < n := by have := h.le; omega
  have hsw : gsw G p top top k = G p k := by unfold gsw swp; by_cases e : top = p
                                             · rw [if_pos e, e]
                                             · rw [if_neg e, if_pos rfl]
  refine ⟨by have := h.le; omega, ?_⟩
  rcases h.st with ⟨rfl, g1, g2⟩ | ⟨g0, g1, g2⟩
  · refine .inl ⟨rfl, ?_, fun c hc i hi => ?_⟩
    · have e1 := detL_gcol (n := n) (G := gsw G p top) (t := top) (k := top) htn (by rw [hsw]; exact hd)
      rw [hsw] at e1
      by_cases e : p = top
      · subst e
        have e2 : gsw G p p = G := by funext i j; unfold gsw swp; by_cases q : i = p
                                      · rw [if_pos q, q]
                                      · rw [if_neg q, if_neg q]
        rw [e2] at e1 ⊢
        rw [if_pos rfl, ← g1, ← e1]; grind
      · rw [detL_swap h2 htn e] at e1
        rw [if_neg e, ← g1]; grind
    · by_cases ec : c = top
      · subst ec
        unfold gcol
        rw [hsw]
        by_cases e : i = c
        · rw [if_pos e, if_pos e]; grind
        · rw [if_neg e, if_neg e]; grind
      · have hct : c < top := by omega
        have hz : ∀ i, top ≤ i → i < n → G i c = 0 := fun i hi hin => by rw [g2 c hct i hin, if_neg (by omega)]
        have e2 : gsw G p top top c = 0 := by
          unfold gsw swp
          by_cases e : top = p
          · rw [if_pos e]; exact hz _ (Nat.le_refl _) htn
          · rw [if_neg e, if_pos rfl]; exact hz p h1 h2
        unfold gcol
        rw [e2]
        by_cases e : i = top
        · rw [if_pos e, if_neg (by omega)]; grind
        · rw [if_neg e]
          have e3 : gsw G p top i c = if i = c then 1 else 0 := by
            unfold gsw swp
            by_cases e4 : i = p
            · rw [if_pos e4, hz top (Nat.le_refl _) htn, if_neg (by omega)]
            · rw [if_neg e4, if_neg e]; exact g2 c hct i hi
          rw [e3]; grind
  · refine .inr ⟨by omega, ?_, g2⟩
    rw [g1]; split <;> grind
theorem DetI.done {G0 G : Grid} {n top : Nat} {D : Rat} (h : DetI G0 n G n top D) : D = detL n G0 := by
  rcases h.st with ⟨_, h1, h2⟩ | ⟨_, h1, h2⟩
  · have : detL n G = 1 := by
      rw [← detL_id n]
      refine detL_congr n fun i k hi hk => ?_
      rw [h2 k hk i hi]; rfl
    rw [← h1, this]; grind
  · rw [h1, h2]
end Go.Proofs.YthoboehbadmlmaaGreat
end
section
namespace Go.Proofs.YthoboehbadmlmaaGreat
set_option linter.unusedVariables false
/-! ### The value at a matrix -/
def gmul (A B : Grid) (n : Nat) : Grid := fun i k => Sm (fun t => A i t * B t k) n
def horG (M : Grid) (p : List Rat) (n : Nat) : Nat → Grid
  | 0 => fun _ _ => 0
  | r + 1 => fun i k => gmul M (horG M p n r) n i k + cf p (p.length - 1 - r) * gid i k
theorem horG_succ (M : Grid) (p : List Rat) (n r i k : Nat) : horG M p n (r + 1) i k = gmul M (horG M p n r) n i k + cf p (p.length - 1 - r) * gid i k := rfl
theorem gmul_congr {A A' B B' : Grid} {n : Nat} (ha : ∀ i k, i < n → k < n → A i k = A' i k) (hb : ∀ i k, i < n → k < n → B i k = B' i k) {i k : Nat} (hi : i < n) (hk : k < n) : gmul A B n i k = gmul A' B' n i k :=
  Sm_congr _ fun t ht => by rw [ha i t hi ht, hb t k ht hk]
/-! ### As the program reckons -/
def flP (M : Grid) (n : Nat) : Nat → Grid × Rat
  | 0 => (fun _ _ => 0, 1)
  | k + 1 =>
    let A : Grid := gmul M (fun i j => (flP M n k).1 i j + (flP M n k).2 * gid i j) n
    (A, Sm (fun i => A i i) n * (-1 / ((k : Rat) + 1)))
theorem flP_traces {M : Grid} {n : Nat} {c : Nat → Rat} {β : Nat → Nat → Nat → Rat} (h : ChrP M n c β) {k : Nat} (hk : k ≤ n) :
    (flP M n k).2 = c (n - k) ∧ ∀ i j, i < n → j < n → (flP M n k).1 i j + (flP M n k).2 * gid i j = if k < n then β i j (n - 1 - k) else 0 :=
  h.traces (fun k => (flP M n k).1) (fun k => (flP M n k).2) rfl (fun _ _ _ _ => rfl) (fun k hk i j hi hj => rfl) (fun k hk => rfl) k hk
/-- the matrix is a root of its characteristic polynomial -/
theorem root_own {M : Grid} {n : Nat} {c : Nat → Rat} {β : Nat → Nat → Nat → Rat} (h : ChrP M n c β) {i j : Nat} (hi : i < n) (hj : j < n) : horG M (mk (n + 1) c) n (n + 1) i j = 0 := by
  have key : ∀ r, r ≤ n → ∀ i j, i < n → j < n → horG M (mk (n + 1) c) n (r + 1) i j = (flP M n r).1 i j + (flP M n r).2 * gid i j := by
    intro r
    induction r with
    | zero =>
      intro _ i j _ _
      rw [horG_succ, mk_len, show n + 1 - 1 - 0 = n by omega, cf_mk, if_pos (by omega), h.top]
      have : gmul M (horG M (mk (n + 1) c) n 0) n i j = 0 := Sm_zero _ fun t _ => by
        show M i t * 0 = 0
        grind
      rw [this]; rfl
    | succ r ih =>
      intro hr i j hi hj
      rw [horG_succ, mk_len, cf_mk, if_pos (by omega), gmul_congr (fun _ _ _ _ => rfl) (fun i k hi hk => ih (by omega) i k hi hk) hi hj]
      have := (flP_traces h (k := r + 1) hr).1
      rw [this, show n + 1 - 1 - (r + 1) = n - (r + 1) by omega]
      rfl
  rw [key n (Nat.le_refl _) i j hi hj, (flP_traces h (Nat.le_refl n)).2 i j hi hj, if_neg (by omega)]
theorem detL_neg : ∀ (n : Nat) (G : Grid), detL n (fun i k => -G i k) = sg1 n * detL n G
  | 0, _ => by simp only [detL]; unfold sg1; rw [if_pos rfl]; grind
  | n + 1, G => by
    rw [detL, detL, ← Sm_mul, sg1_succ]
    refine Sm_congr _ fun j _ => ?_
    have : minor (fun i k => -G i k) j = fun i k => -minor G j i k := rfl
    rw [this, detL_neg n (minor G j)]
    grind
theorem ChrP.low {M : Grid} {n : Nat} {c : Nat → Rat} {β : Nat → Nat → Nat → Rat} (h : ChrP M n c β) : c 0 = sg1 n * detL n M := by
  have h1 := h.chi 0
  have e : detL n (fun i k => -M i k + 0 * gid i k) = detL n (fun i k => -M i k) := detL_congr n fun i k _ _ => by grind
  rw [e, detL_neg, pv, Sm_front, Sm_zero _ fun j _ => by rw [rpow_succ]; grind, rpow_zero] at h1
  grind
end Go.Proofs.YthoboehbadmlmaaGreat
end
section
namespace Go.Proofs.YthoboehbadmlmaaGreat
set_option linter.unusedVariables false
theorem Sm_QB {a : Nat} {f : Nat → Rat} : ∀ n, (∀ i, i < n → QB a (f i)) → QB (n * (a + 1)) (Sm f n)
  | 0, _ => QB_zero _
  | n + 1, h => by
    have h1 := Sm_QB n fun i hi => h i (by omega)
    refine (h1.add (h n (by omega))).mono ?_
    rw [Nat.add_mul]; omega
theorem Sm_QBk {a n : Nat} {f : Nat → Rat} (hn : n ≤ 5) (h : ∀ i, i < n → QB a (f i)) (k : Nat) (hk : k ≤ n) : QB (5 * (a + 1)) (Sm f k) :=
  (Sm_QB k fun i hi => h i (by omega)).mono (Nat.mul_le_mul_right _ (by omega))
theorem gid_QB (i k : Nat) : QB 0 (gid i k) := by
  unfold gid; split
  · exact QB_one 0
  · exact QB_zero 0
theorem gmul_QB {A B : Grid} {n a b : Nat} (hn : n ≤ 5) (ha : ∀ i k, i < n → k < n → QB a (A i k)) (hb : ∀ i k, i < n → k < n → QB b (B i k)) {i k : Nat} (hi : i < n) (hk : k < n) : QB (5 * (a + b + 1)) (gmul A B n i k) :=
  Sm_QBk hn (fun t ht => (ha i t hi ht).mul (hb t k ht hk)) n (Nat.le_refl _)
theorem rv_part {n : Nat} (hn : n ≤ 7) : rv true 1 (n + 1) = -1 / ((n : Rat) + 1) := by
  have : n = 0 ∨ n = 1 ∨ n = 2 ∨ n = 3 ∨ n = 4 ∨ n = 5 ∨ n = 6 ∨ n = 7 := by omega
  rcases this with rfl | rfl | rfl | rfl | rfl | rfl | rfl | rfl <;> decide +kernel
theorem part_QB {n : Nat} (hn : n ≤ 7) : QB 3 (-1 / ((n : Rat) + 1)) := by
  rw [← rv_part hn]; exact QB_rv _ (by omega) (by omega)
/-- bounds of the numbers under way -/
def fb : Nat → Nat × Nat
  | 0 => (0, 0)
  | k + 1 =>
    let a := 5 * (97 + ((fb k).1 + (fb k).2 + 1) + 1)
    (a, 5 * (a + 1) + 3)
theorem flP_fb {M : Grid} {n : Nat} (hn : n ≤ 5) (hM : ∀ i k, i < n → k < n → QB 97 (M i k)) : ∀ k, k ≤ 7 → (∀ i j, i < n → j < n → QB (fb k).1 ((flP M n k).1 i j)) ∧ QB (fb k).2 (flP M n k).2
  | 0, _ => ⟨fun _ _ _ _ => QB_zero _, QB_one _⟩
  | k + 1, hk => by
    obtain ⟨h1, h2⟩ := flP_fb hn hM k (by omega)
    have ha : ∀ i j, i < n → j < n → QB (fb (k + 1)).1 ((flP M n (k + 1)).1 i j) := fun i j hi hj =>
      gmul_QB hn hM (fun i j hi hj => (h1 i j hi hj).add (h2.mul (gid_QB i j))) hi hj
    exact ⟨ha, (Sm_QBk hn (fun i hi => ha i i hi hi) n (Nat.le_refl _)).mul (part_QB (by omega))⟩
theorem fb_le {k : Nat} (hk : k ≤ 5) : (fb k).1 ≤ 500000000 ∧ (fb k).2 ≤ 2500000000 := by
  have : k = 0 ∨ k = 1 ∨ k = 2 ∨ k = 3 ∨ k = 4 ∨ k = 5 := by omega
  rcases this with rfl | rfl | rfl | rfl | rfl | rfl <;> decide
theorem flP_QB {M : Grid} {n : Nat} (hn : n ≤ 5) (hM : ∀ i k, i < n → k < n → QB 97 (M i k)) {k : Nat} (hk : k ≤ 5) : (∀ i j, i < n → j < n → QB 500000000 ((flP M n k).1 i j)) ∧ QB 2500000000 (flP M n k).2 :=
  ⟨fun i j hi hj => ((flP_fb hn hM k (by omega)).1 i j hi hj).mono (fb_le hk).1, (flP_fb hn hM k (by omega)).2.mono (fb_le hk).2⟩
/-- bounds of the values on the way up -/
def hb (C : Nat) : Nat → Nat
  | 0 => 0
  | r + 1 => 5 * (97 + hb C r + 1) + C + 1
theorem horG_hb {M : Grid} {n C : Nat} {p : List Rat} (hn : n ≤ 5) (hM : ∀ i k, i < n → k < n → QB 97 (M i k)) (hp : ∀ i, QB C (cf p i)) : ∀ r i k, i < n → k < n → QB (hb C r) (horG M p n r i k)
  | 0, _, _, _, _ => QB_zero _
  | r + 1, i, k, hi, hk => by
    rw [horG_succ]
    exact (gmul_QB hn hM (horG_hb hn hM hp r) hi hk).add ((hp _).mul (gid_QB i k))
theorem hb_mono (C : Nat) : ∀ {r s : Nat}, r ≤ s → hb C r ≤ hb C s := by
  intro r s h
  induction h with
  | refl => exact Nat.le_refl _
  | step h ih => rename_i m; refine Nat.le_trans ih ?_; show hb C m ≤ 5 * (97 + hb C m + 1) + C + 1; omega
theorem hb_top {C r : Nat} (hC : C ≤ 2500000000) (hr : r ≤ 6) : hb C r ≤ 10000000000000 := by
  have h := hb_mono C hr
  simp only [hb] at h
  omega
/-- the numbers from the end on are written -/
def bpart (N : Nat) (f : Nat → Rat) (k : Nat) : List (Option Rat) := (List.range N).map fun i => if N ≤ i + k then some (f i) else none
theorem bpart_len (N : Nat) (f : Nat → Rat) (k : Nat) : (bpart N f k).length = N := by simp [bpart]
theorem bpart_zero (N : Nat) (f : Nat → Rat) : bpart N f 0 = List.replicate N none := by
  unfold bpart
  refine List.ext_getElem? fun i => ?_
  by_cases hi : i < N
  · simp [hi]
  · rw [List.getElem?_eq_none (by simp; omega), List.getElem?_eq_none (by simp; omega)]
theorem bpart_step {N : Nat} (f : Nat → Rat) {k : Nat} (hk : k < N) : (bpart N f k).set (N - 1 - k) (some (f (N - 1 - k))) = bpart N f (k + 1) := by
  unfold bpart
  rw [mk_set]
  refine List.map_congr_left fun i hi => ?_
  have hi := List.mem_range.1 hi
  by_cases e : i = N - 1 - k
  · subst e; rw [if_pos rfl, if_pos (by omega)]
  · rw [if_neg e]
    by_cases h : N ≤ i + k
    · rw [if_pos h, if_pos (by omega)]
    · rw [if_neg h, if_neg (by omega)]
theorem bpart_all (N : Nat) (f : Nat → Rat) : bpart N f N = (Go.Proofs.YthoboehbadmlmaaGreat.mk N f).map some := by
  unfold bpart Go.Proofs.YthoboehbadmlmaaGreat.mk
  rw [List.map_map]
  refine List.map_congr_left fun i hi => ?_
  rw [if_pos (by omega)]; rfl
theorem bpart_at {N : Nat} {f : Nat → Rat} {k i : Nat} (hi : i < N) (h : N ≤ i + k) : (bpart N f k)[i]? = some (some (f i)) := by
  simp [bpart, hi, h]
end Go.Proofs.YthoboehbadmlmaaGreat
end
section
namespace Go.Proofs.YthoboehbadmlmaaGreat
open Go Go.RowKit
set_option linter.unusedSimpArgs false
set_option linter.unusedVariables false
attribute [local irreducible] XWP Spec SpecO XPub XCall seqX clX apX stX ldX iaX slX
theorem QB_neg {B : Nat} {q : Rat} (h : QB B q) : QB B (-q) := ⟨by rw [Rat.neg_num, Int.natAbs_neg]; exact h.1, by rw [Rat.neg_den]; exact h.2⟩
/-- the memory of an elimination under way; the rows of av stay as they were in R0 -/
structure CMW (H : Heap) (V : View) (w : Value) (n gw : Nat) (av : List Nat) (R0 : Heap) (G : Grid) : Prop where
  grid : GridAt H V w n n G av
  wr : ∃ cw tot, H gw = some ⟨3, cw, tot⟩ ∧ cw.length = n
  at4 : ∀ b, b ∈ av → H b = R0 b
  ng : ∀ g c, w = .slice (some ⟨g, 0, none⟩) n c → g ∉ av
  nw : gw ∉ av
theorem CMW.mono {H : Heap} {V V' : View} {w : Value} {n gw : Nat} {av : List Nat} {R0 : Heap} {G : Grid} (h : CMW H V w n gw av R0 G) (hV : V.le V') : CMW H V' w n gw av R0 G := ⟨h.grid.mono hV, h.wr, h.at4, h.ng, h.nw⟩
theorem CMW.congr {H : Heap} {V : View} {w : Value} {n gw : Nat} {av : List Nat} {R0 : Heap} {G G' : Grid} (h : CMW H V w n gw av R0 G) (e : ∀ i j, i < n → j < n → G i j = G' i j) : CMW H V w n gw av R0 G' := ⟨h.grid.congr e, h.wr, h.at4, h.ng, h.nw⟩
theorem CMW.at {H : Heap} {V : View} {w : Value} {n gw : Nat} {av : List Nat} {R0 : Heap} {G : Grid} (h : CMW H V w n gw av R0 G) {i : Nat} (hi : i < n) :
    ∃ g cap b c cs, w = .slice (some ⟨g, 0, none⟩) n cap ∧ Loads Tryz.prog H V 22 g i (.slice (some ⟨b, 0, none⟩) n c) ∧ H b = some ⟨48, cs, c * 3⟩ ∧ cs.length = n * 3 ∧ n ≤ c ∧
      (∀ j, j < n → ∃ x y z, RatC V (.agg #[x, y, z]) (G i j) ∧ (isOne x = true ∧ isOne y = true ∧ isOne z = true) ∧ Loads Tryz.prog H V 48 b (j * 3) (.agg #[x, y, z])) ∧
      ∀ V' j q x y z, j < n → V.le V' → RatC V' (.agg #[x, y, z]) q → isOne x = true → isOne y = true → isOne z = true → CMW (upd H b (some ⟨48, splice cs (j * 3) [x, y, z], c * 3⟩)) V' w n gw av R0 (fun i' j' => if i' = i ∧ j' = j then q else G i' j') := by
  obtain ⟨g, cap, b, c, cs, e, h1, h2, h3, h4, h5, h6, h7⟩ := h.grid.at hi
  refine ⟨g, cap, b, c, cs, e, h1, h2, by rw [h3.1, mk_len], h4, fun j hj => ?_, fun V' j q x y z hj hV hx o1 o2 o3 => ?_⟩
  · obtain ⟨x, y, z, a1, a2, a3⟩ := rowQ_load h2 h3 j (by rw [mk_len]; exact hj)
    rw [cf_mk, if_pos hj] at a1
    exact ⟨x, y, z, a1, a2, a3⟩
  · have hr := (h3.mono ratE_ok hV).set j (by rw [mk_len]; exact hj) o1 o2 o3 hx
    rw [mk_set1 hj] at hr
    obtain ⟨cw, tot, w1, w2⟩ := h.wr
    have hgb : gw ≠ b := fun e => by subst e; rw [h2] at w1; cases w1
    refine ⟨(h7 V' _ _ hV hr).congr fun i' j' _ _ => ?_, ⟨cw, tot, (upd_off hgb).trans w1, w2⟩, fun b4 hb4 => (upd_off (fun e => h6 (by rw [← e]; exact hb4))).trans (h.at4 b4 hb4), h.ng, h.nw⟩
    by_cases e1 : i' = i
    · by_cases e2 : j' = j
      · simp [e1, e2]
      · simp [e1, e2]
    · simp [e1]
theorem CMW.swap {H : Heap} {V : View} {w : Value} {n gw : Nat} {av : List Nat} {R0 : Heap} {G : Grid} (h : CMW H V w n gw av R0 G) {p t : Nat} (hp : p < n) (ht : t < n) :
    ∃ g cap cells vp vt, w = .slice (some ⟨g, 0, none⟩) n cap ∧ H g = some ⟨22, cells, cap * 1⟩ ∧ cells.length = n ∧ Loads Tryz.prog H V 22 g p vp ∧ Loads Tryz.prog H V 22 g t vt ∧ isOne vp = true ∧ isOne vt = true ∧
      CMW (upd (upd H g (some ⟨22, cells.set p vt, cap * 1⟩)) g (some ⟨22, (cells.set p vt).set t vp, cap * 1⟩)) V w n gw av R0 (gsw G p t) := by
  obtain ⟨g, cap, cells, vp, vt, e, h1, h2, h3, h4, h5, h6, h7⟩ := h.grid.swap hp ht
  obtain ⟨cw, tot, w1, w2⟩ := h.wr
  have n1 : gw ≠ g := fun e => by subst e; rw [h1] at w1; cases w1
  have n2 : ∀ b, b ∈ av → b ≠ g := fun b hb e' => h.ng g cap e (by rw [← e']; exact hb)
  exact ⟨g, cap, cells, vp, vt, e, h1, h2, h3, h4, h5, h6, h7, ⟨cw, tot, (upd_off n1).trans ((upd_off n1).trans w1), w2⟩, fun b hb => (upd_off (n2 b hb)).trans ((upd_off (n2 b hb)).trans (h.at4 b hb)), h.ng, h.nw⟩
theorem CMW.where {H : Heap} {V : View} {w : Value} {n gw : Nat} {av : List Nat} {R0 : Heap} {G : Grid} (h : CMW H V w n gw av R0 G) (k : Nat) (x : Int) :
    ∃ cw tot, H gw = some ⟨3, cw, tot⟩ ∧ cw.length = n ∧ CMW (upd H gw (some ⟨3, cw.set k (.int .i64 x), tot⟩)) V w n gw av R0 G := by
  obtain ⟨cw, tot, w1, w2⟩ := h.wr
  have hne : ∀ b cs t, H b = some ⟨48, cs, t⟩ → upd H gw (some ⟨3, cw.set k (.int .i64 x), tot⟩) b = H b := fun b cs t hb => by
    unfold upd; split
    · rename_i e; subst e; rw [w1] at hb; cases hb
    · rfl
  have hne2 : ∀ b cs t, H b = some ⟨22, cs, t⟩ → upd H gw (some ⟨3, cw.set k (.int .i64 x), tot⟩) b = H b := fun b cs t hb => by
    unfold upd; split
    · rename_i e; subst e; rw [w1] at hb; cases hb
    · rfl
  exact ⟨cw, tot, w1, w2, h.grid.frame hne2 fun b cs t ha hb => ⟨hne b cs t hb, ha⟩, ⟨_, tot, upd_at _ _ _, by rw [List.length_set]; exact w2⟩, fun b hb => (upd_off (fun e => h.nw (by rw [← e]; exact hb))).trans (h.at4 b hb), h.ng, h.nw⟩
/-- what is known of an elimination under way -/
structure CIW (G0 : Grid) (n B : Nat) (G : Grid) (k top : Nat) (d : Rat) : Prop where
  det : DetI G0 n G k top d
  qb : ∀ i j, i < n → j < n → QB (ge B k) (G i j)
theorem CIW.skip {G0 G : Grid} {n B k top : Nat} {d : Rat} (h : CIW G0 n B G k top d) (hk : k < n) (hz : ∀ i, top ≤ i → i < n → G i k = 0) : CIW G0 n B G (k + 1) top 0 :=
  ⟨h.det.skip hk hz, fun i j hi hj => (h.qb i j hi hj).mono (ge_mono B (by omega))⟩
theorem CIW.piv {G0 G : Grid} {n B k top p : Nat} {d : Rat} (h : CIW G0 n B G k top d) (hk : k < n) (h1 : top ≤ p) (h2 : p < n) (hd : G p k ≠ 0) : CIW G0 n B (gcol (gsw G p top) top k) (k + 1) (top + 1) ((if p = top then d else -d) * G p k) := by
  have hle := h.det.le
  refine ⟨h.det.piv hk h1 h2 hd, fun i j hi hj => ?_⟩
  have hq : ∀ i j, i < n → j < n → QB (ge B k) (gsw G p top i j) := fun i j hi hj => h.qb _ j (swp_lt h2 (by omega) hi) hj
  have q1 := (hq top j (by omega) hj).div (hq top k (by omega) (by omega))
  unfold gcol
  split
  · exact q1.mono (by simp only [ge]; omega)
  · exact ((hq i j hi hj).sub ((hq i k hi (by omega)).mul q1)).mono (by simp only [ge]; omega)
theorem gsw_self (G : Grid) (k : Nat) : gsw G k k = G := by
  funext i j
  unfold gsw swp
  by_cases e : i = k
  · rw [if_pos e, e]
  · rw [if_neg e, if_neg e]
set_option maxRecDepth 100000 in
set_option maxHeartbeats 0 in
theorem ddet_m (H0 : Heap) (V : View) (g cap n B : Nat) (av : List Nat) (G0 : Grid) (hgrid : GridAt H0 V (.slice (some ⟨g, 0, none⟩) n cap) n n G0 av) (hgv : g ∉ av) (hav : ∀ b, b ∈ av → ∃ r, H0 b = some r) (hn : n ≤ 60) (hq : ∀ i j, i < n → j < n → QB B (G0 i j)) (hfit : (n + 1) * ge B (n + 1) ≤ 17592186044416) :
    MSpec Tryz.prog 56 [.slice (some ⟨g, 0, none⟩) n cap, .int .i64 (n : Int)] H0 V fun v' H' V' => V.le V' ∧ ∃ u dm dx dy, v' = .tuple #[u, .agg #[.bool dm, dx, dy]] ∧ isOne u = true ∧ isOne dx = true ∧ isOne dy = true ∧ RatC V' (.agg #[.bool dm, dx, dy]) (detL n G0) ∧ QB (n * ge B (n + 1) + 1) (detL n G0) ∧ ∀ b, b ∈ av → H' b = H0 b := by
  refine (MSpec.enter Tryz.func56 rfl fun Γ hΓ => ?_)
  simp only [Tryz.ntmps56, List.map_cons, List.map_nil, List.length_cons, List.length_nil, Nat.reduceAdd, Nat.reduceSub, List.replicate_succ, List.replicate_zero, List.cons_append, List.nil_append]
  have hmulB : ∀ k, k ≤ n + 1 → k * ge B (n + 1) ≤ 17592186044416 := fun k hk => Nat.le_trans (Nat.mul_le_mul_right _ hk) hfit
  have hgeB : ge B (n + 1) ≤ 17592186044416 := by have := hmulB 1 (by omega); omega
  refine Gx.a (by kernel_rfl) fun K hK => ?_
  simp only [XA, XB]
  refine hK _ ?_
  refine Gx.a (by kernel_rfl) fun K hK => ?_
  simp only [XA]
  refine call_go (by kernel_rfl) rfl (pone_c _) fun v1 V1 hV1 k1 => ?_
  obtain ⟨x1, y1, rfl, p1, p2⟩ := k1.form
  simp only [XA, XB]
  refine st_rat rfl rfl rfl p1 p2 ?_
  simp only [XA]
  refine hK _ ?_
  refine Gx.a (by kernel_rfl) fun K hK => ?_
  simp only [XA]
  refine mk_go rfl rfl eII zeroT_3 (by omega) (by omega) (by omega) (by omega) rfl (by omega) fun gw hgw1 hgw2 => ?_
  simp only [XA]
  refine hK _ ?_
  refine Gx.a (by kernel_rfl) fun K hK => ?_
  simp only [XA]
  refine hK _ ?_
  have hgw1 : H0 gw = none := hgw1
  have hmem0 : CMW (upd H0 gw (some ⟨3, (List.replicate n [Value.int .i64 0]).flatten, n⟩)) V1 (.slice (some ⟨g, 0, none⟩) n cap) n gw av H0 G0 := by
    refine ⟨(hgrid.mono hV1).alloc hgw1, ⟨_, _, upd_at _ _ _, by simp⟩, fun b hb => upd_off fun e => ?_, fun g' c' e => ?_, fun hb => ?_⟩
    · obtain ⟨r, hr⟩ := hav b hb
      rw [e, hgw1] at hr; cases hr
    · cases e; exact hgv
    · obtain ⟨r, hr⟩ := hav gw hb
      rw [hgw1] at hr; cases hr
  have hinv0 : CIW G0 n B G0 0 0 1 := ⟨DetI.start _ _, hq⟩
  generalize upd H0 gw _ = H1 at *
  clear hgw1 hgw2
  refine XWP.cutD 2 (fun s => ∃ (V8 : View) (H8 : Heap) (dm : Bool) (dx dy : Value) (d : Rat), StIs (fun Z => [.v (.slice (some ⟨g, 0, none⟩) n cap), .v (.int .i64 (n : Int)), Z 2,Z 3,Z 4, .p 0 0, .p 1 0, .v (.slice (some ⟨gw, 0, none⟩) n n), Z 8,Z 9,Z 10,Z 11,Z 12,Z 13,Z 14,Z 15,Z 16,Z 17,Z 18,Z 19,Z 20,Z 21,Z 22,Z 23,Z 24,Z 25,Z 26,Z 27,Z 28,Z 29,Z 30,Z 31,Z 32,Z 33,Z 34,Z 35,Z 36,Z 37,Z 38,Z 39,Z 40,Z 41,Z 42,Z 43,Z 44,Z 45,Z 46,Z 47,Z 48,Z 49,Z 50,Z 51,Z 52,Z 53,Z 54,Z 55,Z 56,Z 57,Z 58,Z 59,Z 60,Z 61,Z 62,Z 63,Z 64,Z 65,Z 66,Z 67,Z 68,Z 69,Z 70,Z 71,Z 72,Z 73,Z 74,Z 75,Z 76,Z 77,Z 78,Z 79,Z 80,Z 81,Z 82,Z 83,Z 84,Z 85,Z 86,Z 87,Z 88,Z 89,Z 90,Z 91,Z 92,Z 93,Z 94,Z 95,Z 96,Z 97,Z 98,Z 99,Z 100,Z 101,Z 102,Z 103,Z 104,Z 105,Z 106,Z 107,Z 108,Z 109,Z 110,Z 111,Z 112,Z 113,Z 114,Z 115,Z 116,Z 117,Z 118,Z 119,Z 120,Z 121,Z 122,Z 123,Z 124,Z 125,Z 126,Z 127,Z 128,Z 129,Z 130,Z 131,Z 132,Z 133,Z 134,Z 135,Z 136,Z 137,Z 138,Z 139,Z 140,Z 141,Z 142,Z 143,Z 144,Z 145,Z 146,Z 147,Z 148,Z 149,Z 150,Z 151,Z 152,Z 153,Z 154,Z 155,Z 156,Z 157,Z 158,Z 159,Z 160,Z 161,Z 162,Z 163,Z 164,Z 165,Z 166,Z 167,Z 168,Z 169,Z 170,Z 171,Z 172]) [[.bool false, .slice none 0 0, .slice none 0 0], [.bool dm, dx, dy]] H8 V8 s ∧ V.le V8 ∧ RatC V8 (.agg #[.bool dm, dx, dy]) d ∧ isOne dx = true ∧ isOne dy = true ∧ QB (n * ge B (n + 1) + 1) d ∧ d = detL n G0 ∧ ∀ b, b ∈ av → H8 b = H0 b) ?_ ?_
  · --{
    refine Gx.a (by kernel_rfl) fun K hK => ?_
    simp only [XA]
    refine hK _ ?_
    clear hK
    refine XWP.block ?_
    refine XWP.loopD 2 (fun q s => ∃ (k top : Nat) (V8 : View) (H8 : Heap) (dm : Bool) (dx dy : Value) (d : Rat) (G : Grid), StIs (fun Z => [.v (.slice (some ⟨g, 0, none⟩) n cap), .v (.int .i64 (n : Int)), Z 2,Z 3,Z 4, .p 0 0, .p 1 0, .v (.slice (some ⟨gw, 0, none⟩) n n), .v (.int .i64 (top : Int)), .v (.int .i64 (k : Int)), Z 10,Z 11,Z 12,Z 13,Z 14,Z 15,Z 16,Z 17,Z 18,Z 19,Z 20,Z 21,Z 22,Z 23,Z 24,Z 25,Z 26,Z 27,Z 28,Z 29,Z 30,Z 31,Z 32,Z 33,Z 34,Z 35,Z 36,Z 37,Z 38,Z 39,Z 40,Z 41,Z 42,Z 43,Z 44,Z 45,Z 46,Z 47,Z 48,Z 49,Z 50,Z 51,Z 52,Z 53,Z 54,Z 55,Z 56,Z 57,Z 58,Z 59,Z 60,Z 61,Z 62,Z 63,Z 64,Z 65,Z 66,Z 67,Z 68,Z 69,Z 70,Z 71,Z 72,Z 73,Z 74,Z 75,Z 76,Z 77,Z 78,Z 79,Z 80,Z 81,Z 82,Z 83,Z 84,Z 85,Z 86,Z 87,Z 88,Z 89,Z 90,Z 91,Z 92,Z 93,Z 94,Z 95,Z 96,Z 97,Z 98,Z 99,Z 100,Z 101,Z 102,Z 103,Z 104,Z 105,Z 106,Z 107,Z 108,Z 109,Z 110,Z 111,Z 112,Z 113,Z 114,Z 115,Z 116,Z 117,Z 118,Z 119,Z 120,Z 121,Z 122,Z 123,Z 124,Z 125,Z 126,Z 127,Z 128,Z 129,Z 130,Z 131,Z 132,Z 133,Z 134,Z 135,Z 136,Z 137,Z 138,Z 139,Z 140,Z 141,Z 142,Z 143,Z 144,Z 145,Z 146,Z 147,Z 148,Z 149,Z 150,Z 151,Z 152,Z 153,Z 154,Z 155,Z 156,Z 157,Z 158,Z 159,Z 160,Z 161,Z 162,Z 163,Z 164,Z 165,Z 166,Z 167,Z 168,Z 169,Z 170,Z 171,Z 172]) [[.bool false, .slice none 0 0, .slice none 0 0], [.bool dm, dx, dy]] H8 V8 s ∧ q + k = n ∧ V.le V8 ∧ RatC V8 (.agg #[.bool dm, dx, dy]) d ∧ isOne dx = true ∧ isOne dy = true ∧ QB (k * ge B (n + 1) + 1) d ∧ CMW H8 V8 (.slice (some ⟨g, 0, none⟩) n cap) n gw av H0 G ∧ CIW G0 n B G k top d) n ⟨0, 0, V1, H1, _, x1, y1, 1, G0, StIs.of (by exact rfl), by omega, hV1, k1, p1, p2, (QB_one 1).mono (by omega), hmem0, hinv0⟩ ?_
    clear hmem0 hinv0 k1 p1 p2 hgrid hq
    rintro q s ⟨k, top, V8, H8, dm, dx, dy, d, G, hs, hqk, hV8, kd, p1, p2, dq, hmem, hinv⟩
    obtain ⟨z, rfl⟩ := hs.out
    try dsimp only
    clear hs
    refine XWP.seq ?_
    by_cases hk : k < n
    rotate_left
    · obtain rfl : k = n := by omega
      have b2 : decide ((k : Int) < (k : Int)) = false := decide_eq_false (by omega)
      refine Gx.a (by kernel_rfl) fun K hK => ?_
      simp only [XA, XB, b2]
      refine hK _ ?_
      refine Gx.f rfl ?_
      refine XWP.exit ?_
      exact fun f => ⟨V8, H8, dm, dx, dy, d, StIs.of (by exact rfl), hV8, kd, p1, p2, dq, hinv.det.done, hmem.at4⟩
    have b2 : decide ((k : Int) < (n : Int)) = true := decide_eq_true (by omega)
    refine Gx.a (by kernel_rfl) fun K hK => ?_
    simp only [XA, XB, b2]
    refine hK _ ?_
    refine Gx.t rfl ?_
    refine XWP.skip ?_
    refine XWP.cutD 2 (fun s => ∃ (V9 : View) (H9 : Heap) (dm : Bool) (dx dy : Value) (d : Rat) (G : Grid) (top' : Nat), StIs (fun Z => [.v (.slice (some ⟨g, 0, none⟩) n cap), .v (.int .i64 (n : Int)), Z 2,Z 3,Z 4, .p 0 0, .p 1 0, .v (.slice (some ⟨gw, 0, none⟩) n n), .v (.int .i64 (top' : Int)), .v (.int .i64 (k : Int)), Z 10,Z 11,Z 12,Z 13,Z 14,Z 15,Z 16,Z 17,Z 18,Z 19,Z 20,Z 21,Z 22,Z 23,Z 24,Z 25,Z 26,Z 27,Z 28,Z 29,Z 30,Z 31,Z 32,Z 33,Z 34,Z 35,Z 36,Z 37,Z 38,Z 39,Z 40,Z 41,Z 42,Z 43,Z 44,Z 45,Z 46,Z 47,Z 48,Z 49,Z 50,Z 51,Z 52,Z 53,Z 54,Z 55,Z 56,Z 57,Z 58,Z 59,Z 60,Z 61,Z 62,Z 63,Z 64,Z 65,Z 66,Z 67,Z 68,Z 69,Z 70,Z 71,Z 72,Z 73,Z 74,Z 75,Z 76,Z 77,Z 78,Z 79,Z 80,Z 81,Z 82,Z 83,Z 84,Z 85,Z 86,Z 87,Z 88,Z 89,Z 90,Z 91,Z 92,Z 93,Z 94,Z 95,Z 96,Z 97,Z 98,Z 99,Z 100,Z 101,Z 102,Z 103,Z 104,Z 105,Z 106,Z 107,Z 108,Z 109,Z 110,Z 111,Z 112,Z 113,Z 114,Z 115,Z 116,Z 117,Z 118,Z 119,Z 120,Z 121,Z 122,Z 123,Z 124,Z 125,Z 126,Z 127,Z 128,Z 129,Z 130,Z 131,Z 132,Z 133,Z 134,Z 135,Z 136,Z 137,Z 138,Z 139,Z 140,Z 141,Z 142,Z 143,Z 144,Z 145,Z 146,Z 147,Z 148,Z 149,Z 150,Z 151,Z 152,Z 153,Z 154,Z 155,Z 156,Z 157,Z 158,Z 159,Z 160,Z 161,Z 162,Z 163,Z 164,Z 165,Z 166,Z 167,Z 168,Z 169,Z 170,Z 171,Z 172]) [[.bool false, .slice none 0 0, .slice none 0 0], [.bool dm, dx, dy]] H9 V9 s ∧ V8.le V9 ∧ RatC V9 (.agg #[.bool dm, dx, dy]) d ∧ isOne dx = true ∧ isOne dy = true ∧ QB ((k + 1) * ge B (n + 1) + 1) d ∧ CMW H9 V9 (.slice (some ⟨g, 0, none⟩) n cap) n gw av H0 G ∧ CIW G0 n B G (k + 1) top' d) ?_ ?_
    rotate_left
    · clear kd p1 p2
      rintro s ⟨V9, H9, dm, dx, dy, d', G', top', hs, hV9, kd, p1, p2, dq', hmem', hinv'⟩
      obtain ⟨z, rfl⟩ := hs.out
      try dsimp only
      clear hs
      refine Gx.c (by kernel_rfl) fun K hK => ?_
      simp only [XA, XB, i64_succ k (by omega)]
      exact hK _ ⟨q - 1, by omega, fun f => ⟨k + 1, top', V9, H9, dm, dx, dy, d', G', StIs.of (by exact rfl), by omega, View.le_trans hV8 hV9, kd, p1, p2, dq', hmem', hinv'⟩⟩
    clear hK
    refine XWP.block ?_
    obtain ⟨cw, tot, hw1, hw2, hmem1⟩ := hmem.where k (-1)
    clear hmem
    refine Gx.a (by kernel_rfl) fun K hK => ?_
    simp only [XN, XA, XB]
    refine ⟨by omega, by omega, ?_⟩
    refine st_row shapeT_3 rfl rfl hw1 (by dsimp only; omega) ?_
    simp only [XA]
    refine hK _ ?_
    obtain ⟨H9, hH9⟩ : ∃ H9, H9 = upd H8 gw (some ⟨3, cw.set k (.int .i64 (-1)), tot⟩) := ⟨_, rfl⟩
    rw [← hH9] at hmem1
    rw [← hH9]
    clear hH9 hw1
    refine Gx.a (by kernel_rfl) fun K hK => ?_
    simp only [XA]
    refine hK _ ?_
    have hfk : ge B (k + 1) ≤ ge B (n + 1) := ge_mono B (by omega)
    have hfk2 : 4 * ge B k + 2 ≤ ge B (n + 1) := hfk
    have hqf : ∀ i j, i < n → j < n → QF (G i j) := fun i j hi hj => (hinv.qb i j hi hj).qf (by omega)
    have hle := hinv.det.le
    refine XWP.cutD 2 (fun s => ∃ (p : Nat) (V9 : View), StIs (fun Z => [.v (.slice (some ⟨g, 0, none⟩) n cap), .v (.int .i64 (n : Int)), Z 2,Z 3,Z 4, .p 0 0, .p 1 0, .v (.slice (some ⟨gw, 0, none⟩) n n), .v (.int .i64 (top : Int)), .v (.int .i64 (k : Int)), .v (.int .i64 (p : Int)), Z 11,Z 12,Z 13,Z 14,Z 15,Z 16,Z 17,Z 18,Z 19,Z 20,Z 21,Z 22,Z 23,Z 24,Z 25,Z 26,Z 27,Z 28,Z 29,Z 30,Z 31,Z 32,Z 33,Z 34,Z 35,Z 36,Z 37,Z 38,Z 39,Z 40,Z 41,Z 42,Z 43,Z 44,Z 45,Z 46,Z 47,Z 48,Z 49,Z 50,Z 51,Z 52,Z 53,Z 54,Z 55,Z 56,Z 57,Z 58,Z 59,Z 60,Z 61,Z 62,Z 63,Z 64,Z 65,Z 66,Z 67,Z 68,Z 69,Z 70,Z 71,Z 72,Z 73,Z 74,Z 75,Z 76,Z 77,Z 78,Z 79,Z 80,Z 81,Z 82,Z 83,Z 84,Z 85,Z 86,Z 87,Z 88,Z 89,Z 90,Z 91,Z 92,Z 93,Z 94,Z 95,Z 96,Z 97,Z 98,Z 99,Z 100,Z 101,Z 102,Z 103,Z 104,Z 105,Z 106,Z 107,Z 108,Z 109,Z 110,Z 111,Z 112,Z 113,Z 114,Z 115,Z 116,Z 117,Z 118,Z 119,Z 120,Z 121,Z 122,Z 123,Z 124,Z 125,Z 126,Z 127,Z 128,Z 129,Z 130,Z 131,Z 132,Z 133,Z 134,Z 135,Z 136,Z 137,Z 138,Z 139,Z 140,Z 141,Z 142,Z 143,Z 144,Z 145,Z 146,Z 147,Z 148,Z 149,Z 150,Z 151,Z 152,Z 153,Z 154,Z 155,Z 156,Z 157,Z 158,Z 159,Z 160,Z 161,Z 162,Z 163,Z 164,Z 165,Z 166,Z 167,Z 168,Z 169,Z 170,Z 171,Z 172]) [[.bool false, .slice none 0 0, .slice none 0 0], [.bool dm, dx, dy]] H9 V9 s ∧ V8.le V9 ∧ top ≤ p ∧ p ≤ n ∧ (∀ i, top ≤ i → i < p → G i k = 0) ∧ (p < n → G p k ≠ 0)) ?_ ?_
    · --{
      refine XWP.block ?_
      refine XWP.loopD 2 (fun d s => ∃ (p : Nat) (V9 : View), StIs (fun Z => [.v (.slice (some ⟨g, 0, none⟩) n cap), .v (.int .i64 (n : Int)), Z 2,Z 3,Z 4, .p 0 0, .p 1 0, .v (.slice (some ⟨gw, 0, none⟩) n n), .v (.int .i64 (top : Int)), .v (.int .i64 (k : Int)), .v (.int .i64 (p : Int)), Z 11,Z 12,Z 13,Z 14,Z 15,Z 16,Z 17,Z 18,Z 19,Z 20,Z 21,Z 22,Z 23,Z 24,Z 25,Z 26,Z 27,Z 28,Z 29,Z 30,Z 31,Z 32,Z 33,Z 34,Z 35,Z 36,Z 37,Z 38,Z 39,Z 40,Z 41,Z 42,Z 43,Z 44,Z 45,Z 46,Z 47,Z 48,Z 49,Z 50,Z 51,Z 52,Z 53,Z 54,Z 55,Z 56,Z 57,Z 58,Z 59,Z 60,Z 61,Z 62,Z 63,Z 64,Z 65,Z 66,Z 67,Z 68,Z 69,Z 70,Z 71,Z 72,Z 73,Z 74,Z 75,Z 76,Z 77,Z 78,Z 79,Z 80,Z 81,Z 82,Z 83,Z 84,Z 85,Z 86,Z 87,Z 88,Z 89,Z 90,Z 91,Z 92,Z 93,Z 94,Z 95,Z 96,Z 97,Z 98,Z 99,Z 100,Z 101,Z 102,Z 103,Z 104,Z 105,Z 106,Z 107,Z 108,Z 109,Z 110,Z 111,Z 112,Z 113,Z 114,Z 115,Z 116,Z 117,Z 118,Z 119,Z 120,Z 121,Z 122,Z 123,Z 124,Z 125,Z 126,Z 127,Z 128,Z 129,Z 130,Z 131,Z 132,Z 133,Z 134,Z 135,Z 136,Z 137,Z 138,Z 139,Z 140,Z 141,Z 142,Z 143,Z 144,Z 145,Z 146,Z 147,Z 148,Z 149,Z 150,Z 151,Z 152,Z 153,Z 154,Z 155,Z 156,Z 157,Z 158,Z 159,Z 160,Z 161,Z 162,Z 163,Z 164,Z 165,Z 166,Z 167,Z 168,Z 169,Z 170,Z 171,Z 172]) [[.bool false, .slice none 0 0, .slice none 0 0], [.bool dm, dx, dy]] H9 V9 s ∧ V8.le V9 ∧ d + p = n ∧ top ≤ p ∧ (∀ i, top ≤ i → i < p → G i k = 0)) (n - top) ⟨top, V8, StIs.of (by exact rfl), View.le_refl _, by omega, Nat.le_refl _, fun i h1 h2 => by omega⟩ ?_
      rintro d2 s ⟨p, V9, hs, hV9, hd2, hp, hz⟩
      obtain ⟨z, rfl⟩ := hs.out
      try dsimp only
      clear hs
      refine XWP.seq ?_
      by_cases hpR : p < n
      rotate_left
      · have b3 : decide ((p : Int) < (n : Int)) = false := decide_eq_false (by omega)
        refine Gx.a (by kernel_rfl) fun K hK => ?_
        simp only [XN, XA, XB, gateX, ↓reduceIte, b3]
        refine hK _ ?_
        refine Gx.f rfl ?_
        refine XWP.exit ?_
        exact fun f => ⟨p, V9, StIs.of (by exact rfl), hV9, hp, by omega, hz, fun h => absurd h hpR⟩
      have b3 : decide ((p : Int) < (n : Int)) = true := decide_eq_true (by omega)
      obtain ⟨g', cap', b, c, cs, e6, hl1, hb, hcl, hc, hget, _⟩ := (hmem1.mono hV9).at hpR
      cases e6
      obtain ⟨x, y, w, hx, ⟨o1, o2, o3⟩, hl2⟩ := hget k (by omega)
      refine Gx.a (by kernel_rfl) fun K hK => ?_
      simp only [XN, XA, XB, gateX, ↓reduceIte, beq_self_eq_true, b3]
      refine ⟨by omega, by omega, ld_mem hl1 ?_⟩
      simp only [XA, XB, gateX, ↓reduceIte, beq_self_eq_true]
      refine ⟨by omega, by omega, ld_mem hl2 ?_⟩
      simp only [XA, gateX, ↓reduceIte, beq_self_eq_true]
      refine call_go (by kernel_rfl) rfl (psign_c _ _ _ (hx.toV (hqf p k hpR (by omega)))) fun v10 V10 hV10 h10 => ?_
      subst h10
      by_cases hz0 : G p k = 0
      · have b4' : decide (G p k = 0) = true := decide_eq_true hz0
        simp only [XA, XB, gateX, ↓reduceIte, beq_self_eq_true, sgI_zero, b4']
        refine hK _ ?_
        refine Gx.t rfl ?_
        refine XWP.skip ?_
        refine XWP.block ?_
        refine Gx.c (by kernel_rfl) fun K hK => ?_
        simp only [XA, XB, i64_succ p (by omega)]
        refine hK _ ⟨d2 - 1, by omega, fun f => ⟨p + 1, V10, StIs.of (by exact rfl), View.le_trans hV9 hV10, by omega, by omega, fun i h1 h2 => ?_⟩⟩
        by_cases e : i = p
        · rw [e]; exact hz0
        · exact hz i h1 (by omega)
      · have b4' : decide (G p k = 0) = false := decide_eq_false hz0
        simp only [XA, XB, gateX, ↓reduceIte, beq_self_eq_true, sgI_zero, b4']
        refine hK _ ?_
        refine Gx.f rfl ?_
        refine XWP.exit ?_
        exact fun f => ⟨p, V10, StIs.of (by exact rfl), View.le_trans hV9 hV10, hp, by omega, hz, fun _ => hz0⟩
      --}
    rintro s ⟨p, V9, hs, hV9, hp1, hp2, hz, hnz⟩
    obtain ⟨z, rfl⟩ := hs.out
    try dsimp only
    clear hs
    by_cases hpR : p < n
    rotate_left
    · obtain rfl : p = n := by omega
      refine XWP.seq ?_
      refine Gx.a (by kernel_rfl) fun K hK => ?_
      simp only [XN, XA, XB, decide_true]
      refine hK _ ?_
      refine Gx.t rfl ?_
      refine Gx.a (by kernel_rfl) fun K hK => ?_
      simp only [XA]
      refine call_go (by kernel_rfl) rfl (pzero_c _) fun v10 V10 hV10 k10 => ?_
      obtain ⟨x10, y10, rfl, o1, o2⟩ := k10.form
      simp only [XA]
      refine st_rat rfl rfl rfl o1 o2 ?_
      simp only [XA]
      refine hK _ ?_
      refine XWP.exit ?_
      exact fun f => ⟨V10, H9, _, x10, y10, 0, G, top, StIs.of (by exact rfl), View.le_trans hV9 hV10, k10, o1, o2, QB_zero _, hmem1.mono (View.le_trans hV9 hV10), hinv.skip hk fun i h1 h2 => hz i h1 h2⟩
    refine XWP.seq ?_
    have b3 : decide ((p : Int) = (n : Int)) = false := decide_eq_false (by omega)
    refine Gx.a (by kernel_rfl) fun K hK => ?_
    simp only [XN, XA, XB, b3]
    refine hK _ ?_
    refine Gx.f rfl ?_
    refine XWP.skip ?_
    have hnz := hnz hpR
    have ht : top < n := by omega
    have hpiv := hinv.piv hk hp1 hpR hnz
    have hq2 : ∀ i j, i < n → j < n → QB (ge B k) (gsw G p top i j) := fun i j hi hj => hinv.qb _ j (swp_lt hpR (by omega) hi) hj
    have egk : gsw G p top top k = G p k := by
      have et : swp p top top = p := by unfold swp; split <;> (try split) <;> omega
      unfold gsw; rw [et]
    have e0 : gsw G p top top k ≠ 0 := by rw [egk]; exact hnz
    rw [← egk] at hpiv
    obtain ⟨d', hd'⟩ : ∃ d', d' = if p = top then d else -d := ⟨_, rfl⟩
    rw [← hd'] at hpiv
    have hqk1 : (k + 1) * ge B (n + 1) = k * ge B (n + 1) + ge B (n + 1) := by rw [Nat.add_mul, Nat.one_mul]
    have hqk2 := hmulB (k + 1) (by omega)
    have dqf : QF d := dq.qf (by have : 1 ≤ ge B (n + 1) := by (simp only [ge]; omega)
                                 omega)
    refine XWP.cut (fun s => ∃ (V10 : View) (H10 : Heap) (dm : Bool) (dx dy : Value), StIs (fun Z => [.v (.slice (some ⟨g, 0, none⟩) n cap), .v (.int .i64 (n : Int)), Z 2,Z 3,Z 4, .p 0 0, .p 1 0, .v (.slice (some ⟨gw, 0, none⟩) n n), .v (.int .i64 (top : Int)), .v (.int .i64 (k : Int)), Z 10,Z 11,Z 12,Z 13,Z 14,Z 15,Z 16,Z 17,Z 18,Z 19,Z 20,Z 21,Z 22,Z 23,Z 24,Z 25,Z 26,Z 27,Z 28,Z 29,Z 30,Z 31,Z 32,Z 33,Z 34,Z 35,Z 36,Z 37,Z 38,Z 39,Z 40,Z 41,Z 42,Z 43,Z 44,Z 45,Z 46,Z 47,Z 48,Z 49,Z 50,Z 51,Z 52,Z 53,Z 54,Z 55,Z 56,Z 57,Z 58,Z 59,Z 60,Z 61,Z 62,Z 63,Z 64,Z 65,Z 66,Z 67,Z 68,Z 69,Z 70,Z 71,Z 72,Z 73,Z 74,Z 75,Z 76,Z 77,Z 78,Z 79,Z 80,Z 81,Z 82,Z 83,Z 84,Z 85,Z 86,Z 87,Z 88,Z 89,Z 90,Z 91,Z 92,Z 93,Z 94,Z 95,Z 96,Z 97,Z 98,Z 99,Z 100,Z 101,Z 102,Z 103,Z 104,Z 105,Z 106,Z 107,Z 108,Z 109,Z 110,Z 111,Z 112,Z 113,Z 114,Z 115,Z 116,Z 117,Z 118,Z 119,Z 120,Z 121,Z 122,Z 123,Z 124,Z 125,Z 126,Z 127,Z 128,Z 129,Z 130,Z 131,Z 132,Z 133,Z 134,Z 135,Z 136,Z 137,Z 138,Z 139,Z 140,Z 141,Z 142,Z 143,Z 144,Z 145,Z 146,Z 147,Z 148,Z 149,Z 150,Z 151,Z 152,Z 153,Z 154,Z 155,Z 156,Z 157,Z 158,Z 159,Z 160,Z 161,Z 162,Z 163,Z 164,Z 165,Z 166,Z 167,Z 168,Z 169,Z 170,Z 171,Z 172]) [[.bool false, .slice none 0 0, .slice none 0 0], [.bool dm, dx, dy]] H10 V10 s ∧ V8.le V10 ∧ RatC V10 (.agg #[.bool dm, dx, dy]) d' ∧ isOne dx = true ∧ isOne dy = true ∧ QB (k * ge B (n + 1) + 1) d' ∧ CMW H10 V10 (.slice (some ⟨g, 0, none⟩) n cap) n gw av H0 (gsw G p top)) ?_ ?_
    · by_cases hpk : p = top
      · subst hpk
        refine Gx.a (by kernel_rfl) fun K hK => ?_
        simp only [XA, XB, decide_true]
        refine hK _ ?_
        refine Gx.f rfl ?_
        refine XWP.skip ?_
        rw [if_pos rfl] at hd'
        subst hd'
        exact ⟨V9, H9, dm, dx, dy, StIs.of (by exact rfl), hV9, kd.mono hV9, p1, p2, dq, by rw [gsw_self]; exact hmem1.mono hV9⟩
      rw [if_neg hpk] at hd'
      subst hd'
      have b5 : decide ((p : Int) = (top : Int)) = false := decide_eq_false (by omega)
      refine Gx.a (by kernel_rfl) fun K hK => ?_
      simp only [XA, XB, b5]
      refine hK _ ?_
      refine Gx.t rfl ?_
      have hmem2 := (hmem1.mono hV9).swap hpR ht
      clear hmem1
      obtain ⟨g', cap', cells, vp, vt, e6, hg, hcl, hlp, hlt, op, ot, hmem2⟩ := hmem2
      cases e6
      (refine XWP.drw [0, 1, 2, 3, 4, 5, 6, 7, 8, 9, 10, 11, 12, 13, 14, 15] (by kernel_rfl) (by kernel_rfl) (by kernel_rfl) fun K hK => ?_) <;> dsimp only [pickOps, List.getElem?_cons_zero, List.getElem?_cons_succ]
      simp only [XN, XA, XB]
      refine ⟨by omega, by omega, ld_mem hlt ?_⟩
      simp only [XN, XA, XB]
      refine ⟨by omega, by omega, ld_mem hlp ?_⟩
      simp only [XN, XA, XB]
      refine ⟨by omega, by omega, ?_⟩
      refine st_row shapeT_22 ot rfl hg (by dsimp only; omega) ?_
      simp only [XN, XA, XB]
      refine ⟨by omega, by omega, ?_⟩
      refine st_row shapeT_22 op rfl (upd_at _ _ _) (by simp only [List.length_set]; omega) ?_
      simp only [XA]
      refine hK _ ?_
      obtain ⟨H2, hH2⟩ : ∃ H2, H2 = upd (upd H9 g (some ⟨22, cells.set p vt, cap * 1⟩)) g (some ⟨22, (cells.set p vt).set top vp, cap * 1⟩) := ⟨_, rfl⟩
      rw [← hH2] at hmem2
      simp only [Nat.mul_one] at hH2
      rw [← hH2]
      clear hH2 hlp hlt op ot hg hcl hz
      refine Gx.c (by kernel_rfl) fun K hK => ?_
      simp only [XA, XB, Nat.reduceAdd, Nat.reduceLeDiff, ↓reduceIte]
      refine call_go (by kernel_rfl) rfl (pneg_c _ _ _ ((kd.mono hV9).toV dqf)) fun v10 V10 hV10 k10 => ?_
      obtain ⟨x10, y10, rfl, o1, o2⟩ := k10.form
      simp only [XA]
      refine st_rat rfl rfl rfl o1 o2 ?_
      simp only [XA]
      exact hK _ ⟨V10, H2, _, x10, y10, StIs.of (by exact rfl), View.le_trans hV9 hV10, k10, o1, o2, QB_neg dq, hmem2.mono hV10⟩
    clear hmem1 kd p1 p2 dq dqf hd' egk
    rintro s ⟨V10, H10, dm, dx, dy, hs, hV10, kd, p1, p2, dq, hmem2⟩
    obtain ⟨z, rfl⟩ := hs.out
    try dsimp only
    clear hs
    generalize gsw G p top = G2 at *
    have dqf : QF d' := dq.qf (by have : 1 ≤ ge B (n + 1) := by (simp only [ge]; omega)
                                  omega)
    have hqf2 : ∀ i j, i < n → j < n → QF (G2 i j) := fun i j hi hj => (hq2 i j hi hj).qf (by omega)
    obtain ⟨g', cap', b, c, cs, e6, hl1, hb, hcl, hc, hget, _⟩ := hmem2.at ht
    cases e6
    obtain ⟨x, y, w, hx, ⟨o1, o2, o3⟩, hl2⟩ := hget k (by omega)
    refine Gx.a (by kernel_rfl) fun K hK => ?_
    simp only [XN, XA, XB]
    refine ⟨by omega, by omega, ld_mem hl1 ?_⟩
    simp only [XA, XB]
    refine ⟨by omega, by omega, ld_mem hl2 ?_⟩
    simp only [XA, XB, Nat.reduceAdd]
    refine st_rat rfl rfl o1 o2 o3 ?_
    simp only [XA]
    refine hK _ ?_
    refine Gx.a (by kernel_rfl) fun K hK => ?_
    simp only [XA, XB, Nat.reduceAdd, Nat.reduceLeDiff, ↓reduceIte]
    refine call_go (by kernel_rfl) rfl (pmul_c _ _ _ _ _ (kd.toV dqf) (hx.toV (hqf2 top k ht (by omega))) dqf (hqf2 top k ht (by omega))) fun v11 V11 hV11 k11 => ?_
    obtain ⟨x11, y11, rfl, s1, s2⟩ := k11.form
    simp only [XA]
    refine st_rat rfl rfl rfl s1 s2 ?_
    simp only [XA]
    refine hK _ ?_
    have dq3 : QB ((k + 1) * ge B (n + 1) + 1) (d' * G2 top k) := (dq.mul (hq2 top k ht hk)).mono (by omega)
    have hmem2 := hmem2.mono hV11
    have hx := hx.mono hV11
    have hV11 := View.le_trans hV10 hV11
    generalize d' * G2 top k = d3 at *
    clear hl1 hb hcl hc hget hl2 kd p1 p2 dq dqf hV10
    refine XWP.cutD 3 (fun s => ∃ (V12 : View) (H12 : Heap), StIs (fun Z => [.v (.slice (some ⟨g, 0, none⟩) n cap), .v (.int .i64 (n : Int)), Z 2,Z 3,Z 4, .p 0 0, .p 1 0, .v (.slice (some ⟨gw, 0, none⟩) n n), .v (.int .i64 (top : Int)), .v (.int .i64 (k : Int)), Z 10,Z 11,Z 12,Z 13,Z 14,Z 15,Z 16,Z 17,Z 18,Z 19,Z 20,Z 21,Z 22,Z 23,Z 24,Z 25,Z 26,Z 27,Z 28,Z 29,Z 30,Z 31,Z 32,Z 33,Z 34,Z 35,Z 36,Z 37,Z 38,Z 39,Z 40,Z 41,Z 42,Z 43,Z 44,Z 45,Z 46,Z 47,Z 48,Z 49,Z 50,Z 51,Z 52,Z 53,Z 54,Z 55,Z 56,Z 57,Z 58,Z 59,Z 60,Z 61,Z 62,Z 63,Z 64,Z 65,Z 66,Z 67,Z 68,Z 69,Z 70,Z 71,Z 72,Z 73,Z 74,Z 75,Z 76,Z 77,Z 78,Z 79,Z 80,Z 81,Z 82,Z 83,Z 84,Z 85,Z 86,Z 87,Z 88,Z 89,Z 90,Z 91,Z 92,Z 93,Z 94,Z 95,Z 96,Z 97,Z 98,Z 99,Z 100,Z 101,Z 102,Z 103,Z 104,Z 105,Z 106,Z 107,Z 108,Z 109,Z 110,Z 111,Z 112,Z 113,Z 114,Z 115,Z 116,Z 117,Z 118,Z 119,Z 120,Z 121,Z 122,Z 123,Z 124,Z 125,Z 126,Z 127,Z 128,Z 129,Z 130,Z 131,Z 132,Z 133,Z 134,Z 135,Z 136,Z 137,Z 138,Z 139,Z 140,Z 141,Z 142,Z 143,Z 144,Z 145,Z 146,Z 147,Z 148,Z 149,Z 150,Z 151,Z 152,Z 153,Z 154,Z 155,Z 156,Z 157,Z 158,Z 159,Z 160,Z 161,Z 162,Z 163,Z 164,Z 165,Z 166,Z 167,Z 168,Z 169,Z 170,Z 171,Z 172]) [[.bool false, .slice none 0 0, .slice none 0 0], [.bool (ng d3), x11, y11], [x, y, w]] H12 V12 s ∧ V11.le V12 ∧ CMW H12 V12 (.slice (some ⟨g, 0, none⟩) n cap) n gw av H0 (fun i c => if i = top then G2 top c / G2 top k else G2 i c)) ?_ ?_
    · --{
      obtain ⟨g', cap', b, c, cs, e6, hl1, hb, hcl, hc, hget, _⟩ := hmem2.at ht
      cases e6
      refine Gx.a (by kernel_rfl) fun K hK => ?_
      simp only [XN, XA, XB]
      refine ⟨by omega, by omega, ld_mem hl1 ?_⟩
      simp only [XA, XB]
      refine hK _ ?_
      clear hl1 hb hcl hc hget
      refine XWP.block ?_
      refine XWP.loopD 3 (fun d s => ∃ (j : Nat) (V12 : View) (H12 : Heap), StIs (fun Z => [.v (.slice (some ⟨g, 0, none⟩) n cap), .v (.int .i64 (n : Int)), Z 2,Z 3,Z 4, .p 0 0, .p 1 0, .v (.slice (some ⟨gw, 0, none⟩) n n), .v (.int .i64 (top : Int)), .v (.int .i64 (k : Int)), Z 10, .p 2 0, Z 12,Z 13,Z 14,Z 15,Z 16,Z 17,Z 18,Z 19,Z 20,Z 21,Z 22,Z 23,Z 24,Z 25,Z 26,Z 27,Z 28,Z 29,Z 30,Z 31,Z 32,Z 33,Z 34,Z 35,Z 36,Z 37,Z 38,Z 39,Z 40,Z 41,Z 42,Z 43,Z 44,Z 45,Z 46,Z 47,Z 48,Z 49,Z 50,Z 51,Z 52,Z 53,Z 54,Z 55,Z 56,Z 57,Z 58,Z 59,Z 60,Z 61,Z 62,Z 63,Z 64,Z 65,Z 66,Z 67,Z 68,Z 69,Z 70,Z 71,Z 72,Z 73,Z 74,Z 75,Z 76,Z 77,Z 78,Z 79,Z 80,Z 81,Z 82, .v (.int .i64 (n : Int)), .v (.int .i64 (j : Int)), Z 85,Z 86,Z 87,Z 88,Z 89,Z 90,Z 91,Z 92,Z 93,Z 94,Z 95,Z 96,Z 97,Z 98,Z 99,Z 100,Z 101,Z 102,Z 103,Z 104,Z 105,Z 106,Z 107,Z 108,Z 109,Z 110,Z 111,Z 112,Z 113,Z 114,Z 115,Z 116,Z 117,Z 118,Z 119,Z 120,Z 121,Z 122,Z 123,Z 124,Z 125,Z 126,Z 127,Z 128,Z 129,Z 130,Z 131,Z 132,Z 133,Z 134,Z 135,Z 136,Z 137,Z 138,Z 139,Z 140,Z 141,Z 142,Z 143,Z 144,Z 145,Z 146,Z 147,Z 148,Z 149,Z 150,Z 151,Z 152,Z 153,Z 154,Z 155,Z 156,Z 157,Z 158,Z 159,Z 160,Z 161,Z 162,Z 163,Z 164,Z 165,Z 166,Z 167,Z 168,Z 169,Z 170,Z 171,Z 172]) [[.bool false, .slice none 0 0, .slice none 0 0], [.bool (ng d3), x11, y11], [x, y, w]] H12 V12 s ∧ V11.le V12 ∧ d + j = n ∧ CMW H12 V12 (.slice (some ⟨g, 0, none⟩) n cap) n gw av H0 (fun i c => if i = top ∧ c < j then G2 top c / G2 top k else G2 i c)) n ⟨0, V11, H10, StIs.of (by exact rfl), View.le_refl _, by omega, hmem2.congr fun i c _ _ => by rw [if_neg (by omega)]⟩ ?_
      rintro d2 s ⟨j, V12, H12, hs, hV12, hd2, hmem3⟩
      obtain ⟨z, rfl⟩ := hs.out
      try dsimp only
      clear hs
      by_cases hj : j < n
      rotate_left
      · have hjn : j = n := by omega
        have b6 : decide ((j : Int) < (n : Int)) = false := decide_eq_false (by omega)
        refine Gx.a (by kernel_rfl) fun K hK => ?_
        simp only [XA, XB, b6]
        refine hK _ ?_
        refine XWP.seq (Gx.f rfl ?_)
        refine XWP.exit ?_
        exact fun f => ⟨V12, H12, StIs.of (by exact rfl), hV12, hmem3.congr fun i c hi hc => by
          by_cases e : i = top
          · rw [if_pos ⟨e, by omega⟩, if_pos e]
          · rw [if_neg (fun h => e h.1), if_neg e]⟩
      have b6 : decide ((j : Int) < (n : Int)) = true := decide_eq_true (by omega)
      refine Gx.a (by kernel_rfl) fun K hK => ?_
      simp only [XA, XB, b6]
      refine hK _ ?_
      refine XWP.seq (Gx.t rfl ?_)
      refine XWP.skip ?_
      refine XWP.seq ?_
      refine XWP.block ?_
      refine Gx.a (by kernel_rfl) fun K hK => ?_
      simp only [XA]
      refine hK _ ?_
      obtain ⟨g', cap', b, c, cs, e6, hl1, hb, hcl, hc, hget, hset⟩ := hmem3.at ht
      cases e6
      obtain ⟨x1, y1, w1, hx1, _, hl2⟩ := hget j hj
      rw [if_neg (by omega)] at hx1
      (refine XWP.drw1 [0, 1, 2, 3, 4, 5, 6, 7, 8, 9, 10, 11, 12, 13, 14, 15, 16, 17, 18] (by kernel_rfl) (by kernel_rfl) (by kernel_rfl) fun K hK => ?_) <;> dsimp only [pickOps, List.getElem?_cons_zero, List.getElem?_cons_succ]
      simp only [XN, XA, XB]
      refine ⟨by omega, by omega, ld_mem hl1 ?_⟩
      simp only [XN, XA, XB]
      refine ⟨by omega, by omega, ld_mem hl1 ?_⟩
      simp only [XA, XB]
      refine ⟨by omega, by omega, ld_mem hl2 ?_⟩
      simp only [XA, XB, Nat.reduceAdd, Nat.reduceLeDiff, ↓reduceIte]
      refine call_go (by kernel_rfl) rfl (pdiv_c _ _ _ _ _ (hx1.toV (hqf2 top j ht hj)) ((hx.mono hV12).toV (hqf2 top k ht (by omega))) (hqf2 top j ht hj) (hqf2 top k ht (by omega))) fun v13 V13 hV13 h13 => ?_
      obtain ⟨r, rfl, hr⟩ := h13.2 e0
      obtain ⟨x2, y2, rfl, o4, o5⟩ := hr.form
      simp only [XA, XB]
      refine ⟨by omega, by omega, ?_⟩
      refine st_rowA shapeT_48 (all3 rfl o4 o5) rfl hb (by dsimp only; omega) ?_
      simp only [XA]
      refine hK _ ?_
      refine Gx.c (by kernel_rfl) fun K hK => ?_
      simp only [XA, XB, i64_succ j (by omega)]
      have hmem4 := hset V13 j _ _ _ _ hj hV13 hr rfl o4 o5
      refine hK _ ⟨d2 - 1, by omega, fun f => ⟨j + 1, V13, _, StIs.of (by exact rfl), View.le_trans hV12 hV13, by omega, hmem4.congr fun i c _ _ => ?_⟩⟩
      by_cases e : i = top
      · subst e
        by_cases e2 : c = j
        · subst e2; rw [if_pos ⟨rfl, rfl⟩, if_pos ⟨rfl, by omega⟩]
        · rw [if_neg (fun h => e2 h.2)]
          by_cases e3 : c < j
          · rw [if_pos ⟨rfl, e3⟩, if_pos ⟨rfl, by omega⟩]
          · rw [if_neg (fun h => e3 h.2), if_neg (fun h => by omega)]
      · rw [if_neg (fun h => e h.1), if_neg (fun h => e h.1), if_neg (fun h => e h.1)]
      --}
    clear hmem2 hx
    rintro s ⟨V12, H12, hs, hV12, hmem3⟩
    obtain ⟨z, rfl⟩ := hs.out
    try dsimp only
    clear hs
    obtain ⟨G3, hG3⟩ : ∃ G3 : Grid, G3 = fun i c => if i = top then G2 top c / G2 top k else G2 i c := ⟨_, rfl⟩
    rw [← hG3] at hmem3
    have g3t : ∀ c, G3 top c = G2 top c / G2 top k := fun c => by rw [hG3]; simp
    have g3i : ∀ i c, i ≠ top → G3 i c = G2 i c := fun i c h => by rw [hG3]; simp [h]
    have gct : ∀ c, gcol G2 top k top c = G3 top c := fun c => by unfold gcol; rw [if_pos rfl, g3t]
    have gci : ∀ i c, i ≠ top → gcol G2 top k i c = G2 i c - G2 i k * (G2 top c / G2 top k) := fun i c h => by unfold gcol; rw [if_neg h]
    clear hG3
    refine XWP.cutD 3 (fun s => ∃ (V13 : View) (H13 : Heap), StIs (fun Z => [.v (.slice (some ⟨g, 0, none⟩) n cap), .v (.int .i64 (n : Int)), Z 2,Z 3,Z 4, .p 0 0, .p 1 0, .v (.slice (some ⟨gw, 0, none⟩) n n), .v (.int .i64 (top : Int)), .v (.int .i64 (k : Int)), Z 10,Z 11,Z 12,Z 13,Z 14,Z 15,Z 16,Z 17,Z 18,Z 19,Z 20,Z 21,Z 22,Z 23,Z 24,Z 25,Z 26,Z 27,Z 28,Z 29,Z 30,Z 31,Z 32,Z 33,Z 34,Z 35,Z 36,Z 37,Z 38,Z 39,Z 40,Z 41,Z 42,Z 43,Z 44,Z 45,Z 46,Z 47,Z 48,Z 49,Z 50,Z 51,Z 52,Z 53,Z 54,Z 55,Z 56,Z 57,Z 58,Z 59,Z 60,Z 61,Z 62,Z 63,Z 64,Z 65,Z 66,Z 67,Z 68,Z 69,Z 70,Z 71,Z 72,Z 73,Z 74,Z 75,Z 76,Z 77,Z 78,Z 79,Z 80,Z 81,Z 82,Z 83,Z 84,Z 85,Z 86,Z 87,Z 88,Z 89,Z 90,Z 91,Z 92,Z 93,Z 94,Z 95,Z 96,Z 97,Z 98,Z 99,Z 100,Z 101,Z 102,Z 103,Z 104,Z 105,Z 106,Z 107,Z 108,Z 109,Z 110,Z 111,Z 112,Z 113,Z 114,Z 115,Z 116,Z 117,Z 118,Z 119,Z 120,Z 121,Z 122,Z 123,Z 124,Z 125,Z 126,Z 127,Z 128,Z 129,Z 130,Z 131,Z 132,Z 133,Z 134,Z 135,Z 136,Z 137,Z 138,Z 139,Z 140,Z 141,Z 142,Z 143,Z 144,Z 145,Z 146,Z 147,Z 148,Z 149,Z 150,Z 151,Z 152,Z 153,Z 154,Z 155,Z 156,Z 157,Z 158,Z 159,Z 160,Z 161,Z 162,Z 163,Z 164,Z 165,Z 166,Z 167,Z 168,Z 169,Z 170,Z 171,Z 172]) [[.bool false, .slice none 0 0, .slice none 0 0], [.bool (ng d3), x11, y11], [x, y, w]] H13 V13 s ∧ V12.le V13 ∧ CMW H13 V13 (.slice (some ⟨g, 0, none⟩) n cap) n gw av H0 (gcol G2 top k)) ?_ ?_
    · --{
      refine Gx.a (by kernel_rfl) fun K hK => ?_
      simp only [XN, XA]
      refine hK _ ?_
      clear hK
      refine XWP.block ?_
      refine XWP.loopD 3 (fun d s => ∃ (i : Nat) (V13 : View) (H13 : Heap), StIs (fun Z => [.v (.slice (some ⟨g, 0, none⟩) n cap), .v (.int .i64 (n : Int)), Z 2,Z 3,Z 4, .p 0 0, .p 1 0, .v (.slice (some ⟨gw, 0, none⟩) n n), .v (.int .i64 (top : Int)), .v (.int .i64 (k : Int)), Z 10,Z 11,Z 12,Z 13,Z 14,Z 15,Z 16,Z 17,Z 18,Z 19,Z 20,Z 21,Z 22,Z 23,Z 24,Z 25,Z 26,Z 27,Z 28,Z 29,Z 30,Z 31,Z 32,Z 33,Z 34,Z 35,Z 36,Z 37,Z 38,Z 39,Z 40,Z 41,Z 42,Z 43,Z 44,Z 45,Z 46,Z 47,Z 48,Z 49,Z 50,Z 51,Z 52,Z 53,Z 54,Z 55,Z 56,Z 57,Z 58,Z 59,Z 60,Z 61,Z 62,Z 63,Z 64,Z 65,Z 66,Z 67,Z 68,Z 69,Z 70,Z 71,Z 72,Z 73,Z 74,Z 75,Z 76,Z 77,Z 78,Z 79,Z 80,Z 81,Z 82,Z 83,Z 84,Z 85,Z 86,Z 87,Z 88,Z 89,Z 90,Z 91,Z 92,Z 93,Z 94,Z 95,Z 96,Z 97,Z 98,Z 99,Z 100,Z 101,Z 102,Z 103,Z 104,Z 105,Z 106, .v (.int .i64 (n : Int)), .v (.int .i64 (i : Int)), Z 109,Z 110,Z 111,Z 112,Z 113,Z 114,Z 115,Z 116,Z 117,Z 118,Z 119,Z 120,Z 121,Z 122,Z 123,Z 124,Z 125,Z 126,Z 127,Z 128,Z 129,Z 130,Z 131,Z 132,Z 133,Z 134,Z 135,Z 136,Z 137,Z 138,Z 139,Z 140,Z 141,Z 142,Z 143,Z 144,Z 145,Z 146,Z 147,Z 148,Z 149,Z 150,Z 151,Z 152,Z 153,Z 154,Z 155,Z 156,Z 157,Z 158,Z 159,Z 160,Z 161,Z 162,Z 163,Z 164,Z 165,Z 166,Z 167,Z 168,Z 169,Z 170,Z 171,Z 172]) [[.bool false, .slice none 0 0, .slice none 0 0], [.bool (ng d3), x11, y11], [x, y, w]] H13 V13 s ∧ V12.le V13 ∧ d + i = n ∧ CMW H13 V13 (.slice (some ⟨g, 0, none⟩) n cap) n gw av H0 (fun i' c => if i' < i then gcol G2 top k i' c else G3 i' c)) n ⟨0, V12, H12, StIs.of (by exact rfl), View.le_refl _, by omega, hmem3.congr fun i c _ _ => by rw [if_neg (by omega)]⟩ ?_
      rintro d2 s ⟨i, V13, H13, hs, hV13, hd2, hmem4⟩
      obtain ⟨z, rfl⟩ := hs.out
      try dsimp only
      clear hs
      by_cases hi : i < n
      rotate_left
      · obtain rfl : i = n := by omega
        have b6 : decide ((i : Int) < (i : Int)) = false := decide_eq_false (by omega)
        refine Gx.a (by kernel_rfl) fun K hK => ?_
        simp only [XA, XB, b6]
        refine hK _ ?_
        refine XWP.seq (Gx.f rfl ?_)
        refine XWP.exit ?_
        exact fun f => ⟨V13, H13, StIs.of (by exact rfl), hV13, hmem4.congr fun i' c h1 h2 => by rw [if_pos h1]⟩
      have b6 : decide ((i : Int) < (n : Int)) = true := decide_eq_true (by omega)
      refine Gx.a (by kernel_rfl) fun K hK => ?_
      simp only [XA, XB, b6]
      refine hK _ ?_
      refine XWP.seq (Gx.t rfl ?_)
      refine XWP.skip ?_
      refine XWP.cutD 3 (fun s => ∃ (V14 : View) (H14 : Heap), StIs (fun Z => [.v (.slice (some ⟨g, 0, none⟩) n cap), .v (.int .i64 (n : Int)), Z 2,Z 3,Z 4, .p 0 0, .p 1 0, .v (.slice (some ⟨gw, 0, none⟩) n n), .v (.int .i64 (top : Int)), .v (.int .i64 (k : Int)), Z 10,Z 11,Z 12,Z 13,Z 14,Z 15,Z 16,Z 17,Z 18,Z 19,Z 20,Z 21,Z 22,Z 23,Z 24,Z 25,Z 26,Z 27,Z 28,Z 29,Z 30,Z 31,Z 32,Z 33,Z 34,Z 35,Z 36,Z 37,Z 38,Z 39,Z 40,Z 41,Z 42,Z 43,Z 44,Z 45,Z 46,Z 47,Z 48,Z 49,Z 50,Z 51,Z 52,Z 53,Z 54,Z 55,Z 56,Z 57,Z 58,Z 59,Z 60,Z 61,Z 62,Z 63,Z 64,Z 65,Z 66,Z 67,Z 68,Z 69,Z 70,Z 71,Z 72,Z 73,Z 74,Z 75,Z 76,Z 77,Z 78,Z 79,Z 80,Z 81,Z 82,Z 83,Z 84,Z 85,Z 86,Z 87,Z 88,Z 89,Z 90,Z 91,Z 92,Z 93,Z 94,Z 95,Z 96,Z 97,Z 98,Z 99,Z 100,Z 101,Z 102,Z 103,Z 104,Z 105,Z 106, .v (.int .i64 (n : Int)), .v (.int .i64 (i : Int)), Z 109,Z 110,Z 111,Z 112,Z 113,Z 114,Z 115,Z 116,Z 117,Z 118,Z 119,Z 120,Z 121,Z 122,Z 123,Z 124,Z 125,Z 126,Z 127,Z 128,Z 129,Z 130,Z 131,Z 132,Z 133,Z 134,Z 135,Z 136,Z 137,Z 138,Z 139,Z 140,Z 141,Z 142,Z 143,Z 144,Z 145,Z 146,Z 147,Z 148,Z 149,Z 150,Z 151,Z 152,Z 153,Z 154,Z 155,Z 156,Z 157,Z 158,Z 159,Z 160,Z 161,Z 162,Z 163,Z 164,Z 165,Z 166,Z 167,Z 168,Z 169,Z 170,Z 171,Z 172]) [[.bool false, .slice none 0 0, .slice none 0 0], [.bool (ng d3), x11, y11], [x, y, w]] H14 V14 s ∧ V13.le V14 ∧ CMW H14 V14 (.slice (some ⟨g, 0, none⟩) n cap) n gw av H0 (fun i' c => if i' < i + 1 then gcol G2 top k i' c else G3 i' c)) ?_ ?_
      rotate_left
      · rintro s ⟨V14, H14, hs, hV14, hmem5⟩
        obtain ⟨z, rfl⟩ := hs.out
        try dsimp only
        clear hs
        refine Gx.c (by kernel_rfl) fun K hK => ?_
        simp only [XA, XB, i64_succ i (by omega)]
        exact hK _ ⟨d2 - 1, by omega, fun f => ⟨i + 1, V14, H14, StIs.of (by exact rfl), View.le_trans hV13 hV14, by omega, hmem5⟩⟩
      clear hK
      refine XWP.block ?_
      refine Gx.a (by kernel_rfl) fun K hK => ?_
      simp only [XA]
      refine hK _ ?_
      have hskip : (∀ c, gcol G2 top k i c = G3 i c) → ∀ V14, V13.le V14 → CMW H13 V14 (.slice (some ⟨g, 0, none⟩) n cap) n gw av H0 (fun i' c => if i' < i + 1 then gcol G2 top k i' c else G3 i' c) := fun h V14 hV => (hmem4.mono hV).congr fun i' c _ _ => by
        by_cases e : i' = i
        · rw [e, if_neg (by omega), if_pos (by omega), h]
        · by_cases e2 : i' < i
          · rw [if_pos e2, if_pos (by omega)]
          · rw [if_neg e2, if_neg (by omega)]
      refine XWP.seq ?_
      by_cases hit : i = top
      · subst hit
        refine Gx.a (by kernel_rfl) fun K hK => ?_
        simp only [XA, XB, gateX, ↓reduceIte, decide_true]
        refine hK _ ?_
        refine Gx.t rfl ?_
        refine XWP.exit ?_
        exact fun f => ⟨V13, H13, StIs.of (by exact rfl), View.le_refl _, hskip gct V13 (View.le_refl _)⟩
      have b5 : decide ((i : Int) = (top : Int)) = false := decide_eq_false (by omega)
      obtain ⟨g', cap', b, c, cs, e6, hl1, hb, hcl, hc, hget, _⟩ := hmem4.at hi
      cases e6
      obtain ⟨x3, y3, w3, hx3, ⟨o1, o2, o3⟩, hl2⟩ := hget k (by omega)
      rw [if_neg (by omega), g3i i k hit] at hx3
      refine Gx.a (by kernel_rfl) fun K hK => ?_
      simp only [XN, XA, XB, gateX, ↓reduceIte, beq_self_eq_true, b5]
      refine ⟨by omega, by omega, ld_mem hl1 ?_⟩
      simp only [XA, XB, gateX, ↓reduceIte, beq_self_eq_true]
      refine ⟨by omega, by omega, ld_mem hl2 ?_⟩
      simp only [XA, gateX, ↓reduceIte, beq_self_eq_true]
      refine call_go (by kernel_rfl) rfl (psign_c _ _ _ (hx3.toV (hqf2 i k hi (by omega)))) fun v14 V14 hV14 h14 => ?_
      subst h14
      by_cases hz0 : G2 i k = 0
      · have b7 : decide (G2 i k = 0) = true := decide_eq_true hz0
        simp only [XA, XB, gateX, ↓reduceIte, beq_self_eq_true, sgI_zero, b7]
        refine hK _ ?_
        refine Gx.t rfl ?_
        refine XWP.exit ?_
        exact fun f => ⟨V14, H13, StIs.of (by exact rfl), hV14, hskip (fun c => by rw [gci i c hit, g3i i c hit, hz0]; grind) V14 hV14⟩
      have b7 : decide (G2 i k = 0) = false := decide_eq_false hz0
      simp only [XA, XB, gateX, ↓reduceIte, beq_self_eq_true, sgI_zero, b7]
      refine hK _ ?_
      refine Gx.f rfl ?_
      refine XWP.skip ?_
      clear hl1 hl2 hskip
      obtain ⟨g', cap', b, c, cs, e6, hl1, hb, hcl, hc, hget, _⟩ := (hmem4.mono hV14).at hi
      cases e6
      obtain ⟨x3, y3, w3, hx3, ⟨o1, o2, o3⟩, hl2⟩ := hget k (by omega)
      rw [if_neg (by omega), g3i i k hit] at hx3
      refine Gx.a (by kernel_rfl) fun K hK => ?_
      simp only [XN, XA, XB]
      refine ⟨by omega, by omega, ld_mem hl1 ?_⟩
      simp only [XA, XB]
      refine ⟨by omega, by omega, ld_mem hl2 ?_⟩
      simp only [XA, XB, Nat.reduceAdd]
      refine st_rat rfl rfl o1 o2 o3 ?_
      simp only [XA]
      refine hK _ ?_
      refine Gx.a (by kernel_rfl) fun K hK => ?_
      simp only [XN, XA, XB]
      refine ⟨by omega, by omega, ld_mem hl1 ?_⟩
      simp only [XA, XB]
      refine hK _ ?_
      clear hl1 hb hcl hc hget hl2
      refine XWP.block ?_
      refine XWP.loopD 4 (fun d s => ∃ (j : Nat) (V15 : View) (H15 : Heap), StIs (fun Z => [.v (.slice (some ⟨g, 0, none⟩) n cap), .v (.int .i64 (n : Int)), Z 2,Z 3,Z 4, .p 0 0, .p 1 0, .v (.slice (some ⟨gw, 0, none⟩) n n), .v (.int .i64 (top : Int)), .v (.int .i64 (k : Int)), Z 10,Z 11,Z 12, .v (.int .i64 (i : Int)), .p 3 0, Z 15,Z 16,Z 17,Z 18,Z 19,Z 20,Z 21,Z 22,Z 23,Z 24,Z 25,Z 26,Z 27,Z 28,Z 29,Z 30,Z 31,Z 32,Z 33,Z 34,Z 35,Z 36,Z 37,Z 38,Z 39,Z 40,Z 41,Z 42,Z 43,Z 44,Z 45,Z 46,Z 47,Z 48,Z 49,Z 50,Z 51,Z 52,Z 53,Z 54,Z 55,Z 56,Z 57,Z 58,Z 59,Z 60,Z 61,Z 62,Z 63,Z 64,Z 65,Z 66,Z 67,Z 68,Z 69,Z 70,Z 71,Z 72,Z 73,Z 74,Z 75,Z 76,Z 77,Z 78,Z 79,Z 80,Z 81,Z 82,Z 83,Z 84,Z 85,Z 86,Z 87,Z 88,Z 89,Z 90,Z 91,Z 92,Z 93,Z 94,Z 95,Z 96,Z 97,Z 98,Z 99,Z 100,Z 101,Z 102,Z 103,Z 104,Z 105,Z 106, .v (.int .i64 (n : Int)), .v (.int .i64 (i : Int)), Z 109,Z 110,Z 111,Z 112,Z 113,Z 114,Z 115,Z 116,Z 117,Z 118,Z 119,Z 120,Z 121,Z 122,Z 123,Z 124,Z 125,Z 126,Z 127,Z 128,Z 129,Z 130,Z 131,Z 132,Z 133,Z 134,Z 135, .v (.int .i64 (n : Int)), .v (.int .i64 (j : Int)), Z 138,Z 139,Z 140,Z 141,Z 142,Z 143,Z 144,Z 145,Z 146,Z 147,Z 148,Z 149,Z 150,Z 151,Z 152,Z 153,Z 154,Z 155,Z 156,Z 157,Z 158,Z 159,Z 160,Z 161,Z 162,Z 163,Z 164,Z 165,Z 166,Z 167,Z 168,Z 169,Z 170,Z 171,Z 172]) [[.bool false, .slice none 0 0, .slice none 0 0], [.bool (ng d3), x11, y11], [x, y, w], [x3, y3, w3]] H15 V15 s ∧ V14.le V15 ∧ d + j = n ∧ CMW H15 V15 (.slice (some ⟨g, 0, none⟩) n cap) n gw av H0 (fun i' c => if i' < i ∨ (i' = i ∧ c < j) then gcol G2 top k i' c else G3 i' c)) n ⟨0, V14, H13, StIs.of (by exact rfl), View.le_refl _, by omega, (hmem4.mono hV14).congr fun i' c _ _ => by
        by_cases e2 : i' < i
        · rw [if_pos e2, if_pos (.inl e2)]
        · rw [if_neg e2, if_neg (fun h => by omega)]⟩ ?_
      clear hmem4
      rintro d3' s ⟨j, V15, H15, hs, hV15, hd3, hmem5⟩
      obtain ⟨z, rfl⟩ := hs.out
      try dsimp only
      clear hs
      by_cases hj : j < n
      rotate_left
      · have hjn : j = n := by omega
        have b8 : decide ((j : Int) < (n : Int)) = false := decide_eq_false (by omega)
        refine Gx.a (by kernel_rfl) fun K hK => ?_
        simp only [XA, XB, b8]
        refine hK _ ?_
        refine XWP.seq (Gx.f rfl ?_)
        refine XWP.exit ?_
        exact fun f => ⟨V15, H15, StIs.of (by exact rfl), View.le_trans hV14 hV15, hmem5.congr fun i' c h1 h2 => by
          by_cases e2 : i' < i + 1
          · rw [if_pos e2, if_pos (by omega)]
          · rw [if_neg e2, if_neg (fun h => by omega)]⟩
      have b8 : decide ((j : Int) < (n : Int)) = true := decide_eq_true (by omega)
      refine Gx.a (by kernel_rfl) fun K hK => ?_
      simp only [XA, XB, b8]
      refine hK _ ?_
      refine XWP.seq (Gx.t rfl ?_)
      refine XWP.skip ?_
      refine XWP.seq ?_
      refine XWP.block ?_
      refine Gx.a (by kernel_rfl) fun K hK => ?_
      simp only [XA]
      refine hK _ ?_
      obtain ⟨g', cap', b, c, cs, e6, hl1, hb, hcl, hc, hget, hset⟩ := hmem5.at hi
      cases e6
      obtain ⟨x4, y4, w4, hx4, _, hl2⟩ := hget j hj
      rw [if_neg (by omega), g3i i j hit] at hx4
      obtain ⟨g', cap', b', c', cs', e6, hl1', hb', hcl', hc', hget', _⟩ := hmem5.at ht
      cases e6
      obtain ⟨x2, y2, w2, hx2, _, hl2'⟩ := hget' j hj
      have et : (if top < i ∨ (top = i ∧ j < j) then gcol G2 top k top j else G3 top j) = G2 top j / G2 top k := by
        split
        · rw [gct, g3t]
        · exact g3t j
      rw [et] at hx2
      have qq : QB (2 * ge B k) (G2 top j / G2 top k) := ((hq2 top j ht hj).div (hq2 top k ht (by omega))).mono (by omega)
      have qm : QB (3 * ge B k) (G2 i k * (G2 top j / G2 top k)) := ((hq2 i k hi (by omega)).mul qq).mono (by omega)
      (refine XWP.drw1 [0, 1, 2, 3, 4, 5, 6, 7, 8, 9, 10, 11, 12, 13, 14, 15, 16, 17, 18, 19, 20, 21, 22, 23] (by kernel_rfl) (by kernel_rfl) (by kernel_rfl) fun K hK => ?_) <;> dsimp only [pickOps, List.getElem?_cons_zero, List.getElem?_cons_succ]
      simp only [XN, XA, XB]
      refine ⟨by omega, by omega, ld_mem hl1 ?_⟩
      simp only [XN, XA, XB]
      refine ⟨by omega, by omega, ld_mem hl1 ?_⟩
      simp only [XA, XB]
      refine ⟨by omega, by omega, ld_mem hl2 ?_⟩
      simp only [XN, XA, XB, Nat.reduceAdd, Nat.reduceLeDiff, ↓reduceIte]
      refine ⟨by omega, by omega, ld_mem hl1' ?_⟩
      simp only [XA, XB]
      refine ⟨by omega, by omega, ld_mem hl2' ?_⟩
      simp only [XA]
      refine call_go (by kernel_rfl) rfl (pmul_c _ _ _ _ _ ((hx3.mono hV15).toV (hqf2 i k hi (by omega))) (hx2.toV (qq.qf (by omega))) (hqf2 i k hi (by omega)) (qq.qf (by omega))) fun v16 V16 hV16 h16 => ?_
      simp only [XA]
      refine call_go (by kernel_rfl) rfl (psub_c _ _ _ _ _ ((hx4.mono hV16).toV (hqf2 i j hi hj)) (h16.toV (qm.qf (by omega))) (hqf2 i j hi hj) (qm.qf (by omega))) fun v17 V17 hV17 h17 => ?_
      obtain ⟨x5, y5, rfl, o4, o5⟩ := h17.form
      simp only [XA, XB]
      refine ⟨by omega, by omega, ?_⟩
      refine st_rowA shapeT_48 (all3 rfl o4 o5) rfl hb (by dsimp only; omega) ?_
      simp only [XA]
      refine hK _ ?_
      refine Gx.c (by kernel_rfl) fun K hK => ?_
      simp only [XA, XB, i64_succ j (by omega)]
      have hmem6 := hset V17 j _ _ _ _ hj (View.le_trans hV16 hV17) h17 rfl o4 o5
      refine hK _ ⟨d3' - 1, by omega, fun f => ⟨j + 1, V17, _, StIs.of (by exact rfl), View.le_trans hV15 (View.le_trans hV16 hV17), by omega, hmem6.congr fun i' c _ _ => ?_⟩⟩
      by_cases e : i' = i
      · subst e
        by_cases e2 : c = j
        · subst e2; rw [if_pos ⟨rfl, rfl⟩, if_pos (.inr ⟨rfl, by omega⟩), gci _ _ hit]
        · rw [if_neg (fun h => e2 h.2)]
          by_cases e3 : c < j
          · rw [if_pos (.inr ⟨rfl, e3⟩), if_pos (.inr ⟨rfl, by omega⟩)]
          · rw [if_neg (fun h => by omega), if_neg (fun h => by omega)]
      · rw [if_neg (fun h => e h.1)]
        by_cases e2 : i' < i
        · rw [if_pos (.inl e2), if_pos (.inl e2)]
        · rw [if_neg (fun h => by omega), if_neg (fun h => by omega)]
      --}
    clear hmem3
    rintro s ⟨V13, H13, hs, hV13, hmem4⟩
    obtain ⟨z, rfl⟩ := hs.out
    try dsimp only
    clear hs
    obtain ⟨cw2, tot2, hw3, hw4, hmem5⟩ := hmem4.where k (top : Int)
    have hle13 := View.le_trans hV12 hV13
    refine Gx.a (by kernel_rfl) fun K hK => ?_
    simp only [XN, XA, XB]
    refine ⟨by omega, by omega, ?_⟩
    refine st_row shapeT_3 rfl rfl hw3 (by dsimp only; omega) ?_
    simp only [XA]
    refine hK _ ?_
    refine Gx.c (by kernel_rfl) fun K hK => ?_
    simp only [XA, XB, i64_succ top (by omega)]
    exact hK _ fun f => ⟨V13, _, _, x11, y11, d3, _, top + 1, StIs.of (by exact rfl), View.le_trans hV11 hle13, k11.mono hle13, s1, s2, dq3, hmem5, hpiv⟩
    --}
  clear hmem0 hinv0 k1 p1 p2
  rintro s ⟨V8, H8, dm, dx, dy, d, hs, hV8, kd, p1, p2, dq, hd, hk8⟩
  subst hd
  obtain ⟨z, rfl⟩ := hs.out
  try dsimp only
  clear hs
  (refine XWP.drw [0, 1, 2, 3] (by kernel_rfl) (by kernel_rfl) (by kernel_rfl) fun K hK => ?_) <;> dsimp only [pickOps, List.getElem?_cons_zero, List.getElem?_cons_succ]
  simp only [XA, XB, Nat.reduceAdd, Nat.reduceLeDiff, ↓reduceIte]
  refine st_rat rfl rfl rfl p1 p2 ?_
  simp only [XA]
  refine hK _ (XWP.ret ?_)
  try simp only [thenX_ret, inBlockX_ret]
  exact retM_go _ (by simp [resAll, resV, cellsV, shapeT_48]; rfl) ⟨hV8, _, dm, dx, dy, rfl, rfl, p1, p2, kd, dq, hk8⟩
end Go.Proofs.YthoboehbadmlmaaGreat
end
section
namespace Go.Proofs.YthoboehbadmlmaaGreat
open Go Go.RowKit
set_option linter.unusedSimpArgs false
set_option linter.unusedVariables false
attribute [local irreducible] XWP Spec SpecO XPub XCall seqX clX apX stX ldX iaX slX
end Go.Proofs.YthoboehbadmlmaaGreat
end
section
namespace Go.Proofs.YthoboehbadmlmaaGreat
open Go Go.RowKit
set_option linter.unusedSimpArgs false
set_option linter.unusedVariables false
attribute [local irreducible] XWP Spec SpecO XPub XCall seqX clX apX stX ldX iaX slX
end Go.Proofs.YthoboehbadmlmaaGreat
end
section
namespace Go.Proofs.YthoboehbadmlmaaGreat
open Go Go.RowKit
set_option linter.unusedSimpArgs false
set_option linter.unusedVariables false
attribute [local irreducible] XWP Spec SpecO XPub XCall seqX clX apX stX ldX iaX slX
theorem dZero_o (V : View) (r c : Nat) (hr : r ≤ 60) (hc : c ≤ 60) : SpecO Tryz.prog 16 [.int .i64 (r : Int), .int .i64 (c : Int)] V fun v' V' o => ∃ sl cells, v' = .tuple #[.agg #[.int .i64 (r : Int), .int .i64 (c : Int), sl], .int .i64 0] ∧ Own (addRow (fun _ => none) o) 48 3 sl (r * c) cells ∧ RowAt ratE V' cells (mk (r * c) fun _ => 0) := by
  have b1 : decide ((r : Int) < 0) = false := decide_eq_false (by omega)
  have b2 : decide ((c : Int) < 0) = false := decide_eq_false (by omega)
  have b3 : decide ((60 : Int) < (r : Int)) = false := decide_eq_false (by omega)
  have b4 : decide ((60 : Int) < (c : Int)) = false := decide_eq_false (by omega)
  refine (SpecO.enter Tryz.func16 rfl fun Γ => ?_)
  simp only [Tryz.ntmps16, List.map_cons, List.map_nil, List.length_cons, List.length_nil, Nat.reduceAdd, Nat.reduceSub, List.replicate_succ, List.replicate_zero, List.cons_append, List.nil_append]
  refine Gx.a (by kernel_rfl) fun K hK => ?_
  simp only [XM, XA]
  refine hK _ ?_
  refine XWP.cut (fun s => StIs (fun Z => [.v (.int .i64 (r : Int)), .v (.int .i64 (c : Int)), Z 2,Z 3, .p 0 0, .v (.int .i64 0), Z 6,Z 7,Z 8,Z 9,Z 10,Z 11,Z 12,Z 13,Z 14,Z 15,Z 16,Z 17,Z 18,Z 19,Z 20,Z 21,Z 22,Z 23,Z 24]) [[.int .i64 0, .int .i64 0, .slice none 0 0]] (fun _ => none) V s ∧ True) ?_ ?_
  · refine XWP.block ?_
    refine XWP.seq ?_
    refine Gx.c (by kernel_rfl) fun K hK => ?_
    simp only [XA, XB, gateX, ↓reduceIte, beq_self_eq_true, b1, b2]
    refine hK _ ?_
    refine Gx.f rfl ?_
    refine Gx.a (by kernel_rfl) fun K hK => ?_
    simp only [XA, XB, gateX, ↓reduceIte, beq_self_eq_true, b3, b4]
    refine hK _ ?_
    refine Gx.f rfl ?_
    refine XWP.skip ?_
    exact ⟨StIs.of (by exact rfl), trivial⟩
  rintro s ⟨hs, _⟩
  obtain ⟨z, rfl⟩ := hs.out
  try dsimp only
  refine Gx.a (by kernel_rfl) fun K hK => ?_
  simp only [XA]
  refine call_own (by kernel_rfl) rfl (dzeros_o _ r c hr hc) fun v1 V1 o1 hV1 hs1 h1 => ?_
  obtain ⟨sl, cells, rfl, hown, hrow⟩ := h1
  have osl := own_isOne hown
  simp only [XA]
  refine st_mat shapeT_34 rfl rfl rfl rfl osl ?_
  simp only [XA]
  refine hK _ (XWP.ret ?_)
  try simp only [thenX_ret, inBlockX_ret]
  rcases own_parts hown with ⟨rfl, h0, rfl⟩ | ⟨g, cap, rfl, hg, hle, hcap, hcl⟩
  · refine ret_own _ none (by simp [resAll, resV, cellsV, shapeT_34]; rfl) (fun g' q e => by cases e) ⟨_, [], rfl, ⟨by rw [h0]; rfl, .inl ⟨rfl, h0⟩⟩, hrow⟩
  · refine ret_own _ (some (g, _)) (by simp [resAll, resV, cellsV, shapeT_34]; rfl) (fun g' q e => by cases e; exact hg) ⟨_, cells, rfl, own3 (show upd (fun _ => none) g (some _) g = some _ from upd_at _ _ _) hcl hle (by unfold maxLen at hcap; omega), hrow⟩
theorem dMsame_c (V : View) (s1 s2 : Value) (r1 c1 r2 c2 : Int) (l m : List Rat) (hv : Rats V s1 l) (hu : Rats V s2 m) (hl : ∀ x ∈ l, QF x) (hm : ∀ x ∈ m, QF x) : Spec Tryz.prog 13 [.agg #[.int .i64 r1, .int .i64 c1, s1], .agg #[.int .i64 r2, .int .i64 c2, s2]] V fun v' V' => v' = .bool (decide (r1 = r2) && decide (c1 = c2) && decide (l = m)) := by
  obtain ⟨A1, q1, rfl, hc1, hm1⟩ := hv.form
  obtain ⟨A2, q2, rfl, hc2, hm2⟩ := hu.form
  refine (Spec.enter Tryz.func13 rfl fun Γ => ?_)
  simp only [Tryz.ntmps13, List.map_cons, List.map_nil, List.length_cons, List.length_nil, Nat.reduceAdd, Nat.reduceSub, List.replicate_succ, List.replicate_zero, List.cons_append, List.nil_append]
  refine Gx.a (by kernel_rfl) fun K hK => ?_
  simp only [XA]
  refine hK _ ?_
  refine XWP.seq ?_
  cases b1 : decide (r1 = r2)
  · refine Gx.a (by kernel_rfl) fun K hK => ?_
    simp only [XM, XA, XB, gateX, ↓reduceIte, b1]
    refine hK _ ?_
    refine Gx.t rfl ?_
    refine Gx.a (by kernel_rfl) fun K hK => ?_
    simp only [XA]
    refine hK _ (XWP.ret ?_)
    try simp only [thenX_ret, inBlockX_ret]
    refine ret_go _ rfl ?_
    rfl
  cases b2 : decide (c1 = c2)
  · refine Gx.a (by kernel_rfl) fun K hK => ?_
    simp only [XM, XA, XB, gateX, ↓reduceIte, beq_self_eq_true, b1, b2]
    refine hK _ ?_
    refine Gx.t rfl ?_
    refine Gx.a (by kernel_rfl) fun K hK => ?_
    simp only [XA]
    refine hK _ (XWP.ret ?_)
    try simp only [thenX_ret, inBlockX_ret]
    refine ret_go _ rfl ?_
    rfl
  by_cases hlen : l.length = m.length
  rotate_left
  · have b3 : decide ((l.length : Int) = (m.length : Int)) = false := decide_eq_false (by omega)
    refine Gx.a (by kernel_rfl) fun K hK => ?_
    simp only [XM, XA, XB, gateX, ↓reduceIte, beq_self_eq_true, b1, b2, b3]
    refine hK _ ?_
    refine Gx.t rfl ?_
    refine Gx.a (by kernel_rfl) fun K hK => ?_
    simp only [XA]
    refine hK _ (XWP.ret ?_)
    try simp only [thenX_ret, inBlockX_ret]
    refine ret_go _ rfl ?_
    rw [decide_eq_false (fun e => hlen (by rw [e]))]; rfl
  have b3 : decide ((l.length : Int) = (m.length : Int)) = true := decide_eq_true (by omega)
  refine Gx.a (by kernel_rfl) fun K hK => ?_
  simp only [XM, XA, XB, gateX, ↓reduceIte, beq_self_eq_true, b1, b2, b3]
  refine hK _ ?_
  refine Gx.f rfl ?_
  refine XWP.skip ?_
  refine XWP.cutD 2 (fun s => ∃ V2, StIs (fun Z => [Z 0,Z 1,Z 2,Z 3,Z 4,Z 5,Z 6,Z 7,Z 8,Z 9,Z 10,Z 11,Z 12,Z 13,Z 14,Z 15,Z 16,Z 17,Z 18,Z 19,Z 20,Z 21,Z 22,Z 23,Z 24,Z 25,Z 26,Z 27,Z 28,Z 29,Z 30,Z 31,Z 32,Z 33,Z 34,Z 35,Z 36,Z 37,Z 38,Z 39,Z 40,Z 41,Z 42,Z 43,Z 44,Z 45]) [[.int .i64 r1, .int .i64 c1, .slice A1 l.length q1], [.int .i64 r2, .int .i64 c2, .slice A2 m.length q2]] (fun _ => none) V2 s ∧ l = m) ?_ ?_
  · refine Gx.a (by kernel_rfl) fun K hK => ?_
    simp only [XM, XA, XB]
    refine hK _ ?_
    clear hK
    refine XWP.block ?_
    refine XWP.loopD 2 (fun n s => ∃ (k : Nat) (V2 : View), StIs (fun Z => [Z 0,Z 1, .p 0 0, .p 1 0, Z 4,Z 5,Z 6,Z 7,Z 8,Z 9,Z 10,Z 11,Z 12,Z 13,Z 14,Z 15,Z 16,Z 17,Z 18,Z 19,Z 20,Z 21,Z 22,Z 23,Z 24,Z 25,Z 26,Z 27,Z 28, .v (.int .i64 (l.length : Int)), .v (.int .i64 (k : Int)), Z 31,Z 32,Z 33,Z 34,Z 35,Z 36,Z 37,Z 38,Z 39,Z 40,Z 41,Z 42,Z 43,Z 44,Z 45]) [[.int .i64 r1, .int .i64 c1, .slice A1 l.length q1], [.int .i64 r2, .int .i64 c2, .slice A2 m.length q2]] (fun _ => none) V2 s ∧ V.le V2 ∧ n + k = l.length ∧ ∀ i, i < k → cf l i = cf m i) l.length ⟨0, V, StIs.of (by exact rfl), View.le_refl _, by omega, fun i hi => by omega⟩ ?_
    rintro n s ⟨k, V2, hs, hV2, hn, hk⟩
    obtain ⟨z, rfl⟩ := hs.out
    try dsimp only
    clear hs
    by_cases hlt : k < l.length
    rotate_left
    · have b4 : decide ((k : Int) < (l.length : Int)) = false := decide_eq_false (by omega)
      refine Gx.a (by kernel_rfl) fun K hK => ?_
      simp only [XA, XB, b4]
      refine hK _ ?_
      refine XWP.seq (Gx.f rfl ?_)
      refine XWP.exit ?_
      refine fun f => ⟨V2, StIs.of (by exact rfl), List.ext_getElem hlen fun i h1 h2 => ?_⟩
      rw [cf_get h1, cf_get h2]; exact hk i (by omega)
    have b4 : decide ((k : Int) < (l.length : Int)) = true := decide_eq_true (by omega)
    refine Gx.a (by kernel_rfl) fun K hK => ?_
    simp only [XA, XB, b4]
    refine hK _ ?_
    refine XWP.seq (Gx.t rfl ?_)
    refine XWP.skip ?_
    have hv2 := Rats.up hv hV2
    have hu2 := Rats.up hu hV2
    obtain ⟨b, o, rfl⟩ := SlAt.addr hv2 (by omega)
    obtain ⟨b', o', rfl⟩ := SlAt.addr hu2 (by omega)
    obtain ⟨m3, n3, d3, hx3, ⟨p1, p2, p3⟩, hld3⟩ := Rats.get hv2 k (by omega)
    obtain ⟨m4, n4, d4, hx4, ⟨r1, r2, r3⟩, hld4⟩ := Rats.get hu2 k (by omega)
    refine XWP.seq ?_
    refine XWP.block ?_
    refine Gx.a (by kernel_rfl) fun K hK => ?_
    simp only [XA]
    refine hK _ ?_
    (refine XWP.drw [0, 1, 2, 3, 4, 5, 6, 7, 8, 9, 10, 11] (by kernel_rfl) (by kernel_rfl) (by kernel_rfl) fun K hK => ?_) <;> dsimp only [pickOps, List.getElem?_cons_zero, List.getElem?_cons_succ]
    simp only [XM, XA, XB]
    refine ⟨by omega, by omega, ld_mem (hld3 _) ?_⟩
    simp only [XM, XA, XB]
    refine ⟨by omega, by omega, ld_mem (hld4 _) ?_⟩
    simp only [XA]
    have f3 := hl _ (cf_mem hlt)
    have f4 := hm _ (cf_mem (show k < m.length by omega))
    refine call_go (by kernel_rfl) rfl (psame_c _ _ _ _ _ (hx3.toV f3) (hx4.toV f4) f3 f4) fun v5 V5 hV5 h5 => ?_
    subst h5
    by_cases he : cf l k = cf m k
    · have b5 : decide (cf l k = cf m k) = true := decide_eq_true he
      simp only [XA, b5]
      refine hK _ ?_
      refine Gx.f rfl ?_
      refine XWP.skip ?_
      refine Gx.c (by kernel_rfl) fun K hK => ?_
      simp only [XA, XB, i64_succ k (by omega)]
      refine hK _ ⟨n - 1, by omega, fun f => ⟨k + 1, V5, StIs.of (by exact rfl), View.le_trans hV2 hV5, by omega, fun i hi => ?_⟩⟩
      by_cases e : i = k
      · rw [e]; exact he
      · exact hk i (by omega)
    · have b5 : decide (cf l k = cf m k) = false := decide_eq_false he
      simp only [XA, b5]
      refine hK _ ?_
      refine Gx.t rfl ?_
      refine Gx.a (by kernel_rfl) fun K hK => ?_
      simp only [XA]
      refine hK _ (XWP.ret ?_)
      try simp only [thenX_ret, inBlockX_ret]
      refine ret_go _ rfl ?_
      rw [decide_eq_false (fun e => he (by rw [e]))]; rfl
  rintro s ⟨V2, hs, he⟩
  obtain ⟨z, rfl⟩ := hs.out
  try dsimp only
  refine Gx.a (by kernel_rfl) fun K hK => ?_
  simp only [XA]
  refine hK _ (XWP.ret ?_)
  try simp only [thenX_ret, inBlockX_ret]
  refine ret_go _ rfl ?_
  rw [decide_eq_true he]; rfl
end Go.Proofs.YthoboehbadmlmaaGreat
end
section
namespace Go.Proofs.YthoboehbadmlmaaGreat
open Go Go.RowKit
set_option linter.unusedSimpArgs false
set_option linter.unusedVariables false
attribute [local irreducible] XWP Spec SpecO XPub XCall seqX clX apX stX ldX iaX slX
end Go.Proofs.YthoboehbadmlmaaGreat
end
section
namespace Go.Proofs.YthoboehbadmlmaaGreat
open Go Go.RowKit
set_option linter.unusedSimpArgs false
set_option linter.unusedVariables false
attribute [local irreducible] XWP Spec SpecO XPub XCall seqX clX apX stX ldX iaX slX
theorem ge_le (B k : Nat) : B ≤ ge B k := ge_mono B (Nat.zero_le k)
theorem own_rw {H : Heap} {o : Option (Nat × Row)} {e n : Nat} {v : Value} {cells : List Value} (h : Own (addRow (fun _ => none) o) e 3 v n cells) (hn : 1 ≤ n) : ∃ g cap, v = .slice (some ⟨g, 0, none⟩) n cap ∧ o = some (g, ⟨e, cells, cap * 3⟩) ∧ addRow H o g = some ⟨e, cells, cap * 3⟩ ∧ n ≤ cap ∧ cap ≤ maxLen := by
  rcases own_parts h with ⟨_, h0, _⟩ | ⟨g, cap, rfl, hg, hle, hcap, _⟩
  · omega
  · cases o with
    | none => cases hg
    | some q =>
      obtain ⟨g', r⟩ := q
      simp only [addRow, upd] at hg
      split at hg
      · rename_i e'
        subst e'
        cases hg
        exact ⟨g, cap, rfl, rfl, upd_at _ _ _, hle, hcap⟩
      · cases hg
theorem own_any {H : Heap} {o : Option (Nat × Row)} {e n : Nat} {v : Value} {cells : List Value} (h : Own (addRow (fun _ => none) o) e 3 v n cells) : Own (addRow H o) e 3 v n cells := by
  rcases Nat.eq_zero_or_pos n with h0 | h0
  · rcases own_parts h with ⟨rfl, _, rfl⟩ | ⟨g, cap, rfl, hg, hle, hcap, hl⟩
    · rw [h0]; exact own_nil
    · cases o with
      | none => cases hg
      | some q =>
        obtain ⟨g', r⟩ := q
        simp only [addRow, upd] at hg
        split at hg
        · rename_i e'
          subst e'
          cases hg
          exact ⟨hl, .inr ⟨g, cap, rfl, upd_at _ _ _, hle, hcap⟩⟩
        · cases hg
  · obtain ⟨g, cap, rfl, _, h2, h3, h4⟩ := own_rw (H := H) h h0
    exact ⟨h.1, .inr ⟨g, cap, rfl, h2, h3, h4⟩⟩
theorem addRow_only {o : Option (Nat × Row)} {g : Nat} {r : Row} (h : addRow (fun _ => none) o g = some r) : o = some (g, r) := by
  cases o with
  | none => cases h
  | some q =>
    obtain ⟨g', r'⟩ := q
    simp only [addRow, upd] at h
    split at h
    · rename_i e'
      subst e'; cases h; rfl
    · cases h
theorem addRow_off {H : Heap} {o : Option (Nat × Row)} {b : Nat} {r : Row} (hb : H b = some r) (hs : ∀ g q, o = some (g, q) → H g = none) : addRow H o b = some r := by
  cases o with
  | none => exact hb
  | some q =>
    obtain ⟨g, q⟩ := q
    have := hs g q rfl
    simp only [addRow, upd]
    rw [if_neg fun e => by rw [e, this] at hb; cases hb]; exact hb
theorem splice_all {a b c x y z : Value} : splice [a, b, c] 0 [x, y, z] = [x, y, z] := by unfold splice; simp
end Go.Proofs.YthoboehbadmlmaaGreat
end
section
namespace Go.Proofs.YthoboehbadmlmaaGreat
open Go Go.RowKit
set_option linter.unusedSimpArgs false
set_option linter.unusedVariables false
attribute [local irreducible] XWP Spec SpecO XPub XCall seqX clX apX stX ldX iaX slX
theorem csized_c (V : View) (r c : Nat) (hr : r ≤ 60) (hc : c ≤ 60) : Spec Tryz.prog 86 [.int .i64 (r : Int), .int .i64 (c : Int)] V fun v' V' => v' = .int .i64 0 := by
  have b1 : decide ((r : Int) < 0) = false := decide_eq_false (by omega)
  have b2 : decide ((c : Int) < 0) = false := decide_eq_false (by omega)
  have b3 : decide ((60 : Int) < (r : Int)) = false := decide_eq_false (by omega)
  have b4 : decide ((60 : Int) < (c : Int)) = false := decide_eq_false (by omega)
  refine (Spec.enter Tryz.func86 rfl fun Γ => ?_)
  simp only [Tryz.ntmps86, List.map_cons, List.map_nil, List.length_cons, List.length_nil, Nat.reduceAdd, Nat.reduceSub, List.replicate_succ, List.replicate_zero, List.cons_append, List.nil_append]
  refine Gx.a (by kernel_rfl) fun K hK => ?_
  simp only [XA]
  refine hK _ ?_
  refine XWP.cut (fun s => StIs (fun Z => [Z 0,Z 1,Z 2,Z 3,Z 4,Z 5,Z 6,Z 7,Z 8,Z 9,Z 10,Z 11,Z 12,Z 13,Z 14,Z 15,Z 16,Z 17,Z 18]) [] (fun _ => none) V s ∧ True) ?_ ?_
  · refine XWP.block ?_
    refine Gx.a (by kernel_rfl) fun K hK => ?_
    simp only [XA, XB, gateX, ↓reduceIte, beq_self_eq_true, b1, b2]
    refine hK _ ?_
    refine Gx.f rfl ?_
    refine Gx.a (by kernel_rfl) fun K hK => ?_
    simp only [XA, XB, gateX, ↓reduceIte, beq_self_eq_true, b3, b4]
    refine hK _ ?_
    refine Gx.f rfl ?_
    refine XWP.skip ?_
    exact ⟨StIs.of (by exact rfl), trivial⟩
  rintro s ⟨hs, _⟩
  obtain ⟨z, rfl⟩ := hs.out
  try dsimp only
  refine Gx.a (by kernel_rfl) fun K hK => ?_
  simp only [XA]
  refine hK _ (XWP.ret ?_)
  try simp only [thenX_ret, inBlockX_ret]
  refine ret_go _ rfl ?_
  rfl
theorem czero1_c (V : View) (i k : Nat) : Spec Tryz.prog 88 [.int .i64 (i : Int), .int .i64 (k : Int)] V fun v' V' => RatC V' v' 0 := by
  refine (Spec.enter Tryz.func88 rfl fun Γ => ?_)
  simp only [Tryz.ntmps88, List.map_cons, List.map_nil, List.length_cons, List.length_nil, Nat.reduceAdd, Nat.reduceSub, List.replicate_succ, List.replicate_zero, List.cons_append, List.nil_append]
  refine Gx.a (by kernel_rfl) fun K hK => ?_
  simp only [XA, XB]
  refine hK _ ?_
  refine Gx.a (by kernel_rfl) fun K hK => ?_
  simp only [XA]
  refine call_go (by kernel_rfl) rfl (qzero_c _) fun v1 V1 hV1 h1 => ?_
  obtain ⟨x1, y1, rfl, p1, p2⟩ := h1.form
  simp only [XA]
  refine st_rat rfl rfl rfl p1 p2 ?_
  simp only [XA]
  refine hK _ (XWP.ret ?_)
  try simp only [thenX_ret, inBlockX_ret]
  exact ret_rat1 rfl rfl rfl h1
theorem cmzero_c (V : View) (r c : Nat) (hr : r ≤ 60) (hc : c ≤ 60) : Spec Tryz.prog 39 [.int .i64 (r : Int), .int .i64 (c : Int)] V fun v' V' => ∃ w, v' = .tuple #[.agg #[.int .i64 (r : Int), .int .i64 (c : Int), w], .int .i64 0] ∧ Rats V' w (flatG (fun _ _ => 0) r c) := by
  refine (Spec.enter Tryz.func39 rfl fun Γ => ?_)
  simp only [Tryz.ntmps39, List.map_cons, List.map_nil, List.length_cons, List.length_nil, Nat.reduceAdd, Nat.reduceSub, List.replicate_succ, List.replicate_zero, List.cons_append, List.nil_append]
  refine Gx.a (by kernel_rfl) fun K hK => ?_
  simp only [XM, XA]
  refine hK _ ?_
  refine XWP.seq ?_
  refine Gx.a (by kernel_rfl) fun K hK => ?_
  simp only [XA]
  refine call_go (by kernel_rfl) rfl (csized_c _ r c hr hc) fun v1 V1 hV1 h1 => ?_
  subst h1
  simp only [XA]
  refine hK _ ?_
  refine Gx.a (by kernel_rfl) fun K hK => ?_
  simp only [XA, XB, decide_true]
  refine hK _ ?_
  refine Gx.f rfl ?_
  refine XWP.skip ?_
  refine Gx.a (by kernel_rfl) fun K hK => ?_
  simp only [XA]
  refine call_own (by kernel_rfl) rfl (filled_o _ (lb := []) r c (fun _ _ => 0) (by kernel_rfl) (by omega) (by omega) fun V' i k hV hi hk => czero1_c V' i k) fun v2 V2 o2 hV2 hs2 h2 => ?_
  obtain ⟨sl, cells, rfl, hown, hrow⟩ := h2
  have osl := own_isOne hown
  simp only [XA]
  refine st_mat shapeT_24 rfl rfl rfl rfl osl ?_
  simp only [XA]
  refine hK _ ?_
  refine XWP.pubR ratE_ok hown hrow fun H7 V7 hV7 hR7 _ => ?_
  refine XWP.ret ?_
  try simp only [thenX_ret, inBlockX_ret]
  exact ret_go _ (by simp [resAll, resV, cellsV, shapeT_24]; rfl) ⟨sl, rfl, hR7⟩
theorem cunit_c (V : View) (i k : Nat) : Spec Tryz.prog 137 [.int .i64 (i : Int), .int .i64 (k : Int)] V fun v' V' => RatC V' v' (gid i k) := by
  refine (Spec.enter Tryz.func137 rfl fun Γ => ?_)
  simp only [Tryz.ntmps137, List.map_cons, List.map_nil, List.length_cons, List.length_nil, Nat.reduceAdd, Nat.reduceSub, List.replicate_succ, List.replicate_zero, List.cons_append, List.nil_append]
  refine Gx.a (by kernel_rfl) fun K hK => ?_
  simp only [XA, XB]
  refine hK _ ?_
  by_cases e : i = k
  · have hg : gid i k = 1 := by unfold gid; rw [if_pos e]
    refine XWP.seq ?_
    have b1 : decide ((i : Int) = (k : Int)) = true := decide_eq_true (by omega)
    refine Gx.a (by kernel_rfl) fun K hK => ?_
    simp only [XA, XB, b1]
    refine hK _ ?_
    refine Gx.t rfl ?_
    refine Gx.a (by kernel_rfl) fun K hK => ?_
    simp only [XA]
    refine call_go (by kernel_rfl) rfl (qone_c _) fun v1 V1 hV1 h1 => ?_
    obtain ⟨x1, y1, rfl, p1, p2⟩ := h1.form
    simp only [XA]
    refine st_rat rfl rfl rfl p1 p2 ?_
    simp only [XA]
    refine hK _ (XWP.ret ?_)
    try simp only [thenX_ret, inBlockX_ret]
    rw [hg]
    exact ret_rat1 rfl rfl rfl h1
  · have hg : gid i k = 0 := by unfold gid; rw [if_neg e]
    refine XWP.seq ?_
    have b1 : decide ((i : Int) = (k : Int)) = false := decide_eq_false (by omega)
    refine Gx.a (by kernel_rfl) fun K hK => ?_
    simp only [XA, XB, b1]
    refine hK _ ?_
    refine Gx.f rfl ?_
    refine XWP.skip ?_
    refine Gx.a (by kernel_rfl) fun K hK => ?_
    simp only [XA]
    refine call_go (by kernel_rfl) rfl (qzero_c _) fun v1 V1 hV1 h1 => ?_
    obtain ⟨x1, y1, rfl, p1, p2⟩ := h1.form
    simp only [XA]
    refine st_rat rfl rfl rfl p1 p2 ?_
    simp only [XA]
    refine hK _ (XWP.ret ?_)
    try simp only [thenX_ret, inBlockX_ret]
    rw [hg]
    exact ret_rat1 rfl rfl rfl h1
theorem cident_c (V : View) (n : Nat) (hn : n ≤ 60) : Spec Tryz.prog 90 [.int .i64 (n : Int)] V fun v' V' => ∃ w, v' = .tuple #[.agg #[.int .i64 (n : Int), .int .i64 (n : Int), w], .int .i64 0] ∧ Rats V' w (flatG gid n n) := by
  refine (Spec.enter Tryz.func90 rfl fun Γ => ?_)
  simp only [Tryz.ntmps90, List.map_cons, List.map_nil, List.length_cons, List.length_nil, Nat.reduceAdd, Nat.reduceSub, List.replicate_succ, List.replicate_zero, List.cons_append, List.nil_append]
  refine Gx.a (by kernel_rfl) fun K hK => ?_
  simp only [XM, XA]
  refine hK _ ?_
  refine XWP.seq ?_
  refine Gx.a (by kernel_rfl) fun K hK => ?_
  simp only [XA]
  refine call_go (by kernel_rfl) rfl (csized_c _ n n hn hn) fun v1 V1 hV1 h1 => ?_
  subst h1
  simp only [XA]
  refine hK _ ?_
  refine Gx.a (by kernel_rfl) fun K hK => ?_
  simp only [XA, XB, decide_true]
  refine hK _ ?_
  refine Gx.f rfl ?_
  refine XWP.skip ?_
  refine Gx.a (by kernel_rfl) fun K hK => ?_
  simp only [XA]
  refine call_own (by kernel_rfl) rfl (filled_o _ (lb := []) n n gid (by kernel_rfl) (by omega) (by omega) fun V' i k hV hi hk => cunit_c V' i k) fun v2 V2 o2 hV2 hs2 h2 => ?_
  obtain ⟨sl, cells, rfl, hown, hrow⟩ := h2
  have osl := own_isOne hown
  simp only [XA]
  refine st_mat shapeT_24 rfl rfl rfl rfl osl ?_
  simp only [XA]
  refine hK _ ?_
  refine XWP.pubR ratE_ok hown hrow fun H7 V7 hV7 hR7 _ => ?_
  refine XWP.ret ?_
  try simp only [thenX_ret, inBlockX_ret]
  exact ret_go _ (by simp [resAll, resV, cellsV, shapeT_24]; rfl) ⟨sl, rfl, hR7⟩
/-- a square matrix of fractions, by its grid -/
structure SqM (V : View) (s : Value) (n B : Nat) (G : Grid) : Prop where
  hv : Rats V s (flatG G n n)
  hn : n ≤ 60
  hq : ∀ i k, i < n → k < n → QB B (G i k)
theorem SqM.up {V V' : View} {s : Value} {n B : Nat} {G : Grid} (h : SqM V s n B G) (hV : V.le V') : SqM V' s n B G := ⟨h.hv.up hV, h.hn, h.hq⟩
theorem flatG_mem {G : Grid} {R C : Nat} {x : Rat} (h : x ∈ flatG G R C) : ∃ i k, i < R ∧ k < C ∧ x = G i k := by
  unfold flatG mk at h
  obtain ⟨p, hp, rfl⟩ := List.mem_map.1 h
  have hp := List.mem_range.1 hp
  have hC : 0 < C := by
    rcases Nat.eq_zero_or_pos C with e | e
    · rw [e, Nat.mul_zero] at hp; omega
    · exact e
  exact ⟨p / C, p % C, by rw [Nat.div_lt_iff_lt_mul hC]; exact hp, Nat.mod_lt _ hC, rfl⟩
theorem SqM.mem {V : View} {s : Value} {n B : Nat} {G : Grid} (h : SqM V s n B G) : ∀ x ∈ flatG G n n, QB B x := fun x hx => by
  obtain ⟨i, k, hi, hk, rfl⟩ := flatG_mem hx
  exact h.hq i k hi hk
theorem sq_le {n : Nat} (h : n ≤ 60) : n * n ≤ 3600 := Nat.le_trans (Nat.mul_le_mul h h) (by decide)
theorem SqM.right {V : View} {s : Value} {n B : Nat} {G : Grid} (h : SqM V s n B G) : matR (n : Int) (n : Int) ((flatG G n n).map toRaw) = true := by
  unfold matR
  have := h.hn
  rw [okR_toRaw, Bool.and_true, decide_eq_true_eq, List.length_map, flatG_len]
  exact ⟨by omega, by omega, by omega, by omega, Int.natCast_mul n n⟩
theorem cmr_c {V : View} {s : Value} {n B : Nat} {G : Grid} (h : SqM V s n B G) (hB : B ≤ 17592186044416) : Spec Tryz.prog 37 [.agg #[.int .i64 (n : Int), .int .i64 (n : Int), s]] V fun v' V' => v' = .bool true := by
  have := cmright_c V s (n : Int) (n : Int) ((flatG G n n).map toRaw) (Rats.raws h.hv) (fitR_toRaw fun x hx => (h.mem x hx).qf hB) (by rw [List.length_map, flatG_len]; have := sq_le h.hn; omega)
  rwa [h.right] at this
theorem cmadd1_c (V : View) (b2 b3 e2 e3 n i k B C : Nat) (G H : Grid) (s1 s2 : Value) (h2 : V b2 = some (.cells ([.int .i64 (n : Int), .int .i64 (n : Int), s1] : List Value).toArray e2 (0, 0))) (h3 : V b3 = some (.cells ([.int .i64 (n : Int), .int .i64 (n : Int), s2] : List Value).toArray e3 (0, 0))) (ha : SqM V s1 n B G) (hb : SqM V s2 n C H) (hi : i < n) (hk : k < n) (hB : B ≤ 17592186044416) (hC : C ≤ 17592186044416) :
    Spec Tryz.prog 139 [.int .i64 (i : Int), .int .i64 (k : Int), .pointer (some ⟨b2, 0, none⟩), .pointer (some ⟨b3, 0, none⟩)] V fun v' V' => RatC V' v' (G i k + H i k) := by
  have hn := ha.hn
  have hnn := sq_le hn
  have hp := pos_lt hi hk
  have w1 := wr_mul (i := i) (C := n) (by omega) (by omega)
  have w2 := wr_add (p := i * n) (k := k) (by omega) (by omega)
  have g1 := flatG_at G hi hk
  have g2 := flatG_at H hi hk
  have la := flatG_len G n n
  have lb := flatG_len H n n
  have hva := ha.hv
  have hvb := hb.hv
  obtain ⟨A1, c1, rfl, hc1, hm1⟩ := hva.form
  obtain ⟨A2, c2, rfl, hc2, hm2⟩ := hvb.form
  obtain ⟨b, o, rfl⟩ := SlAt.addr hva (by omega)
  obtain ⟨b', o', rfl⟩ := SlAt.addr hvb (by omega)
  obtain ⟨x, y, z, hx, ⟨o1, o2, o3⟩, hld⟩ := Rats.get hva (i * n + k) (by omega)
  obtain ⟨x', y', z', hx', ⟨o1', o2', o3'⟩, hld'⟩ := Rats.get hvb (i * n + k) (by omega)
  rw [g1] at hx
  rw [g2] at hx'
  refine (Spec.enter Tryz.func139 rfl fun Γ => ?_)
  simp only [Tryz.ntmps139, List.map_cons, List.map_nil, List.length_cons, List.length_nil, Nat.reduceAdd, Nat.reduceSub, List.replicate_succ, List.replicate_zero, List.cons_append, List.nil_append]
  refine Gx.a (by kernel_rfl) fun K hK => ?_
  simp only [XA, XB]
  refine hK _ ?_
  (refine XWP.drw [0, 1, 2, 3, 4, 5, 6, 7, 8, 9, 10, 11, 12, 13, 14, 15, 16, 17, 18, 19, 20, 21] (by kernel_rfl) (by kernel_rfl) (by kernel_rfl) fun K hK => ?_) <;> dsimp only [pickOps, List.getElem?_cons_zero, List.getElem?_cons_succ]
  simp only [XM, XA]
  refine ld_mem (ldV1 h2 (off := 2) rfl shapeT_22 _) ?_
  simp only [XM, XA]
  refine ld_mem (ldV1 h2 (off := 1) rfl shapeT_3 _) ?_
  simp only [XA, XB, w1, w2]
  refine ⟨by omega, by omega, ?_⟩
  refine ld_mem (hld _) ?_
  simp only [XM, XA]
  refine ld_mem (ldV1 h3 (off := 2) rfl shapeT_22 _) ?_
  simp only [XM, XA]
  refine ld_mem (ldV1 h2 (off := 1) rfl shapeT_3 _) ?_
  simp only [XA, XB, w1, w2]
  refine ⟨by omega, by omega, ?_⟩
  refine ld_mem (hld' _) ?_
  simp only [XA]
  refine call_go (by kernel_rfl) rfl (qadd_c _ _ _ _ _ hx hx' ((ha.hq i k hi hk).qf hB) ((hb.hq i k hi hk).qf hC)) fun v1 V1 hV1 h1 => ?_
  obtain ⟨x1, y1, rfl, p1, p2⟩ := h1.form
  simp only [XA]
  refine st_rat rfl rfl rfl p1 p2 ?_
  simp only [XA]
  refine hK _ (XWP.ret ?_)
  try simp only [thenX_ret, inBlockX_ret]
  exact ret_rat1 rfl rfl rfl h1
theorem cmadd_c (V : View) (s1 s2 : Value) (n B C : Nat) (G H : Grid) (ha : SqM V s1 n B G) (hb : SqM V s2 n C H) (hB : B ≤ 17592186044416) (hC : C ≤ 17592186044416) :
    Spec Tryz.prog 92 [.agg #[.int .i64 (n : Int), .int .i64 (n : Int), s1], .agg #[.int .i64 (n : Int), .int .i64 (n : Int), s2]] V fun v' V' => ∃ w, v' = .tuple #[.agg #[.int .i64 (n : Int), .int .i64 (n : Int), w], .int .i64 0] ∧ Rats V' w (flatG (fun i k => G i k + H i k) n n) := by
  obtain ⟨A1, c1, rfl, hc1, hm1⟩ := ha.hv.form
  obtain ⟨A2, c2, rfl, hc2, hm2⟩ := hb.hv.form
  have hn := ha.hn
  refine (Spec.enter Tryz.func92 rfl fun Γ => ?_)
  simp only [Tryz.ntmps92, List.map_cons, List.map_nil, List.length_cons, List.length_nil, Nat.reduceAdd, Nat.reduceSub, List.replicate_succ, List.replicate_zero, List.cons_append, List.nil_append]
  refine Gx.a (by kernel_rfl) fun K hK => ?_
  simp only [XM, XA, Nat.reduceAdd]
  refine hK _ ?_
  refine XWP.row1 (bx := [_, _]) fun b4 e4 hb4 _ => ?_
  simp only [List.map_cons, List.map_nil, rowS_v, rowS_p, List.length_nil, List.length_cons, Nat.reduceAdd, Nat.reduceEqDiff, ↓reduceIte]
  have f4 : upd (fun _ => none) b4 (some ⟨e4, [.int .i64 0, .int .i64 0, .slice none 0 0], 3⟩) b4 = some ⟨e4, [.int .i64 0, .int .i64 0, .slice none 0 0], 3⟩ := upd_at _ _ _
  generalize upd (fun _ => none) b4 (some ⟨e4, [.int .i64 0, .int .i64 0, .slice none 0 0], 3⟩) = H2 at *
  refine XWP.row1 (bx := [_]) fun b3 e3 hb3 _ => ?_
  simp only [List.map_cons, List.map_nil, rowS_v, rowS_p, List.length_nil, List.length_cons, Nat.reduceAdd, Nat.reduceEqDiff, ↓reduceIte]
  refine XWP.pub b3 _ (upd_at _ _ _) fun o3 ho3 hle3 => ?_
  have eo3 := row_obj ho3
  subst eo3
  have n43 := new_ne hb3 f4
  have f4 : upd (upd H2 b3 (some ⟨e3, [.int .i64 (n : Int), .int .i64 (n : Int), .slice A2 (flatG H n n).length c2], 3⟩)) b3 none b4 = some ⟨e4, [.int .i64 0, .int .i64 0, .slice none 0 0], 3⟩ := (upd_off n43).trans ((upd_off n43).trans f4)
  have h3 := addV_at V b3 (.cells ([.int .i64 (n : Int), .int .i64 (n : Int), .slice A2 (flatG H n n).length c2] : List Value).toArray e3 (0, 0))
  generalize upd (upd H2 b3 _) b3 none = H3 at *
  generalize addV V b3 _ = V3 at *
  refine XWP.row1 (bx := []) fun b2 e2 hb2 _ => ?_
  simp only [List.map_cons, List.map_nil, rowS_v, rowS_p, List.length_nil, List.length_cons, Nat.reduceAdd, ↓reduceIte]
  refine XWP.pub b2 _ (upd_at _ _ _) fun o2 ho2 hle2 => ?_
  have eo2 := row_obj ho2
  subst eo2
  have n42 := new_ne hb2 f4
  have f4 : upd (upd H3 b2 (some ⟨e2, [.int .i64 (n : Int), .int .i64 (n : Int), .slice A1 (flatG G n n).length c1], 3⟩)) b2 none b4 = some ⟨e4, [.int .i64 0, .int .i64 0, .slice none 0 0], 3⟩ := (upd_off n42).trans ((upd_off n42).trans f4)
  have h2 := addV_at V3 b2 (.cells ([.int .i64 (n : Int), .int .i64 (n : Int), .slice A1 (flatG G n n).length c1] : List Value).toArray e2 (0, 0))
  generalize upd (upd H3 b2 _) b2 none = H4 at *
  generalize addV V3 b2 _ = V4 at *
  have h3 := hle2 _ _ h3
  have hle := View.le_trans hle3 hle2
  have ha := ha.up hle
  have hb := hb.up hle
  refine XWP.seq ?_
  refine Gx.a (by kernel_rfl) fun K hK => ?_
  simp only [XA]
  refine ld_mem (ldV3 h2 shapeT_24 _) ?_
  simp only [XA]
  refine call_go (by kernel_rfl) rfl (cmr_c ha hB) fun v5 V5 hV5 h5 => ?_
  subst h5
  simp only [XA, gateX, ↓reduceIte, beq_self_eq_true]
  refine ld_mem (ldV3 (hV5 _ _ h3) shapeT_24 _) ?_
  simp only [XA, gateX, ↓reduceIte, beq_self_eq_true]
  refine call_go (by kernel_rfl) rfl (cmr_c (hb.up hV5) hC) fun v6 V6 hV6 h6 => ?_
  subst h6
  simp only [XA, gateX, ↓reduceIte, beq_self_eq_true]
  refine hK _ ?_
  refine Gx.f rfl ?_
  refine XWP.skip ?_
  have hle := View.le_trans hV5 hV6
  have h2 := hle _ _ h2
  have h3 := hle _ _ h3
  have ha := ha.up hle
  have hb := hb.up hle
  refine XWP.seq ?_
  refine Gx.a (by kernel_rfl) fun K hK => ?_
  simp only [XM, XA]
  refine ld_mem (ldV1 h2 (off := 0) rfl shapeT_3 _) ?_
  simp only [XM, XA]
  refine ld_mem (ldV1 h3 (off := 0) rfl shapeT_3 _) ?_
  simp only [XM, XA, XB, gateX, ↓reduceIte, beq_self_eq_true, decide_true]
  refine ld_mem (ldV1 h2 (off := 1) rfl shapeT_3 _) ?_
  simp only [XM, XA, gateX, ↓reduceIte, beq_self_eq_true]
  refine ld_mem (ldV1 h3 (off := 1) rfl shapeT_3 _) ?_
  simp only [XA, XB, gateX, ↓reduceIte, beq_self_eq_true, decide_true]
  refine hK _ ?_
  refine Gx.f rfl ?_
  refine XWP.skip ?_
  refine Gx.a (by kernel_rfl) fun K hK => ?_
  simp only [XM, XA]
  refine ld_mem (ldV1 h2 (off := 0) rfl shapeT_3 _) ?_
  simp only [XM, XA]
  refine ld_mem (ldV1 h2 (off := 1) rfl shapeT_3 _) ?_
  simp only [XA]
  refine mkf_go [.pointer (some ⟨b2, 0, none⟩), .pointer (some ⟨b3, 0, none⟩)] rfl ?_
  simp only [XA]
  refine call_own (by kernel_rfl) rfl (filled_o V6 (lb := [.pointer (some ⟨b2, 0, none⟩), .pointer (some ⟨b3, 0, none⟩)]) n n (fun i k => G i k + H i k) (by kernel_rfl) (by omega) (by omega) fun V' i k hV hi hk => cmadd1_c V' b2 b3 e2 e3 n i k B C G H _ _ (hV _ _ h2) (hV _ _ h3) (ha.up hV) (hb.up hV) hi hk hB hC) fun v12 V12 o12 hV12 hs12 hR12 => ?_
  obtain ⟨sl, cells, rfl, hown, hrow⟩ := hR12
  have f12 := addRow_off f4 fun g' q e => (hs12 g' q e).1
  have hown2 := own_any (H := H4) hown
  have osl := own_isOne hown2
  have hne : sl.ownBlock ≠ some b4 := fun e => by
    rcases own_parts hown with ⟨rfl, _, _⟩ | ⟨g2, cap2, rfl, hg2, _⟩
    · cases e
    · have : g2 = b4 := by simpa [Value.ownBlock] using e
      exact new_ne (hs12 g2 _ (addRow_only hg2)).1 f4 this.symm
  generalize addRow H4 o12 = H12 at *
  simp only [XA]
  refine st_rowA shapeT_24 (all3 rfl rfl osl) rfl f12 (by simp) ?_
  simp only [XA]
  refine hK _ ?_
  have hown3 : Own (upd H12 b4 (some ⟨e4, splice [.int .i64 0, .int .i64 0, .slice none 0 0] 0 [.int .i64 (n : Int), .int .i64 (n : Int), sl], 3⟩)) 48 3 sl (n * n) cells := by
    refine ⟨hown2.1, ?_⟩
    rcases hown2.2 with h | ⟨g2, cap2, rfl, hg2, h⟩
    · exact .inl h
    · exact .inr ⟨g2, cap2, rfl, by rw [upd_off fun e => hne (by rw [e]; rfl)]; exact hg2, h⟩
  refine XWP.pubR ratE_ok hown3 hrow fun H13 V13 hV13 hRw hk13 => ?_
  have f13 := (hk13 b4 hne).trans (upd_at _ _ _)
  refine XWP.ret ?_
  try simp only [thenX_ret, inBlockX_ret]
  exact ret_go _ (by simp [resAll, resV, cellsV, shapeT_24, f13, splice_all]; rfl) ⟨sl, rfl, hRw⟩
end Go.Proofs.YthoboehbadmlmaaGreat
end
