/- the exits of a chain step by step satisfy a recurrence no longer than its states, whose generating function at 1 is the chance of the exit (part 11 of 13) -/
import Derived.OrdersHeld
import Derived.Below
import Derived.Tactics
import Derived.KernelRfl
import Derived.RangeFuncCalls
import Derived.RangeFuncFrom
import Derived.RangeFuncLeaves
import Derived.OrdersIn
import Derived.Laws.AppendOwn
import Derived.Laws.MakeOwn
import Derived.Laws.CopyRow
import Derived.Laws.Cells
import Derived.Laws.World
import Derived.Laws.Alloc2
import Derived.Laws.NewBlocks
import Derived.Maps.AppendAt
import Derived.Test.YthoboehbadmlmaaGreatProg
import Init.Data.List.Lemmas
import Init.Omega
import Derived.WalkKit
import Derived.ProofKit
import Derived.OpenShut
import Derived.ChangeOld
import Derived.SizedLaws
import Derived.ChangeSlices
import Derived.ChangeArms
import Derived.Deep.Slices
import Derived.Test.YthoboehbadmlmaaGreatCH10
set_option linter.unusedVariables false
set_option linter.unusedSimpArgs false
section
namespace Go.Proofs.YthoboehbadmlmaaGreat
theorem det_unit {n : Nat} {G : Grid} (hu : UniG G n n) : detL n G ≠ 0 := by
 have key : ∀ k, k ≤ n → ∃ G' D, UnitG G G' n k ∧ DetI G n G' k k D ∧ D ≠ 0 := by
  intro k
  induction k with
  | zero => intro _; exact ⟨G, 1, UnitG.zero G n, DetI.start G n, by decide⟩
  | succ k ih =>
   intro hk
   obtain ⟨G', D, h1, h2, h3⟩ := ih (by omega)
   by_cases hp : ∃ p, k ≤ p ∧ p < n ∧ G' p k ≠ 0
   ·obtain ⟨p, p1, p2, p3⟩ := hp
    refine ⟨_, _, h1.step (by omega) p1 p2 p3, h2.piv (by omega) p1 p2 p3, fun e => ?_⟩
    rcases Rat.mul_eq_zero.1 e with g | g
    ·split at g
     ·exact h3 g
     ·exact h3 (by grind)
    ·exact p3 g
   ·exact (h1.pivot hu (by omega) fun i i1 i2 => Classical.byContradiction fun hne => hp ⟨i, i1, i2, hne⟩).elim
 obtain ⟨G', D, _, h2, h3⟩ := key n (Nat.le_refl _)
 rw [← h2.done]; exact h3
def itv (M : Grid) (v : Nat → Rat) (n : Nat) : Nat → Nat → Rat
 | 0 => v
 | k + 1 => fun i => Sm (fun t => M i t * itv M v n k t) n
def itr (M : Grid) (s : Nat → Rat) (n : Nat) : Nat → Nat → Rat
 | 0 => s
 | k + 1 => fun j => Sm (fun t => itr M s n k t * M t j) n
theorem row_col (M : Grid) (s : Nat → Rat) (n : Nat) : ∀ k (v : Nat → Rat), Sm (fun i => itr M s n k i * v i) n = Sm (fun i => s i * itv M v n k i) n
 | 0, _ => rfl
 | k + 1, v => by
  have h := row_col M s n k (fun i => Sm (fun t => M i t * v t) n)
  have e1 : Sm (fun j => Sm (fun t => itr M s n k t * M t j) n * v j) n = Sm (fun i => itr M s n k i * Sm (fun t => M i t * v t) n) n := by
   have e2 : Sm (fun j => Sm (fun t => itr M s n k t * M t j) n * v j) n = Sm (fun j => Sm (fun t => itr M s n k t * (M t j * v j)) n) n := Sm_congr _ fun j _ => by
    rw [show Sm (fun t => itr M s n k t * M t j) n * v j = v j * Sm (fun t => itr M s n k t * M t j) n by grind, ← Sm_mul]
    exact Sm_congr _ fun t _ => by grind
   rw [e2, Sm_swap (fun j t => itr M s n k t * (M t j * v j))]
   exact Sm_congr _ fun t _ => Sm_mul _ _ _
  show Sm (fun j => Sm (fun t => itr M s n k t * M t j) n * v j) n = _
  rw [e1, h]
  refine Sm_congr _ fun i _ => ?_
  congr 1
  have key : ∀ k, itv M (fun i => Sm (fun t => M i t * v t) n) n k = itv M v n (k + 1) := by
   intro k
   induction k with
   | zero => rfl
   | succ k ih => funext i; show Sm (fun t => M i t * itv M (fun i => Sm (fun t => M i t * v t) n) n k t) n = _; rw [ih]; rfl
  rw [key k]
theorem itv_congr {M M' : Grid} {v v' : Nat → Rat} {n : Nat} (hM : ∀ i k, i < n → k < n → M i k = M' i k) (hv : ∀ i, i < n → v i = v' i) : ∀ k i, i < n → itv M v n k i = itv M' v' n k i
 | 0, i, hi => hv i hi
 | k + 1, i, hi => Sm_congr _ fun t ht => by rw [hM i t hi ht, itv_congr hM hv k t ht]
def inR (M : Grid) (R : Nat → Bool) : Grid := fun i k => if (R i && R k) = true then M i k else 0
theorem itv_in {M : Grid} {R : Nat → Bool} {f : Nat → Rat} {n : Nat} (hcl : ∀ i k, i < n → k < n → R i = false → R k = true → M i k = 0) (hf : ∀ i, i < n → R i = false → f i = 0) :
  ∀ k i, i < n → itv M f n k i = itv (inR M R) f n k i ∧ (R i = false → itv (inR M R) f n k i = 0)
 | 0, i, hi => ⟨rfl, hf i hi⟩
 | k + 1, i, hi => by
  refine ⟨Sm_congr _ fun t ht => ?_, fun h => Sm_zero _ fun t ht => ?_⟩
  ·obtain ⟨h1, h2⟩ := itv_in hcl hf k t ht
   rw [h1]
   have eI : inR M R i t = if (R i && R t) = true then M i t else 0 := rfl
   rw [eI]
   cases hi' : R i
   ·cases ht' : R t
    ·rw [h2 ht']; grind
    ·rw [hcl i t hi ht hi' ht']; simp
   ·cases ht' : R t
    ·rw [h2 ht']; grind
    ·simp
  ·have : inR M R i t = 0 := by unfold inR; rw [h]; simp
   rw [this]; grind
theorem itv_pow (M : Grid) (f : Nat → Rat) (n k : Nat) : ∀ t i, i < n → itv M f n (t + k) i = Sm (fun j => powG M n t i j * itv M f n k j) n
 | 0, i, hi => by
  rw [Nat.zero_add, Sm_one hi fun j _ hne => by
   show gid i j * _ = 0
   unfold gid; rw [if_neg (Ne.symm hne)]; grind]
  show _ = gid i i * _
  unfold gid; rw [if_pos rfl]; grind
 | t + 1, i, hi => by
  have e : t + 1 + k = (t + k) + 1 := by omega
  rw [e]
  show Sm (fun r => M i r * itv M f n (t + k) r) n = _
  have e1 : Sm (fun r => M i r * itv M f n (t + k) r) n = Sm (fun r => Sm (fun j => itv M f n k j * (M i r * powG M n t r j)) n) n := Sm_congr _ fun r hr => by
   rw [itv_pow M f n k t r hr, ← Sm_mul]
   exact Sm_congr _ fun j _ => by grind
  rw [e1, Sm_swap (fun r j => itv M f n k j * (M i r * powG M n t r j))]
  refine Sm_congr _ fun j hj => ?_
  rw [Sm_mul]
  have := powG_front M n t i j hi hj
  unfold gmul at this
  rw [this]; grind
theorem chain_rec {n : Nat} {M : Grid} {e f s : Nat → Rat} {R : Nat → Bool} (hef : ∀ i, i < n → f i = e i + Sm (fun k => M i k * f k) n) (hcl : ∀ i k, i < n → k < n → R i = false → R k = true → M i k = 0) (hf : ∀ i, i < n → R i = false → f i = 0)
  (hun : UniG (fun i k => gid i k - inR M R i k) n n) :
  ∃ D, Rec (fun k => Sm (fun i => s i * itv M e n k i) n) D n ∧ Sm D (n + 1) ≠ 0 ∧ Sm (cv D fun k => Sm (fun i => s i * itv M e n k i) n) n = Sm (fun i => s i * f i) n * Sm D (n + 1) := by
 obtain ⟨c, β, hch⟩ := chr_of (inR M R) n
 have hchi := hch.chi
 have hc1 := hch.top
 have hroot : ∀ i j, i < n → j < n → horG (inR M R) (mk (n + 1) c) n (n + 1) i j = 0 := fun i j hi hj => root_own hch hi hj
 obtain ⟨u, hu⟩ : ∃ u : Nat → Rat, u = fun k => Sm (fun i => s i * itv (inR M R) f n k i) n := ⟨_, rfl⟩
 obtain ⟨D, hD⟩ : ∃ D : Nat → Rat, D = fun j => if j ≤ n then c (n - j) else 0 := ⟨_, rfl⟩
 have hD0 : D 0 = 1 := by rw [hD]; show (if 0 ≤ n then c (n - 0) else 0) = 1; rw [if_pos (Nat.zero_le _), Nat.sub_zero, hc1]
 have hDt : ∀ j, n < j → D j = 0 := fun j hj => by rw [hD]; show (if j ≤ n then _ else _) = (0 : Rat); rw [if_neg (by omega)]
 have hl : ∀ k i, i < n → itv M e n k i = itv (inR M R) f n k i - itv (inR M R) f n (k + 1) i := by
  have key : ∀ k i, i < n → itv M e n k i = itv M f n k i - itv M f n (k + 1) i := by
   intro k
   induction k with
   | zero => intro i hi; show e i = f i - Sm (fun t => M i t * f t) n; have := hef i hi; grind
   | succ k ih =>
    intro i hi
    show Sm (fun t => M i t * itv M e n k t) n = Sm (fun t => M i t * itv M f n k t) n - Sm (fun t => M i t * itv M f n (k + 1) t) n
    rw [← Sm_sub]
    exact Sm_congr _ fun t ht => by rw [ih t ht]; grind
  intro k i hi
  rw [key k i hi, (itv_in hcl hf k i hi).1, (itv_in hcl hf (k + 1) i hi).1]
 have hlu : (fun k => Sm (fun i => s i * itv M e n k i) n) = fun k => u k - u (k + 1) := by
  funext k
  rw [hu]
  show _ = Sm (fun i => s i * itv (inR M R) f n k i) n - Sm (fun i => s i * itv (inR M R) f n (k + 1) i) n
  rw [← Sm_sub]
  exact Sm_congr _ fun i hi => by rw [hl k i hi]; grind
 have hpow : ∀ i j, i < n → j < n → Sm (fun t => powG (inR M R) n t i j * c t) (n + 1) = 0 := fun i j hi hj => by
  have h1 := horG_val (inR M R) (mk (n + 1) c) n hi hj
  rw [mk_len, hroot i j hi hj, valG_Sm] at h1
  rw [h1]
  exact Sm_congr _ fun t ht => by rw [cf_mk, if_pos ht]
 have hcu : ∀ k, Sm (fun t => c t * u (t + k)) (n + 1) = 0 := fun k => by
  rw [hu]
  have e1 : Sm (fun t => c t * Sm (fun i => s i * itv (inR M R) f n (t + k) i) n) (n + 1) = Sm (fun t => Sm (fun i => s i * Sm (fun j => itv (inR M R) f n k j * (powG (inR M R) n t i j * c t)) n) n) (n + 1) := Sm_congr _ fun t _ => by
   rw [← Sm_mul]
   refine Sm_congr _ fun i hi => ?_
   rw [itv_pow _ _ _ _ t i hi]
   have : c t * (s i * Sm (fun j => powG (inR M R) n t i j * itv (inR M R) f n k j) n) = s i * (c t * Sm (fun j => powG (inR M R) n t i j * itv (inR M R) f n k j) n) := by grind
   rw [this, ← Sm_mul]
   congr 1
   exact Sm_congr _ fun j _ => by grind
  rw [e1, Sm_swap (fun t i => s i * Sm (fun j => itv (inR M R) f n k j * (powG (inR M R) n t i j * c t)) n)]
  refine Sm_zero _ fun i hi => ?_
  rw [Sm_mul, Sm_swap (fun t j => itv (inR M R) f n k j * (powG (inR M R) n t i j * c t))]
  rw [Sm_zero _ fun j hj => by rw [Sm_mul, hpow i j hi hj]; grind]
  grind
 have hcvu : ∀ K, n ≤ K → cv D u K = 0 := fun K hK => by
  show Sm (fun j => D j * u (K - j)) (K + 1) = 0
  rw [Sm_more (f := fun j => D j * u (K - j)) (n := n + 1) (by omega) fun j h1 _ => by rw [hDt j (by omega)]; grind]
  have h1 := hcu (K - n)
  rw [← Sm_rev] at h1
  rw [← h1]
  refine Sm_congr _ fun j hj => ?_
  rw [hD]
  show (if j ≤ n then c (n - j) else 0) * u (K - j) = c (n + 1 - 1 - j) * u (n + 1 - 1 - j + (K - n))
  rw [if_pos (by omega), show n + 1 - 1 - j = n - j by omega, show n - j + (K - n) = K - j by omega]
 have hsh : ∀ K, cv D (fun k => u (k + 1)) K = cv D u (K + 1) - D (K + 1) * u 0 := fun K => by
  show Sm (fun j => D j * u (K - j + 1)) (K + 1) = Sm (fun j => D j * u (K + 1 - j)) (K + 1) + D (K + 1) * u (K + 1 - (K + 1)) - D (K + 1) * u 0
  rw [Nat.sub_self]
  have : Sm (fun j => D j * u (K - j + 1)) (K + 1) = Sm (fun j => D j * u (K + 1 - j)) (K + 1) := Sm_congr _ fun j hj => by rw [show K - j + 1 = K + 1 - j by omega]
  rw [this]; grind
 have hcl' : ∀ K, cv D (fun k => u k - u (k + 1)) K = cv D u K - cv D u (K + 1) + D (K + 1) * u 0 := fun K => by
  rw [cv_sub]
  show cv D u K - cv D (fun k => u (k + 1)) K = _
  rw [hsh K]; grind
 have hu0 : u 0 = Sm (fun i => s i * f i) n := by rw [hu]; rfl
 rw [hlu]
 refine ⟨D, ⟨hD0, hDt, fun K hK => ?_⟩, ?_, ?_⟩
 ·rw [hcl', hcvu K hK, hcvu (K + 1) (by omega), hDt (K + 1) (by omega)]; grind
 ·have h1 := hchi 1
  have e1 : detL n (fun i k => -inR M R i k + 1 * gid i k) = detL n (fun i k => gid i k - inR M R i k) := detL_congr n fun i k _ _ => by grind
  have e2 : pv c n 1 = Sm D (n + 1) := by
   unfold pv
   rw [← Sm_rev]
   refine Sm_congr _ fun j hj => ?_
   rw [hD]
   show c (n + 1 - 1 - j) * 1 ^ (n + 1 - 1 - j) = if j ≤ n then c (n - j) else 0
   rw [if_pos (by omega), show n + 1 - 1 - j = n - j by omega]
   have : ∀ k : Nat, (1 : Rat) ^ k = 1 := fun k => by
    induction k with
    | zero => exact rpow_zero 1
    | succ k ih => rw [rpow_succ, ih]; grind
   rw [this]; grind
  rw [← e2, ← h1, e1]
  exact det_unit hun
 ·have e1 : ∀ N, Sm (cv D fun k => u k - u (k + 1)) N = cv D u 0 - cv D u N + u 0 * Sm (fun j => D (j + 1)) N := by
   intro N
   induction N with
   | zero => simp only [Sm]; grind
   | succ N ih =>
    show Sm (cv D fun k => u k - u (k + 1)) N + cv D (fun k => u k - u (k + 1)) N = _ - _ + u 0 * (Sm (fun j => D (j + 1)) N + D (N + 1))
    rw [ih, hcl']; grind
  have e2 : cv D u 0 = u 0 := by
   show Sm (fun j => D j * u (0 - j)) (0 + 1) = u 0
   simp only [Sm]
   rw [hD0]; grind
  rw [e1, hcvu n (Nat.le_refl _), e2, Sm_front, hD0, ← hu0]; grind
theorem Sm_lt {f g : Nat → Rat} {n k : Nat} (hk : k < n) (h : ∀ j, j < n → f j ≤ g j) (hlt : f k < g k) : Sm f n < Sm g n := by
 induction n with
 | zero => omega
 | succ n ih =>
  show Sm f n + f n < Sm g n + g n
  by_cases e : k = n
  ·subst e
   have := Sm_le k fun j hj => h j (by omega)
   grind
  ·have h1 := ih (by omega) fun j hj => h j (by omega)
   have h2 := h n (by omega)
   grind
theorem top_of (x : Nat → Rat) : ∀ n, 0 < n → ∃ i, i < n ∧ ∀ j, j < n → x j ≤ x i
  | 0, h => by omega
  | 1, _ => ⟨0, by omega, fun j hj => by obtain rfl : j = 0 := by omega
                                         exact Rat.le_refl⟩
  | n + 2, _ => by
    obtain ⟨i, hi, hm⟩ := top_of x (n + 1) (by omega)
    by_cases h : x i ≤ x (n + 1)
    · refine ⟨n + 1, by omega, fun j hj => ?_⟩
      by_cases e : j = n + 1
      · rw [e]; exact Rat.le_refl
      · exact Rat.le_trans (hm j (by omega)) h
    · refine ⟨i, by omega, fun j hj => ?_⟩
      by_cases e : j = n + 1
      · rw [e]; exact Rat.le_of_lt (Rat.not_le.1 h)
      · exact hm j (by omega)
structure ChnG (M E : Grid) (n m : Nat) (R : Nat → Bool) : Prop where
 mn : ∀ i k, i < n → k < n → 0 ≤ M i k
 en : ∀ i c, i < n → c < m → 0 ≤ E i c
 sum : ∀ i, i < n → Sm (M i) n + Sm (E i) m = 1
 ind : ∀ P : Nat → Prop, (∀ i c, i < n → c < m → E i c ≠ 0 → P i) → (∀ i k, i < n → k < n → M i k ≠ 0 → P k → P i) → ∀ i, i < n → R i = true → P i
 endz : ∀ i c, i < n → c < m → R i = false → E i c = 0
 cl : ∀ i k, i < n → k < n → R i = false → R k = true → M i k = 0
theorem ChnG.le_zero {M E : Grid} {n m : Nat} {R : Nat → Bool} (h : ChnG M E n m R) {x : Nat → Rat} (hx : ∀ i, i < n → x i ≤ Sm (fun j => inR M R i j * x j) n) : ∀ i, i < n → x i ≤ 0 := fun i hi => by
 obtain ⟨i0, hi0, hm⟩ := top_of x n (by omega)
 refine Classical.byContradiction fun hne => ?_
 have hB : 0 < x i0 := by
  have := hm i hi
  have : 0 < x i := Rat.not_le.1 hne
  grind
 have hle : ∀ i j, i < n → j < n → inR M R i j * x j ≤ M i j * x i0 := fun i j hi hj => by
  have h1 := hm j hj
  have h2 := h.mn i j hi hj
  unfold inR
  split
  ·exact Rat.mul_le_mul_of_nonneg_left h1 h2
  ·have := Rat.mul_nonneg h2 (Rat.le_of_lt hB)
   grind
 have hsum : ∀ i, i < n → Sm (fun j => M i j * x i0) n = x i0 * Sm (M i) n := fun i _ => by
  rw [← Sm_mul]; exact Sm_congr _ fun j _ => by grind
 have hE : ∀ i, i < n → 0 ≤ Sm (E i) m := fun i hi => Sm_nonneg m fun c hc => h.en i c hi hc
 have key : ∀ i, i < n → R i = true → x i < x i0 := h.ind (fun i => x i < x i0) (fun i c hi hc hne => by
  have h1 := hx i hi
  have h2 := Sm_le n fun j hj => hle i j hi hj
  rw [hsum i hi] at h2
  have h3 : 0 < Sm (E i) m := by
   have := Sm_lt (f := fun _ => 0) (g := E i) hc (fun c' hc' => h.en i c' hi hc') (by have := h.en i c hi hc; show 0 < E i c; grind)
   rw [Sm_zero m fun _ _ => rfl] at this
   exact this
  have h4 := h.sum i hi
  have h5 : Sm (M i) n < 1 := by grind
  have h6 : x i0 * Sm (M i) n < x i0 * 1 := Rat.mul_lt_mul_of_pos_left h5 hB
  grind) fun i k hi hk hne hPk => by
  have h1 := hx i hi
  have hpos : 0 < M i k := by have := h.mn i k hi hk; grind
  have h2 : Sm (fun j => inR M R i j * x j) n < Sm (fun j => M i j * x i0) n := Sm_lt hk (fun j hj => hle i j hi hj) (by
   show inR M R i k * x k < M i k * x i0
   unfold inR
   split
   ·exact Rat.mul_lt_mul_of_pos_left hPk hpos
   ·have := Rat.mul_pos hpos hB
    grind)
  rw [hsum i hi] at h2
  have h4 := h.sum i hi
  have h5 : Sm (M i) n ≤ 1 := by have := hE i hi; grind
  have h6 : x i0 * Sm (M i) n ≤ x i0 * 1 := Rat.mul_le_mul_of_nonneg_left h5 (Rat.le_of_lt hB)
  grind
 cases hR : R i0
 ·have h1 := hx i0 hi0
  rw [Sm_zero n fun j _ => by
   have : inR M R i0 j = 0 := by unfold inR; rw [hR]; simp
   rw [this]; grind] at h1
  grind
 ·have := key i0 hi0 hR
  grind
theorem ChnG.uni {M E : Grid} {n m : Nat} {R : Nat → Bool} (h : ChnG M E n m R) : UniG (fun i k => gid i k - inR M R i k) n n := fun x hx j hj => by
 have e : ∀ i, i < n → x i = Sm (fun j => inR M R i j * x j) n := fun i hi => by
  have h1 : Sm (fun j => (gid i j - inR M R i j) * x j) n = 0 := hx i hi
  have h2 : Sm (fun j => (gid i j - inR M R i j) * x j) n = Sm (fun j => gid i j * x j) n - Sm (fun j => inR M R i j * x j) n := by
   rw [← Sm_sub]; exact Sm_congr _ fun j _ => by grind
  have h3 : Sm (fun j => gid i j * x j) n = x i := by
   rw [Sm_one hi fun j _ hne => by unfold gid; rw [if_neg (Ne.symm hne)]; grind]
   unfold gid; rw [if_pos rfl]; grind
  rw [h2, h3] at h1
  grind
 have h1 := h.le_zero (x := x) (fun i hi => by rw [← e i hi]; exact Rat.le_refl) j hj
 have h2 := h.le_zero (x := fun i => -x i) (fun i hi => by
  have : Sm (fun j => inR M R i j * -x j) n = -Sm (fun j => inR M R i j * x j) n := by
   have : Sm (fun j => inR M R i j * -x j) n = Sm (fun j => -1 * (inR M R i j * x j)) n := Sm_congr _ fun j _ => by grind
   rw [this, Sm_mul]; grind
  rw [this, ← e i hi]; exact Rat.le_refl) j hj
 grind
def RchE (M E : Grid) (n m i : Nat) : Prop := ∀ P : Nat → Prop, (∀ i c, i < n → c < m → E i c ≠ 0 → P i) → (∀ i k, i < n → k < n → M i k ≠ 0 → P k → P i) → P i
structure OutI (M E : Grid) (n m : Nat) (R : Nat → Bool) (a b : Nat) : Prop where
 snd : ∀ i, i < n → R i = true → RchE M E n m i
 fil : ∀ i c, i < n → c < m → (i < a ∨ (i = a ∧ c < b)) → E i c ≠ 0 → R i = true
theorem OutI.start (M E : Grid) (n m : Nat) : OutI M E n m (fun _ => false) 0 0 := ⟨fun i _ h => (by cases h), fun i c _ _ h => by omega⟩
theorem OutI.step {M E : Grid} {n m a b : Nat} {R : Nat → Bool} (h : OutI M E n m R a b) (ha : a < n) (hb : b < m) : OutI M E n m (fun i => if i = a then (R a || decide (E a b ≠ 0)) else R i) a (b + 1) := by
 refine ⟨fun i hi hr => ?_, fun i c hi hc hp hne => ?_⟩
 ·by_cases e : i = a
  ·subst e
   rw [if_pos rfl, Bool.or_eq_true] at hr
   rcases hr with hr | hr
   ·exact h.snd i hi hr
   ·exact fun P h1 h2 => h1 i b hi hb (of_decide_eq_true hr)
  ·rw [if_neg e] at hr; exact h.snd i hi hr
 ·by_cases e : i = a
  ·subst e
   rw [if_pos rfl, Bool.or_eq_true]
   by_cases e2 : c = b
   ·subst e2; exact .inr (decide_eq_true hne)
   ·exact .inl (h.fil i c hi hc (by omega) hne)
  ·rw [if_neg e]; exact h.fil i c hi hc (by omega) hne
theorem OutI.row {M E : Grid} {n m a : Nat} {R : Nat → Bool} (h : OutI M E n m R a m) : OutI M E n m R (a + 1) 0 := ⟨h.snd, fun i c hi hc hp hne => h.fil i c hi hc (by omega) hne⟩
structure PasI (M E : Grid) (n m c0 : Nat) (R : Nat → Bool) (more : Bool) (a b : Nat) : Prop where
 snd : ∀ i, i < n → R i = true → RchE M E n m i
 fil : ∀ i c, i < n → c < m → E i c ≠ 0 → R i = true
 clos : more = false → ∀ i k, i < n → k < n → (i < a ∨ (i = a ∧ k < b)) → R i = false → R k = true → M i k = 0
 cnt : cntF R n + (if more = true then 1 else 0) ≤ c0
theorem OutI.pass {M E : Grid} {n m : Nat} {R : Nat → Bool} (h : OutI M E n m R n 0) : PasI M E n m (cntF R n) R false 0 0 :=
 ⟨h.snd, fun i c hi hc hne => h.fil i c hi hc (.inl hi) hne, fun _ i k _ _ hp => by omega, by simp⟩
theorem PasI.again {M E : Grid} {n m c0 a b : Nat} {R : Nat → Bool} {more : Bool} (h : PasI M E n m c0 R more a b) : PasI M E n m (cntF R n) R false 0 0 :=
 ⟨h.snd, h.fil, fun _ i k _ _ hp => by omega, by simp⟩
theorem PasI.skip {M E : Grid} {n m c0 a b : Nat} {R : Nat → Bool} {more : Bool} (h : PasI M E n m c0 R more a b) (hs : R a = false → R b = true → M a b = 0) : PasI M E n m c0 R more a (b + 1) :=
 ⟨h.snd, h.fil, fun hm i k hi hk hp h1 h2 => by
  by_cases e : i = a ∧ k = b
  ·obtain ⟨rfl, rfl⟩ := e; exact hs h1 h2
  ·exact h.clos hm i k hi hk (by omega) h1 h2, h.cnt⟩
theorem PasI.put {M E : Grid} {n m c0 a b : Nat} {R : Nat → Bool} {more : Bool} (h : PasI M E n m c0 R more a b) (ha : a < n) (hb : b < n) (h1 : R a = false) (h2 : R b = true) (h3 : M a b ≠ 0) : PasI M E n m c0 (bset R a) true a (b + 1) := by
 have up : ∀ j, R j = true → bset R a j = true := fun j hj => by unfold bset; split <;> simp_all
 refine ⟨fun i hi hr => ?_, fun i c hi hc hne => up i (h.fil i c hi hc hne), fun hm => (by cases hm), ?_⟩
 ·unfold bset at hr
  split at hr
  ·rename_i e
   subst e
   exact fun P p1 p2 => p2 i b hi hb h3 (h.snd b hb h2 P p1 p2)
  ·exact h.snd i hi hr
 ·have c1 := cntF_set ha h1
  have c2 := h.cnt
  rw [if_pos rfl]
  split at c2 <;> omega
theorem PasI.row {M E : Grid} {n m c0 a : Nat} {R : Nat → Bool} {more : Bool} (h : PasI M E n m c0 R more a n) : PasI M E n m c0 R more (a + 1) 0 :=
 ⟨h.snd, h.fil, fun hm i k hi hk hp => h.clos hm i k hi hk (by omega), h.cnt⟩
structure Reach (M E : Grid) (n m : Nat) (R : Nat → Bool) : Prop where
 snd : ∀ i, i < n → R i = true → RchE M E n m i
 fil : ∀ i c, i < n → c < m → R i = false → E i c = 0
 clos : ∀ i k, i < n → k < n → R i = false → R k = true → M i k = 0
theorem PasI.all {M E : Grid} {n m c0 : Nat} {R : Nat → Bool} (h : PasI M E n m c0 R false n 0) : Reach M E n m R :=
 ⟨h.snd, fun i c hi hc hr => Classical.byContradiction fun hne => Bool.noConfusion (hr.symm.trans (h.fil i c hi hc hne)), fun i k hi hk h1 h2 => h.clos rfl i k hi hk (.inl hi) h1 h2⟩
theorem Reach.chn {M E : Grid} {n m : Nat} {R : Nat → Bool} (h : Reach M E n m R) (mn : ∀ i k, i < n → k < n → 0 ≤ M i k) (en : ∀ i c, i < n → c < m → 0 ≤ E i c) (sum : ∀ i, i < n → Sm (M i) n + Sm (E i) m = 1) : ChnG M E n m R :=
 ⟨mn, en, sum, fun P h1 h2 i hi hr => h.snd i hi hr P h1 h2, fun i c hi hc hr => h.fil i c hi hc hr, h.clos⟩
end Go.Proofs.YthoboehbadmlmaaGreat
end
section
namespace Go.Proofs.YthoboehbadmlmaaGreat
open Go Go.RowKit
theorem XWP.pub {Γ : Cx} {P : Program} {c : Code} {Q : Exit → XS → Prop} {t : List SV} {bx : List (List Value)} {H : Heap} {V : View} (b : Nat) (r : Row) (hr : H b = some r)
  (h : ∀ o, RowObj r o → V.le (addV V b o) → XWP Γ P c Q ⟨t, bx, upd H b none, addV V b o⟩) : XWP Γ P c Q ⟨t, bx, H, V⟩ := by
 intro bl a w hc
 obtain ⟨o, ho, h3, h4, _, h6⟩ := pub_row hc.cw hc.cs hr
 exact h o ho h6 bl a w ⟨hc.tm, hc.df, h3, h4, hc.ok⟩
theorem new_ne {H : Heap} {b g : Nat} {r : Row} (hb : H b = none) (hg : H g = some r) : g ≠ b := fun e => by rw [e, hb] at hg; cases hg
def MPost (P : Program) (rs : List ResultVar) (R : Value → Heap → View → Prop) : Exit → XS → Prop
 | .normal, s | .ret, s => XPub (fun s' => ∃ vs, resAll P s' rs = some vs ∧ R (oneOf vs) s'.H s'.V) s
 | _, _ => False
def MSpec (P : Program) (f : FuncId) (args : List Value) (H : Heap) (V : View) (R : Value → Heap → View → Prop) : Prop :=
 ∃ fn c, P.funcs[f]? = some fn ∧ fn.body = some c ∧ ∀ Γ : Cx, Γ.Plain → XWP Γ P c (MPost P fn.results.toList R) ⟨args.map .v ++ List.replicate (fn.ntmps - args.length) (.v undef), [], H, V⟩
theorem MPost_ret {P : Program} {rs : List ResultVar} {R : Value → Heap → View → Prop} {s : XS} : MPost P rs R .ret s = XPub (fun s' => ∃ vs, resAll P s' rs = some vs ∧ R (oneOf vs) s'.H s'.V) s := rfl
theorem MPost_normal {P : Program} {rs : List ResultVar} {R : Value → Heap → View → Prop} {s : XS} : MPost P rs R .normal s = XPub (fun s' => ∃ vs, resAll P s' rs = some vs ∧ R (oneOf vs) s'.H s'.V) s := rfl
theorem MSpec.enter {P : Program} {f : FuncId} {fn : Func} {c : Code} {args : List Value} {H : Heap} {V : View} {R : Value → Heap → View → Prop} (hf : P.funcs[f]? = some fn) (hb : fn.body = some c)
  (h : ∀ Γ : Cx, Γ.Plain → XWP Γ P c (MPost P fn.results.toList R) ⟨args.map .v ++ List.replicate (fn.ntmps - args.length) (.v undef), [], H, V⟩) : MSpec P f args H V R := ⟨fn, c, hf, hb, h⟩
theorem retM_go {P : Program} {rs : List ResultVar} {R : Value → Heap → View → Prop} {s : XS} (vs : List Value) (h : resAll P s rs = some vs) (hR : R (oneOf vs) s.H s.V) : MPost P rs R .ret s := by rw [MPost_ret]; exact XPub.now ⟨vs, h, hR⟩
theorem endM_go {P : Program} {rs : List ResultVar} {R : Value → Heap → View → Prop} {s : XS} (vs : List Value) (h : resAll P s rs = some vs) (hR : R (oneOf vs) s.H s.V) : MPost P rs R .normal s := by rw [MPost_normal]; exact XPub.now ⟨vs, h, hR⟩
theorem leave_marksK {Γ : Cx} {P : Program} {bl : Nat → Nat} {bx : List (List Value)} {H : Heap} {V : View} (hV0 : Γ.V0.sub Γ.w0) (W0 : World) {fn : Func} {R : Ending → World → Prop} {tmps : Array Value} (hs : CS Γ bl bx H V) : ∀ (ms : List Nat) (w : World), CW Γ bl bx H V w → KeepsOthers W0 w → ms.Nodup → (∀ D ∈ ms, (Γ.w0.heap.size ≤ D ∧ W0.heap.size ≤ D) ∧ w.heap[D]? = some (.deferred (some []))) →
  (∀ w', CW Γ bl bx H V w' → KeepsOthers W0 w' → ∃ v, (results fn tmps).run P w' = .ok v w' ∧ R (.returned v) w') → LeavesInM Fence.wide 0 P fn tmps R (ms.map fun D => { target := .collected D, args := #[] }) .returning w
 | [], w, h, ho, _, _, k => k w h ho
 | D :: ms, w, h, ho, hn, hD, k => by
  obtain ⟨⟨h1, h1'⟩, h2⟩ := hD D (by simp)
  obtain ⟨n1, n2⟩ := List.nodup_cons.1 hn
  refine ⟨by simp, .inl ⟨D, _, rfl, run_takeDeferred h2, leave_marksK hV0 W0 hs ms _ (h.turn hV0 hs h2 rfl h1 _) (others_put ho h1' _) n2 (fun E hE => ?_) k⟩⟩
  obtain ⟨h3, h4⟩ := hD E (by simp [hE])
  exact ⟨h3, (World.putObj_heap_other (fun e => n1 (by rw [← e]; exact hE))).trans h4⟩
theorem MSpec.calls {P : Program} {f : FuncId} {args : List Value} {H : Heap} {V : View} {R : Value → Heap → View → Prop} (h : MSpec P f args H V R) {Γ : Cx} (hV0 : Γ.V0.sub Γ.w0) {bl : Nat → Nat} {w : World} (hw : CW Γ bl [] H V w) (hs : CS Γ bl [] H V) :
  Calls P f args.toArray w fun e w' => ∃ v H' V', e = .returned v ∧ CW Γ bl [] H' V' w' ∧ CS Γ bl [] H' V' ∧ KeepsOthers w w' ∧ R v H' V' := by
 obtain ⟨fn, c, hf, hb, h⟩ := h
 refine (callsIn_wide (n := 0)).1 (callsIn_of_wp_marks hf hb trivial ?_)
 have hc : Conc ⟨Γ.w0, Γ.V0, w, none⟩ bl ⟨args.map .v ++ List.replicate (fn.ntmps - args.length) (.v undef), [], H, V⟩ { tmps := args.toArray ++ Array.replicate (fn.ntmps - args.toArray.size) undef, defers := [] } w := by
  refine ⟨?_, ⟨⟨[], rfl, List.nodup_nil, fun D hD => by simp at hD⟩, KeepsOthers.refl _⟩, hw.cx rfl, hs.cx rfl rfl, fun x hx => ?_⟩
  ·have e1 : (SV.conc bl) ∘ SV.v = id := rfl
   have e2 : (SV.conc bl (SV.v undef)) = undef := rfl
   simp [List.map_append, List.map_map, List.map_replicate, e1, e2]
  ·simp only [List.mem_append, List.mem_map, List.mem_replicate] at hx
   rcases hx with ⟨_, _, rfl⟩ | ⟨_, rfl⟩ <;> trivial
 refine wpIn_mono (h ⟨Γ.w0, Γ.V0, w, none⟩ ⟨rfl, hV0⟩ bl _ w hc) ?_
 have fin : ∀ bl1 s a w', Conc ⟨Γ.w0, Γ.V0, w, none⟩ bl1 s a w' → MPost P fn.results.toList R .ret s → LeavesInM Fence.wide 0 P fn a.tmps (fun e w' => ∃ v H' V', e = .returned v ∧ CW Γ bl [] H' V' w' ∧ CS Γ bl [] H' V' ∧ KeepsOthers w w' ∧ R v H' V') a.defers .returning w' := by
  intro bl1 s a w' hC hR
  obtain ⟨H', V', h1, h2, _, _, vs, hvs, hR⟩ := hR ⟨Γ.w0, Γ.V0, w, none⟩ bl1 w' hC.cw hC.cs
  obtain ⟨⟨ms, e1, e2, e3⟩, e4⟩ := hC.df
  rw [e1]
  refine leave_marksK (Γ := ⟨Γ.w0, Γ.V0, w, none⟩) hV0 w h2 ms w' h1 e4 e2 (fun D hD => ⟨⟨Nat.le_trans (Cx.base_ge _) (e3 D hD).1, Nat.le_trans (Cx.base_w1 ⟨Γ.w0, Γ.V0, w, none⟩ rfl) (e3 D hD).1⟩, (e3 D hD).2⟩) fun w'' h3 h4 => ⟨_, ?_, _, H', V', rfl, (h3.cx (Γ' := Γ) rfl).nobox, (h2.cx (Γ' := Γ) rfl rfl).nobox, h4, hR⟩
  exact results_run (Γ := ⟨Γ.w0, Γ.V0, w, none⟩) (a := { tmps := a.tmps, defers := [] }) (s := ⟨s.t, s.bx, H', V'⟩) ⟨hC.tm, ⟨⟨[], rfl, List.nodup_nil, fun D hD => by simp at hD⟩, h4⟩, h3, h2, hC.ok⟩ vs hvs
 rintro e a w' ⟨bl1, s, hC, hq⟩
 cases e with
 | normal => exact fin bl1 s a w' hC hq
 | ret => exact fin bl1 s a w' hC hq
 | _ => exact hq.elim
section
variable {Γ : Cx} {P : Program} {ops : Array Oper} {Q : Exit → XS → Prop}
theorem seqX_ops (rest : List Nat) : ∀ (l : List Oper) (k : Nat) (K : XS → Prop), (∀ i o, l[i]? = some o → ops[k + i]? = some o) → ∀ bl s a w, Conc Γ bl s a w → guardsIn ops s.t.length = true → seqX P ops l K s →
  (∀ bl s a w, Conc Γ bl s a w → guardsIn ops s.t.length = true → K s → wpOps P ops (XQ Γ (onlyN Q)) rest a w) → wpOps P ops (XQ Γ (onlyN Q)) (List.range' k l.length ++ rest) a w
 | [], k, K, _, bl, s, a, w, hc, hg, h, hk => by simpa using hk bl s a w hc hg h
 | o :: l, k, K, hi, bl, s, a, w, hc, hg, h, hk => by
  have ho : ops[k]? = some o := by simpa using hi 0 o (by simp)
  simp only [List.length_cons, List.range'_succ, List.cons_append]
  rw [wpOps_cons]
  refine wpOp_mono ?_ (wpOp_size hc.len (stepX_wp ho (guardsIn_spec hg ho) hc h (XQ Γ (onlyN Q))))
  rintro a' w' ⟨hsz, bl', s', hc', _, hk'⟩
  refine seqX_ops rest l (k + 1) K (fun i o' h' => ?_) bl' s' a' w' hc' (by rw [← hc'.len, hsz]; exact hg) hk' hk
  have := hi (i + 1) o' (by simpa using h')
  rw [show k + 1 + i = k + (i + 1) by omega]; exact this
def MCall (P : Program) (f : FuncId) (args : List SV) (s : XS) (K : Value → XS → Prop) : Prop :=
 s.bx = [] ∧ args.all SV.isV = true ∧ ∃ R, MSpec P f (args.map SV.val) s.H s.V R ∧ ∀ v H V, R v H V → K v ⟨s.t, [], H, V⟩
theorem XWP.regM {id : Nat} {s : XS} (k : Nat) {d : Option Tmp} {f : FuncId} {args : List Operand} {ts : Array TypeId} {ty pos af} (hΓ : Γ.V0.sub Γ.w0) (hk : ops.toList[k]? = some ⟨d, .call ⟨.value (.func f), args.toArray, ts⟩, ty, pos, af, none⟩) (hcl : callable P f = true) (hg : guardsIn ops s.t.length = true)
  (h : seqX P ops (ops.toList.take k) (fun s1 => MCall P f (args.map s1.ev) s1 fun v s2 => seqX P ops (ops.toList.drop (k + 1)) (fun s' => Q .normal s') (s2.put d (.v v))) s) : XWP Γ P (.region id ops false) Q s := by
 intro bl a w hc
 have hnd : noDefer ops = true := by unfold guardsIn at hg; rw [Bool.and_eq_true] at hg; exact hg.1
 refine wpIn_mono (wpIn_region (wpOps_in onlyN_out hnd _ _ _ ?_)) (onlyN_all (Q := Q))
 obtain ⟨hlt, hke⟩ := List.getElem?_eq_some_iff.1 hk
 have hlen : List.range ops.size = List.range' 0 (ops.toList.take k).length ++ (k :: (List.range' (k + 1) (ops.toList.drop (k + 1)).length ++ [])) := by
  have e1 : (ops.toList.take k).length = k := by rw [List.length_take]; omega
  have e2 : ops.size = k + ((ops.toList.drop (k + 1)).length + 1) := by rw [List.length_drop, ← Array.length_toList]; omega
  rw [e1, e2, List.range_eq_range', ← List.range'_append_1, Nat.zero_add, List.range'_succ, List.append_nil]
 rw [hlen]
 refine seqX_ops _ _ 0 _ (fun i o ho => ?_) bl s a w hc hg h ?_
 ·rw [Nat.zero_add, ← Array.getElem?_toList]
  rw [List.getElem?_take] at ho
  split at ho
  ·exact ho
  ·cases ho
 intro bl1 s1 a1 w1 hc1 hg1 ⟨hbx, hall, R, hspec, hK⟩
 obtain ⟨t1, bx1, H1, V1⟩ := s1
 dsimp only at hbx hg1 hspec hK
 subst hbx
 have hok : ops[k]? = some ⟨d, .call ⟨.value (.func f), args.toArray, ts⟩, ty, pos, af, none⟩ := by rw [← Array.getElem?_toList]; exact hk
 rw [wpOps_cons]
 unfold wpOp
 simp only [hok]
 rw [if_pos (by unfold Region.wanted; rfl)]
 refine .inl ?_
 have eargs : ((args.map (⟨t1, [], H1, V1⟩ : XS).ev).map SV.val).toArray = args.toArray.map a1.eval := by
  apply Array.ext'
  simp only [Array.toList_map, List.map_map]
  refine List.map_congr_left fun q hq => ?_
  rw [hc1.ev]
  exact (val_conc (List.all_eq_true.1 hall _ (List.mem_map_of_mem hq))).symm
 have hrun : (execOp a1.eval ⟨d, .call ⟨.value (.func f), args.toArray, ts⟩, ty, pos, af, none⟩).run P w1 = .ok (.enter f (args.toArray.map a1.eval)) w1 := by
  have ef : a1.eval (.func f) = .func (.func f) #[] #[] := rfl
  unfold callable at hcl
  cases hf : P.funcs[f]? with
  | none => simp [hf] at hcl
  | some fn =>
   simp [hf] at hcl
   have hb : fn.body ≠ none := fun hn => by simp [hn] at hcl
   simp [execOp, resolve, ef, Deferred.ofValue, invoke, callFunc, hf, hcl.1, hb]
 unfold Oper.wp
 rw [hrun]
 show Calls P f (args.toArray.map a1.eval) w1 _
 rw [← eargs]
 refine (hspec.calls hΓ hc1.cw hc1.cs).mono ?_
 rintro e w' ⟨v, H', V', rfl, cw, cs, ko, hR⟩
 dsimp only
 have hput := Conc.put (Γ := Γ) (bl := bl1) (s := ⟨t1, [], H', V'⟩) (a := a1) (w := w') ⟨hc1.tm, hc1.df.keep ko, cw, cs, hc1.ok⟩ d (.v v) trivial
 exact seqX_ops [] _ (k + 1) _ (fun i o ho => by rw [← Array.getElem?_toList]; rw [List.getElem?_drop] at ho; exact ho) bl1 _ _ _ hput (by rw [put_len]; exact hg1) (hK v H' V' hR) fun bl s a w hc _ hq => ⟨bl, s, hc, hq⟩
theorem Gx.ma {id : Nat} {s : XS} {y : Code} (k : Nat) {d : Option Tmp} {f : FuncId} {args : List Operand} {ts : Array TypeId} {ty pos af} (hΓ : Γ.Plain) (hk : ops.toList[k]? = some ⟨d, .call ⟨.value (.func f), args.toArray, ts⟩, ty, pos, af, none⟩) (hcl : callable P f = true) (hg : guardsIn ops s.t.length = true)
  (h : ∀ K : XS → Prop, (∀ s', XWP Γ P y Q s' → K s') → seqX P ops (ops.toList.take k) (fun s1 => MCall P f (args.map s1.ev) s1 fun v s2 => seqX P ops (ops.toList.drop (k + 1)) K (s2.put d (.v v))) s) : XWP Γ P (.seq (.region id ops false) y) Q s :=
 XWP.seq (XWP.regM k hΓ.2 hk hcl hg (h _ fun _ h => h))
theorem Gx.mc {id : Nat} {s : XS} (k : Nat) {d : Option Tmp} {f : FuncId} {args : List Operand} {ts : Array TypeId} {ty pos af} (hΓ : Γ.Plain) (hk : ops.toList[k]? = some ⟨d, .call ⟨.value (.func f), args.toArray, ts⟩, ty, pos, af, none⟩) (hcl : callable P f = true) (hg : guardsIn ops s.t.length = true)
  (h : ∀ K : XS → Prop, (∀ s', Q .normal s' → K s') → seqX P ops (ops.toList.take k) (fun s1 => MCall P f (args.map s1.ev) s1 fun v s2 => seqX P ops (ops.toList.drop (k + 1)) K (s2.put d (.v v))) s) : XWP Γ P (.region id ops false) Q s :=
 XWP.regM k hΓ.2 hk hcl hg (h _ fun _ h => h)
end
theorem mcall_go {P : Program} {f : FuncId} {args : List SV} {s : XS} {K : Value → XS → Prop} {R : Value → Heap → View → Prop} (hb : s.bx = []) (hv : args.all SV.isV = true) (hs : MSpec P f (args.map SV.val) s.H s.V R) (h : ∀ v H V, R v H V → K v ⟨s.t, [], H, V⟩) : MCall P f args s K := ⟨hb, hv, R, hs, h⟩
end Go.Proofs.YthoboehbadmlmaaGreat
end
section
namespace Go.Proofs.YthoboehbadmlmaaGreat
open Go Go.RowKit
attribute [local irreducible] XWP Spec SpecO XPub XCall seqX clX apX stX ldX iaX slX
def Sl1 {α : Type} (E : El α) (V : View) (v : Value) (xs : List α) : Prop := ∃ A c, v = .slice A xs.length c ∧ xs.length ≤ c ∧ c ≤ 9223372036854775807 ∧ (xs = [] ∨ ∃ b o arr ty fr, A = some ⟨b, o, none⟩ ∧ V b = some (.cells arr ty fr) ∧ ∀ (i : Nat) (x : α), xs[i]? = some x → ∃ u, arr[o + i]? = some u ∧ isOne u = true ∧ E V u x)
def R1At {α : Type} (E : El α) (V : View) (cells : List Value) (xs : List α) : Prop := cells.length = xs.length ∧ ∀ (i : Nat) (x : α), xs[i]? = some x → ∃ u, cells[i]? = some u ∧ isOne u = true ∧ E V u x
def booE : El Bool := fun _ u x => u = .bool x
section
variable {α : Type} {E : El α}
theorem Sl1.mono (hE : ElOk E) {V V' : View} {v : Value} {xs : List α} (h : Sl1 E V v xs) (hV : V.le V') : Sl1 E V' v xs := by
 obtain ⟨A, c, e, h1, h2, h3⟩ := h
 refine ⟨A, c, e, h1, h2, ?_⟩
 rcases h3 with h3 | ⟨b, o, arr, ty, fr, e1, e2, h4⟩
 ·exact .inl h3
 ·exact .inr ⟨b, o, arr, ty, fr, e1, hV _ _ e2, fun i x hi => by obtain ⟨u, a, b, d⟩ := h4 i x hi; exact ⟨u, a, b, hE _ _ _ _ hV d⟩⟩
theorem Sl1.form {V : View} {v : Value} {xs : List α} (h : Sl1 E V v xs) : ∃ A c, v = .slice A xs.length c ∧ xs.length ≤ c ∧ c ≤ 9223372036854775807 := by
 obtain ⟨A, c, e, h1, h2, _⟩ := h; exact ⟨A, c, e, h1, h2⟩
theorem Sl1.nil (V : View) : Sl1 E V (.slice none 0 0) ([] : List α) := ⟨none, 0, rfl, Nat.le_refl _, by omega, .inl rfl⟩
theorem Sl1.addr {V : View} {A : Option Addr} {n c : Nat} {xs : List α} (h : Sl1 E V (.slice A n c) xs) (hk : 0 < xs.length) : ∃ b o, A = some ⟨b, o, none⟩ := by
 obtain ⟨A', c', e, _, _, h3⟩ := h
 cases e
 rcases h3 with rfl | ⟨b, o, _, _, _, e1, _⟩
 ·simp at hk
 ·exact ⟨b, o, e1⟩
theorem Sl1.load {V : View} {b o n c : Nat} {xs : List α} (h : Sl1 E V (.slice (some ⟨b, o, none⟩) n c) xs) (i : Nat) (hi : i < xs.length) : ∃ u, E V u xs[i] ∧ isOne u = true ∧ ∀ H (t m : Nat), shapeT Tryz.prog t = some (false, m) → Loads Tryz.prog H V t b (o + i) u := by
 obtain ⟨A', c', e, _, _, h3⟩ := h
 cases e
 rcases h3 with rfl | ⟨b', o', arr, ty, fr, e1, e2, h4⟩
 ·simp at hi
 ·cases e1
  obtain ⟨u, g1, g2, g3⟩ := h4 i xs[i] (List.getElem?_eq_getElem hi)
  exact ⟨u, g3, g2, fun H t m ht => ⟨false, m, ht, .inr ⟨rfl, .inr ⟨arr, ty, fr, e2, g1⟩⟩⟩⟩
theorem R1At.pub (hE : ElOk E) {V : View} {b n c tot e : Nat} {o : Obj} {cells : List Value} {xs : List α} (h : R1At E V cells xs) (ho : RowObj ⟨e, cells, tot⟩ o) (hle : V.le (addV V b o)) (hn : xs.length = n) (hc : n ≤ c) (hm : c ≤ 9223372036854775807) : Sl1 E (addV V b o) (.slice (some ⟨b, 0, none⟩) n c) xs := by
 obtain ⟨ex, rfl, _⟩ := ho
 refine ⟨some ⟨b, 0, none⟩, c, by rw [hn], by omega, hm, .inr ⟨b, 0, _, e, (0, 0), rfl, by simp [addV]; rfl, fun i x hi => ?_⟩⟩
 obtain ⟨u, g1, g2, g3⟩ := h.2 i x hi
 have hlt : i < xs.length := by
  rcases Nat.lt_or_ge i xs.length with h1 | h1
  ·exact h1
  ·rw [List.getElem?_eq_none h1] at hi; cases hi
 refine ⟨u, ?_, g2, hE _ _ _ _ hle g3⟩
 simp only [Nat.zero_add, List.getElem?_toArray]; rw [List.getElem?_append_left (by have := h.1; omega)]; exact g1
end
end Go.Proofs.YthoboehbadmlmaaGreat
end
section
namespace Go.Proofs.YthoboehbadmlmaaGreat
theorem XN : type_of% (And.intro (And.intro (And.intro (@elemT_155) (And.intro (@kindT_155) (@shapeT_155))) (And.intro (@zeroT_155) (And.intro (@elemT_94) (@kindT_94)))) (And.intro (And.intro (@shapeT_94) (And.intro (@zeroT_94) (@elemT_97))) (And.intro (@kindT_97) (And.intro (@shapeT_97) (@zeroT_97))))) := And.intro (And.intro (And.intro (@elemT_155) (And.intro (@kindT_155) (@shapeT_155))) (And.intro (@zeroT_155) (And.intro (@elemT_94) (@kindT_94)))) (And.intro (And.intro (@shapeT_94) (And.intro (@zeroT_94) (@elemT_97))) (And.intro (@kindT_97) (And.intro (@shapeT_97) (@zeroT_97))))

end Go.Proofs.YthoboehbadmlmaaGreat
end
section
namespace Go.Proofs.YthoboehbadmlmaaGreat
open Go Go.RowKit
attribute [local irreducible] XWP Spec SpecO XPub XCall seqX clX apX stX ldX iaX slX
def flatF (G : Grid) (C : Nat) (p : Nat) : Rat := G (p / C) (p % C)
def flatG (G : Grid) (R C : Nat) : List Rat := mk (R * C) (flatF G C)
theorem flatF_at (G : Grid) {C i k : Nat} (hk : k < C) : flatF G C (i * C + k) = G i k := by
 unfold flatF
 have e1 : (i * C + k) / C = i := by rw [Nat.mul_comm, Nat.mul_add_div (by omega), Nat.div_eq_of_lt hk, Nat.add_zero]
 have e2 : (i * C + k) % C = k := by rw [Nat.mul_comm, Nat.mul_add_mod, Nat.mod_eq_of_lt hk]
 rw [e1, e2]
theorem flatG_len (G : Grid) (R C : Nat) : (flatG G R C).length = R * C := mk_len _ _
theorem pos_lt {R C i k : Nat} (hi : i < R) (hk : k < C) : i * C + k < R * C := by
 have := Nat.mul_le_mul_right C (show i + 1 ≤ R by omega)
 rw [Nat.add_mul, Nat.one_mul] at this; omega
theorem flatG_at (G : Grid) {R C i k : Nat} (hi : i < R) (hk : k < C) : cf (flatG G R C) (i * C + k) = G i k := by
 unfold flatG
 rw [cf_mk, if_pos (pos_lt hi hk), flatF_at G hk]
theorem flatG_congr {G G' : Grid} {R C : Nat} (h : ∀ i k, i < R → k < C → G i k = G' i k) : flatG G R C = flatG G' R C := by
 unfold flatG
 refine mk_eq fun p hp => ?_
 have hC : 0 < C := by
  rcases Nat.eq_zero_or_pos C with e | e
  ·rw [e, Nat.mul_zero] at hp; omega
  ·exact e
 exact h _ _ (by rw [Nat.div_lt_iff_lt_mul hC]; exact hp) (Nat.mod_lt _ hC)
def gridL (l : List Rat) (C : Nat) : Grid := fun i k => cf l (i * C + k)
section
variable {Γ : Cx} {P : Program} {Q : Exit → XS → Prop} {t : List SV} {bx : List (List Value)} {H : Heap} {V : View}
theorem XWP.pubN {c : Code} {e n : Nat} {v : Value} {ds : List Nat} (hown : Own H e 1 v n (u32s ds)) (hd : Dig ds) (h : ∀ H' V', V.le V' → NatAt V' v ds → (∀ k, v.ownBlock ≠ some k → H' k = H k) → XWP Γ P c Q ⟨t, bx, H', V'⟩) : XWP Γ P c Q ⟨t, bx, H, V⟩ := by
 have hl : ds.length = n := by have := hown.1; simpa [u32s] using this
 rcases own_parts hown with ⟨rfl, h0, _⟩ | ⟨g, cap, rfl, hg, hle, hcap, _⟩
 ·refine h H V (View.le_refl _) ?_ fun _ _ => rfl
  rw [List.length_eq_zero_iff.1 (show ds.length = 0 by omega)]; exact NatAt.nil V
 ·refine XWP.pub g _ hg fun o ho hle' => h _ _ hle' (NatAt.pub ho hd hl hle (by unfold maxLen at hcap; omega)) fun k hk => ?_
  unfold upd
  rw [if_neg fun e => hk (by rw [e]; rfl)]
theorem XWP.pubR {α : Type} {E : El α} (hE : ElOk E) {c : Code} {e n : Nat} {v : Value} {cells : List Value} {l : List α} (hown : Own H e 3 v n cells) (hrow : RowAt E V cells l) (h : ∀ H' V', V.le V' → SlAt E V' v l → (∀ k, v.ownBlock ≠ some k → H' k = H k) → XWP Γ P c Q ⟨t, bx, H', V'⟩) : XWP Γ P c Q ⟨t, bx, H, V⟩ := by
 have h1 := hown.1
 have h2 := hrow.1
 have hl : l.length = n := by omega
 rcases own_parts hown with ⟨rfl, h0, _⟩ | ⟨g, cap, rfl, hg, hle, hcap, _⟩
 ·refine h H V (View.le_refl _) ?_ fun _ _ => rfl
  rw [List.length_eq_zero_iff.1 (show l.length = 0 by omega)]; exact SlAt.nil V
 ·refine XWP.pub g _ hg fun o ho hle' => h _ _ hle' (hrow.pub hE ho hle' hl hle (by unfold maxLen at hcap; omega)) fun k hk => ?_
  unfold upd
  rw [if_neg fun e => hk (by rw [e]; rfl)]
variable {ops : Array Oper} {rest : List Oper} {K : XS → Prop} {s : XS} {d : Option Tmp}
theorem call_gob {f : FuncId} {ys lb : List Value} {R : Value → View → Prop} (hc : callable P f = true) (hs : Spec P f (ys ++ lb) s.V R)
  (h : ∀ v V', s.V.le V' → R v V' → seqX P ops rest K (XS.put ⟨s.t, s.bx, s.H, V'⟩ d (.v v))) : clX P ops rest K s d f (ys.map .v ++ lb.map .v) := by
 have e1 : ((ys.map SV.v ++ lb.map SV.v).all SV.isV) = true := by
  rw [← List.map_append, List.all_map]; exact List.all_eq_true.2 fun _ _ => rfl
 have e2 : (ys.map SV.v ++ lb.map SV.v).map SV.val = ys ++ lb := by
  rw [← List.map_append, List.map_map]; exact List.map_id' _
 exact call_go hc e1 (by rw [e2]; exact hs) h
end
theorem copied_c (V : View) (v : Value) (q : Rat) (h : RatC V v q) (f : QF q) : Spec Tryz.prog 162 [v] V fun v' V' => RatC V' v' q := by
 obtain ⟨n, d, rfl, hn, hd⟩ := h
 obtain ⟨A1, c1, rfl, hc1, hm1⟩ := NatAt.form hn
 obtain ⟨A2, c2, rfl, hc2, hm2⟩ := NatAt.form hd
 have l1 := f.fits.1.len
 have l2 := f.fits.2.len
 refine (Spec.enter Tryz.func162 rfl fun Γ => ?_)
 simp only [Tryz.ntmps162, List.map_cons, List.map_nil, List.length_cons, List.length_nil, Nat.reduceAdd, Nat.reduceSub, List.replicate_succ, List.replicate_zero, List.cons_append, List.nil_append]
 refine Gx.a (by kernel_rfl) fun K hK => ?_
 simp only [XA, XB]
 refine hK _ ?_
 (refine XWP.drw [0, 1, 2, 3, 5, 6, 4, 7, 8, 9] (by kernel_rfl) (by kernel_rfl) (by kernel_rfl) fun K hK => ?_) <;> dsimp only [pickOps, List.getElem?_cons_zero, List.getElem?_cons_succ]
 simp only [XA, XB]
 refine ap_go elemT_46 (by kernel_rfl) zeroT_147 rfl (by omega) (n := 0) (xs := []) own_nil (src_nat hn _) (by omega) (by omega) fun v1 H1 r1 => ?_
 simp only [XA]
 refine ap_go elemT_46 (by kernel_rfl) zeroT_147 rfl (by omega) (n := 0) (xs := []) own_nil (src_nat hd _) (by omega) (by omega) fun v2 H2 r2 => ?_
 obtain ⟨o1, k1, f1⟩ := r1
 obtain ⟨o2, k2, f2⟩ := r2
 simp only [List.nil_append, Nat.zero_add] at o1 o2
 try dsimp only at k1 f1 k2 f2
 have i1 := own_one o1
 have i2 := own_one o2
 have o1' : Own H2 147 1 v1 (dg q.num.natAbs).length (u32s (dg q.num.natAbs)) := by
  refine ⟨o1.1, ?_⟩
  rcases o1.2 with h | ⟨b, cap, rfl, hb, h3⟩
  ·exact .inl h
  ·refine .inr ⟨b, cap, rfl, ?_, h3⟩
   rw [k2 b fun e => ?_]
   ·exact hb
   ·rcases f2 b e with h | ⟨h, _⟩
    ·cases h
    ·rw [hb] at h; cases h
 have dj : ∀ k, v1.ownBlock = some k → v2.ownBlock ≠ some k := fun k e1 e2 => by
  rcases f2 k e2 with h | ⟨h, _⟩
  ·cases h
  ·rcases o1.2 with ⟨rfl, _⟩ | ⟨b, cap, rfl, hb, _⟩
   ·cases e1
   ·have : b = k := by simpa [Value.ownBlock] using e1
    subst this; rw [hb] at h; cases h
 simp only [XA]
 refine bd_go (by kernel_rfl) #[(0, .bool (ng q)), (1, v1), (2, v2)] (by simp [ev_tmp, SV.val]) (bd_rat3 rfl i1 i2) ?_
 simp only [XA]
 refine st_rat rfl rfl rfl i1 i2 ?_
 simp only [XA]
 refine hK _ ?_
 refine XWP.pubN o1' (Dig_dg _) fun H3 V3 hV3 g1 hk3 => ?_
 have o2' : Own H3 147 1 v2 (dg q.den).length (u32s (dg q.den)) := by
  refine ⟨o2.1, ?_⟩
  rcases o2.2 with h | ⟨b, cap, rfl, hb, h3⟩
  ·exact .inl h
  ·exact .inr ⟨b, cap, rfl, by rw [hk3 b fun e => dj b e rfl]; exact hb, h3⟩
 refine XWP.pubN o2' (Dig_dg _) fun H4 V4 hV4 g2 hk4 => ?_
 refine XWP.ret ?_
 try simp only [thenX_ret, inBlockX_ret]
 exact ret_rat1 rfl rfl rfl ⟨_, _, rfl, NatAt.mono g1 hV4, g2⟩
theorem filled_o (V : View) {g : FuncId} {lb : List Value} (R C : Nat) (G : Grid) (hcl : callable Tryz.prog g = true) (hR : R ≤ 1000) (hC : C ≤ 1000)
  (hf : ∀ V' i k, V.le V' → i < R → k < C → Spec Tryz.prog g ([.int .i64 (i : Int), .int .i64 (k : Int)] ++ lb) V' fun v' V'' => RatC V'' v' (G i k)) :
  SpecO Tryz.prog 87 [.int .i64 (R : Int), .int .i64 (C : Int), .func (.func g) #[] lb.toArray] V fun v' V' o => ∃ sl cells, v' = .agg #[.int .i64 (R : Int), .int .i64 (C : Int), sl] ∧ Own (addRow (fun _ => none) o) 48 3 sl (R * C) cells ∧ RowAt ratE V' cells (flatG G R C) := by
 have hRC : R * C ≤ 1000000 := Nat.le_trans (Nat.mul_le_mul hR hC) (by decide)
 refine (SpecO.enter Tryz.func87 rfl fun Γ => ?_)
 simp only [Tryz.ntmps87, List.map_cons, List.map_nil, List.length_cons, List.length_nil, Nat.reduceAdd, Nat.reduceSub, List.replicate_succ, List.replicate_zero, List.cons_append, List.nil_append]
 refine Gx.a (by kernel_rfl) fun K hK => ?_
 simp only [XM, XA]
 refine hK _ ?_
 refine Gx.a (by kernel_rfl) fun K hK => ?_
 simp only [XA]
 refine bd_go (by kernel_rfl) #[(0, .int .i64 (R : Int)), (1, .int .i64 (C : Int))] (by simp [ev_tmp, SV.val]) (bd_mtx2 rfl rfl) ?_
 simp only [XM, XA]
 refine st_mat shapeT_24 rfl rfl rfl rfl rfl ?_
 simp only [XA]
 refine hK _ ?_
 clear hK
 refine XWP.cut (fun s => ∃ (V2 : View) (H5 : Heap) (sl : Value) (cells : List Value), StIs (fun Z => [Z 0,Z 1,Z 2,Z 3,Z 4,Z 5, .p 0 0, .p 1 0, Z 8,Z 9,Z 10,Z 11,Z 12,Z 13,Z 14,Z 15,Z 16,Z 17,Z 18,Z 19,Z 20,Z 21,Z 22,Z 23,Z 24,Z 25,Z 26,Z 27,Z 28,Z 29,Z 30,Z 31,Z 32]) [[.int .i64 0, .int .i64 0, .slice none 0 0], [.int .i64 (R : Int), .int .i64 (C : Int), sl]] H5 V2 s ∧ Own H5 48 3 sl (R * C) cells ∧ RowAt ratE V2 cells (flatG G R C)) ?_ ?_
 ·refine Gx.a (by kernel_rfl) fun K hK => ?_
  simp only [XA]
  refine hK _ ?_
  clear hK
  refine XWP.block ?_
  refine XWP.loop (fun q s => ∃ (i : Nat) (V2 : View) (H5 : Heap) (sl : Value) (cells : List Value), StIs (fun Z => [.v (.int .i64 (R : Int)), .v (.int .i64 (C : Int)), .v (.func (.func g) #[] lb.toArray), Z 3,Z 4,Z 5, .p 0 0, .p 1 0, Z 8,Z 9,Z 10,Z 11,Z 12, .v (.int .i64 (R : Int)), .v (.int .i64 (i : Int)), Z 15,Z 16,Z 17,Z 18,Z 19,Z 20,Z 21,Z 22,Z 23,Z 24,Z 25,Z 26,Z 27,Z 28,Z 29,Z 30,Z 31,Z 32]) [[.int .i64 0, .int .i64 0, .slice none 0 0], [.int .i64 (R : Int), .int .i64 (C : Int), sl]] H5 V2 s ∧ q + i = R ∧ V.le V2 ∧ Own H5 48 3 sl (i * C) cells ∧ RowAt ratE V2 cells (mk (i * C) (flatF G C))) R ⟨0, V, _, _, [], StIs.of (by exact rfl), by omega, View.le_refl _, by rw [Nat.zero_mul]; exact own_nil, by rw [Nat.zero_mul]; exact RowAt.nil _⟩ ?_
  rintro q s ⟨i, V2, H5, sl, cells, hs, hq, hV2, hown, hrow⟩
  obtain ⟨z, rfl⟩ := hs.out
  try dsimp only
  clear hs
  by_cases hi : i < R
  rotate_left
  ·obtain rfl : i = R := by omega
   have b1 : decide ((i : Int) < (i : Int)) = false := decide_eq_false (by omega)
   refine Gx.a (by kernel_rfl) fun K hK => ?_
   simp only [XA, XB, b1]
   refine hK _ ?_
   refine XWP.seq (Gx.f rfl ?_)
   refine XWP.exit ?_
   exact ⟨V2, H5, sl, cells, StIs.of (by exact rfl), hown, hrow⟩
  have b1 : decide ((i : Int) < (R : Int)) = true := decide_eq_true (by omega)
  refine Gx.a (by kernel_rfl) fun K hK => ?_
  simp only [XA, XB, b1]
  refine hK _ ?_
  refine XWP.seq (Gx.t rfl ?_)
  refine XWP.skip ?_
  refine XWP.cut (fun s => ∃ (V3 : View) (H6 : Heap) (sl : Value) (cells : List Value), StIs (fun Z => [.v (.int .i64 (R : Int)), .v (.int .i64 (C : Int)), .v (.func (.func g) #[] lb.toArray), Z 3,Z 4,Z 5, .p 0 0, .p 1 0, Z 8,Z 9,Z 10,Z 11,Z 12, .v (.int .i64 (R : Int)), .v (.int .i64 (i : Int)), Z 15,Z 16,Z 17,Z 18,Z 19,Z 20,Z 21,Z 22,Z 23,Z 24,Z 25,Z 26,Z 27,Z 28,Z 29,Z 30,Z 31,Z 32]) [[.int .i64 0, .int .i64 0, .slice none 0 0], [.int .i64 (R : Int), .int .i64 (C : Int), sl]] H6 V3 s ∧ V2.le V3 ∧ Own H6 48 3 sl ((i + 1) * C) cells ∧ RowAt ratE V3 cells (mk ((i + 1) * C) (flatF G C))) ?_ ?_
  ·refine XWP.block ?_
   refine Gx.a (by kernel_rfl) fun K hK => ?_
   simp only [XA]
   refine hK _ ?_
   refine Gx.a (by kernel_rfl) fun K hK => ?_
   simp only [XA]
   refine hK _ ?_
   clear hK
   refine XWP.block ?_
   refine XWP.loop (fun r s => ∃ (k : Nat) (V3 : View) (H6 : Heap) (sl : Value) (cells : List Value), StIs (fun Z => [.v (.int .i64 (R : Int)), .v (.int .i64 (C : Int)), .v (.func (.func g) #[] lb.toArray), Z 3,Z 4,Z 5, .p 0 0, .p 1 0, .v (.int .i64 (i : Int)), Z 9,Z 10,Z 11,Z 12, .v (.int .i64 (R : Int)), .v (.int .i64 (i : Int)), Z 15,Z 16, .v (.int .i64 (C : Int)), .v (.int .i64 (k : Int)), Z 19,Z 20,Z 21,Z 22,Z 23,Z 24,Z 25,Z 26,Z 27,Z 28,Z 29,Z 30,Z 31,Z 32]) [[.int .i64 0, .int .i64 0, .slice none 0 0], [.int .i64 (R : Int), .int .i64 (C : Int), sl]] H6 V3 s ∧ r + k = C ∧ V2.le V3 ∧ Own H6 48 3 sl (i * C + k) cells ∧ RowAt ratE V3 cells (mk (i * C + k) (flatF G C))) C ⟨0, V2, _, _, _, StIs.of (by exact rfl), by omega, View.le_refl _, hown, hrow⟩ ?_
   clear hown hrow
   rintro r s ⟨k, V3, H6, sl, cells, hs, hr, hV3, hown, hrow⟩
   obtain ⟨z, rfl⟩ := hs.out
   try dsimp only
   clear hs
   by_cases hk : k < C
   rotate_left
   ·obtain rfl : k = C := by omega
    have b2 : decide ((k : Int) < (k : Int)) = false := decide_eq_false (by omega)
    refine Gx.a (by kernel_rfl) fun K hK => ?_
    simp only [XA, XB, b2]
    refine hK _ ?_
    refine XWP.seq (Gx.f rfl ?_)
    refine XWP.exit ?_
    have e : (i + 1) * k = i * k + k := by rw [Nat.add_mul, Nat.one_mul]
    exact ⟨V3, H6, sl, cells, StIs.of (by exact rfl), hV3, by rw [e]; exact hown, by rw [e]; exact hrow⟩
   have b2 : decide ((k : Int) < (C : Int)) = true := decide_eq_true (by omega)
   have hp := pos_lt hi hk
   refine Gx.a (by kernel_rfl) fun K hK => ?_
   simp only [XA, XB, b2]
   refine hK _ ?_
   refine XWP.seq (Gx.t rfl ?_)
   refine XWP.skip ?_
   refine XWP.seq ?_
   refine XWP.block ?_
   refine Gx.a (by kernel_rfl) fun K hK => ?_
   simp only [XA]
   refine hK _ ?_
   (refine XWP.drw1 [0, 1, 2, 3, 4, 5, 6, 7, 8, 9] (by kernel_rfl) (by kernel_rfl) (by kernel_rfl) fun K hK => ?_) <;> dsimp only [pickOps, List.getElem?_cons_zero, List.getElem?_cons_succ]
   simp only [XM, XA, XB, cv_gob]
   refine call_gob (ys := [.int .i64 (i : Int), .int .i64 (k : Int)]) hcl (hf _ i k (View.le_trans hV2 hV3) hi hk) fun v4 V4 hV4 h4 => ?_
   obtain ⟨x4, y4, rfl, o1, o2⟩ := h4.form
   simp only [XA]
   refine bs_go (by kernel_rfl) #[(0, .agg #[.bool (ng (G i k)), x4, y4])] (by simp [ev_tmp, SV.val]) (bs_rat elemT_22) fun b3 hb3 hb4 => ?_
   simp only [XA, Nat.reduceAdd]
   refine ap_go elemT_22 (by kernel_rfl) zeroT_48 rfl (by omega) (own_upd hown hb3) (src3 (upd_at _ _ _) rfl o1 o2) (by omega) (by omega) fun v' H' hres => ?_
   simp only [XM, XA]
   refine st_one shapeT_22 rfl (own_isOne hres.1) (by simp) ?_
   simp only [XA]
   refine hK _ ?_
   have hrow' := (hrow.mono ratE_ok hV4).snoc (show isOne (.bool (ng (G i k))) = true from rfl) o1 o2 h4
   rw [← flatF_at G hk, ← mk_succ (i * C + k) (flatF G C)] at hrow'
   rw [← flatF_at G hk] at hres
   refine Gx.c (by kernel_rfl) fun K hK => ?_
   simp only [XA, XB, i64_succ k (by omega)]
   exact hK _ ⟨r - 1, by omega, k + 1, V4, _, _, _, StIs.of (by exact rfl), by omega, View.le_trans hV3 hV4, by rw [← Nat.add_assoc]; exact hres.1, by rw [← Nat.add_assoc]; exact hrow'⟩
  clear hown hrow
  rintro s ⟨V3, H6, sl, cells, hs, hV3, hown, hrow⟩
  obtain ⟨z, rfl⟩ := hs.out
  try dsimp only
  refine Gx.c (by kernel_rfl) fun K hK => ?_
  simp only [XA, XB, i64_succ i (by omega)]
  exact hK _ ⟨q - 1, by omega, i + 1, V3, _, _, _, StIs.of (by exact rfl), by omega, View.le_trans hV2 hV3, hown, hrow⟩
 rintro s ⟨V2, H5, sl, cells, hs, hown, hrow⟩
 obtain ⟨z, rfl⟩ := hs.out
 try dsimp only
 have osl := own_isOne hown
 refine Gx.a (by kernel_rfl) fun K hK => ?_
 simp only [XM, XA, Nat.reduceAdd, Nat.reduceLeDiff, ↓reduceIte]
 refine st_mat shapeT_24 rfl rfl rfl rfl osl ?_
 simp only [XA]
 refine hK _ (XWP.ret ?_)
 try simp only [thenX_ret, inBlockX_ret]
 rcases own_parts hown with ⟨rfl, h0, rfl⟩ | ⟨g, cap, rfl, hg, hle, hcap, hcl⟩
 ·refine ret_own _ none (by simp [resAll, resV, cellsV, shapeT_24]; rfl) (fun g' q e => by cases e) ⟨_, [], rfl, ⟨by rw [h0]; rfl, .inl ⟨rfl, h0⟩⟩, hrow⟩
 ·refine ret_own _ (some (g, _)) (by simp [resAll, resV, cellsV, shapeT_24]; rfl) (fun g' q e => by cases e; exact hg) ⟨_, cells, rfl, own3 (show upd (fun _ => none) g (some _) g = some _ from upd_at _ _ _) hcl hle (by unfold maxLen at hcap; omega), hrow⟩
def MatH (H : Heap) (V : View) (g cap R C : Nat) (G : Grid) : Prop := ∃ cells, H g = some ⟨48, cells, cap * 3⟩ ∧ RowAt ratE V cells (flatG G R C)
theorem MatH.mono {H : Heap} {V V' : View} {g cap R C : Nat} {G : Grid} (h : MatH H V g cap R C G) (hV : V.le V') : MatH H V' g cap R C G := by
 obtain ⟨cells, h1, h2⟩ := h; exact ⟨cells, h1, h2.mono ratE_ok hV⟩
theorem MatH.congr {H : Heap} {V : View} {g cap R C : Nat} {G G' : Grid} (h : MatH H V g cap R C G) (e : ∀ i k, i < R → k < C → G i k = G' i k) : MatH H V g cap R C G' := by
 obtain ⟨cells, h1, h2⟩ := h; exact ⟨cells, h1, by rw [← flatG_congr e]; exact h2⟩
theorem MatH.off {H H' : Heap} {V : View} {g cap R C : Nat} {G : Grid} (h : MatH H V g cap R C G) (e : H' g = H g) : MatH H' V g cap R C G := by
 obtain ⟨cells, h1, h2⟩ := h; exact ⟨cells, by rw [e]; exact h1, h2⟩
theorem MatH.load {H : Heap} {V : View} {g cap R C : Nat} {G : Grid} (h : MatH H V g cap R C G) {i k : Nat} (hi : i < R) (hk : k < C) : ∃ x y z, RatC V (.agg #[x, y, z]) (G i k) ∧ (isOne x = true ∧ isOne y = true ∧ isOne z = true) ∧ Loads Tryz.prog H V 48 g ((i * C + k) * 3) (.agg #[x, y, z]) := by
 obtain ⟨cells, h1, h2⟩ := h
 obtain ⟨x, y, z, a1, a2, a3⟩ := rowQ_load h1 h2 (i * C + k) (by rw [flatG_len]; exact pos_lt hi hk)
 rw [flatG_at G hi hk] at a1
 exact ⟨x, y, z, a1, a2, a3⟩
def gput (G : Grid) (i k : Nat) (x : Rat) : Grid := fun i' k' => if i' = i ∧ k' = k then x else G i' k'
theorem flatG_set (G : Grid) {R C i k : Nat} (hi : i < R) (hk : k < C) (x : Rat) : (flatG G R C).set (i * C + k) x = flatG (gput G i k x) R C := by
 unfold flatG
 rw [mk_put (pos_lt hi hk)]
 refine mk_eq fun p hp => ?_
 unfold flatF gput
 by_cases e : p = i * C + k
 ·subst e
  have e1 : (i * C + k) / C = i := by rw [Nat.mul_comm, Nat.mul_add_div (by omega), Nat.div_eq_of_lt hk, Nat.add_zero]
  have e2 : (i * C + k) % C = k := by rw [Nat.mul_comm, Nat.mul_add_mod, Nat.mod_eq_of_lt hk]
  rw [if_pos rfl, if_pos ⟨e1, e2⟩]
 ·rw [if_neg e, if_neg]
  rintro ⟨e1, e2⟩
  refine e ?_
  have := Nat.div_add_mod p C
  rw [e1, e2, Nat.mul_comm] at this
  exact this.symm
theorem MatH.set {H : Heap} {V : View} {g cap R C : Nat} {G : Grid} (h : MatH H V g cap R C G) {i k : Nat} (hi : i < R) (hk : k < C) : ∃ cells, H g = some ⟨48, cells, cap * 3⟩ ∧ (i * C + k) * 3 + 3 ≤ cells.length ∧
  ∀ V' x y z q, V.le V' → RatC V' (.agg #[x, y, z]) q → isOne x = true → isOne y = true → isOne z = true → ∀ H', H' g = some ⟨48, splice cells ((i * C + k) * 3) [x, y, z], cap * 3⟩ → MatH H' V' g cap R C (gput G i k q) := by
 obtain ⟨cells, h1, h2⟩ := h
 have hl := h2.1
 rw [flatG_len] at hl
 have := pos_lt hi hk
 refine ⟨cells, h1, by omega, fun V' x y z q hV hx o1 o2 o3 H' hH => ⟨_, hH, ?_⟩⟩
 have := (h2.mono ratE_ok hV).set (i * C + k) (by rw [flatG_len]; exact pos_lt hi hk) o1 o2 o3 hx
 rw [flatG_set G hi hk] at this; exact this
theorem dg_nil {a : Nat} (h : (dg a).length = 0) : a = 0 := by
 have := len_zero a
 rw [decide_eq_true (by omega)] at this
 exact of_decide_eq_true this.symm
theorem dg_of_zero {q : Rat} (h : q = 0) : decide ((0 : Int) < ((dg q.num.natAbs).length : Int)) = false := by
 subst h
 show decide ((0 : Int) < ((dg 0).length : Int)) = false
 rw [dg_zero]; rfl
theorem nbits_c (V : View) (v : Value) (n : Nat) (h : NatC V v n) (f : Fit n) : Spec Tryz.prog 169 [v] V fun v' V' => ∃ r : Int, v' = .int .i64 r := by
 refine (Spec.enter Tryz.func169 rfl fun Γ => ?_)
 simp only [Tryz.ntmps169, List.map_cons, List.map_nil, List.length_cons, List.length_nil, Nat.reduceAdd, Nat.reduceSub, List.replicate_succ, List.replicate_zero, List.cons_append, List.nil_append]
 refine Gx.a (by kernel_rfl) fun K hK => ?_
 simp only [XA]
 refine hK _ ?_
 refine Gx.a (by kernel_rfl) fun K hK => ?_
 simp only [XA]
 refine call_go (by kernel_rfl) rfl (trim_c _ _ _ h) fun v1 V1 hV1 h1 => ?_
 obtain ⟨A, c, rfl, hc, hm⟩ := NatAt.form h1
 have hl := f.len
 simp only [XA]
 refine hK _ ?_
 refine XWP.seq ?_
 by_cases h0 : (dg n).length = 0
 ·have b1 : decide (((dg n).length : Int) = 0) = true := decide_eq_true (by omega)
  refine Gx.a (by kernel_rfl) fun K hK => ?_
  simp only [XA, XB, b1]
  refine hK _ ?_
  refine Gx.t rfl ?_
  refine Gx.a (by kernel_rfl) fun K hK => ?_
  simp only [XA]
  refine hK _ (XWP.ret ?_)
  try simp only [thenX_ret, inBlockX_ret]
  refine ret_go _ rfl ?_
  exact ⟨_, rfl⟩
 ·have b1 : decide (((dg n).length : Int) = 0) = false := decide_eq_false (by omega)
  refine Gx.a (by kernel_rfl) fun K hK => ?_
  simp only [XA, XB, b1]
  refine hK _ ?_
  refine Gx.f rfl ?_
  refine XWP.skip ?_
  obtain ⟨b, o, rfl⟩ := NatAt.addr h1 (by omega)
  have w1 : IntKind.i64.wrap (((dg n).length : Int) - 1) = (((dg n).length - 1 : Nat) : Int) := by rw [wrap_id (by omega) (by omega)]; omega
  have hcell := NatAt.cells h1 ((dg n).length - 1) (by omega)
  have hd := Dig_dg n _ (List.getElem_mem (show (dg n).length - 1 < (dg n).length by omega))
  refine Gx.a (by kernel_rfl) fun K hK => ?_
  simp only [XA, XB, w1]
  refine ⟨by omega, by omega, ?_⟩
  simp only [Nat.mul_one] at *
  refine ld_mem (loads_cell shapeT_147 (hcell _)) ?_
  simp only [XA]
  refine call_go (by kernel_rfl) rfl (len32_c _ _ hd) fun v2 V2 hV2 h2 => ?_
  obtain ⟨r, rfl, _⟩ := h2
  simp only [XA, XB]
  refine hK _ (XWP.ret ?_)
  try simp only [thenX_ret, inBlockX_ret]
  refine ret_go _ rfl ?_
  exact ⟨_, rfl⟩
theorem mweight_c (V : View) (v : Value) (q : Rat) (h : RatC V v q) (f : QF q) : Spec Tryz.prog 168 [v] V fun v' V' => ∃ r : Int, v' = .int .i64 r := by
 obtain ⟨n, d, rfl, hn, hd⟩ := h
 refine (Spec.enter Tryz.func168 rfl fun Γ => ?_)
 simp only [Tryz.ntmps168, List.map_cons, List.map_nil, List.length_cons, List.length_nil, Nat.reduceAdd, Nat.reduceSub, List.replicate_succ, List.replicate_zero, List.cons_append, List.nil_append]
 refine Gx.a (by kernel_rfl) fun K hK => ?_
 simp only [XA]
 refine hK _ ?_
 (refine XWP.drw [0, 1, 3, 4, 2, 5, 6, 7] (by kernel_rfl) (by kernel_rfl) (by kernel_rfl) fun K hK => ?_) <;> dsimp only [pickOps, List.getElem?_cons_zero, List.getElem?_cons_succ]
 simp only [XA, XB]
 refine call_go (by kernel_rfl) rfl (nbits_c _ _ _ hn f.fits.1) fun v1 V1 hV1 h1 => ?_
 obtain ⟨r1, rfl⟩ := h1
 simp only [XA]
 refine call_go (by kernel_rfl) rfl (nbits_c _ _ _ (NatC.mono hd hV1) f.fits.2) fun v2 V2 hV2 h2 => ?_
 obtain ⟨r2, rfl⟩ := h2
 simp only [XA, XB]
 refine hK _ (XWP.ret ?_)
 try simp only [thenX_ret, inBlockX_ret]
 refine ret_go _ rfl ?_
 exact ⟨_, rfl⟩
theorem wr_mul {i C : Nat} (hi : i ≤ 1000) (hC : C ≤ 1000) : IntKind.i64.wrap ((i : Int) * (C : Int)) = ((i * C : Nat) : Int) := by
 have := Nat.mul_le_mul hi hC
 rw [← Int.natCast_mul, wrap_id (by omega) (by omega)]
theorem wr_add {p k : Nat} (hp : p ≤ 1000000) (hk : k ≤ 1000000) : IntKind.i64.wrap ((p : Int) + (k : Int)) = ((p + k : Nat) : Int) := by rw [wrap_id (by omega) (by omega)]; omega
def pivR (G : Grid) (R at_ col : Nat) (b : Int) : Prop := (b = -1 ∧ ∀ i, at_ ≤ i → i < R → G i col = 0) ∨ ∃ p : Nat, b = p ∧ at_ ≤ p ∧ p < R ∧ G p col ≠ 0
theorem pivot_m (H : Heap) (V : View) (g cap R C a col : Nat) (G : Grid) (h : MatH H V g cap R C G) (hR : R ≤ 1000) (hC : C ≤ 1000) (ha : a ≤ 1000) (hcol : col < C) (hq : ∀ i k, i < R → k < C → QF (G i k)) :
  MSpec Tryz.prog 166 [.agg #[.int .i64 (R : Int), .int .i64 (C : Int), .slice (some ⟨g, 0, none⟩) (R * C) cap], .int .i64 (a : Int), .int .i64 (col : Int)] H V fun v' H' V' => ∃ b, v' = .int .i64 b ∧ pivR G R a col b ∧ V.le V' ∧ H' = H := by
 refine (MSpec.enter Tryz.func166 rfl fun Γ hΓ => ?_)
 simp only [Tryz.ntmps166, List.map_cons, List.map_nil, List.length_cons, List.length_nil, Nat.reduceAdd, Nat.reduceSub, List.replicate_succ, List.replicate_zero, List.cons_append, List.nil_append]
 refine Gx.a (by kernel_rfl) fun K hK => ?_
 simp only [XA]
 refine hK _ ?_
 refine Gx.a (by kernel_rfl) fun K hK => ?_
 simp only [XA]
 refine hK _ ?_
 refine XWP.cutD 1 (fun s => ∃ (V2 : View) (b : Int), StIs (fun Z => [Z 0,Z 1,Z 2,Z 3,Z 4,Z 5,Z 6, .v (.int .i64 b), Z 8,Z 9,Z 10,Z 11,Z 12,Z 13,Z 14,Z 15,Z 16,Z 17,Z 18,Z 19,Z 20,Z 21,Z 22,Z 23,Z 24,Z 25,Z 26,Z 27,Z 28,Z 29,Z 30,Z 31,Z 32,Z 33,Z 34,Z 35,Z 36,Z 37,Z 38,Z 39,Z 40,Z 41,Z 42,Z 43,Z 44,Z 45,Z 46,Z 47,Z 48,Z 49,Z 50,Z 51,Z 52]) [[.int .i64 (R : Int), .int .i64 (C : Int), .slice (some ⟨g, 0, none⟩) (R * C) cap]] H V2 s ∧ pivR G R a col b ∧ V.le V2) ?_ ?_
 ·refine Gx.a (by kernel_rfl) fun K hK => ?_
  simp only [XA]
  refine hK _ ?_
  clear hK
  refine XWP.block ?_
  refine XWP.loopD 1 (fun n s => ∃ (i : Nat) (V2 : View) (b : Int), StIs (fun Z => [Z 0, .v (.int .i64 (a : Int)), .v (.int .i64 (col : Int)), .p 0 0, Z 4,Z 5,Z 6, .v (.int .i64 b), .v (.int .i64 (i : Int)), Z 9,Z 10,Z 11,Z 12,Z 13,Z 14,Z 15,Z 16,Z 17,Z 18,Z 19,Z 20,Z 21,Z 22,Z 23,Z 24,Z 25,Z 26,Z 27,Z 28,Z 29,Z 30,Z 31,Z 32,Z 33,Z 34,Z 35,Z 36,Z 37,Z 38,Z 39,Z 40,Z 41,Z 42,Z 43,Z 44,Z 45,Z 46,Z 47,Z 48,Z 49,Z 50,Z 51,Z 52]) [[.int .i64 (R : Int), .int .i64 (C : Int), .slice (some ⟨g, 0, none⟩) (R * C) cap]] H V2 s ∧ n + i = R + a ∧ a ≤ i ∧ V.le V2 ∧ pivR G (min i R) a col b) R ⟨a, V, -1, StIs.of (by exact rfl), by omega, Nat.le_refl _, View.le_refl _, .inl ⟨rfl, fun i h1 h2 => by omega⟩⟩ ?_
  rintro n s ⟨i, V2, b, hs, hn, hai, hV2, hp⟩
  obtain ⟨z, rfl⟩ := hs.out
  try dsimp only
  clear hs
  refine XWP.seq ?_
  by_cases hi : i < R
  rotate_left
  ·have b1 : decide ((i : Int) < (R : Int)) = false := decide_eq_false (by omega)
   refine Gx.a (by kernel_rfl) fun K hK => ?_
   simp only [XM, XA, XB, b1]
   refine hK _ ?_
   refine Gx.f rfl ?_
   refine XWP.exit ?_
   rw [Nat.min_eq_right (by omega)] at hp
   exact fun f => ⟨V2, b, StIs.of (by exact rfl), hp, hV2⟩
  have b1 : decide ((i : Int) < (R : Int)) = true := decide_eq_true (by omega)
  refine Gx.a (by kernel_rfl) fun K hK => ?_
  simp only [XM, XA, XB, b1]
  refine hK _ ?_
  refine Gx.t rfl ?_
  refine XWP.skip ?_
  rw [Nat.min_eq_left (by omega)] at hp
  have h2 := h.mono hV2
  obtain ⟨x, y, e, hx, ⟨o1, o2, o3⟩, hld⟩ := h2.load hi hcol
  have w1 := wr_mul (i := i) (C := C) (by omega) hC
  have hpos := pos_lt hi hcol
  have hRC : R * C ≤ 1000000 := Nat.le_trans (Nat.mul_le_mul hR hC) (by decide)
  have w2 := wr_add (p := i * C) (k := col) (by omega) (by omega)
  obtain ⟨n1, d1, ev, hn1, hd1⟩ := hx
  cases ev
  obtain ⟨A1, c1, rfl, hc1, hm1⟩ := NatAt.form hn1
  have hx : RatC V2 (.agg #[.bool (ng (G i col)), .slice A1 (dg (G i col).num.natAbs).length c1, e]) (G i col) := ⟨_, _, rfl, hn1, hd1⟩
  refine XWP.cutD 1 (fun s => ∃ (V3 : View) (b : Int), StIs (fun Z => [Z 0, .v (.int .i64 (a : Int)), .v (.int .i64 (col : Int)), .p 0 0, Z 4,Z 5,Z 6, .v (.int .i64 b), .v (.int .i64 (i : Int)), Z 9,Z 10,Z 11,Z 12,Z 13,Z 14,Z 15,Z 16,Z 17,Z 18,Z 19,Z 20,Z 21,Z 22,Z 23,Z 24,Z 25,Z 26,Z 27,Z 28,Z 29,Z 30,Z 31,Z 32,Z 33,Z 34,Z 35,Z 36,Z 37,Z 38,Z 39,Z 40,Z 41,Z 42,Z 43,Z 44,Z 45,Z 46,Z 47,Z 48,Z 49,Z 50,Z 51,Z 52]) [[.int .i64 (R : Int), .int .i64 (C : Int), .slice (some ⟨g, 0, none⟩) (R * C) cap]] H V3 s ∧ V2.le V3 ∧ pivR G (i + 1) a col b) ?_ ?_
  ·refine XWP.block ?_
   refine Gx.a (by kernel_rfl) fun K hK => ?_
   simp only [XM, XA, XB, w1, w2]
   refine ⟨by omega, by omega, ?_⟩
   simp only [Nat.zero_add] at *
   refine ld_mem hld ?_
   simp only [XA, XB]
   refine st_rat rfl rfl o1 o2 o3 ?_
   simp only [XA]
   refine hK _ ?_
   refine XWP.seq ?_
   by_cases hz : G i col = 0
   ·have b3 : decide ((0 : Int) < ((dg (G i col).num.natAbs).length : Int)) = false := dg_of_zero hz
    (refine XWP.drw1 [0, 1, 2, 3, 4, 5, 6, 7, 8, 10, 11, 12, 13, 14, 15, 16, 17, 18, 19, 9, 20, 21, 22, 23] (by kernel_rfl) (by kernel_rfl) (by kernel_rfl) fun K hK => ?_) <;> dsimp only [pickOps, List.getElem?_cons_zero, List.getElem?_cons_succ]
    simp only [XM, XA, XB, gateX, Nat.reduceAdd, Nat.reduceLeDiff, ↓reduceIte, b3]
    refine hK _ ?_
    refine Gx.f rfl ?_
    refine XWP.skip ?_
    refine fun f => ⟨V2, b, StIs.of (by exact rfl), View.le_refl _, ?_⟩
    rcases hp with ⟨h1, h2⟩ | ⟨p, h1, h2, h3, h4⟩
    ·refine .inl ⟨h1, fun k k1 k2 => ?_⟩
     by_cases e : k = i
     ·rw [e]; exact hz
     ·exact h2 k k1 (by omega)
    ·exact .inr ⟨p, h1, h2, by omega, h4⟩
   have hlen : 0 < (dg (G i col).num.natAbs).length := by
    rcases Nat.eq_zero_or_pos (dg (G i col).num.natAbs).length with e | e
    ·exact absurd ((rat_zero_iff _).2 (dg_nil e)) hz
    ·exact e
   have b3 : decide ((0 : Int) < ((dg (G i col).num.natAbs).length : Int)) = true := decide_eq_true (by omega)
   have here : ∀ V3, V2.le V3 → pivR G (i + 1) a col i := fun V3 _ => .inr ⟨i, rfl, hai, by omega, hz⟩
   rcases hp with ⟨rfl, h0⟩ | ⟨p, rfl, p1, p2, p3⟩
   ·have b4 : decide ((-1 : Int) < 0) = true := rfl
    (refine XWP.drw1 [0, 1, 2, 3, 4, 5, 6, 7, 8, 10, 11, 12, 13, 14, 15, 16, 17, 18, 19, 9, 20, 21, 22, 23] (by kernel_rfl) (by kernel_rfl) (by kernel_rfl) fun K hK => ?_) <;> dsimp only [pickOps, List.getElem?_cons_zero, List.getElem?_cons_succ]
    simp only [XA, XB, gateX, ↓reduceIte, beq_self_eq_true, b3, b4]
    refine hK _ ?_
    refine Gx.t rfl ?_
    refine Gx.c (by kernel_rfl) fun K hK => ?_
    simp only [XA]
    exact hK _ fun f => ⟨V2, _, StIs.of (by exact rfl), View.le_refl _, here V2 (View.le_refl _)⟩
   ·have b4 : decide ((p : Int) < 0) = false := decide_eq_false (by omega)
    obtain ⟨x', y', e', hx', ⟨o1', o2', o3'⟩, hld'⟩ := h2.load (show p < R by omega) hcol
    have w3 := wr_mul (i := p) (C := C) (by omega) hC
    have hpos' := pos_lt (show p < R by omega) hcol
    have w4 := wr_add (p := p * C) (k := col) (by omega) (by omega)
    (refine XWP.drw1 [0, 1, 2, 3, 4, 5, 6, 7, 8, 10, 11, 12, 13, 14, 15, 16, 17, 18, 19, 9, 20, 21, 22, 23] (by kernel_rfl) (by kernel_rfl) (by kernel_rfl) fun K hK => ?_) <;> dsimp only [pickOps, List.getElem?_cons_zero, List.getElem?_cons_succ]
    simp only [XM, XA, XB, gateX, Nat.reduceAdd, Nat.reduceLeDiff, ↓reduceIte, beq_self_eq_true, b3, b4, w3, w4]
    refine ⟨by omega, by omega, ?_⟩
    try simp only [Nat.zero_add] at *
    refine ld_mem hld' ?_
    simp only [XA, gateX, ↓reduceIte, beq_self_eq_true]
    refine call_go (by kernel_rfl) rfl (mweight_c _ _ _ hx (hq i col hi hcol)) fun v3 V3 hV3 g3 => ?_
    obtain ⟨r3, rfl⟩ := g3
    simp only [XA, gateX, ↓reduceIte, beq_self_eq_true]
    refine call_go (by kernel_rfl) rfl (mweight_c _ _ _ (hx'.mono hV3) (hq p col (by omega) hcol)) fun v4 V4 hV4 g4 => ?_
    obtain ⟨r4, rfl⟩ := g4
    cases b5 : decide (r3 < r4)
    ·simp only [XA, XB, gateX, ↓reduceIte, beq_self_eq_true, b5]
     refine hK _ ?_
     refine Gx.f rfl ?_
     refine XWP.skip ?_
     exact fun f => ⟨V4, _, StIs.of (by exact rfl), View.le_trans hV3 hV4, .inr ⟨p, rfl, p1, by omega, p3⟩⟩
    ·simp only [XA, XB, gateX, ↓reduceIte, beq_self_eq_true, b5]
     refine hK _ ?_
     refine Gx.t rfl ?_
     refine Gx.c (by kernel_rfl) fun K hK => ?_
     simp only [XA]
     exact hK _ fun f => ⟨V4, _, StIs.of (by exact rfl), View.le_trans hV3 hV4, here V4 (View.le_trans hV3 hV4)⟩
  rintro s ⟨V3, b', hs, hV3, hp'⟩
  obtain ⟨z, rfl⟩ := hs.out
  try dsimp only
  refine Gx.c (by kernel_rfl) fun K hK => ?_
  simp only [XA, XB, i64_succ i (by omega)]
  exact hK _ ⟨n - 1, by omega, fun f => ⟨i + 1, V3, b', StIs.of (by exact rfl), by omega, by omega, View.le_trans hV2 hV3, by rw [Nat.min_eq_left (by omega)]; exact hp'⟩⟩
 rintro s ⟨V2, b, hs, hp, hV2⟩
 obtain ⟨z, rfl⟩ := hs.out
 try dsimp only
 refine Gx.a (by kernel_rfl) fun K hK => ?_
 simp only [XA]
 refine hK _ (XWP.ret ?_)
 try simp only [thenX_ret, inBlockX_ret]
 exact retM_go _ rfl ⟨b, rfl, hp, hV2, rfl⟩
def swG (G : Grid) (p t j : Nat) : Grid := fun i' j' => if j' < j then G (swp p t i') j' else G i' j'
theorem sw_step {G : Grid} {R C p t j : Nat} (hj : j < C) : ∀ i k, i < R → k < C → gput (gput (swG G p t j) p j (G t j)) t j (G p j) i k = swG G p t (j + 1) i k := fun i k _ _ => by
 unfold gput swG swp
 by_cases e1 : k = j
 ·subst e1
  by_cases e2 : i = t
  ·subst e2
   rw [if_pos ⟨rfl, rfl⟩, if_pos (by omega)]
   split
   ·rename_i e; rw [e]
   ·rw [if_pos rfl]
  ·rw [if_neg (fun h => e2 h.1)]
   by_cases e3 : i = p
   ·subst e3; rw [if_pos ⟨rfl, rfl⟩, if_pos (by omega), if_pos rfl]
   ·rw [if_neg (fun h => e3 h.1), if_neg (by omega), if_pos (by omega), if_neg e3, if_neg e2]
 ·rw [if_neg (fun h => e1 h.2), if_neg (fun h => e1 h.2)]
  by_cases e : k < j
  ·rw [if_pos e, if_pos (show k < j + 1 by omega)]
  ·rw [if_neg e, if_neg (show ¬ k < j + 1 by omega)]
theorem swap_m (H : Heap) (V : View) (g cap R C p t : Nat) (G : Grid) (h : MatH H V g cap R C G) (hR : R ≤ 1000) (hC : C ≤ 1000) (hp : p < R) (ht : t < R) :
  MSpec Tryz.prog 167 [.agg #[.int .i64 (R : Int), .int .i64 (C : Int), .slice (some ⟨g, 0, none⟩) (R * C) cap], .int .i64 (p : Int), .int .i64 (t : Int)] H V fun v' H' V' => V.le V' ∧ (∀ k, k ≠ g → H' k = H k) ∧ MatH H' V' g cap R C (gsw G p t) := by
 refine (MSpec.enter Tryz.func167 rfl fun Γ hΓ => ?_)
 simp only [Tryz.ntmps167, List.map_cons, List.map_nil, List.length_cons, List.length_nil, Nat.reduceAdd, Nat.reduceSub, List.replicate_succ, List.replicate_zero, List.cons_append, List.nil_append]
 have hRC : R * C ≤ 1000000 := Nat.le_trans (Nat.mul_le_mul hR hC) (by decide)
 refine Gx.a (by kernel_rfl) fun K hK => ?_
 simp only [XA]
 refine hK _ ?_
 refine Gx.a (by kernel_rfl) fun K hK => ?_
 simp only [XM, XA, XB]
 refine hK _ ?_
 clear hK
 refine XWP.block ?_
 refine XWP.loop (fun n s => ∃ (j : Nat) (H2 : Heap), StIs (fun Z => [Z 0, .v (.int .i64 (p : Int)), .v (.int .i64 (t : Int)), .p 0 0, Z 4,Z 5,Z 6,Z 7, .v (.int .i64 (C : Int)), .v (.int .i64 (j : Int)), Z 10,Z 11,Z 12,Z 13,Z 14,Z 15,Z 16,Z 17,Z 18,Z 19,Z 20,Z 21,Z 22,Z 23,Z 24,Z 25,Z 26,Z 27,Z 28,Z 29,Z 30,Z 31,Z 32,Z 33,Z 34,Z 35,Z 36,Z 37,Z 38,Z 39,Z 40,Z 41,Z 42,Z 43,Z 44,Z 45,Z 46,Z 47,Z 48,Z 49,Z 50]) [[.int .i64 (R : Int), .int .i64 (C : Int), .slice (some ⟨g, 0, none⟩) (R * C) cap]] H2 V s ∧ n + j = C ∧ (∀ k, k ≠ g → H2 k = H k) ∧ MatH H2 V g cap R C (swG G p t j)) C ⟨0, H, StIs.of (by exact rfl), by omega, fun _ _ => rfl, h⟩ ?_
 rintro n s ⟨j, H2, hs, hn, hoff, hM⟩
 obtain ⟨z, rfl⟩ := hs.out
 try dsimp only
 clear hs
 by_cases hj : j < C
 rotate_left
 ·obtain rfl : j = C := by omega
  have b1 : decide ((j : Int) < (j : Int)) = false := decide_eq_false (by omega)
  refine Gx.a (by kernel_rfl) fun K hK => ?_
  simp only [XA, XB, b1]
  refine hK _ ?_
  refine XWP.seq (Gx.f rfl ?_)
  refine XWP.exit ?_
  simp only [thenX_exit, inBlockX_exit, ↓reduceIte]
  refine endM_go [] rfl ⟨View.le_refl _, hoff, hM.congr fun i k hi hk => ?_⟩
  unfold swG gsw
  rw [if_pos hk]
 have b1 : decide ((j : Int) < (C : Int)) = true := decide_eq_true (by omega)
 refine Gx.a (by kernel_rfl) fun K hK => ?_
 simp only [XA, XB, b1]
 refine hK _ ?_
 refine XWP.seq (Gx.t rfl ?_)
 refine XWP.skip ?_
 refine XWP.seq ?_
 refine XWP.block ?_
 refine Gx.a (by kernel_rfl) fun K hK => ?_
 simp only [XA]
 refine hK _ ?_
 have w1 := wr_mul (i := p) (C := C) (by omega) hC
 have q1 := pos_lt hp hj
 have w2 := wr_add (p := p * C) (k := j) (by omega) (by omega)
 have w3 := wr_mul (i := t) (C := C) (by omega) hC
 have q2 := pos_lt ht hj
 have w4 := wr_add (p := t * C) (k := j) (by omega) (by omega)
 obtain ⟨x1, y1, e1, hx1, ⟨o1, o2, o3⟩, hld1⟩ := hM.load ht hj
 obtain ⟨x2, y2, e2, hx2, ⟨s1, s2, s3⟩, hld2⟩ := hM.load hp hj
 have g1 : swG G p t j t j = G t j := by unfold swG; rw [if_neg (by omega)]
 have g2 : swG G p t j p j = G p j := by unfold swG; rw [if_neg (by omega)]
 rw [g1] at hx1
 rw [g2] at hx2
 obtain ⟨cells, hc, hcl, hset⟩ := hM.set hp hj
 have hM2 := hset V x1 y1 e1 _ (View.le_refl _) hx1 o1 o2 o3 _ (upd_at H2 g _)
 obtain ⟨cells2, hc2, hcl2, hset2⟩ := hM2.set ht hj
 rw [upd_at] at hc2
 cases hc2
 have hM3 := hset2 V x2 y2 e2 _ (View.le_refl _) hx2 s1 s2 s3 _ (upd_at (upd H2 g (some ⟨48, splice cells ((p * C + j) * 3) [x1, y1, e1], cap * 3⟩)) g _)
 have fin : ∀ (z : List SV) (F : (Nat → SV) → List SV), True := fun _ _ => trivial
 (refine XWP.drwT1 (.lin [0, 1, 2, 3, 4, 5, 6, 7, 8, 10, 11, 14, 16, 17, 18, 19, 20, 21, 22, 23, 24, 25, 26, 27, 28, 29, 30, 31, 32, 33, 34, 35, 36] (.two (.lin [9] (.two (.lin [12, 13, 15, 37, 38, 39] .nil) (.lin [37, 12, 13, 15, 38, 39] .nil))) (.two (.lin [12, 13, 15] (.two (.lin [9, 37, 38, 39] .nil) (.lin [37, 9, 38, 39] .nil))) (.lin [37, 9, 12, 13, 15, 38, 39] .nil)))) (by kernel_rfl) (by kernel_rfl) (by kernel_rfl) fun K hK => ?_)
 simp only [XM, XA, XB, w1, w2, w3, w4]
 refine ⟨by omega, by omega, ?_⟩
 try simp only [Nat.zero_add] at *
 refine ld_mem hld1 ?_
 simp only [XM, XA, XB, w1, w2]
 refine ⟨by omega, by omega, ?_⟩
 try simp only [Nat.zero_add]
 refine ld_mem hld2 ?_
 simp only [XA, XB, w3, w4]
 refine ⟨by omega, by omega, ?_⟩
 try simp only [Nat.zero_add]
 refine ⟨⟨?_, ?_⟩, ⟨?_, ?_⟩, ?_⟩
 all_goals refine st_rowA shapeT_48 (all3 o1 o2 o3) rfl hc hcl ?_
 all_goals simp only [XA, XB, w3, w4]
 all_goals refine ⟨by omega, by omega, ?_⟩
 all_goals try simp only [Nat.zero_add]
 all_goals refine st_rowA shapeT_48 (all3 s1 s2 s3) rfl (upd_at _ _ _) hcl2 ?_
 all_goals simp only [XA]
 all_goals refine hK _ ?_
 all_goals refine Gx.c (by kernel_rfl) fun K hK => ?_
 all_goals simp only [XA, XB, i64_succ j (by omega)]
 all_goals exact hK _ ⟨n - 1, by omega, j + 1, _, StIs.of (by exact rfl), by omega, fun k hk => (upd_off hk).trans ((upd_off hk).trans (hoff k hk)), hM3.congr (sw_step hj)⟩
def clG (G : Grid) (i t : Nat) (f : Rat) (j : Nat) : Grid := fun i' j' => if i' = i ∧ j' < j then G i j' - f * G t j' else G i' j'
theorem cl_step {G : Grid} {R C i t j : Nat} {f : Rat} : ∀ a b, a < R → b < C → gput (clG G i t f j) i j (G i j - f * G t j) a b = clG G i t f (j + 1) a b := fun a b _ _ => by
 unfold gput clG
 by_cases e1 : a = i ∧ b = j
 ·obtain ⟨rfl, rfl⟩ := e1
  rw [if_pos ⟨rfl, rfl⟩, if_pos ⟨rfl, by omega⟩]
 ·rw [if_neg e1]
  by_cases e2 : a = i ∧ b < j
  ·rw [if_pos e2, if_pos ⟨e2.1, by omega⟩]
  ·rw [if_neg e2, if_neg fun h => by
    rcases Nat.lt_or_ge b j with h1 | h1
    ·exact e2 ⟨h.1, h1⟩
    ·exact e1 ⟨h.1, by omega⟩]
theorem clear_m (H : Heap) (V : View) (g cap R C t i col B : Nat) (G : Grid) (h : MatH H V g cap R C G) (hR : R ≤ 1000) (hC : C ≤ 1000) (ht : t < R) (hi : i < R) (hit : i ≠ t) (hcol : col < C) (hd : G t col ≠ 0) (hqi : ∀ k, k < C → QB B (G i k)) (hqt : ∀ k, k < C → QB B (G t k)) (hB : 4 * B + 2 ≤ 17592186044416) :
  MSpec Tryz.prog 164 [.agg #[.int .i64 (R : Int), .int .i64 (C : Int), .slice (some ⟨g, 0, none⟩) (R * C) cap], .int .i64 (t : Int), .int .i64 (i : Int), .int .i64 (col : Int)] H V fun v' H' V' => V.le V' ∧ (∀ k, k ≠ g → H' k = H k) ∧ MatH H' V' g cap R C (gsub G i t (G i col / G t col)) := by
 refine (MSpec.enter Tryz.func164 rfl fun Γ hΓ => ?_)
 simp only [Tryz.ntmps164, List.map_cons, List.map_nil, List.length_cons, List.length_nil, Nat.reduceAdd, Nat.reduceSub, List.replicate_succ, List.replicate_zero, List.cons_append, List.nil_append]
 have hRC : R * C ≤ 1000000 := Nat.le_trans (Nat.mul_le_mul hR hC) (by decide)
 have qfi : ∀ k, k < C → QF (G i k) := fun k a => (hqi k a).qf (by omega)
 have qft : ∀ k, k < C → QF (G t k) := fun k a => (hqt k a).qf (by omega)
 refine Gx.a (by kernel_rfl) fun K hK => ?_
 simp only [XA]
 refine hK _ ?_
 obtain ⟨f, hf⟩ : ∃ f, f = G i col / G t col := ⟨_, rfl⟩
 rw [← hf]
 have qbf : QB (2 * B) f := by rw [hf]; exact ((hqi col hcol).div (hqt col hcol)).mono (by omega)
 refine XWP.cutD 2 (fun s => ∃ (V2 : View) (A1 : Option Addr) (n1 c1 : Nat) (e1 : Value), StIs (fun Z => [Z 0, .v (.int .i64 (t : Int)), .v (.int .i64 (i : Int)), .v (.int .i64 (col : Int)), .p 0 0, Z 5,Z 6,Z 7, .p 1 0, Z 9,Z 10,Z 11,Z 12,Z 13,Z 14,Z 15,Z 16,Z 17,Z 18,Z 19,Z 20,Z 21,Z 22,Z 23,Z 24,Z 25,Z 26,Z 27,Z 28,Z 29,Z 30,Z 31,Z 32,Z 33,Z 34,Z 35,Z 36,Z 37,Z 38,Z 39,Z 40,Z 41,Z 42,Z 43,Z 44,Z 45,Z 46,Z 47,Z 48,Z 49,Z 50,Z 51,Z 52,Z 53,Z 54,Z 55,Z 56,Z 57,Z 58,Z 59,Z 60,Z 61,Z 62,Z 63,Z 64,Z 65,Z 66,Z 67,Z 68,Z 69,Z 70,Z 71,Z 72,Z 73,Z 74,Z 75,Z 76,Z 77,Z 78,Z 79,Z 80,Z 81,Z 82]) [[.int .i64 (R : Int), .int .i64 (C : Int), .slice (some ⟨g, 0, none⟩) (R * C) cap], [.bool (ng f), .slice A1 (dg f.num.natAbs).length c1, e1]] H V2 s ∧ V.le V2 ∧ RatC V2 (.agg #[.bool (ng f), .slice A1 (dg f.num.natAbs).length c1, e1]) f ∧ isOne e1 = true) ?_ ?_
 ·have w1 := wr_mul (i := i) (C := C) (by omega) hC
  have q1 := pos_lt hi hcol
  have w2 := wr_add (p := i * C) (k := col) (by omega) (by omega)
  have w3 := wr_mul (i := t) (C := C) (by omega) hC
  have q2 := pos_lt ht hcol
  have w4 := wr_add (p := t * C) (k := col) (by omega) (by omega)
  obtain ⟨x1, y1, e1, hx1, ⟨o1, o2, o3⟩, hld1⟩ := h.load hi hcol
  obtain ⟨x2, y2, e2, hx2, ⟨s1, s2, s3⟩, hld2⟩ := h.load ht hcol
  (refine XWP.drwT1 (.lin [0, 1, 2, 3, 4, 5, 6, 7, 8, 9, 10, 11, 12, 13, 14, 15, 16, 17, 18, 19] (.two (.lin [20, 21, 22, 23, 24, 25, 26] .nil) (.lin [24, 20, 21, 22, 23, 25, 26] .nil))) (by kernel_rfl) (by kernel_rfl) (by kernel_rfl) fun K hK => ?_)
  simp only [XM, XA, XB, w1, w2]
  refine ⟨by omega, by omega, ?_⟩
  try simp only [Nat.zero_add] at *
  refine ld_mem hld1 ?_
  simp only [XM, XA, XB, w3, w4]
  refine ⟨by omega, by omega, ?_⟩
  try simp only [Nat.zero_add]
  refine ld_mem hld2 ?_
  simp only [XA, XB]
  refine And.intro ?_ ?_
  all_goals refine call_go (by kernel_rfl) rfl (qdiv_c _ _ _ _ _ hx1 hx2 (qfi _ hcol) (qft _ hcol)) fun v9 V9 hV9 h9 => ?_
  all_goals obtain ⟨x7, rfl, hx7⟩ := h9.2 hd
  all_goals rw [← hf] at hx7
  all_goals obtain ⟨n7, d7, rfl, hn7, hd7⟩ := hx7
  all_goals obtain ⟨A7, c7, rfl, _, _⟩ := NatAt.form hn7
  all_goals have od := NatC.one hd7
  all_goals simp only [XA, XB]
  all_goals refine st_rat rfl rfl rfl rfl od ?_
  all_goals simp only [XA]
  all_goals exact hK _ fun f' => ⟨V9, A7, 0, c7, d7, StIs.of (by exact rfl), hV9, ⟨_, _, rfl, hn7, hd7⟩, od⟩
 rintro s ⟨V2, A1, n1, c1, e1, hs, hV2, hx, oe⟩
 obtain ⟨z, rfl⟩ := hs.out
 try dsimp only
 clear hs
 have h2 := h.mono hV2
 refine XWP.seq ?_
 by_cases hz : f = 0
 ·have b1 : decide (((dg f.num.natAbs).length : Int) = 0) = true := by rw [len_zero, hz]; rfl
  refine Gx.a (by kernel_rfl) fun K hK => ?_
  simp only [XA, XB, b1]
  refine hK _ ?_
  refine Gx.t rfl ?_
  refine XWP.ret ?_
  try simp only [thenX_ret, inBlockX_ret]
  refine retM_go [] rfl ⟨hV2, fun _ _ => rfl, h2.congr fun a b _ _ => ?_⟩
  unfold gsub
  split
  ·rename_i e; subst e; rw [hz]; grind
  ·rfl
 have b1 : decide (((dg f.num.natAbs).length : Int) = 0) = false := by
  rw [len_zero]
  exact decide_eq_false fun e => hz ((rat_zero_iff _).2 e)
 refine Gx.a (by kernel_rfl) fun K hK => ?_
 simp only [XA, XB, b1]
 refine hK _ ?_
 refine Gx.f rfl ?_
 refine XWP.skip ?_
 refine Gx.a (by kernel_rfl) fun K hK => ?_
 simp only [XM, XA, XB]
 refine hK _ ?_
 clear hK
 refine XWP.block ?_
 refine XWP.loopD 2 (fun n s => ∃ (j : Nat) (H3 : Heap) (V3 : View), StIs (fun Z => [Z 0, .v (.int .i64 (t : Int)), .v (.int .i64 (i : Int)), .v (.int .i64 (col : Int)), .p 0 0, Z 5,Z 6,Z 7, .p 1 0, Z 9,Z 10,Z 11,Z 12,Z 13,Z 14,Z 15,Z 16,Z 17,Z 18,Z 19,Z 20,Z 21,Z 22,Z 23,Z 24,Z 25,Z 26,Z 27,Z 28,Z 29,Z 30,Z 31,Z 32,Z 33,Z 34,Z 35,Z 36,Z 37,Z 38,Z 39,Z 40, .v (.int .i64 (C : Int)), .v (.int .i64 (j : Int)), Z 43,Z 44,Z 45,Z 46,Z 47,Z 48,Z 49,Z 50,Z 51,Z 52,Z 53,Z 54,Z 55,Z 56,Z 57,Z 58,Z 59,Z 60,Z 61,Z 62,Z 63,Z 64,Z 65,Z 66,Z 67,Z 68,Z 69,Z 70,Z 71,Z 72,Z 73,Z 74,Z 75,Z 76,Z 77,Z 78,Z 79,Z 80,Z 81,Z 82]) [[.int .i64 (R : Int), .int .i64 (C : Int), .slice (some ⟨g, 0, none⟩) (R * C) cap], [.bool (ng f), .slice A1 (dg f.num.natAbs).length c1, e1]] H3 V3 s ∧ n + j = C ∧ V2.le V3 ∧ (∀ k, k ≠ g → H3 k = H k) ∧ MatH H3 V3 g cap R C (clG G i t f j)) C ⟨0, H, V2, StIs.of (by exact rfl), by omega, View.le_refl _, fun _ _ => rfl, h2.congr fun a b _ _ => by unfold clG; rw [if_neg (by omega)]⟩ ?_
 rintro n s ⟨j, H3, V3, hs, hn, hV3, hoff, hM⟩
 obtain ⟨z, rfl⟩ := hs.out
 try dsimp only
 clear hs
 by_cases hj : j < C
 rotate_left
 ·obtain rfl : j = C := by omega
  have b2 : decide ((j : Int) < (j : Int)) = false := decide_eq_false (by omega)
  refine Gx.a (by kernel_rfl) fun K hK => ?_
  simp only [XA, XB, b2]
  refine hK _ ?_
  refine XWP.seq (Gx.f rfl ?_)
  refine XWP.exit ?_
  simp only [thenX_exit, inBlockX_exit, ↓reduceIte]
  refine endM_go [] rfl ⟨View.le_trans hV2 hV3, hoff, hM.congr fun a b ha hb => ?_⟩
  unfold clG gsub
  by_cases e : a = i
  ·subst e; rw [if_pos ⟨rfl, hb⟩, if_pos rfl]
  ·rw [if_neg (fun h => e h.1), if_neg e]
 have b2 : decide ((j : Int) < (C : Int)) = true := decide_eq_true (by omega)
 refine Gx.a (by kernel_rfl) fun K hK => ?_
 simp only [XA, XB, b2]
 refine hK _ ?_
 refine XWP.seq (Gx.t rfl ?_)
 refine XWP.skip ?_
 have w1 := wr_mul (i := i) (C := C) (by omega) hC
 have q1 := pos_lt hi hj
 have w2 := wr_add (p := i * C) (k := j) (by omega) (by omega)
 have w3 := wr_mul (i := t) (C := C) (by omega) hC
 have q2 := pos_lt ht hj
 have w4 := wr_add (p := t * C) (k := j) (by omega) (by omega)
 obtain ⟨x1, y1, z1, hx1, ⟨o1, o2, o3⟩, hld1⟩ := hM.load ht hj
 obtain ⟨x2, y2, z2, hx2, ⟨s1, s2, s3⟩, hld2⟩ := hM.load hi hj
 have g1 : clG G i t f j t j = G t j := by unfold clG; rw [if_neg (by omega)]
 have g2 : clG G i t f j i j = G i j := by unfold clG; rw [if_neg (by omega)]
 rw [g1] at hx1
 rw [g2] at hx2
 obtain ⟨n1', d1', ev, hn1, hd1⟩ := hx1
 cases ev
 obtain ⟨A5, c5, rfl, _, _⟩ := NatAt.form hn1
 have hx1 : RatC V3 (.agg #[.bool (ng (G t j)), .slice A5 (dg (G t j).num.natAbs).length c5, z1]) (G t j) := ⟨_, _, rfl, hn1, hd1⟩
 refine XWP.cutD 2 (fun s => ∃ (H4 : Heap) (V4 : View), StIs (fun Z => [Z 0, .v (.int .i64 (t : Int)), .v (.int .i64 (i : Int)), .v (.int .i64 (col : Int)), .p 0 0, Z 5,Z 6,Z 7, .p 1 0, Z 9,Z 10,Z 11,Z 12,Z 13,Z 14,Z 15,Z 16,Z 17,Z 18,Z 19,Z 20,Z 21,Z 22,Z 23,Z 24,Z 25,Z 26,Z 27,Z 28,Z 29,Z 30,Z 31,Z 32,Z 33,Z 34,Z 35,Z 36,Z 37,Z 38,Z 39,Z 40, .v (.int .i64 (C : Int)), .v (.int .i64 (j : Int)), Z 43,Z 44,Z 45,Z 46,Z 47,Z 48,Z 49,Z 50,Z 51,Z 52,Z 53,Z 54,Z 55,Z 56,Z 57,Z 58,Z 59,Z 60,Z 61,Z 62,Z 63,Z 64,Z 65,Z 66,Z 67,Z 68,Z 69,Z 70,Z 71,Z 72,Z 73,Z 74,Z 75,Z 76,Z 77,Z 78,Z 79,Z 80,Z 81,Z 82]) [[.int .i64 (R : Int), .int .i64 (C : Int), .slice (some ⟨g, 0, none⟩) (R * C) cap], [.bool (ng f), .slice A1 (dg f.num.natAbs).length c1, e1]] H4 V4 s ∧ V3.le V4 ∧ (∀ k, k ≠ g → H4 k = H k) ∧ MatH H4 V4 g cap R C (clG G i t f (j + 1))) ?_ ?_
 ·refine XWP.block ?_
  refine Gx.a (by kernel_rfl) fun K hK => ?_
  simp only [XA]
  refine hK _ ?_
  refine Gx.a (by kernel_rfl) fun K hK => ?_
  simp only [XM, XA, XB, w3, w4]
  refine ⟨by omega, by omega, ?_⟩
  try simp only [Nat.zero_add] at *
  refine ld_mem hld1 ?_
  simp only [XA, XB, Nat.reduceAdd]
  refine st_rat rfl rfl o1 o2 o3 ?_
  simp only [XA]
  refine hK _ ?_
  by_cases hz2 : G t j = 0
  ·have b3 : decide ((0 : Int) < ((dg (G t j).num.natAbs).length : Int)) = false := dg_of_zero hz2
   refine Gx.a (by kernel_rfl) fun K hK => ?_
   simp only [XA, XB, b3]
   refine hK _ ?_
   refine Gx.f rfl ?_
   refine XWP.skip ?_
   refine fun f' => ⟨H3, V3, StIs.of (by exact rfl), View.le_refl _, hoff, hM.congr fun a b ha hb => ?_⟩
   unfold clG
   by_cases e : a = i ∧ b < j
   ·rw [if_pos e, if_pos ⟨e.1, by omega⟩]
   ·rw [if_neg e]
    by_cases e2 : a = i ∧ b < j + 1
    ·rw [if_pos e2]
     have : b = j := by
      rcases Nat.lt_or_ge b j with h1 | h1
      ·exact absurd ⟨e2.1, h1⟩ e
      ·omega
     rw [this, e2.1, hz2]; grind
    ·rw [if_neg e2]
  have hlen : 0 < (dg (G t j).num.natAbs).length := by
   rcases Nat.eq_zero_or_pos (dg (G t j).num.natAbs).length with e | e
   ·exact absurd ((rat_zero_iff _).2 (dg_nil e)) hz2
   ·exact e
  have b3 : decide ((0 : Int) < ((dg (G t j).num.natAbs).length : Int)) = true := decide_eq_true (by omega)
  refine Gx.a (by kernel_rfl) fun K hK => ?_
  simp only [XA, XB, b3]
  refine hK _ ?_
  refine Gx.t rfl ?_
  (refine XWP.drw1 [0, 1, 2, 3, 4, 5, 6, 7, 8, 9, 10, 11, 12, 13, 14, 15, 16, 17, 18, 19, 20, 21, 22, 23] (by kernel_rfl) (by kernel_rfl) (by kernel_rfl) fun K hK => ?_) <;> dsimp only [pickOps, List.getElem?_cons_zero, List.getElem?_cons_succ]
  simp only [XM, XA, XB, w1, w2]
  refine ⟨by omega, by omega, ?_⟩
  try simp only [Nat.zero_add] at *
  refine ld_mem hld2 ?_
  simp only [XA, XB, Nat.reduceAdd, Nat.reduceLeDiff, ↓reduceIte]
  refine call_go (by kernel_rfl) rfl (qmul_c _ _ _ _ _ (hx.mono hV3) hx1 (qbf.qf (by omega)) (qft _ hj)) fun v9 V9 hV9 h9 => ?_
  simp only [XA]
  have qm : QB (3 * B) (f * G t j) := (qbf.mul (hqt j hj)).mono (by omega)
  refine call_go (by kernel_rfl) rfl (qsub_c _ _ _ _ _ (hx2.mono hV9) h9 (qfi _ hj) (qm.qf (by omega))) fun v10 V10 hV10 h10 => ?_
  obtain ⟨x10, y10, rfl, p1, p2⟩ := h10.form
  obtain ⟨cells, hc, hcl, hset⟩ := hM.set hi hj
  simp only [XA, XB]
  refine ⟨by omega, by omega, ?_⟩
  try simp only [Nat.zero_add]
  refine st_rowA shapeT_48 (all3 rfl p1 p2) rfl hc hcl ?_
  simp only [XA]
  refine hK _ ?_
  exact fun f' => ⟨_, V10, StIs.of (by exact rfl), View.le_trans hV9 hV10, fun k hk => (upd_off hk).trans (hoff k hk), (hset V10 _ _ _ _ (View.le_trans hV9 hV10) h10 rfl p1 p2 _ (upd_at _ _ _)).congr cl_step⟩
 rintro s ⟨H4, V4, hs, hV4, hoff4, hM4⟩
 obtain ⟨z, rfl⟩ := hs.out
 try dsimp only
 refine Gx.c (by kernel_rfl) fun K hK => ?_
 simp only [XA, XB, i64_succ j (by omega)]
 exact hK _ ⟨n - 1, by omega, fun f' => ⟨j + 1, H4, V4, StIs.of (by exact rfl), by omega, View.le_trans hV3 hV4, hoff4, hM4⟩⟩
theorem row_obj {e : TypeId} {vs : List Value} {o : Obj} (h : RowObj ⟨e, vs, vs.length⟩ o) : o = .cells vs.toArray e (0, 0) := by
 obtain ⟨ex, rfl, hl⟩ := h
 have : ex = [] := List.length_eq_zero_iff.1 (by simpa using hl)
 rw [this, List.append_nil]
theorem ldV1 {V : View} {b e : Nat} {vs : List Value} {fr} (h : V b = some (.cells vs.toArray e fr)) {off t m : Nat} {u : Value} (hu : vs[off]? = some u) (ht : shapeT Tryz.prog t = some (false, m)) (H : Heap) : Loads Tryz.prog H V t b off u :=
 ⟨false, m, ht, .inr ⟨rfl, .inr ⟨_, e, fr, h, by rw [List.getElem?_toArray]; exact hu⟩⟩⟩
theorem ldV3 {V : View} {b e : Nat} {x y z : Value} {fr} (h : V b = some (.cells [x, y, z].toArray e fr)) {t : Nat} (ht : shapeT Tryz.prog t = some (true, 3)) (H : Heap) : Loads Tryz.prog H V t b 0 (.agg #[x, y, z]) := by
 refine ⟨true, 3, ht, .inl ⟨rfl, [x, y, z], rfl, fun j u hj => ?_, rfl⟩⟩
 exact .inr ⟨_, e, fr, h, by rw [List.getElem?_toArray, Nat.zero_add]; exact hj⟩
theorem addV_at (V : View) (b : Nat) (o : Obj) : addV V b o b = some o := by unfold addV; rw [if_pos rfl]
structure StepsR (G0 : Grid) (R C n B : Nat) (G : Grid) (rank : Nat) : Prop where
 eqv : REq G0 G R n
 stp : ∃ col, col ≤ n ∧ StepG G R rank col ∧ (rank = R ∨ col = n)
 qb : ∀ i k, i < R → k < C → QB (ge B n) (G i k)
theorem steps_m (H : Heap) (V : View) (g cap R C n B : Nat) (G0 : Grid) (h : MatH H V g cap R C G0) (hR : R ≤ 1000) (hC : C ≤ 1000) (hn : n ≤ C) (hq : ∀ i k, i < R → k < C → QB B (G0 i k)) (hB : ge B (n + 1) ≤ 17592186044416) :
  MSpec Tryz.prog 163 [.agg #[.int .i64 (R : Int), .int .i64 (C : Int), .slice (some ⟨g, 0, none⟩) (R * C) cap], .int .i64 (n : Int)] H V fun v' H' V' => ∃ (rank : Nat) (odd : Bool) (G : Grid), v' = .tuple #[.int .i64 (rank : Int), .bool odd] ∧ V.le V' ∧ (∀ k r, k ≠ g → H k = some r → H' k = some r) ∧ MatH H' V' g cap R C G ∧ StepsR G0 R C n B G rank := by
 have hB' : 4 * ge B n + 2 ≤ 17592186044416 := hB
 refine (MSpec.enter Tryz.func163 rfl fun Γ hΓ => ?_)
 simp only [Tryz.ntmps163, List.map_cons, List.map_nil, List.length_cons, List.length_nil, Nat.reduceAdd, Nat.reduceSub, List.replicate_succ, List.replicate_zero, List.cons_append, List.nil_append]
 refine Gx.a (by kernel_rfl) fun K hK => ?_
 simp only [XA]
 refine hK _ ?_
 refine Gx.a (by kernel_rfl) fun K hK => ?_
 simp only [XA]
 refine hK _ ?_
 refine XWP.row1 (bx := []) fun b e hb1 hb2 => ?_
 simp only [List.map_cons, List.map_nil, rowS_v, rowS_p, List.length_nil, List.length_cons, Nat.reduceAdd, ↓reduceIte]
 refine XWP.pub b _ (upd_at _ _ _) fun ob hob hle => ?_
 have eob := row_obj hob
 subst eob
 have hVb := addV_at V b (.cells (([.int .i64 (R : Int), .int .i64 (C : Int), .slice (some ⟨g, 0, none⟩) (R * C) cap] : List Value)).toArray e (0, 0))
 have hgb : g ≠ b := fun e => by
  obtain ⟨cells, h1, _⟩ := h
  rw [e, hb1] at h1; cases h1
 have h := h.mono hle
 have hoff0 : ∀ k r, H k = some r → upd (upd H b (some ⟨e, ([.int .i64 (R : Int), .int .i64 (C : Int), .slice (some ⟨g, 0, none⟩) (R * C) cap] : List Value), (([.int .i64 (R : Int), .int .i64 (C : Int), .slice (some ⟨g, 0, none⟩) (R * C) cap] : List Value)).length⟩)) b none k = some r := fun k r hk => by
  have hkb : k ≠ b := fun e => by rw [e, hb1] at hk; cases hk
  rw [upd_off hkb, upd_off hkb]; exact hk
 have h : MatH (upd (upd H b (some ⟨e, ([.int .i64 (R : Int), .int .i64 (C : Int), .slice (some ⟨g, 0, none⟩) (R * C) cap] : List Value), (([.int .i64 (R : Int), .int .i64 (C : Int), .slice (some ⟨g, 0, none⟩) (R * C) cap] : List Value)).length⟩)) b none) _ g cap R C G0 := h.off (by rw [upd_off hgb, upd_off hgb])
 generalize upd (upd H b (some ⟨e, ([.int .i64 (R : Int), .int .i64 (C : Int), .slice (some ⟨g, 0, none⟩) (R * C) cap] : List Value), (([.int .i64 (R : Int), .int .i64 (C : Int), .slice (some ⟨g, 0, none⟩) (R * C) cap] : List Value)).length⟩)) b none = H1 at *
 generalize addV V b (.cells (([.int .i64 (R : Int), .int .i64 (C : Int), .slice (some ⟨g, 0, none⟩) (R * C) cap] : List Value)).toArray e (0, 0)) = V1 at *
 clear hob
 refine XWP.cutD 0 (fun s => ∃ (V2 : View) (H2 : Heap) (G : Grid) (rank : Nat) (odd : Bool), StIs (fun Z => [Z 0,Z 1,Z 2,Z 3,Z 4,Z 5, .v (.int .i64 (rank : Int)), .v (.bool odd), Z 8,Z 9,Z 10,Z 11,Z 12,Z 13,Z 14,Z 15,Z 16,Z 17,Z 18,Z 19,Z 20,Z 21,Z 22,Z 23,Z 24,Z 25,Z 26,Z 27,Z 28,Z 29,Z 30,Z 31,Z 32,Z 33,Z 34,Z 35,Z 36,Z 37,Z 38,Z 39,Z 40,Z 41,Z 42,Z 43,Z 44,Z 45,Z 46,Z 47,Z 48,Z 49,Z 50,Z 51,Z 52,Z 53]) [] H2 V2 s ∧ V1.le V2 ∧ (∀ k r, k ≠ g → H1 k = some r → H2 k = some r) ∧ MatH H2 V2 g cap R C G ∧ StepsR G0 R C n B G rank) ?_ ?_
 ·refine Gx.a (by kernel_rfl) fun K hK => ?_
  simp only [XA]
  refine hK _ ?_
  clear hK
  refine XWP.block ?_
  refine XWP.loopD 0 (fun m s => ∃ (col : Nat) (V2 : View) (H2 : Heap) (G : Grid) (rank : Nat) (odd : Bool), StIs (fun Z => [Z 0, .v (.int .i64 (n : Int)), .v (.pointer (some ⟨b, 0, none⟩)), Z 3,Z 4,Z 5, .v (.int .i64 (rank : Int)), .v (.bool odd), .v (.int .i64 (col : Int)), Z 9,Z 10,Z 11,Z 12,Z 13,Z 14,Z 15,Z 16,Z 17,Z 18,Z 19,Z 20,Z 21,Z 22,Z 23,Z 24,Z 25,Z 26,Z 27,Z 28,Z 29,Z 30,Z 31,Z 32,Z 33,Z 34,Z 35,Z 36,Z 37,Z 38,Z 39,Z 40,Z 41,Z 42,Z 43,Z 44,Z 45,Z 46,Z 47,Z 48,Z 49,Z 50,Z 51,Z 52,Z 53]) [] H2 V2 s ∧ m + col = n ∧ V1.le V2 ∧ (∀ k r, k ≠ g → H1 k = some r → H2 k = some r) ∧ MatH H2 V2 g cap R C G ∧ REq G0 G R n ∧ StepG G R rank col ∧ ∀ i k, i < R → k < C → QB (ge B col) (G i k)) n ⟨0, V1, H1, G0, 0, false, StIs.of (by exact rfl), by omega, View.le_refl _, fun _ _ _ h => h, h, REq.refl _ _ _, StepG.zero _ _, hq⟩ ?_
  rintro m s ⟨col, V2, H2, G, rank, odd, hs, hm, hV2, hoff, hM, hE, hS, hQ⟩
  obtain ⟨z, rfl⟩ := hs.out
  try dsimp only
  clear hs
  have hVb2 := hV2 _ _ hVb
  have hgm : ge B col ≤ ge B n := ge_mono B (by omega)
  refine XWP.seq ?_
  by_cases hc : col < n
  rotate_left
  ·obtain rfl : col = n := by omega
   have b1 : decide ((col : Int) < (col : Int)) = false := decide_eq_false (by omega)
   refine Gx.a (by kernel_rfl) fun K hK => ?_
   simp only [XA, XB, gateX, ↓reduceIte, b1]
   refine hK _ ?_
   refine Gx.f rfl ?_
   refine XWP.exit ?_
   exact fun f => ⟨V2, H2, G, rank, odd, StIs.of (by exact rfl), hV2, hoff, hM, hE, ⟨col, Nat.le_refl _, hS, .inr rfl⟩, hQ⟩
  have b1 : decide ((col : Int) < (n : Int)) = true := decide_eq_true (by omega)
  by_cases hr : rank < R
  rotate_left
  ·have b2 : decide ((rank : Int) < (R : Int)) = false := decide_eq_false (by omega)
   refine Gx.a (by kernel_rfl) fun K hK => ?_
   simp only [XM, XA, XB, gateX, ↓reduceIte, beq_self_eq_true, b1]
   refine ld_mem (ldV1 hVb2 (off := 0) rfl shapeT_3 _) ?_
   simp only [XA, XB, gateX, ↓reduceIte, beq_self_eq_true, b2]
   refine hK _ ?_
   refine Gx.f rfl ?_
   refine XWP.exit ?_
   exact fun f => ⟨V2, H2, G, rank, odd, StIs.of (by exact rfl), hV2, hoff, hM, hE, ⟨col, by omega, hS, .inl (by have := hS.le; omega)⟩, fun i k a c => (hQ i k a c).mono hgm⟩
  have b2 : decide ((rank : Int) < (R : Int)) = true := decide_eq_true (by omega)
  refine Gx.a (by kernel_rfl) fun K hK => ?_
  simp only [XM, XA, XB, gateX, ↓reduceIte, beq_self_eq_true, b1]
  refine ld_mem (ldV1 hVb2 (off := 0) rfl shapeT_3 _) ?_
  simp only [XA, XB, gateX, ↓reduceIte, beq_self_eq_true, b2]
  refine hK _ ?_
  refine Gx.t rfl ?_
  refine XWP.skip ?_
  refine XWP.cutD 0 (fun s => ∃ (V3 : View) (H3 : Heap) (G3 : Grid) (rank3 : Nat) (odd3 : Bool), StIs (fun Z => [Z 0, .v (.int .i64 (n : Int)), .v (.pointer (some ⟨b, 0, none⟩)), Z 3,Z 4,Z 5, .v (.int .i64 (rank3 : Int)), .v (.bool odd3), .v (.int .i64 (col : Int)), Z 9,Z 10,Z 11,Z 12,Z 13,Z 14,Z 15,Z 16,Z 17,Z 18,Z 19,Z 20,Z 21,Z 22,Z 23,Z 24,Z 25,Z 26,Z 27,Z 28,Z 29,Z 30,Z 31,Z 32,Z 33,Z 34,Z 35,Z 36,Z 37,Z 38,Z 39,Z 40,Z 41,Z 42,Z 43,Z 44,Z 45,Z 46,Z 47,Z 48,Z 49,Z 50,Z 51,Z 52,Z 53]) [] H3 V3 s ∧ V2.le V3 ∧ (∀ k r, k ≠ g → H2 k = some r → H3 k = some r) ∧ MatH H3 V3 g cap R C G3 ∧ REq G G3 R n ∧ StepG G3 R rank3 (col + 1) ∧ ∀ i k, i < R → k < C → QB (ge B (col + 1)) (G3 i k)) ?_ ?_
  ·refine XWP.block ?_
   refine Gx.ma 3 hΓ rfl (by kernel_rfl) (by kernel_rfl) fun K hK => ?_
   simp only [XA, Nat.reduceAdd]
   refine ld_mem (ldV3 hVb2 shapeT_24 _) ?_
   simp only [XA]
   refine mcall_go rfl rfl (pivot_m H2 V2 g cap R C rank col G hM hR hC (by omega) (by omega) fun i k a c => (hQ i k a c).qf (by omega)) fun v3 H3 V3 h3 => ?_
   obtain ⟨p, rfl, hp, hV3, rfl⟩ := h3
   simp only [XA]
   refine hK _ ?_
   refine XWP.seq ?_
   rcases hp with ⟨rfl, hz⟩ | ⟨p, rfl, p1, p2, p3⟩
   ·have b3 : decide ((-1 : Int) < 0) = true := rfl
    refine Gx.a (by kernel_rfl) fun K hK => ?_
    simp only [XA, XB, b3]
    refine hK _ ?_
    refine Gx.t rfl ?_
    refine XWP.exit ?_
    exact fun f => ⟨V3, H3, G, rank, odd, StIs.of (by exact rfl), hV3, fun _ _ _ h => h, hM.mono hV3, REq.refl _ _ _, hS.free hz, fun i k a c => (hQ i k a c).mono (ge_mono B (Nat.le_succ _))⟩
   have b3 : decide ((p : Int) < 0) = false := decide_eq_false (by omega)
   refine Gx.a (by kernel_rfl) fun K hK => ?_
   simp only [XA, XB, b3]
   refine hK _ ?_
   refine Gx.f rfl ?_
   refine XWP.skip ?_
   have hM := hM.mono hV3
   refine XWP.cutD 0 (fun s => ∃ (V4 : View) (H4 : Heap) (odd4 : Bool), StIs (fun Z => [Z 0, .v (.int .i64 (n : Int)), .v (.pointer (some ⟨b, 0, none⟩)), Z 3,Z 4,Z 5, .v (.int .i64 (rank : Int)), .v (.bool odd4), .v (.int .i64 (col : Int)), Z 9,Z 10,Z 11,Z 12,Z 13,Z 14,Z 15,Z 16,Z 17,Z 18,Z 19,Z 20,Z 21,Z 22,Z 23,Z 24,Z 25,Z 26,Z 27,Z 28,Z 29,Z 30,Z 31,Z 32,Z 33,Z 34,Z 35,Z 36,Z 37,Z 38,Z 39,Z 40,Z 41,Z 42,Z 43,Z 44,Z 45,Z 46,Z 47,Z 48,Z 49,Z 50,Z 51,Z 52,Z 53]) [] H4 V4 s ∧ V3.le V4 ∧ (∀ k r, k ≠ g → H3 k = some r → H4 k = some r) ∧ MatH H4 V4 g cap R C (gsw G p rank)) ?_ ?_
   ·by_cases hpr : p = rank
    ·subst hpr
     refine Gx.a (by kernel_rfl) fun K hK => ?_
     simp only [XA, XB, decide_true]
     refine hK _ ?_
     refine Gx.f rfl ?_
     refine XWP.skip ?_
     refine fun f => ⟨V3, H3, odd, StIs.of (by exact rfl), View.le_refl _, fun _ _ _ h => h, hM.congr fun i k _ _ => ?_⟩
     unfold gsw swp
     split
     ·rename_i e; rw [e]
     ·rfl
    ·have b4 : decide ((p : Int) = (rank : Int)) = false := decide_eq_false (by omega)
     refine Gx.a (by kernel_rfl) fun K hK => ?_
     simp only [XA, XB, b4]
     refine hK _ ?_
     refine Gx.t rfl ?_
     refine Gx.ma 3 hΓ rfl (by kernel_rfl) (by kernel_rfl) fun K hK => ?_
     simp only [XA, Nat.reduceAdd]
     refine ld_mem (ldV3 (hV3 _ _ hVb2) shapeT_24 _) ?_
     simp only [XA]
     refine mcall_go rfl rfl (swap_m H3 V3 g cap R C p rank G hM hR hC p2 hr) fun v4 H4 V4 h4 => ?_
     obtain ⟨hV4, hoff4, hM4⟩ := h4
     simp only [XA]
     refine hK _ ?_
     refine Gx.c (by kernel_rfl) fun K hK => ?_
     simp only [XA]
     exact hK _ fun f => ⟨V4, H4, !odd, StIs.of (by exact rfl), hV4, fun k r hk hr => by rw [hoff4 k hk]; exact hr, hM4⟩
   rintro s ⟨V4, H4, odd4, hs, hV4, hoff4, hM4⟩
   obtain ⟨z, rfl⟩ := hs.out
   try dsimp only
   clear hs
   have et : swp p rank rank = p := by unfold swp; split <;> (try split) <;> omega
   have hpiv : gsw G p rank rank col ≠ 0 := by unfold gsw; rw [et]; exact p3
   have hE4 : REq G (gsw G p rank) R n := REq.swap G p2 hr
   have hS4 := (hS.swap p1 p2)
   have hQ4 : ∀ i k, i < R → k < C → QB (ge B col) (gsw G p rank i k) := fun i k a c => hQ _ k (swp_lt p2 hr a) c
   have hVb4 := hV4 _ _ (hV3 _ _ hVb2)
   refine XWP.cutD 0 (fun s => ∃ (V5 : View) (H5 : Heap) (G5 : Grid), StIs (fun Z => [Z 0, .v (.int .i64 (n : Int)), .v (.pointer (some ⟨b, 0, none⟩)), Z 3,Z 4,Z 5, .v (.int .i64 (rank : Int)), .v (.bool odd4), .v (.int .i64 (col : Int)), Z 9,Z 10,Z 11,Z 12,Z 13,Z 14,Z 15,Z 16,Z 17,Z 18,Z 19,Z 20,Z 21,Z 22,Z 23,Z 24,Z 25,Z 26,Z 27,Z 28,Z 29,Z 30,Z 31,Z 32,Z 33,Z 34,Z 35,Z 36,Z 37,Z 38,Z 39,Z 40,Z 41,Z 42,Z 43,Z 44,Z 45,Z 46,Z 47,Z 48,Z 49,Z 50,Z 51,Z 52,Z 53]) [] H5 V5 s ∧ V4.le V5 ∧ (∀ k r, k ≠ g → H4 k = some r → H5 k = some r) ∧ MatH H5 V5 g cap R C G5 ∧ REq (gsw G p rank) G5 R n ∧ StepI G5 R rank col R ∧ ∀ i k, i < R → k < C → QB (ge B (col + 1)) (G5 i k)) ?_ ?_
   ·refine Gx.a (by kernel_rfl) fun K hK => ?_
    simp only [XA, XB, i64_succ rank (by omega)]
    refine hK _ ?_
    clear hK
    refine XWP.block ?_
    refine XWP.loopD 0 (fun q s => ∃ (i : Nat) (V5 : View) (H5 : Heap) (G5 : Grid), StIs (fun Z => [Z 0, .v (.int .i64 (n : Int)), .v (.pointer (some ⟨b, 0, none⟩)), Z 3,Z 4,Z 5, .v (.int .i64 (rank : Int)), .v (.bool odd4), .v (.int .i64 (col : Int)), Z 9, .v (.int .i64 (i : Int)), Z 11,Z 12,Z 13,Z 14,Z 15,Z 16,Z 17,Z 18,Z 19,Z 20,Z 21,Z 22,Z 23,Z 24,Z 25,Z 26,Z 27,Z 28,Z 29,Z 30,Z 31,Z 32,Z 33,Z 34,Z 35,Z 36,Z 37,Z 38,Z 39,Z 40,Z 41,Z 42,Z 43,Z 44,Z 45,Z 46,Z 47,Z 48,Z 49,Z 50,Z 51,Z 52,Z 53]) [] H5 V5 s ∧ q + i = R ∧ rank < i ∧ V4.le V5 ∧ (∀ k r, k ≠ g → H4 k = some r → H5 k = some r) ∧ MatH H5 V5 g cap R C G5 ∧ REq (gsw G p rank) G5 R n ∧ StepI G5 R rank col i ∧ (∀ a k, a < R → k < C → QB (ge B (col + 1)) (G5 a k)) ∧ ∀ a k, a < R → k < C → (a = rank ∨ i ≤ a) → QB (ge B col) (G5 a k)) (R - (rank + 1)) ⟨rank + 1, V4, H4, _, StIs.of (by exact rfl), by omega, by omega, View.le_refl _, fun _ _ _ h => h, hM4, REq.refl _ _ _, StepI.start hS4 hpiv, fun a k h1 h2 => (hQ4 a k h1 h2).mono (ge_mono B (Nat.le_succ _)), fun a k h1 h2 _ => hQ4 a k h1 h2⟩ ?_
    rintro q s ⟨i, V5, H5, G5, hs, hq, hri, hV5, hoff5, hM5, hE5, hS5, hQ5, hQ6⟩
    obtain ⟨z, rfl⟩ := hs.out
    try dsimp only
    clear hs
    have hVb5 := hV5 _ _ hVb4
    refine XWP.seq ?_
    by_cases hi : i < R
    rotate_left
    ·obtain rfl : i = R := by omega
     have b5 : decide ((i : Int) < (i : Int)) = false := decide_eq_false (by omega)
     refine Gx.a (by kernel_rfl) fun K hK => ?_
     simp only [XM, XA]
     refine ld_mem (ldV1 hVb5 (off := 0) rfl shapeT_3 _) ?_
     simp only [XA, XB, b5]
     refine hK _ ?_
     refine Gx.f rfl ?_
     refine XWP.exit ?_
     exact fun f => ⟨V5, H5, G5, StIs.of (by exact rfl), hV5, hoff5, hM5, hE5, hS5, hQ5⟩
    have b5 : decide ((i : Int) < (R : Int)) = true := decide_eq_true (by omega)
    refine Gx.a (by kernel_rfl) fun K hK => ?_
    simp only [XM, XA]
    refine ld_mem (ldV1 hVb5 (off := 0) rfl shapeT_3 _) ?_
    simp only [XA, XB, b5]
    refine hK _ ?_
    refine Gx.t rfl ?_
    refine XWP.skip ?_
    refine XWP.seq ?_
    refine XWP.block ?_
    refine Gx.mc 4 hΓ rfl (by kernel_rfl) (by kernel_rfl) fun K hK => ?_
    simp only [XA, Nat.reduceAdd]
    refine ld_mem (ldV3 hVb5 shapeT_24 _) ?_
    simp only [XA]
    have hgm2 : 4 * ge B col + 2 ≤ 4 * ge B n + 2 := by omega
    refine mcall_go rfl rfl (clear_m H5 V5 g cap R C rank i col (ge B col) G5 hM5 hR hC hr hi (by omega) (by omega) hS5.piv (fun k hk => hQ6 i k hi hk (.inr (Nat.le_refl _))) (fun k hk => hQ6 rank k hr hk (.inl rfl)) (by omega)) fun v6 H6 V6 h6 => ?_
    obtain ⟨hV6, hoff6, hM6⟩ := h6
    simp only [XA]
    refine hK _ ?_
    refine Gx.c (by kernel_rfl) fun K hK => ?_
    simp only [XA, XB, i64_succ i (by omega)]
    have hnew : ∀ a k, a < R → k < C → QB (ge B (col + 1)) (gsub G5 i rank (G5 i col / G5 rank col) a k) := fun a k h1 h2 => by
     unfold gsub
     split
     ·have d1 := (hQ6 i col hi (by omega) (.inr (Nat.le_refl _))).div (hQ6 rank col hr (by omega) (.inl rfl))
      exact ((hQ6 i k hi h2 (.inr (Nat.le_refl _))).sub (d1.mul (hQ6 rank k hr h2 (.inl rfl)))).mono (by simp only [ge]; omega)
     ·exact hQ5 a k h1 h2
    exact hK _ ⟨q - 1, by omega, fun f => ⟨i + 1, V6, H6, _, StIs.of (by exact rfl), by omega, by omega, View.le_trans hV5 hV6, fun k r hk hr' => by rw [hoff6 k hk]; exact hoff5 k r hk hr', hM6, hE5.trans (REq.sub G5 _ hi hr (by omega)), hS5.step hri hi, hnew, fun a k h1 h2 h3 => by
     unfold gsub
     rw [if_neg (by omega)]; exact hQ6 a k h1 h2 (by omega)⟩⟩
   rintro s ⟨V5, H5, G5, hs, hV5, hoff5, hM5, hE5, hS5, hQ5⟩
   obtain ⟨z, rfl⟩ := hs.out
   try dsimp only
   clear hs
   refine Gx.c (by kernel_rfl) fun K hK => ?_
   simp only [XA, XB, i64_succ rank (by omega)]
   exact hK _ fun f => ⟨V5, H5, G5, rank + 1, odd4, StIs.of (by exact rfl), View.le_trans hV3 (View.le_trans hV4 hV5), fun k r hk hr' => hoff5 k r hk (hoff4 k r hk hr'), hM5, hE4.trans hE5, hS5.done hr, hQ5⟩
  rintro s ⟨V3, H3, G3, rank3, odd3, hs, hV3, hoff3, hM3, hE3, hS3, hQ3⟩
  obtain ⟨z, rfl⟩ := hs.out
  try dsimp only
  clear hs
  refine Gx.c (by kernel_rfl) fun K hK => ?_
  simp only [XA, XB, i64_succ col (by omega)]
  exact hK _ ⟨m - 1, by omega, fun f => ⟨col + 1, V3, H3, G3, rank3, odd3, StIs.of (by exact rfl), by omega, View.le_trans hV2 hV3, fun k r hk hr' => hoff3 k r hk (hoff k r hk hr'), hM3, hE.trans hE3, hS3, hQ3⟩⟩
 rintro s ⟨V2, H2, G, rank, odd, hs, hV2, hoff, hM, hR'⟩
 obtain ⟨z, rfl⟩ := hs.out
 try dsimp only
 refine Gx.a (by kernel_rfl) fun K hK => ?_
 simp only [XA]
 refine hK _ (XWP.ret ?_)
 try simp only [thenX_ret, inBlockX_ret]
 exact retM_go _ rfl ⟨rank, odd, G, rfl, View.le_trans hle hV2, fun k r hk hkr => hoff k r hk (hoff0 k r hkr), hM, hR'⟩
def augG (A B : Grid) (n : Nat) : Grid := fun i k => if k < n then A i k else B i (k - n)
theorem solved1_c (V : View) (b6 b2 b3 e6 e2 e3 n m i k : Nat) (sa sb : Value) (la lb : List Rat) (h6 : V b6 = some (.cells ([.int .i64 (n : Int)] : List Value).toArray e6 (0, 0))) (h2 : V b2 = some (.cells ([.int .i64 (n : Int), .int .i64 (n : Int), sa] : List Value).toArray e2 (0, 0)))
  (h3 : V b3 = some (.cells ([.int .i64 (n : Int), .int .i64 (m : Int), sb] : List Value).toArray e3 (0, 0))) (ha : Rats V sa la) (hb : Rats V sb lb) (lla : la.length = n * n) (llb : lb.length = n * m) (hn : n ≤ 500) (hm : m ≤ 500) (hi : i < n) (hk : k < n + m) (hq : ∀ x ∈ la, QF x) (hq' : ∀ x ∈ lb, QF x) :
  Spec Tryz.prog 161 [.int .i64 (i : Int), .int .i64 (k : Int), .pointer (some ⟨b6, 0, none⟩), .pointer (some ⟨b2, 0, none⟩), .pointer (some ⟨b3, 0, none⟩)] V fun v' V' => RatC V' v' (augG (gridL la n) (gridL lb m) n i k) := by
 have hnn : n * n ≤ 250000 := Nat.le_trans (Nat.mul_le_mul hn hn) (by decide)
 have hnm : n * m ≤ 250000 := Nat.le_trans (Nat.mul_le_mul hn hm) (by decide)
 obtain ⟨A1, c1, rfl, hc1, hm1⟩ := ha.form
 obtain ⟨A2, c2, rfl, hc2, hm2⟩ := hb.form
 refine (Spec.enter Tryz.func161 rfl fun Γ => ?_)
 simp only [Tryz.ntmps161, List.map_cons, List.map_nil, List.length_cons, List.length_nil, Nat.reduceAdd, Nat.reduceSub, List.replicate_succ, List.replicate_zero, List.cons_append, List.nil_append]
 refine Gx.a (by kernel_rfl) fun K hK => ?_
 simp only [XA, XB]
 refine hK _ ?_
 refine XWP.seq ?_
 by_cases hkn : k < n
 ·have b1 : decide ((k : Int) < (n : Int)) = true := decide_eq_true (by omega)
  have hp := pos_lt hi hkn
  have w1 := wr_mul (i := i) (C := n) (by omega) (by omega)
  have w2 := wr_add (p := i * n) (k := k) (by omega) (by omega)
  obtain ⟨b, o, rfl⟩ := SlAt.addr ha (by omega)
  obtain ⟨x, y, z, hx, ⟨o1, o2, o3⟩, hld⟩ := Rats.get ha (i * n + k) (by omega)
  refine Gx.a (by kernel_rfl) fun K hK => ?_
  simp only [XA]
  refine ld_mem (ldV1 h6 (off := 0) rfl shapeT_3 _) ?_
  simp only [XA, XB, b1]
  refine hK _ ?_
  refine Gx.t rfl ?_
  refine Gx.a (by kernel_rfl) fun K hK => ?_
  simp only [XM, XA]
  refine ld_mem (ldV1 h2 (off := 2) rfl shapeT_22 _) ?_
  simp only [XA]
  refine ld_mem (ldV1 h6 (off := 0) rfl shapeT_3 _) ?_
  simp only [XA, XB, w1, w2]
  refine ⟨by omega, by omega, ?_⟩
  refine ld_mem (hld _) ?_
  simp only [XA]
  refine call_go (by kernel_rfl) rfl (copied_c _ _ _ hx (hq _ (cf_mem (by omega)))) fun v1 V1 hV1 h1 => ?_
  obtain ⟨x1, y1, rfl, p1, p2⟩ := h1.form
  simp only [XA]
  refine st_rat rfl rfl rfl p1 p2 ?_
  simp only [XA]
  refine hK _ (XWP.ret ?_)
  try simp only [thenX_ret, inBlockX_ret]
  refine ret_rat1 rfl rfl rfl ?_
  unfold augG
  rw [if_pos hkn]; exact h1
 have b1 : decide ((k : Int) < (n : Int)) = false := decide_eq_false (by omega)
 have hp := pos_lt hi (show k - n < m by omega)
 have w1 := wr_mul (i := i) (C := m) (by omega) (by omega)
 have w2 := wr_add (p := i * m) (k := k) (by omega) (by omega)
 have w3 := i64_sub (i * m + k) n (by omega) (by omega)
 have e4 : i * m + k - n = i * m + (k - n) := by omega
 rw [e4] at w3
 obtain ⟨b, o, rfl⟩ := SlAt.addr hb (by omega)
 obtain ⟨x, y, z, hx, ⟨o1, o2, o3⟩, hld⟩ := Rats.get hb (i * m + (k - n)) (by omega)
 refine Gx.a (by kernel_rfl) fun K hK => ?_
 simp only [XA]
 refine ld_mem (ldV1 h6 (off := 0) rfl shapeT_3 _) ?_
 simp only [XA, XB, b1]
 refine hK _ ?_
 refine Gx.f rfl ?_
 refine XWP.skip ?_
 refine Gx.a (by kernel_rfl) fun K hK => ?_
 simp only [XM, XA]
 refine ld_mem (ldV1 h3 (off := 2) rfl shapeT_22 _) ?_
 simp only [XM, XA]
 refine ld_mem (ldV1 h3 (off := 1) rfl shapeT_3 _) ?_
 simp only [XA, XB, w1, w2]
 refine ld_mem (ldV1 h6 (off := 0) rfl shapeT_3 _) ?_
 simp only [XA, XB, w3]
 refine ⟨by omega, by omega, ?_⟩
 refine ld_mem (hld _) ?_
 simp only [XA]
 refine call_go (by kernel_rfl) rfl (copied_c _ _ _ hx (hq' _ (cf_mem (by omega)))) fun v1 V1 hV1 h1 => ?_
 obtain ⟨x1, y1, rfl, p1, p2⟩ := h1.form
 simp only [XA]
 refine st_rat rfl rfl rfl p1 p2 ?_
 simp only [XA]
 refine hK _ (XWP.ret ?_)
 try simp only [thenX_ret, inBlockX_ret]
 refine ret_rat1 rfl rfl rfl ?_
 unfold augG
 rw [if_neg hkn]; exact h1
theorem solved2_c (V : View) (b7 b6 e7 e6 n m i k : Nat) (s : Value) (G : Grid) (h7 : V b7 = some (.cells ([.int .i64 (n : Int), .int .i64 ((n + m : Nat) : Int), s] : List Value).toArray e7 (0, 0))) (h6 : V b6 = some (.cells ([.int .i64 (n : Int)] : List Value).toArray e6 (0, 0)))
  (hs : Rats V s (flatG G n (n + m))) (hn : n ≤ 500) (hm : m ≤ 500) (hi : i < n) (hk : k < m) (hd : G i i ≠ 0) (hq : ∀ i k, i < n → k < n + m → QF (G i k)) :
  Spec Tryz.prog 165 [.int .i64 (i : Int), .int .i64 (k : Int), .pointer (some ⟨b7, 0, none⟩), .pointer (some ⟨b6, 0, none⟩)] V fun v' V' => RatC V' v' (G i (n + k) / G i i) := by
 have hnn : n * (n + m) ≤ 1000000 := Nat.le_trans (Nat.mul_le_mul hn (show n + m ≤ 1000 by omega)) (by decide)
 have hll := flatG_len G n (n + m)
 have hp1 := pos_lt (C := n + m) hi (show n + k < n + m by omega)
 have hp2 := pos_lt (C := n + m) hi (show i < n + m by omega)
 have g1 := flatG_at G (C := n + m) hi (show n + k < n + m by omega)
 have g2 := flatG_at G (C := n + m) hi (show i < n + m by omega)
 have w1 := wr_mul (i := i) (C := n + m) (by omega) (by omega)
 have w2 := wr_add (p := i * (n + m)) (k := n) (by omega) (by omega)
 have w3 := wr_add (p := i * (n + m) + n) (k := k) (by omega) (by omega)
 have w4 := wr_add (p := i * (n + m)) (k := i) (by omega) (by omega)
 rw [Nat.add_assoc] at w3
 obtain ⟨A1, c1, rfl, hc1, hm1⟩ := hs.form
 obtain ⟨b, o, rfl⟩ := SlAt.addr hs (by omega)
 obtain ⟨x, y, z, hx, ⟨o1, o2, o3⟩, hld⟩ := Rats.get hs (i * (n + m) + (n + k)) (by omega)
 obtain ⟨x', y', z', hx', ⟨o1', o2', o3'⟩, hld'⟩ := Rats.get hs (i * (n + m) + i) (by omega)
 rw [g1] at hx
 rw [g2] at hx'
 refine (Spec.enter Tryz.func165 rfl fun Γ => ?_)
 simp only [Tryz.ntmps165, List.map_cons, List.map_nil, List.length_cons, List.length_nil, Nat.reduceAdd, Nat.reduceSub, List.replicate_succ, List.replicate_zero, List.cons_append, List.nil_append]
 refine Gx.a (by kernel_rfl) fun K hK => ?_
 simp only [XA, XB]
 refine hK _ ?_
 refine XWP.cut (fun s => ∃ (V5 : View) (x1 y1 : Value), StIs (fun Z => [Z 0,Z 1,Z 2,Z 3,Z 4,Z 5, .p 0 0, .p 1 0, Z 8,Z 9,Z 10,Z 11,Z 12,Z 13,Z 14,Z 15,Z 16,Z 17,Z 18,Z 19,Z 20,Z 21,Z 22,Z 23,Z 24,Z 25,Z 26,Z 27,Z 28,Z 29,Z 30,Z 31,Z 32,Z 33,Z 34,Z 35]) [[.bool false, .slice none 0 0, .slice none 0 0], [.bool (ng (G i (n + k) / G i i)), x1, y1]] (fun _ => none) V5 s ∧ RatC V5 (.agg #[.bool (ng (G i (n + k) / G i i)), x1, y1]) (G i (n + k) / G i i) ∧ isOne x1 = true ∧ isOne y1 = true) ?_ ?_
 ·(refine XWP.drwT1 (.lin [0, 1, 2, 3, 4, 5, 6, 7, 8, 9, 10, 11, 12, 13, 14, 15, 16, 17, 18, 19, 20, 21] (.two (.lin [22, 23, 24, 25, 26, 27, 28] .nil) (.lin [26, 22, 23, 24, 25, 27, 28] .nil))) (by kernel_rfl) (by kernel_rfl) (by kernel_rfl) fun K hK => ?_)
  simp only [XM, XA]
  refine ld_mem (ldV1 h7 (off := 2) rfl shapeT_22 _) ?_
  simp only [XM, XA]
  refine ld_mem (ldV1 h7 (off := 1) rfl shapeT_3 _) ?_
  simp only [XA, XB, w1]
  refine ld_mem (ldV1 h6 (off := 0) rfl shapeT_3 _) ?_
  simp only [XA, XB, w2, w3]
  refine ⟨by omega, by omega, ?_⟩
  refine ld_mem (hld _) ?_
  simp only [XM, XA]
  refine ld_mem (ldV1 h7 (off := 2) rfl shapeT_22 _) ?_
  simp only [XM, XA]
  refine ld_mem (ldV1 h7 (off := 1) rfl shapeT_3 _) ?_
  simp only [XA, XB, w1, w4]
  refine ⟨by omega, by omega, ?_⟩
  refine ld_mem (hld' _) ?_
  simp only [XA, XB]
  refine And.intro ?_ ?_
  all_goals refine call_go (by kernel_rfl) rfl (qdiv_c _ _ _ _ _ hx hx' (hq _ _ hi (by omega)) (hq _ _ hi (by omega))) fun v9 V9 hV9 h9 => ?_
  all_goals obtain ⟨x7, rfl, hx7⟩ := h9.2 hd
  all_goals obtain ⟨x9, y9, rfl, ox, oy⟩ := hx7.form
  all_goals simp only [XA, XB]
  all_goals refine st_rat rfl rfl rfl ox oy ?_
  all_goals simp only [XA]
  all_goals exact hK _ ⟨V9, x9, y9, StIs.of (by exact rfl), hx7, ox, oy⟩
 rintro s ⟨V5, x1, y1, hs5, h5, p1, p2⟩
 obtain ⟨z, rfl⟩ := hs5.out
 try dsimp only
 refine Gx.a (by kernel_rfl) fun K hK => ?_
 simp only [XA, XB, Nat.reduceAdd, Nat.reduceLeDiff, ↓reduceIte]
 refine st_rat rfl rfl rfl p1 p2 ?_
 simp only [XA]
 refine hK _ (XWP.ret ?_)
 try simp only [thenX_ret, inBlockX_ret]
 exact ret_rat1 rfl rfl rfl h5
end Go.Proofs.YthoboehbadmlmaaGreat
end
