/- The law RecurLong of the program answers true at every input. (part 9 of 12) -/
import Derived.OrdersHeld
import Derived.Below
import Derived.Tactics
import Derived.KernelRfl
import Derived.RangeFuncCalls
import Derived.RangeFuncFrom
import Derived.RangeFuncLeaves
import Derived.OrdersIn
import Derived.Laws.AppendOwn
import Derived.Laws.MakeOwn
import Derived.Laws.CopyRow
import Derived.Laws.Cells
import Derived.Laws.World
import Derived.Laws.Alloc2
import Derived.Laws.NewBlocks
import Derived.Maps.AppendAt
import Derived.Test.YthoboehbadmlmaaProg
import Init.Data.List.Lemmas
import Init.Omega
import Derived.WalkKit
import Derived.ProofKit
import Derived.OpenShut
import Derived.ChangeOld
import Derived.SizedLaws
import Derived.ChangeSlices
import Derived.ChangeArms
import Derived.Deep.Slices
import Derived.Test.YthoboehbadmlmaaLO8
section
namespace Go.Proofs.Ythoboehbadmlmaa
set_option linter.unusedVariables false
set_option linter.unusedSimpArgs false
def nxS (all a : List Rat) : Nat → Rat
  | 0 => 0
  | j + 1 => nxS all a j + cf a j * cf all (all.length - 1 - j)
def nxI (l a : List Rat) : Nat → List Rat
  | 0 => l
  | k + 1 => nxI l a k ++ [nxS (nxI l a k) a a.length]
def nextP (l a : List Rat) (n : Nat) : List Rat := (nxI l a n).drop l.length
theorem nxI_len (l a : List Rat) (n : Nat) : (nxI l a n).length = l.length + n := by
  induction n with
  | zero => rfl
  | succ n ih => rw [nxI, List.length_append, ih]; simp; omega
theorem nextP_len (l a : List Rat) (n : Nat) : (nextP l a n).length = n := by unfold nextP; rw [List.length_drop, nxI_len]; omega
theorem nxI_take (l a : List Rat) {k n : Nat} (h : k ≤ n) : (nxI l a n).take (l.length + k) = nxI l a k := by
  induction n with
  | zero => rw [show k = 0 by omega]; exact List.take_of_length_le (by rw [nxI_len]; omega)
  | succ n ih =>
    rcases Nat.eq_or_lt_of_le h with h1 | h1
    · rw [h1]; exact List.take_of_length_le (by rw [nxI_len]; omega)
    · rw [nxI, List.take_append_of_le_length (by rw [nxI_len]; omega)]
      exact ih (by omega)
theorem Over.nxs {D E A B : Nat} {all a : List Rat} (hD : 0 < D) (hE : 0 < E) (hl : ∀ i, Over D A (cf all i)) (hq : ∀ i, Over E B (cf a i)) (e : Nat) : ∀ k, k ≤ 2 ^ e → Over (D * E) (A + B + e) (nxS all a k) := by
  have key : ∀ m k, k ≤ 2 ^ m → ∀ s, Over (D * E) (A + B + m) (Sm (fun j => cf a (s + j) * cf all (all.length - 1 - (s + j))) k) := by
    intro m
    induction m with
    | zero =>
      intro k hk s
      have : k = 0 ∨ k = 1 := by omega
      rcases this with rfl | rfl
      · exact Over.zero _ _
      · have h := (hl (all.length - 1 - (s + 0))).mul (hq (s + 0))
        have e1 : Sm (fun j => cf a (s + j) * cf all (all.length - 1 - (s + j))) 1 = cf all (all.length - 1 - (s + 0)) * cf a (s + 0) := by
          simp only [Sm]; grind
        rw [e1]; exact h
    | succ m ih =>
      intro k hk s
      have h1 := ih (min k (2 ^ m)) (Nat.min_le_right _ _) s
      have h2 := ih (k - 2 ^ m) (by rw [Nat.pow_succ] at hk; omega) (s + min k (2 ^ m))
      have h3 := h1.add (Nat.mul_pos hD hE) h2
      have e1 : ∀ (f : Nat → Rat) (x y : Nat), Sm f (x + y) = Sm f x + Sm (fun j => f (x + j)) y := by
        intro f x y
        induction y with
        | zero => simp only [Sm, Nat.add_zero]; grind
        | succ y ih => rw [← Nat.add_assoc]; simp only [Sm, ih]; grind
      have e2 := e1 (fun j => cf a (s + j) * cf all (all.length - 1 - (s + j))) (min k (2 ^ m)) (k - 2 ^ m)
      rw [show min k (2 ^ m) + (k - 2 ^ m) = k by omega] at e2
      have e3 : (fun j => cf a (s + (min k (2 ^ m) + j)) * cf all (all.length - 1 - (s + (min k (2 ^ m) + j)))) = fun j => cf a (s + min k (2 ^ m) + j) * cf all (all.length - 1 - (s + min k (2 ^ m) + j)) := by
        funext j; rw [Nat.add_assoc]
      rw [e3] at e2
      rw [e2]; exact h3
  intro k hk
  have e1 : ∀ k, nxS all a k = Sm (fun j => cf a (0 + j) * cf all (all.length - 1 - (0 + j))) k := by
    intro k
    induction k with
    | zero => rfl
    | succ k ih => simp only [nxS, Sm, ih, Nat.zero_add]
  rw [e1]; exact key e k hk 0
theorem nxS_QB {C B e : Nat} {all a : List Rat} (hl : CB C all) (ha : CB B a) {k : Nat} (hk : k ≤ 2 ^ e) : QB (C + B + e) (nxS all a k) := by
  obtain ⟨D, d1, d2, d3⟩ := hl
  obtain ⟨E, e1, e2, e3⟩ := ha
  exact (Over.nxs d1 e1 d3 e3 e k hk).qb (Nat.le_trans (two_mul_le d2 e2) (two_mono (by omega)))
end Go.Proofs.Ythoboehbadmlmaa
end
section
namespace Go.Proofs.Ythoboehbadmlmaa
set_option linter.unusedVariables false
set_option linter.unusedSimpArgs false
end Go.Proofs.Ythoboehbadmlmaa
end
section
namespace Go.Proofs.Ythoboehbadmlmaa
set_option linter.unusedVariables false
set_option linter.unusedSimpArgs false
theorem cf_take (l : List Rat) (k i : Nat) : cf (l.take k) i = if i < k then cf l i else 0 := by
  by_cases hi : i < k
  · rw [if_pos hi]; unfold cf; simp [hi]
  · rw [if_neg hi]; exact cf_none (by simp; omega)
theorem cv_front (q y : Nat → Rat) (i : Nat) : cv q y i = q 0 * y i + Sm (fun j => q (j + 1) * y (i - (j + 1))) i := by
  unfold cv
  rw [Sm_front]; rfl
/-- the sum behind a number of the series -/
def serT (p q out : List Rat) (i : Nat) : Nat → Rat
  | 0 => cf p i
  | j + 1 => serT p q out i j - cf q (j + 1) * cf out (i - (j + 1))
def serI (p q : List Rat) : Nat → List Rat
  | 0 => []
  | k + 1 => serI p q k ++ [serT p q (serI p q k) k (min (q.length - 1) k) / cf q 0]
theorem serI_len (p q : List Rat) (n : Nat) : (serI p q n).length = n := by
  induction n with
  | zero => rfl
  | succ n ih => rw [serI, List.length_append, ih]; rfl
theorem serI_take (p q : List Rat) {k n : Nat} (h : k ≤ n) : (serI p q n).take k = serI p q k := by
  induction n with
  | zero => rw [show k = 0 by omega]; rfl
  | succ n ih =>
    rcases Nat.eq_or_lt_of_le h with h1 | h1
    · rw [h1]; exact List.take_of_length_le (by rw [serI_len]; omega)
    · rw [serI, List.take_append_of_le_length (by rw [serI_len]; omega)]
      exact ih (by omega)
theorem serT_Sm (p q out : List Rat) (i k : Nat) : serT p q out i k = cf p i - Sm (fun j => cf q (j + 1) * cf out (i - (j + 1))) k := by
  induction k with
  | zero => simp only [serT, Sm]; grind
  | succ k ih => simp only [serT, Sm, ih]; grind
theorem ser_of {p q y : List Rat} (h0 : cf q 0 ≠ 0) (h : ∀ i, i < y.length → cv (cf q) (cf y) i = cf p i) : serI p q y.length = y := by
  have key : ∀ k, k ≤ y.length → serI p q k = y.take k := by
    intro k
    induction k with
    | zero => intro _; rfl
    | succ k ih =>
      intro hk
      rw [serI, ih (by omega), takeQ_snoc (by omega)]
      congr 2
      have h1 := h k (by omega)
      rw [cv_front] at h1
      have e : serT p q (y.take k) k (min (q.length - 1) k) = cf q 0 * cf y k := by
        rw [serT_Sm]
        have e1 : Sm (fun j => cf q (j + 1) * cf (y.take k) (k - (j + 1))) (min (q.length - 1) k) = Sm (fun j => cf q (j + 1) * cf y (k - (j + 1))) k := by
          rw [← Sm_more (Nat.min_le_right (q.length - 1) k) fun j h1 h2 => by rw [cf_none (l := q) (by omega)]; grind]
          exact Sm_congr _ fun j hj => by rw [cf_take, if_pos (by omega)]
        rw [e1]; grind
      rw [e, Rat.mul_comm, Rat.div_def, Rat.mul_assoc, Rat.mul_inv_cancel _ h0, Rat.mul_one]
  rw [key _ (Nat.le_refl _), List.take_length]
end Go.Proofs.Ythoboehbadmlmaa
end
section
namespace Go.Proofs.Ythoboehbadmlmaa
end Go.Proofs.Ythoboehbadmlmaa
end
section
namespace Go.Proofs.Ythoboehbadmlmaa
/-- none of k numbers is below 0 -/
def nnB (l : List Rat) (off : Nat) : Nat → Bool
  | 0 => true
  | k + 1 => nnB l off k && !ng (cf l (off + k))
/-- a number and k numbers more -/
def rS (l : List Rat) (off : Nat) (b : Rat) : Nat → Rat
  | 0 => b
  | k + 1 => rS l off b k + cf l (off + k)
theorem nnB_le {l : List Rat} {off m : Nat} (h : nnB l off m = true) : ∀ k, k ≤ m → nnB l off k = true := by
  induction m with
  | zero => intro k hk; rw [show k = 0 by omega]; rfl
  | succ m ih =>
    intro k hk
    rw [nnB, Bool.and_eq_true] at h
    rcases Nat.eq_or_lt_of_le hk with e | e
    · rw [e, nnB, Bool.and_eq_true]; exact h
    · exact ih h.1 k (by omega)
theorem nnB_get {l : List Rat} {off m : Nat} (h : nnB l off m = true) (k : Nat) (hk : k < m) : ng (cf l (off + k)) = false := by
  have := nnB_le h (k + 1) (by omega)
  rw [nnB, Bool.and_eq_true] at this
  simpa using this.2
theorem rS_over {A D : Nat} {l : List Rat} (hD : 0 < D) (h : ∀ i, Over D A (cf l i)) (off : Nat) : ∀ k, Over D (A + k) (rS l off 0 k)
  | 0 => Over.zero _ _
  | k + 1 => by
    have := (rS_over hD h off k).add hD ((h (off + k)).mono (show A ≤ A + k by omega))
    exact this
theorem rS_base (l : List Rat) (off : Nat) (b : Rat) (k : Nat) : rS l off b k = b + rS l off 0 k := by
  induction k with
  | zero => simp only [rS]; grind
  | succ k ih => simp only [rS, ih]; grind
theorem rS_QB {A B : Nat} {l : List Rat} {b : Rat} (h : CB A l) (hb : QB B b) (off k : Nat) : QB (B + (A + k) + 1) (rS l off b k) := by
  obtain ⟨D, d1, d2, d3⟩ := h
  rw [rS_base]
  exact hb.add ((rS_over d1 d3 off k).qb (Nat.le_trans d2 (two_mono (by omega))))
def rowB (n m : Nat) (M E : List Rat) (i : Nat) : Bool := nnB M (i * n) n && nnB E (i * m) m && decide (rS E (i * m) (rS M (i * n) 0 n) m = 1)
def rowsB (n m : Nat) (M E : List Rat) : Nat → Bool
  | 0 => true
  | i + 1 => rowsB n m M E i && rowB n m M E i
theorem rowsB_bad {n m : Nat} {M E : List Rat} {i k : Nat} (h : rowB n m M E i = false) (hi : i < k) : rowsB n m M E k = false := by
  induction k with
  | zero => omega
  | succ k ih =>
    rw [rowsB]
    rcases Nat.eq_or_lt_of_le hi with e | e
    · rw [show i = k by omega] at h
      rw [h, Bool.and_false]
    · rw [ih (by omega), Bool.false_and]
theorem rowsB_get {n m : Nat} {M E : List Rat} {k : Nat} (h : rowsB n m M E k = true) (i : Nat) (hi : i < k) : rowB n m M E i = true := by
  cases hb : rowB n m M E i
  · rw [rowsB_bad hb hi] at h; cases h
  · rfl
/-- a row times a matrix of c columns -/
def tS (a M : List Rat) (c k : Nat) : Nat → Rat
  | 0 => 0
  | i + 1 => tS a M c k i + cf a i * cf M (i * c + k)
def thr (a M : List Rat) (c : Nat) : List Rat := mk c fun k => tS a M c k a.length
theorem thr_len (a M : List Rat) (c : Nat) : (thr a M c).length = c := mk_len _ _
theorem tS_over {A B D E : Nat} {a M : List Rat} (hD : 0 < D) (hE : 0 < E) (ha : ∀ i, Over D A (cf a i)) (hM : ∀ i, Over E B (cf M i)) (c k : Nat) : ∀ i, Over (D * E) (A + B + i) (tS a M c k i)
  | 0 => Over.zero _ _
  | i + 1 => by
    have h1 := (ha i).mul (hM (i * c + k))
    have := (tS_over hD hE ha hM c k i).add (Nat.mul_pos hD hE) (h1.mono (show A + B ≤ A + B + i by omega))
    exact this
theorem tS_QB {A B : Nat} {a M : List Rat} (ha : CB A a) (hM : CB B M) (c k i : Nat) : QB (A + B + i) (tS a M c k i) := by
  obtain ⟨D, d1, d2, d3⟩ := ha
  obtain ⟨E, e1, e2, e3⟩ := hM
  exact (tS_over d1 e1 d3 e3 c k i).qb (Nat.le_trans (two_mul_le d2 e2) (two_mono (by omega)))
theorem thr_CB {A B : Nat} {a M : List Rat} (ha : CB A a) (hM : CB B M) (c : Nat) : CB (A + B + a.length) (thr a M c) := by
  obtain ⟨D, d1, d2, d3⟩ := ha
  obtain ⟨E, e1, e2, e3⟩ := hM
  refine ⟨D * E, Nat.mul_pos d1 e1, Nat.le_trans (two_mul_le d2 e2) (two_mono (by omega)), fun i => ?_⟩
  unfold thr
  rw [cf_mk]
  split
  · exact tS_over d1 e1 d3 e3 c i a.length
  · exact Over.zero _ _
/-- numbers not below 0 -/
theorem ng_iff (q : Rat) : ng q = false ↔ 0 ≤ q := by
  unfold ng
  rw [decide_eq_false_iff_not]
  rw [Int.not_lt]; exact Rat.num_nonneg
theorem tS_nn {a M : List Rat} {c : Nat} (k : Nat) : ∀ i, (∀ j, j < i → 0 ≤ cf a j) → (∀ j, j < i → 0 ≤ cf M (j * c + k)) → 0 ≤ tS a M c k i
  | 0, _, _ => Rat.le_refl
  | i + 1, ha, hM => by
    have h1 := tS_nn (a := a) (M := M) (c := c) k i (fun j hj => ha j (by omega)) (fun j hj => hM j (by omega))
    have h2 := Rat.mul_nonneg (ha i (by omega)) (hM i (by omega))
    exact Rat.add_nonneg h1 h2
end Go.Proofs.Ythoboehbadmlmaa
end
section
namespace Go.Proofs.Ythoboehbadmlmaa
theorem XM : type_of% (And.intro (And.intro (And.intro (And.intro (@shapeT_61) (And.intro (@zeroT_61) (@fieldT_61_0))) (And.intro (@fieldT_61_1) (And.intro (@fieldT_61_2) (@shapeT_63)))) (And.intro (And.intro (@zeroT_63) (And.intro (@fieldT_63_0) (@fieldT_63_1))) (And.intro (@shapeT_68) (And.intro (@zeroT_68) (@fieldT_68_0))))) (And.intro (And.intro (And.intro (@fieldT_68_1) (And.intro (@fieldT_68_2) (@shapeT_70))) (And.intro (@zeroT_70) (And.intro (@fieldT_70_0) (@fieldT_70_1)))) (And.intro (And.intro (@elemT_137) (And.intro (@kindT_137) (@shapeT_137))) (And.intro (@elemT_142) (And.intro (@kindT_142) (@shapeT_142)))))) := And.intro (And.intro (And.intro (And.intro (@shapeT_61) (And.intro (@zeroT_61) (@fieldT_61_0))) (And.intro (@fieldT_61_1) (And.intro (@fieldT_61_2) (@shapeT_63)))) (And.intro (And.intro (@zeroT_63) (And.intro (@fieldT_63_0) (@fieldT_63_1))) (And.intro (@shapeT_68) (And.intro (@zeroT_68) (@fieldT_68_0))))) (And.intro (And.intro (And.intro (@fieldT_68_1) (And.intro (@fieldT_68_2) (@shapeT_70))) (And.intro (@zeroT_70) (And.intro (@fieldT_70_0) (@fieldT_70_1)))) (And.intro (And.intro (@elemT_137) (And.intro (@kindT_137) (@shapeT_137))) (And.intro (@elemT_142) (And.intro (@kindT_142) (@shapeT_142)))))
end Go.Proofs.Ythoboehbadmlmaa
end
section
namespace Go.Proofs.Ythoboehbadmlmaa
open Go Go.RowKit
set_option linter.unusedSimpArgs false
set_option linter.unusedVariables false
attribute [local irreducible] XWP Spec SpecO XPub XCall seqX clX apX stX ldX iaX slX
def matR (r c : Int) (L : List Raw) : Bool := decide (0 ≤ r ∧ r ≤ 60 ∧ 0 ≤ c ∧ c ≤ 60 ∧ (L.length : Int) = r * c) && okR L
theorem mul60 {r c : Int} (h1 : 0 ≤ r) (h2 : r ≤ 60) (h3 : 0 ≤ c) (h4 : c ≤ 60) : 0 ≤ r * c ∧ r * c ≤ 3600 :=
  ⟨Int.mul_nonneg h1 h3, Int.le_trans (Int.mul_le_mul h2 h4 h3 (by omega)) (by omega)⟩
theorem matR_bad {r c : Int} {L : List Raw} (h : ¬ (0 ≤ r ∧ r ≤ 60 ∧ 0 ≤ c ∧ c ≤ 60 ∧ (L.length : Int) = r * c)) : matR r c L = false := by unfold matR; rw [decide_eq_false h]; rfl
theorem cmright_c (V : View) (s : Value) (r c : Int) (l : List Raw) (h : Raws V s l) (f : fitR l) (ll : l.length ≤ 1000000) : Spec Try.prog 119 [.agg #[.int .i64 r, .int .i64 c, s]] V fun v' V' => v' = .bool (matR r c l) := by
  obtain ⟨A, cp, rfl, hc, hm⟩ := h.form
  refine (Spec.enter Try.func119 rfl fun Γ => ?_)
  simp only [Try.ntmps119, List.map_cons, List.map_nil, List.length_cons, List.length_nil, Nat.reduceAdd, Nat.reduceSub, List.replicate_succ, List.replicate_zero, List.cons_append, List.nil_append]
  first | refine Gx.a (by kernel_rfl) fun K hK => ?_ | refine Gx.b (by kernel_rfl) fun K hK => ?_ | refine Gx.c (by kernel_rfl) fun K hK => ?_
  simp only [XM, XA, XB, gateX, Nat.reduceAdd, Nat.reduceLeDiff, Nat.reduceSub, Nat.reduceMul, ↓reduceIte, Int.reduceToNat, Int.reduceLE, beq_self_eq_true]
  refine hK _ ?_
  refine XWP.seq ?_
  by_cases d1 : r < 0
  · have b1 : decide (r < 0) = true := decide_eq_true d1
    have e := matR_bad (r := r) (c := c) (L := l) (by omega)
    first | refine Gx.a (by kernel_rfl) fun K hK => ?_ | refine Gx.b (by kernel_rfl) fun K hK => ?_ | refine Gx.c (by kernel_rfl) fun K hK => ?_
    simp only [XM, XA, XB, gateX, Nat.reduceAdd, Nat.reduceLeDiff, Nat.reduceSub, Nat.reduceMul, ↓reduceIte, Int.reduceToNat, Int.reduceLE, beq_self_eq_true, b1]
    refine hK _ ?_
    first | refine Gx.t rfl ?_ | refine XWP.seq (Gx.t rfl ?_)
    first | refine Gx.a (by kernel_rfl) fun K hK => ?_ | refine Gx.b (by kernel_rfl) fun K hK => ?_ | refine Gx.c (by kernel_rfl) fun K hK => ?_
    simp only [XM, XA, XB, gateX, Nat.reduceAdd, Nat.reduceLeDiff, Nat.reduceSub, Nat.reduceMul, ↓reduceIte, Int.reduceToNat, Int.reduceLE, beq_self_eq_true]
    refine hK _ (XWP.ret ?_)
    try simp only [thenX_ret, inBlockX_ret]
    refine ret_go _ rfl ?_
    rw [e]; rfl
  have b1 : decide (r < 0) = false := decide_eq_false d1
  by_cases d2 : 60 < r
  · have b2 : decide (60 < r) = true := decide_eq_true d2
    have e := matR_bad (r := r) (c := c) (L := l) (by omega)
    first | refine Gx.a (by kernel_rfl) fun K hK => ?_ | refine Gx.b (by kernel_rfl) fun K hK => ?_ | refine Gx.c (by kernel_rfl) fun K hK => ?_
    simp only [XM, XA, XB, gateX, Nat.reduceAdd, Nat.reduceLeDiff, Nat.reduceSub, Nat.reduceMul, ↓reduceIte, Int.reduceToNat, Int.reduceLE, beq_self_eq_true, b1, b2]
    refine hK _ ?_
    first | refine Gx.t rfl ?_ | refine XWP.seq (Gx.t rfl ?_)
    first | refine Gx.a (by kernel_rfl) fun K hK => ?_ | refine Gx.b (by kernel_rfl) fun K hK => ?_ | refine Gx.c (by kernel_rfl) fun K hK => ?_
    simp only [XM, XA, XB, gateX, Nat.reduceAdd, Nat.reduceLeDiff, Nat.reduceSub, Nat.reduceMul, ↓reduceIte, Int.reduceToNat, Int.reduceLE, beq_self_eq_true]
    refine hK _ (XWP.ret ?_)
    try simp only [thenX_ret, inBlockX_ret]
    refine ret_go _ rfl ?_
    rw [e]; rfl
  have b2 : decide (60 < r) = false := decide_eq_false d2
  by_cases d3 : c < 0
  · have b3 : decide (c < 0) = true := decide_eq_true d3
    have e := matR_bad (r := r) (c := c) (L := l) (by omega)
    first | refine Gx.a (by kernel_rfl) fun K hK => ?_ | refine Gx.b (by kernel_rfl) fun K hK => ?_ | refine Gx.c (by kernel_rfl) fun K hK => ?_
    simp only [XM, XA, XB, gateX, Nat.reduceAdd, Nat.reduceLeDiff, Nat.reduceSub, Nat.reduceMul, ↓reduceIte, Int.reduceToNat, Int.reduceLE, beq_self_eq_true, b1, b2, b3]
    refine hK _ ?_
    first | refine Gx.t rfl ?_ | refine XWP.seq (Gx.t rfl ?_)
    first | refine Gx.a (by kernel_rfl) fun K hK => ?_ | refine Gx.b (by kernel_rfl) fun K hK => ?_ | refine Gx.c (by kernel_rfl) fun K hK => ?_
    simp only [XM, XA, XB, gateX, Nat.reduceAdd, Nat.reduceLeDiff, Nat.reduceSub, Nat.reduceMul, ↓reduceIte, Int.reduceToNat, Int.reduceLE, beq_self_eq_true]
    refine hK _ (XWP.ret ?_)
    try simp only [thenX_ret, inBlockX_ret]
    refine ret_go _ rfl ?_
    rw [e]; rfl
  have b3 : decide (c < 0) = false := decide_eq_false d3
  by_cases d4 : 60 < c
  · have b4 : decide (60 < c) = true := decide_eq_true d4
    have e := matR_bad (r := r) (c := c) (L := l) (by omega)
    first | refine Gx.a (by kernel_rfl) fun K hK => ?_ | refine Gx.b (by kernel_rfl) fun K hK => ?_ | refine Gx.c (by kernel_rfl) fun K hK => ?_
    simp only [XM, XA, XB, gateX, Nat.reduceAdd, Nat.reduceLeDiff, Nat.reduceSub, Nat.reduceMul, ↓reduceIte, Int.reduceToNat, Int.reduceLE, beq_self_eq_true, b1, b2, b3, b4]
    refine hK _ ?_
    first | refine Gx.t rfl ?_ | refine XWP.seq (Gx.t rfl ?_)
    first | refine Gx.a (by kernel_rfl) fun K hK => ?_ | refine Gx.b (by kernel_rfl) fun K hK => ?_ | refine Gx.c (by kernel_rfl) fun K hK => ?_
    simp only [XM, XA, XB, gateX, Nat.reduceAdd, Nat.reduceLeDiff, Nat.reduceSub, Nat.reduceMul, ↓reduceIte, Int.reduceToNat, Int.reduceLE, beq_self_eq_true]
    refine hK _ (XWP.ret ?_)
    try simp only [thenX_ret, inBlockX_ret]
    refine ret_go _ rfl ?_
    rw [e]; rfl
  have b4 : decide (60 < c) = false := decide_eq_false d4
  have hm60 := mul60 (r := r) (c := c) (by omega) (by omega) (by omega) (by omega)
  have w : IntKind.i64.wrap (r * c) = r * c := wrap_id (by omega) (by omega)
  by_cases d5 : (l.length : Int) = r * c
  rotate_left
  · have b5 : decide ((l.length : Int) = r * c) = false := decide_eq_false d5
    have e := matR_bad (r := r) (c := c) (L := l) (by omega)
    first | refine Gx.a (by kernel_rfl) fun K hK => ?_ | refine Gx.b (by kernel_rfl) fun K hK => ?_ | refine Gx.c (by kernel_rfl) fun K hK => ?_
    simp only [XM, XA, XB, gateX, Nat.reduceAdd, Nat.reduceLeDiff, Nat.reduceSub, Nat.reduceMul, ↓reduceIte, Int.reduceToNat, Int.reduceLE, beq_self_eq_true, b1, b2, b3, b4, w, b5]
    refine hK _ ?_
    first | refine Gx.t rfl ?_ | refine XWP.seq (Gx.t rfl ?_)
    first | refine Gx.a (by kernel_rfl) fun K hK => ?_ | refine Gx.b (by kernel_rfl) fun K hK => ?_ | refine Gx.c (by kernel_rfl) fun K hK => ?_
    simp only [XM, XA, XB, gateX, Nat.reduceAdd, Nat.reduceLeDiff, Nat.reduceSub, Nat.reduceMul, ↓reduceIte, Int.reduceToNat, Int.reduceLE, beq_self_eq_true]
    refine hK _ (XWP.ret ?_)
    try simp only [thenX_ret, inBlockX_ret]
    refine ret_go _ rfl ?_
    rw [e]; rfl
  have b5 : decide ((l.length : Int) = r * c) = true := decide_eq_true d5
  first | refine Gx.a (by kernel_rfl) fun K hK => ?_ | refine Gx.b (by kernel_rfl) fun K hK => ?_ | refine Gx.c (by kernel_rfl) fun K hK => ?_
  simp only [XM, XA, XB, gateX, Nat.reduceAdd, Nat.reduceLeDiff, Nat.reduceSub, Nat.reduceMul, ↓reduceIte, Int.reduceToNat, Int.reduceLE, beq_self_eq_true, b1, b2, b3, b4, w, b5]
  refine hK _ ?_
  first | refine Gx.f rfl ?_ | refine XWP.seq (Gx.f rfl ?_)
  refine XWP.skip ?_
  have eM : matR r c l = okR l := by unfold matR; rw [decide_eq_true ⟨by omega, by omega, by omega, by omega, d5⟩]; rfl
  rw [eM]
  clear eM
  refine XWP.cutD 1 (fun s => ∃ V2, StIs (fun Z => [Z 0,Z 1,Z 2,Z 3,Z 4,Z 5,Z 6,Z 7,Z 8,Z 9,Z 10,Z 11,Z 12,Z 13,Z 14,Z 15,Z 16,Z 17,Z 18,Z 19,Z 20,Z 21,Z 22,Z 23,Z 24,Z 25,Z 26,Z 27,Z 28,Z 29,Z 30,Z 31,Z 32,Z 33,Z 34,Z 35,Z 36,Z 37,Z 38,Z 39,Z 40,Z 41,Z 42,Z 43,Z 44]) [[.int .i64 r, .int .i64 c, .slice A l.length cp]] (fun _ => none) V2 s ∧ okR l = true) ?_ ?_
  · first | refine Gx.a (by kernel_rfl) fun K hK => ?_ | refine Gx.b (by kernel_rfl) fun K hK => ?_ | refine Gx.c (by kernel_rfl) fun K hK => ?_
    simp only [XM, XA, XB, gateX, Nat.reduceAdd, Nat.reduceLeDiff, Nat.reduceSub, Nat.reduceMul, ↓reduceIte, Int.reduceToNat, Int.reduceLE, beq_self_eq_true]
    refine hK _ ?_
    clear hK
    first | refine XWP.block ?_ | refine XWP.seq (XWP.block ?_)
    refine XWP.loopD 1 (fun n s => ∃ (k : Nat) (V2 : View), StIs (fun Z => [Z 0, .p 0 0, Z 2,Z 3,Z 4,Z 5,Z 6,Z 7,Z 8,Z 9,Z 10,Z 11,Z 12,Z 13,Z 14,Z 15,Z 16,Z 17,Z 18,Z 19,Z 20,Z 21,Z 22,Z 23,Z 24,Z 25,Z 26,Z 27,Z 28,Z 29,Z 30,Z 31,Z 32,Z 33,Z 34, .v (.slice A l.length cp), .v (.int .i64 (l.length : Int)), .v (.int .i64 (k : Int)), Z 38,Z 39,Z 40,Z 41,Z 42,Z 43,Z 44]) [[.int .i64 r, .int .i64 c, .slice A l.length cp]] (fun _ => none) V2 s ∧ V.le V2 ∧ n + k = l.length ∧ okR (l.take k) = true) l.length ⟨0, V, StIs.of (by exact rfl), View.le_refl _, rfl, by simp [okR]⟩ ?_
    rintro n s ⟨k, V2, hs, hV2, hn, hk⟩
    obtain ⟨u, rfl⟩ := hs.out
    try dsimp only
    by_cases hlt : k < l.length
    · have b6 : decide ((k : Int) < (l.length : Int)) = true := decide_eq_true (by omega)
      first | refine Gx.a (by kernel_rfl) fun K hK => ?_ | refine Gx.b (by kernel_rfl) fun K hK => ?_ | refine Gx.c (by kernel_rfl) fun K hK => ?_
      simp only [XM, XA, XB, gateX, Nat.reduceAdd, Nat.reduceLeDiff, Nat.reduceSub, Nat.reduceMul, ↓reduceIte, Int.reduceToNat, Int.reduceLE, beq_self_eq_true, b6]
      refine hK _ ?_
      first | refine Gx.t rfl ?_ | refine XWP.seq (Gx.t rfl ?_)
      refine XWP.skip ?_
      refine XWP.seq ?_
      first | refine XWP.block ?_ | refine XWP.seq (XWP.block ?_)
      first | refine Gx.a (by kernel_rfl) fun K hK => ?_ | refine Gx.b (by kernel_rfl) fun K hK => ?_ | refine Gx.c (by kernel_rfl) fun K hK => ?_
      have hv2 := Raws.up h hV2
      obtain ⟨b, o, rfl⟩ := SlAt.addr hv2 (by omega)
      obtain ⟨x, hx, ⟨m3, n3, d3, rfl, p1, p2, p3⟩, hld⟩ := SlAt.load hv2 k hlt
      simp only [XM, XA, XB, gateX, Nat.reduceAdd, Nat.reduceLeDiff, Nat.reduceSub, Nat.reduceMul, ↓reduceIte, Int.reduceToNat, Int.reduceLE, beq_self_eq_true]
      refine ⟨by omega, by omega, ld_mem (hld _) ?_⟩
      simp only [XM, XA, XB, gateX, Nat.reduceAdd, Nat.reduceLeDiff, Nat.reduceSub, Nat.reduceMul, ↓reduceIte, Int.reduceToNat, Int.reduceLE, beq_self_eq_true]
      refine st_rat rfl rfl p1 p2 p3 ?_
      simp only [XM, XA, XB, gateX, Nat.reduceAdd, Nat.reduceLeDiff, Nat.reduceSub, Nat.reduceMul, ↓reduceIte, Int.reduceToNat, Int.reduceLE, beq_self_eq_true]
      refine hK _ ?_
      have ff := f _ (List.getElem_mem hlt)
      first | refine Gx.a (by kernel_rfl) fun K hK => ?_ | refine Gx.b (by kernel_rfl) fun K hK => ?_ | refine Gx.c (by kernel_rfl) fun K hK => ?_
      simp only [XM, XA, XB, gateX, Nat.reduceAdd, Nat.reduceLeDiff, Nat.reduceSub, Nat.reduceMul, ↓reduceIte, Int.reduceToNat, Int.reduceLE, beq_self_eq_true]
      refine call_go (by kernel_rfl) rfl (qright_c _ _ _ _ _ hx ff.1 ff.2) fun v3 V3 hV3 h3 => ?_
      subst h3
      have et : l.take (k + 1) = l.take k ++ [l[k]] := by rw [List.take_succ_eq_append_getElem hlt]
      cases hr : rawOk l[k].m l[k].nd l[k].dd
      · simp only [XM, XA, XB, gateX, Nat.reduceAdd, Nat.reduceLeDiff, Nat.reduceSub, Nat.reduceMul, ↓reduceIte, Int.reduceToNat, Int.reduceLE, beq_self_eq_true]
        refine hK _ ?_
        first | refine Gx.t rfl ?_ | refine XWP.seq (Gx.t rfl ?_)
        first | refine Gx.a (by kernel_rfl) fun K hK => ?_ | refine Gx.b (by kernel_rfl) fun K hK => ?_ | refine Gx.c (by kernel_rfl) fun K hK => ?_
        simp only [XM, XA, XB, gateX, Nat.reduceAdd, Nat.reduceLeDiff, Nat.reduceSub, Nat.reduceMul, ↓reduceIte, Int.reduceToNat, Int.reduceLE, beq_self_eq_true]
        refine hK _ (XWP.ret ?_)
        try simp only [thenX_ret, inBlockX_ret]
        refine ret_go _ rfl ?_
        have : okR l = false := by
          unfold okR
          rw [List.all_eq_false]
          exact ⟨l[k], List.getElem_mem hlt, by unfold Raw.ok; rw [hr]; simp⟩
        rw [this]; rfl
      · simp only [XM, XA, XB, gateX, Nat.reduceAdd, Nat.reduceLeDiff, Nat.reduceSub, Nat.reduceMul, ↓reduceIte, Int.reduceToNat, Int.reduceLE, beq_self_eq_true]
        refine hK _ ?_
        first | refine Gx.f rfl ?_ | refine XWP.seq (Gx.f rfl ?_)
        refine XWP.skip ?_
        first | refine Gx.a (by kernel_rfl) fun K hK => ?_ | refine Gx.b (by kernel_rfl) fun K hK => ?_ | refine Gx.c (by kernel_rfl) fun K hK => ?_
        simp only [XM, XA, XB, gateX, Nat.reduceAdd, Nat.reduceLeDiff, Nat.reduceSub, Nat.reduceMul, ↓reduceIte, Int.reduceToNat, Int.reduceLE, beq_self_eq_true, i64_succ k (by omega)]
        refine hK _ ⟨n - 1, by omega, fun f => ⟨k + 1, V3, StIs.of (by exact rfl), View.le_trans hV2 hV3, by omega, ?_⟩⟩
        unfold okR at hk ⊢
        rw [et, List.all_append, hk]
        simp [Raw.ok, hr]
    · have b6 : decide ((k : Int) < (l.length : Int)) = false := decide_eq_false (by omega)
      first | refine Gx.a (by kernel_rfl) fun K hK => ?_ | refine Gx.b (by kernel_rfl) fun K hK => ?_ | refine Gx.c (by kernel_rfl) fun K hK => ?_
      simp only [XM, XA, XB, gateX, Nat.reduceAdd, Nat.reduceLeDiff, Nat.reduceSub, Nat.reduceMul, ↓reduceIte, Int.reduceToNat, Int.reduceLE, beq_self_eq_true, b6]
      refine hK _ ?_
      first | refine Gx.f rfl ?_ | refine XWP.seq (Gx.f rfl ?_)
      refine XWP.exit ?_
      rw [List.take_of_length_le (by omega)] at hk
      exact fun f => ⟨V2, StIs.of (by exact rfl), hk⟩
  rintro s ⟨V2, hs, hk⟩
  obtain ⟨u, rfl⟩ := hs.out
  try dsimp only
  first | refine Gx.a (by kernel_rfl) fun K hK => ?_ | refine Gx.b (by kernel_rfl) fun K hK => ?_ | refine Gx.c (by kernel_rfl) fun K hK => ?_
  simp only [XM, XA, XB, gateX, Nat.reduceAdd, Nat.reduceLeDiff, Nat.reduceSub, Nat.reduceMul, ↓reduceIte, Int.reduceToNat, Int.reduceLE, beq_self_eq_true]
  refine hK _ (XWP.ret ?_)
  try simp only [thenX_ret, inBlockX_ret]
  refine ret_go _ rfl ?_
  rw [hk]; rfl
/-- a cell of a matrix that is right -/
theorem ccell_c (V : View) (s : Value) (r : Int) (n i k : Nat) (l : List Rat) (h : Rats V s l) (hk : i * n + k < l.length) (hn : n ≤ 60) (hi : i ≤ 60) (ll : l.length ≤ 1000000) :
    Spec Try.prog 120 [.agg #[.int .i64 r, .int .i64 (n : Int), s], .int .i64 (i : Int), .int .i64 (k : Int)] V fun v' V' => RatC V' v' (cf l (i * n + k)) := by
  obtain ⟨A, cp, rfl, hc, hm⟩ := h.form
  obtain ⟨b, o, rfl⟩ := SlAt.addr h (by omega)
  obtain ⟨m3, n3, d3, hx, ⟨p1, p2, p3⟩, hld⟩ := Rats.get h (i * n + k) hk
  have hin : i * n ≤ 3600 := Nat.le_trans (Nat.mul_le_mul hi hn) (by decide)
  have w1 : IntKind.i64.wrap ((i : Int) * (n : Int)) = ((i * n : Nat) : Int) := by rw [← Int.natCast_mul, wrap_id (by omega) (by omega)]
  have w2 := i64_add (i * n) k (by omega)
  refine (Spec.enter Try.func120 rfl fun Γ => ?_)
  simp only [Try.ntmps120, List.map_cons, List.map_nil, List.length_cons, List.length_nil, Nat.reduceAdd, Nat.reduceSub, List.replicate_succ, List.replicate_zero, List.cons_append, List.nil_append]
  first | refine Gx.a (by kernel_rfl) fun K hK => ?_ | refine Gx.b (by kernel_rfl) fun K hK => ?_ | refine Gx.c (by kernel_rfl) fun K hK => ?_
  simp only [XM, XA, XB, gateX, Nat.reduceAdd, Nat.reduceLeDiff, Nat.reduceSub, Nat.reduceMul, ↓reduceIte, Int.reduceToNat, Int.reduceLE, beq_self_eq_true]
  refine hK _ ?_
  first | refine Gx.a (by kernel_rfl) fun K hK => ?_ | refine Gx.b (by kernel_rfl) fun K hK => ?_ | refine Gx.c (by kernel_rfl) fun K hK => ?_
  simp only [XM, XA, XB, gateX, Nat.reduceAdd, Nat.reduceLeDiff, Nat.reduceSub, Nat.reduceMul, ↓reduceIte, Int.reduceToNat, Int.reduceLE, beq_self_eq_true, w1, w2]
  refine ⟨by omega, by omega, ld_mem (hld _) ?_⟩
  simp only [XM, XA, XB, gateX, Nat.reduceAdd, Nat.reduceLeDiff, Nat.reduceSub, Nat.reduceMul, ↓reduceIte, Int.reduceToNat, Int.reduceLE, beq_self_eq_true]
  refine st_rat rfl rfl p1 p2 p3 ?_
  simp only [XM, XA, XB, gateX, Nat.reduceAdd, Nat.reduceLeDiff, Nat.reduceSub, Nat.reduceMul, ↓reduceIte, Int.reduceToNat, Int.reduceLE, beq_self_eq_true]
  refine hK _ (XWP.ret ?_)
  try simp only [thenX_ret, inBlockX_ret]
  exact ret_rat1 rfl rfl rfl hx
end Go.Proofs.Ythoboehbadmlmaa
end
section
namespace Go.Proofs.Ythoboehbadmlmaa
open Go Go.RowKit
set_option linter.unusedSimpArgs false
set_option linter.unusedVariables false
attribute [local irreducible] XWP Spec SpecO XPub XCall seqX clX apX stX ldX iaX slX
theorem sgI_abs (q : Rat) : (q.num : Int) = sgI q * (q.num.natAbs : Int) := by
  unfold sgI
  have h0 := rat_zero_iff q
  by_cases h : q = 0
  · rw [if_pos h, h]; rfl
  · rw [if_neg h]
    cases hn : ng q
    · have := (ng_iff q).1 hn
      have := Rat.num_nonneg.2 this
      rw [if_neg (by simp)]; omega
    · unfold ng at hn
      have := of_decide_eq_true hn
      rw [if_pos rfl]; omega
theorem sgI_val (q : Rat) : sgI q = 0 ∨ sgI q = 1 ∨ sgI q = -1 := by
  unfold sgI
  split
  · exact .inl rfl
  · split
    · exact .inr (.inr rfl)
    · exact .inr (.inl rfl)
theorem cmp_same {p q : Rat} (h : sgI p = sgI q) : sgI p * cmpI (p.num.natAbs * q.den) (q.num.natAbs * p.den) = 0 ↔ p = q := by
  have hp := sgI_abs p
  have hq := sgI_abs q
  constructor
  · intro hz
    rcases Int.mul_eq_zero.1 hz with h0 | h0
    · have e1 := sgI_zero p
      have e2 := sgI_zero q
      rw [← h, h0] at e2
      rw [h0] at e1
      have e1 : p = 0 := by simpa using e1.symm
      have e2 : q = 0 := by simpa using e2.symm
      rw [e1, e2]
    · have e : p.num.natAbs * q.den = q.num.natAbs * p.den := by
        unfold cmpI at h0
        split at h0
        · cases h0
        · split at h0
          · cases h0
          · omega
      rw [Rat.eq_iff_mul_eq_mul, hp, hq, h, Int.mul_assoc, Int.mul_assoc, ← Int.natCast_mul, ← Int.natCast_mul, e]
  · intro e
    subst e
    have : cmpI (p.num.natAbs * p.den) (p.num.natAbs * p.den) = 0 := by unfold cmpI; rw [if_neg (by omega), if_neg (by omega)]
    rw [this, Int.mul_zero]
theorem cmpI_val (a b : Nat) : cmpI a b = 0 ∨ cmpI a b = 1 ∨ cmpI a b = -1 := by
  unfold cmpI
  split
  · exact .inr (.inr rfl)
  · split
    · exact .inr (.inl rfl)
    · exact .inl rfl
theorem qcompare_c (V : View) (v u : Value) (p q : Rat) (hv : RatC V v p) (hu : RatC V u q) (fp : QF p) (fq : QF q) : Spec Try.prog 137 [v, u] V fun v' V' => ∃ z : Int, v' = .int .i64 z ∧ (z = 0 ↔ p = q) := by
  have hv0 := hv
  have hu0 := hu
  obtain ⟨n1, d1, rfl, hn1, hd1⟩ := hv
  obtain ⟨n2, d2, rfl, hn2, hd2⟩ := hu
  refine (Spec.enter Try.func137 rfl fun Γ => ?_)
  simp only [Try.ntmps137, List.map_cons, List.map_nil, List.length_cons, List.length_nil, Nat.reduceAdd, Nat.reduceSub, List.replicate_succ, List.replicate_zero, List.cons_append, List.nil_append]
  first | refine Gx.a (by kernel_rfl) fun K hK => ?_ | refine Gx.b (by kernel_rfl) fun K hK => ?_ | refine Gx.c (by kernel_rfl) fun K hK => ?_
  simp only [XA, XB, gateX, Nat.reduceAdd, Nat.reduceLeDiff, Nat.reduceSub, Nat.reduceMul, ↓reduceIte, Int.reduceToNat, Int.reduceLE, beq_self_eq_true]
  refine hK _ ?_
  (first | refine XWP.drw [0, 2, 1, 3, 4, 5] (by kernel_rfl) (by kernel_rfl) (by kernel_rfl) fun K hK => ?_ | refine XWP.seq (XWP.drw [0, 2, 1, 3, 4, 5] (by kernel_rfl) (by kernel_rfl) (by kernel_rfl) fun K hK => ?_) | refine XWP.drw1 [0, 2, 1, 3, 4, 5] (by kernel_rfl) (by kernel_rfl) (by kernel_rfl) fun K hK => ?_) <;> dsimp only [pickOps, List.getElem?_cons_zero, List.getElem?_cons_succ]
  simp only [XA, XB, gateX, Nat.reduceAdd, Nat.reduceLeDiff, Nat.reduceSub, Nat.reduceMul, ↓reduceIte, Int.reduceToNat, Int.reduceLE, beq_self_eq_true]
  refine call_go (by kernel_rfl) rfl (qsign_c _ _ _ hv0) fun v1 V1 hV1 h1 => ?_
  subst h1
  simp only [XA, XB, gateX, Nat.reduceAdd, Nat.reduceLeDiff, Nat.reduceSub, Nat.reduceMul, ↓reduceIte, Int.reduceToNat, Int.reduceLE, beq_self_eq_true]
  refine call_go (by kernel_rfl) rfl (qsign_c _ _ _ (hu0.mono hV1)) fun v2 V2 hV2 h2 => ?_
  subst h2
  simp only [XA, XB, gateX, Nat.reduceAdd, Nat.reduceLeDiff, Nat.reduceSub, Nat.reduceMul, ↓reduceIte, Int.reduceToNat, Int.reduceLE, beq_self_eq_true]
  refine hK _ ?_
  have hV := View.le_trans hV1 hV2
  have hne : sgI p ≠ sgI q → ¬ p = q := fun h e => h (by rw [e])
  refine XWP.cut (fun s => StIs (fun Z => [Z 0,Z 1, .p 0 0, .p 1 0, Z 4, .v (.int .i64 (sgI p)), .v (.int .i64 (sgI q)), Z 7,Z 8,Z 9,Z 10,Z 11,Z 12,Z 13,Z 14,Z 15,Z 16,Z 17,Z 18,Z 19,Z 20,Z 21,Z 22,Z 23,Z 24,Z 25,Z 26,Z 27,Z 28,Z 29,Z 30,Z 31]) [[.bool (ng p), n1, d1], [.bool (ng q), n2, d2]] (fun _ => none) V2 s ∧ sgI p = sgI q) ?_ ?_
  · first | refine XWP.block ?_ | refine XWP.seq (XWP.block ?_)
    by_cases k1 : sgI p < sgI q
    · have b1 : decide (sgI p < sgI q) = true := decide_eq_true k1
      first | refine Gx.a (by kernel_rfl) fun K hK => ?_ | refine Gx.b (by kernel_rfl) fun K hK => ?_ | refine Gx.c (by kernel_rfl) fun K hK => ?_
      simp only [XA, XB, gateX, Nat.reduceAdd, Nat.reduceLeDiff, Nat.reduceSub, Nat.reduceMul, ↓reduceIte, Int.reduceToNat, Int.reduceLE, beq_self_eq_true, b1]
      refine hK _ ?_
      first | refine Gx.t rfl ?_ | refine XWP.seq (Gx.t rfl ?_)
      first | refine Gx.a (by kernel_rfl) fun K hK => ?_ | refine Gx.b (by kernel_rfl) fun K hK => ?_ | refine Gx.c (by kernel_rfl) fun K hK => ?_
      simp only [XA, XB, gateX, Nat.reduceAdd, Nat.reduceLeDiff, Nat.reduceSub, Nat.reduceMul, ↓reduceIte, Int.reduceToNat, Int.reduceLE, beq_self_eq_true]
      refine hK _ (XWP.ret ?_)
      try simp only [thenX_ret, inBlockX_ret]
      refine ret_go _ rfl ?_
      exact ⟨-1, rfl, (fun h => by cases h), fun h => absurd h (hne (by omega))⟩
    have b1 : decide (sgI p < sgI q) = false := decide_eq_false k1
    by_cases k2 : sgI q < sgI p
    · have b2 : decide (sgI q < sgI p) = true := decide_eq_true k2
      first | refine Gx.a (by kernel_rfl) fun K hK => ?_ | refine Gx.b (by kernel_rfl) fun K hK => ?_ | refine Gx.c (by kernel_rfl) fun K hK => ?_
      simp only [XA, XB, gateX, Nat.reduceAdd, Nat.reduceLeDiff, Nat.reduceSub, Nat.reduceMul, ↓reduceIte, Int.reduceToNat, Int.reduceLE, beq_self_eq_true, b1]
      refine hK _ ?_
      first | refine Gx.f rfl ?_ | refine XWP.seq (Gx.f rfl ?_)
      first | refine Gx.a (by kernel_rfl) fun K hK => ?_ | refine Gx.b (by kernel_rfl) fun K hK => ?_ | refine Gx.c (by kernel_rfl) fun K hK => ?_
      simp only [XA, XB, gateX, Nat.reduceAdd, Nat.reduceLeDiff, Nat.reduceSub, Nat.reduceMul, ↓reduceIte, Int.reduceToNat, Int.reduceLE, beq_self_eq_true, b2]
      refine hK _ ?_
      first | refine Gx.t rfl ?_ | refine XWP.seq (Gx.t rfl ?_)
      first | refine Gx.a (by kernel_rfl) fun K hK => ?_ | refine Gx.b (by kernel_rfl) fun K hK => ?_ | refine Gx.c (by kernel_rfl) fun K hK => ?_
      simp only [XA, XB, gateX, Nat.reduceAdd, Nat.reduceLeDiff, Nat.reduceSub, Nat.reduceMul, ↓reduceIte, Int.reduceToNat, Int.reduceLE, beq_self_eq_true]
      refine hK _ (XWP.ret ?_)
      try simp only [thenX_ret, inBlockX_ret]
      refine ret_go _ rfl ?_
      exact ⟨1, rfl, (fun h => by cases h), fun h => absurd h (hne (by omega))⟩
    have b2 : decide (sgI q < sgI p) = false := decide_eq_false k2
    first | refine Gx.a (by kernel_rfl) fun K hK => ?_ | refine Gx.b (by kernel_rfl) fun K hK => ?_ | refine Gx.c (by kernel_rfl) fun K hK => ?_
    simp only [XA, XB, gateX, Nat.reduceAdd, Nat.reduceLeDiff, Nat.reduceSub, Nat.reduceMul, ↓reduceIte, Int.reduceToNat, Int.reduceLE, beq_self_eq_true, b1]
    refine hK _ ?_
    first | refine Gx.f rfl ?_ | refine XWP.seq (Gx.f rfl ?_)
    first | refine Gx.a (by kernel_rfl) fun K hK => ?_ | refine Gx.b (by kernel_rfl) fun K hK => ?_ | refine Gx.c (by kernel_rfl) fun K hK => ?_
    simp only [XA, XB, gateX, Nat.reduceAdd, Nat.reduceLeDiff, Nat.reduceSub, Nat.reduceMul, ↓reduceIte, Int.reduceToNat, Int.reduceLE, beq_self_eq_true, b2]
    refine hK _ ?_
    first | refine Gx.f rfl ?_ | refine XWP.seq (Gx.f rfl ?_)
    refine XWP.skip ?_
    exact ⟨StIs.of (by exact rfl), by omega⟩
  rintro s ⟨hs, hsg⟩
  obtain ⟨z, rfl⟩ := hs.out
  try dsimp only
  (first | refine XWP.drw [0, 1, 2, 3, 4, 6, 7, 8, 9, 5, 10, 11, 12, 13] (by kernel_rfl) (by kernel_rfl) (by kernel_rfl) fun K hK => ?_ | refine XWP.seq (XWP.drw [0, 1, 2, 3, 4, 6, 7, 8, 9, 5, 10, 11, 12, 13] (by kernel_rfl) (by kernel_rfl) (by kernel_rfl) fun K hK => ?_) | refine XWP.drw1 [0, 1, 2, 3, 4, 6, 7, 8, 9, 5, 10, 11, 12, 13] (by kernel_rfl) (by kernel_rfl) (by kernel_rfl) fun K hK => ?_) <;> dsimp only [pickOps, List.getElem?_cons_zero, List.getElem?_cons_succ]
  simp only [XA, XB, gateX, Nat.reduceAdd, Nat.reduceLeDiff, Nat.reduceSub, Nat.reduceMul, ↓reduceIte, Int.reduceToNat, Int.reduceLE, beq_self_eq_true]
  refine call_go (by kernel_rfl) rfl (mul_c _ _ _ _ _ (hn1.mono hV) (hd2.mono hV) fp.fits.1 fq.fits.2) fun v3 V3 hV3 h3 => ?_
  simp only [XA, XB, gateX, Nat.reduceAdd, Nat.reduceLeDiff, Nat.reduceSub, Nat.reduceMul, ↓reduceIte, Int.reduceToNat, Int.reduceLE, beq_self_eq_true]
  refine call_go (by kernel_rfl) rfl (mul_c _ _ _ _ _ ((hn2.mono hV).mono hV3) ((hd1.mono hV).mono hV3) fq.fits.1 fp.fits.2) fun v4 V4 hV4 h4 => ?_
  simp only [XA, XB, gateX, Nat.reduceAdd, Nat.reduceLeDiff, Nat.reduceSub, Nat.reduceMul, ↓reduceIte, Int.reduceToNat, Int.reduceLE, beq_self_eq_true]
  refine call_go (by kernel_rfl) rfl (compare_c _ _ _ _ _ (h3.mono hV4) h4) fun v5 V5 hV5 h5 => ?_
  subst h5
  have w : IntKind.i64.wrap (sgI p * cmpI (p.num.natAbs * q.den) (q.num.natAbs * p.den)) = sgI p * cmpI (p.num.natAbs * q.den) (q.num.natAbs * p.den) := by
    rcases sgI_val p with e | e | e <;> rcases cmpI_val (p.num.natAbs * q.den) (q.num.natAbs * p.den) with e' | e' | e' <;> rw [e, e'] <;> exact wrap_id (by omega) (by omega)
  simp only [XA, XB, gateX, Nat.reduceAdd, Nat.reduceLeDiff, Nat.reduceSub, Nat.reduceMul, ↓reduceIte, Int.reduceToNat, Int.reduceLE, beq_self_eq_true, w]
  refine hK _ (XWP.ret ?_)
  try simp only [thenX_ret, inBlockX_ret]
  refine ret_go _ rfl ?_
  exact ⟨_, rfl, cmp_same hsg⟩
theorem qsame_c (V : View) (v u : Value) (p q : Rat) (hv : RatC V v p) (hu : RatC V u q) (fp : QF p) (fq : QF q) : Spec Try.prog 121 [v, u] V fun v' V' => v' = .bool (decide (p = q)) := by
  have hv0 := hv
  have hu0 := hu
  obtain ⟨x1, y1, rfl, o1, o2⟩ := hv.form
  obtain ⟨x2, y2, rfl, o3, o4⟩ := hu.form
  refine (Spec.enter Try.func121 rfl fun Γ => ?_)
  simp only [Try.ntmps121, List.map_cons, List.map_nil, List.length_cons, List.length_nil, Nat.reduceAdd, Nat.reduceSub, List.replicate_succ, List.replicate_zero, List.cons_append, List.nil_append]
  first | refine Gx.a (by kernel_rfl) fun K hK => ?_ | refine Gx.b (by kernel_rfl) fun K hK => ?_ | refine Gx.c (by kernel_rfl) fun K hK => ?_
  simp only [XA, XB, gateX, Nat.reduceAdd, Nat.reduceLeDiff, Nat.reduceSub, Nat.reduceMul, ↓reduceIte, Int.reduceToNat, Int.reduceLE, beq_self_eq_true]
  refine hK _ ?_
  first | refine Gx.a (by kernel_rfl) fun K hK => ?_ | refine Gx.b (by kernel_rfl) fun K hK => ?_ | refine Gx.c (by kernel_rfl) fun K hK => ?_
  simp only [XA, XB, gateX, Nat.reduceAdd, Nat.reduceLeDiff, Nat.reduceSub, Nat.reduceMul, ↓reduceIte, Int.reduceToNat, Int.reduceLE, beq_self_eq_true]
  refine call_go (by kernel_rfl) rfl (qcompare_c _ _ _ _ _ hv0 hu0 fp fq) fun v1 V1 hV1 h1 => ?_
  obtain ⟨z, rfl, hz⟩ := h1
  simp only [XA, XB, gateX, Nat.reduceAdd, Nat.reduceLeDiff, Nat.reduceSub, Nat.reduceMul, ↓reduceIte, Int.reduceToNat, Int.reduceLE, beq_self_eq_true]
  refine hK _ (XWP.ret ?_)
  try simp only [thenX_ret, inBlockX_ret]
  refine ret_go _ rfl ?_
  show Value.bool _ = _
  congr 1
  rw [decide_eq_decide]; exact hz
end Go.Proofs.Ythoboehbadmlmaa
end
section
namespace Go.Proofs.Ythoboehbadmlmaa
open Go Go.RowKit
set_option linter.unusedSimpArgs false
set_option linter.unusedVariables false
attribute [local irreducible] XWP Spec SpecO XPub XCall seqX clX apX stX ldX iaX slX
theorem ld3 {H : Heap} {V : View} {b e tot o t : Nat} {cells : List Value} {x y z : Value} (hs : shapeT Try.prog t = some (true, 3)) (hr : H b = some ⟨e, cells, tot⟩) (h0 : cells[o]? = some x) (h1 : cells[o + 1]? = some y) (h2 : cells[o + 2]? = some z) : Loads Try.prog H V t b o (.agg #[x, y, z]) :=
  ⟨true, 3, hs, .inl ⟨rfl, _, rfl, fun j u hj => .inl ⟨_, hr, by
    match j, hj with
    | 0, hj => cases hj; exact h0
    | 1, hj => cases hj; exact h1
    | 2, hj => cases hj; exact h2
    | j + 3, hj => simp at hj⟩, rfl⟩⟩
theorem bs_mat {t e by_ : Nat} {a b c a' b' c' : Value} (he : elemT Try.prog t = some e) (hz : zeroT Try.prog e = some ([.int .i64 0, .int .i64 0, .slice none 0 0], 3, by_)) : BuildsSlice Try.prog t 2 #[(0, .agg #[a, b, c]), (1, .agg #[a', b', c'])] e [a, b, c, a', b', c'] := by
  obtain ⟨i, zv, hi, hzv, h1, h2, _⟩ := zero_parts hz
  have hc : zv.cells = #[.int .i64 0, .int .i64 0, .slice none 0 0] := Array.toList_inj.1 h1
  refine bs_run (cells := #[a, b, c, a', b', c']) he hi hzv (by omega) (by omega) ?_
  rw [h2, hc]
  have : madeCells #[.int .i64 0, .int .i64 0, .slice none 0 0] (2 * 3) = #[.int .i64 0, .int .i64 0, .slice none 0 0, .int .i64 0, .int .i64 0, .slice none 0 0] := Array.toList_inj.1 (by rw [made_flat _ 3 rfl (by omega)]; rfl)
  rw [this, fill_three (off := 0) rfl (by simp), fill_three (off := 3) rfl (by simp)]; rfl
theorem st_mat {P : Program} {t i : Nat} {s : XS} {ops : Array Oper} {rest : List Oper} {K : XS → Prop} {d : Option Tmp} {m n e : Value} {vs : List Value} (hs : shapeT P t = some (true, 3)) (hb : s.bx[i]? = some vs) (hl : vs.length = 3) (h0 : isOne m = true) (h1 : isOne n = true) (h2 : isOne e = true) (h : seqX P ops rest K (XS.put ⟨s.t, s.bx.set i [m, n, e], s.H, s.V⟩ d (.v undef))) : stX P ops rest K s d t (.p i 0) (.v (.agg #[m, n, e])) := by
  refine st_agg (cs := [m, n, e]) hs hb rfl ⟨rfl, by simp [h0, h1, h2], by omega, ?_⟩
  have : splice vs 0 [m, n, e] = [m, n, e] := by
    unfold splice; simp [hl]
  rw [this]; exact h
def chB (r1 c1 : Int) (L1 : List Raw) (r2 c2 : Int) (L2 : List Raw) : Bool := matR r1 c1 L1 && matR r2 c2 L2 && decide (r1 = c1) && decide (r2 = r1) && rowsB r1.toNat c2.toNat (qs L1) (qs L2) r1.toNat
/-- what a chain that is right in its shape is -/
theorem chB_shape {r1 c1 r2 c2 : Int} {L1 L2 : List Raw} (e1 : matR r1 c1 L1 = true) (e2 : matR r2 c2 L2 = true) (d1 : r1 = c1) (d2 : r2 = r1) :
    ∃ n m : Nat, r1 = n ∧ c1 = n ∧ r2 = n ∧ c2 = m ∧ n ≤ 60 ∧ m ≤ 60 ∧ L1.length = n * n ∧ L2.length = n * m ∧ okR L1 = true ∧ okR L2 = true ∧ chB r1 c1 L1 r2 c2 L2 = rowsB n m (qs L1) (qs L2) n := by
  have f1 := e1
  have f2 := e2
  unfold matR at f1 f2
  rw [Bool.and_eq_true, decide_eq_true_eq] at f1 f2
  obtain ⟨⟨a1, a2, a3, a4, a5⟩, a6⟩ := f1
  obtain ⟨⟨b1, b2, b3, b4, b5⟩, b6⟩ := f2
  obtain ⟨n, rfl⟩ : ∃ n : Nat, r1 = n := ⟨r1.toNat, by omega⟩
  obtain ⟨m, rfl⟩ : ∃ m : Nat, c2 = m := ⟨c2.toNat, by omega⟩
  subst d2
  subst d1
  refine ⟨n, m, rfl, rfl, rfl, rfl, by omega, by omega, ?_, ?_, a6, b6, ?_⟩
  · rw [← Int.natCast_mul] at a5; omega
  · rw [← Int.natCast_mul] at b5; omega
  · unfold chB; rw [e1, e2]; simp
/-- the sum of a row, when j matrices are through -/
def chX (n m : Nat) (p q : List Rat) (i : Nat) : Nat → Rat
  | 0 => 0
  | 1 => rS p (i * n) 0 n
  | _ => rS q (i * m) (rS p (i * n) 0 n) m
def chO (n m : Nat) (p q : List Rat) (i : Nat) : Nat → Bool
  | 0 => true
  | 1 => nnB p (i * n) n
  | _ => nnB p (i * n) n && nnB q (i * m) m
theorem rowB_neg {n m : Nat} {p q : List Rat} {i j : Nat} (h : chO n m p q i j = false) : rowB n m p q i = false := by
  unfold rowB
  match j, h with
  | 0, h => cases h
  | 1, h => rw [show nnB p (i * n) n = false from h]; rfl
  | j + 2, h => rw [show (nnB p (i * n) n && nnB q (i * m) m) = false from h]; rfl
theorem rowB_two (n m : Nat) (p q : List Rat) (i : Nat) (h : chO n m p q i 2 = true) : rowB n m p q i = decide (chX n m p q i 2 = 1) := by
  unfold rowB
  rw [show (nnB p (i * n) n && nnB q (i * m) m) = true from h]; rfl
theorem nnB_bad {l : List Rat} {off k m : Nat} (h : ng (cf l (off + k)) = true) (hk : k < m) : nnB l off m = false := by
  cases hb : nnB l off m
  · rfl
  · have := nnB_get hb k hk
    rw [h] at this; cases this
/-- the j-th matrix of a chain -/
theorem ch_pick {n m A B : Nat} {p q : List Rat} {V : View} {s1 s2 : Value} (h1 : Rats V s1 p) (h2 : Rats V s2 q) (hn : n ≤ 60) (hm : m ≤ 60) (e1 : p.length = n * n) (e2 : q.length = n * m) (hA : CB A p) (hB : CB B q) (i j : Nat) (hj : j < 2) (hi : i < n) :
    ∃ (l : List Rat) (k C : Nat) (s : Value), Rats V s l ∧ k ≤ 60 ∧ l.length = n * k ∧ CB C l ∧ C ≤ A + B ∧ [.int .i64 (n : Int), .int .i64 (n : Int), s1, .int .i64 (n : Int), .int .i64 (m : Int), s2][j * 3]? = some (.int .i64 (n : Int)) ∧
      [Value.int .i64 (n : Int), .int .i64 (n : Int), s1, .int .i64 (n : Int), .int .i64 (m : Int), s2][j * 3 + 1]? = some (.int .i64 (k : Int)) ∧ [Value.int .i64 (n : Int), .int .i64 (n : Int), s1, .int .i64 (n : Int), .int .i64 (m : Int), s2][j * 3 + 2]? = some s ∧
      QB (A + B + 122) (chX n m p q i j) ∧ (∀ k0, QB (A + B + 124 + k0 + (A + B)) (rS l (i * k) (chX n m p q i j) k0)) ∧ rS l (i * k) (chX n m p q i j) k = chX n m p q i (j + 1) ∧ (chO n m p q i j = true → chO n m p q i (j + 1) = nnB l (i * k) k) := by
  match j, hj with
  | 0, _ =>
    refine ⟨p, n, A, s1, h1, hn, e1, hA, by omega, rfl, rfl, rfl, QB_zero _, fun k0 => ?_, rfl, fun _ => rfl⟩
    exact (rS_QB hA (QB_zero 0) (i * n) k0).mono (by omega)
  | 1, _ =>
    have hx := rS_QB hA (QB_zero 0) (i * n) n
    refine ⟨q, m, B, s2, h2, hm, e2, hB, by omega, rfl, rfl, rfl, hx.mono (by omega), fun k0 => ?_, rfl, fun h => ?_⟩
    · exact (rS_QB hB hx (i * m) k0).mono (by omega)
    · show (nnB p (i * n) n && nnB q (i * m) m) = _
      rw [show nnB p (i * n) n = true from h, Bool.true_and]
theorem cchright_c (V : View) (s1 s2 : Value) (r1 c1 r2 c2 : Int) (L1 L2 : List Raw) (h1 : Raws V s1 L1) (h2 : Raws V s2 L2) (f1 : fitR L1) (f2 : fitR L2) (l1 : L1.length ≤ 1000000) (l2 : L2.length ≤ 1000000) (A B : Nat) (hA : okR L1 = true → CB A (qs L1)) (hB : okR L2 = true → CB B (qs L2)) (hfit : 2 * (A + B) + 200 ≤ 17592186044416) :
    Spec Try.prog 85 [.agg #[.int .i64 r1, .int .i64 c1, s1, .int .i64 r2, .int .i64 c2, s2]] V fun v' V' => v' = .bool (chB r1 c1 L1 r2 c2 L2) := by
  obtain ⟨A1, q1, rfl, _, _⟩ := h1.form
  obtain ⟨A2, q2, rfl, _, _⟩ := h2.form
  refine (Spec.enter Try.func85 rfl fun Γ => ?_)
  simp only [Try.ntmps85, List.map_cons, List.map_nil, List.length_cons, List.length_nil, Nat.reduceAdd, Nat.reduceSub, List.replicate_succ, List.replicate_zero, List.cons_append, List.nil_append]
  first | refine Gx.a (by kernel_rfl) fun K hK => ?_ | refine Gx.b (by kernel_rfl) fun K hK => ?_ | refine Gx.c (by kernel_rfl) fun K hK => ?_
  simp only [XM, XA, XB, gateX, Nat.reduceAdd, Nat.reduceLeDiff, Nat.reduceSub, Nat.reduceMul, ↓reduceIte, Int.reduceToNat, Int.reduceLE, beq_self_eq_true]
  refine hK _ ?_
  refine XWP.seq ?_
  first | refine Gx.a (by kernel_rfl) fun K hK => ?_ | refine Gx.b (by kernel_rfl) fun K hK => ?_ | refine Gx.c (by kernel_rfl) fun K hK => ?_
  simp only [XM, XA, XB, gateX, Nat.reduceAdd, Nat.reduceLeDiff, Nat.reduceSub, Nat.reduceMul, ↓reduceIte, Int.reduceToNat, Int.reduceLE, beq_self_eq_true]
  refine call_go (by kernel_rfl) rfl (cmright_c _ _ r1 c1 L1 h1 f1 l1) fun v1 V1 hV1 g1 => ?_
  subst g1
  cases e1 : matR r1 c1 L1
  · have eC : chB r1 c1 L1 r2 c2 L2 = false := by unfold chB; rw [e1]; rfl
    simp only [XM, XA, XB, gateX, Nat.reduceAdd, Nat.reduceLeDiff, Nat.reduceSub, Nat.reduceMul, ↓reduceIte, Int.reduceToNat, Int.reduceLE, beq_self_eq_true]
    refine hK _ ?_
    first | refine Gx.t rfl ?_ | refine XWP.seq (Gx.t rfl ?_)
    first | refine Gx.a (by kernel_rfl) fun K hK => ?_ | refine Gx.b (by kernel_rfl) fun K hK => ?_ | refine Gx.c (by kernel_rfl) fun K hK => ?_
    simp only [XM, XA, XB, gateX, Nat.reduceAdd, Nat.reduceLeDiff, Nat.reduceSub, Nat.reduceMul, ↓reduceIte, Int.reduceToNat, Int.reduceLE, beq_self_eq_true]
    refine hK _ (XWP.ret ?_)
    try simp only [thenX_ret, inBlockX_ret]
    refine ret_go _ rfl ?_
    rw [eC]; rfl
  simp only [XM, XA, XB, gateX, Nat.reduceAdd, Nat.reduceLeDiff, Nat.reduceSub, Nat.reduceMul, ↓reduceIte, Int.reduceToNat, Int.reduceLE, beq_self_eq_true]
  refine call_go (by kernel_rfl) rfl (cmright_c _ _ r2 c2 L2 (h2.up hV1) f2 l2) fun v2 V2 hV2 g2 => ?_
  subst g2
  cases e2 : matR r2 c2 L2
  · have eC : chB r1 c1 L1 r2 c2 L2 = false := by unfold chB; rw [e2, Bool.and_false]; rfl
    simp only [XM, XA, XB, gateX, Nat.reduceAdd, Nat.reduceLeDiff, Nat.reduceSub, Nat.reduceMul, ↓reduceIte, Int.reduceToNat, Int.reduceLE, beq_self_eq_true]
    refine hK _ ?_
    first | refine Gx.t rfl ?_ | refine XWP.seq (Gx.t rfl ?_)
    first | refine Gx.a (by kernel_rfl) fun K hK => ?_ | refine Gx.b (by kernel_rfl) fun K hK => ?_ | refine Gx.c (by kernel_rfl) fun K hK => ?_
    simp only [XM, XA, XB, gateX, Nat.reduceAdd, Nat.reduceLeDiff, Nat.reduceSub, Nat.reduceMul, ↓reduceIte, Int.reduceToNat, Int.reduceLE, beq_self_eq_true]
    refine hK _ (XWP.ret ?_)
    try simp only [thenX_ret, inBlockX_ret]
    refine ret_go _ rfl ?_
    rw [eC]; rfl
  by_cases d1 : r1 = c1
  rotate_left
  · have eC : chB r1 c1 L1 r2 c2 L2 = false := by unfold chB; rw [decide_eq_false d1, Bool.and_false]; rfl
    have b1 : decide (r1 = c1) = false := decide_eq_false d1
    simp only [XM, XA, XB, gateX, Nat.reduceAdd, Nat.reduceLeDiff, Nat.reduceSub, Nat.reduceMul, ↓reduceIte, Int.reduceToNat, Int.reduceLE, beq_self_eq_true, b1]
    refine hK _ ?_
    first | refine Gx.t rfl ?_ | refine XWP.seq (Gx.t rfl ?_)
    first | refine Gx.a (by kernel_rfl) fun K hK => ?_ | refine Gx.b (by kernel_rfl) fun K hK => ?_ | refine Gx.c (by kernel_rfl) fun K hK => ?_
    simp only [XM, XA, XB, gateX, Nat.reduceAdd, Nat.reduceLeDiff, Nat.reduceSub, Nat.reduceMul, ↓reduceIte, Int.reduceToNat, Int.reduceLE, beq_self_eq_true]
    refine hK _ (XWP.ret ?_)
    try simp only [thenX_ret, inBlockX_ret]
    refine ret_go _ rfl ?_
    rw [eC]; rfl
  have b1 : decide (r1 = c1) = true := decide_eq_true d1
  by_cases d2 : r2 = r1
  rotate_left
  · have eC : chB r1 c1 L1 r2 c2 L2 = false := by unfold chB; rw [decide_eq_false d2, Bool.and_false]; rfl
    have b2 : decide (r2 = r1) = false := decide_eq_false d2
    simp only [XM, XA, XB, gateX, Nat.reduceAdd, Nat.reduceLeDiff, Nat.reduceSub, Nat.reduceMul, ↓reduceIte, Int.reduceToNat, Int.reduceLE, beq_self_eq_true, b1, b2]
    refine hK _ ?_
    first | refine Gx.t rfl ?_ | refine XWP.seq (Gx.t rfl ?_)
    first | refine Gx.a (by kernel_rfl) fun K hK => ?_ | refine Gx.b (by kernel_rfl) fun K hK => ?_ | refine Gx.c (by kernel_rfl) fun K hK => ?_
    simp only [XM, XA, XB, gateX, Nat.reduceAdd, Nat.reduceLeDiff, Nat.reduceSub, Nat.reduceMul, ↓reduceIte, Int.reduceToNat, Int.reduceLE, beq_self_eq_true]
    refine hK _ (XWP.ret ?_)
    try simp only [thenX_ret, inBlockX_ret]
    refine ret_go _ rfl ?_
    rw [eC]; rfl
  have b2 : decide (r2 = r1) = true := decide_eq_true d2
  simp only [XM, XA, XB, gateX, Nat.reduceAdd, Nat.reduceLeDiff, Nat.reduceSub, Nat.reduceMul, ↓reduceIte, Int.reduceToNat, Int.reduceLE, beq_self_eq_true, b1, b2]
  refine hK _ ?_
  first | refine Gx.f rfl ?_ | refine XWP.seq (Gx.f rfl ?_)
  refine XWP.skip ?_
  obtain ⟨n, m, rfl, rfl, rfl, rfl, hn, hm, k1, k2, o1, o2, eC⟩ := chB_shape e1 e2 d1 d2
  rw [eC]
  clear eC e1 e2 b1 b2 d1 d2
  have hp := ((Raws.rats h1 o1).up hV1).up hV2
  have hq := ((Raws.rats h2 o2).up hV1).up hV2
  have hA := hA o1
  have hB := hB o2
  have k1 : (qs L1).length = n * n := by rw [qs_len]; exact k1
  have k2 : (qs L2).length = n * m := by rw [qs_len]; exact k2
  generalize qs L1 = p at *
  generalize qs L2 = q at *
  clear h1 h2 f1 f2 o1 o2 l1 l2
  have hp3 : ∀ {V3 : View}, V2.le V3 → Rats V3 _ p := fun h => hp.up h
  have hq3 : ∀ {V3 : View}, V2.le V3 → Rats V3 _ q := fun h => hq.up h
  refine XWP.cutD 1 (fun s => ∃ V3 H3, StIs (fun Z => [Z 0,Z 1,Z 2,Z 3,Z 4,Z 5,Z 6,Z 7,Z 8,Z 9,Z 10,Z 11,Z 12,Z 13,Z 14,Z 15,Z 16,Z 17,Z 18,Z 19,Z 20,Z 21,Z 22,Z 23,Z 24,Z 25,Z 26,Z 27,Z 28,Z 29,Z 30,Z 31,Z 32,Z 33,Z 34,Z 35,Z 36,Z 37,Z 38,Z 39,Z 40,Z 41,Z 42,Z 43,Z 44,Z 45,Z 46,Z 47,Z 48,Z 49,Z 50,Z 51,Z 52,Z 53,Z 54,Z 55,Z 56,Z 57,Z 58,Z 59,Z 60,Z 61,Z 62,Z 63,Z 64,Z 65,Z 66,Z 67,Z 68,Z 69,Z 70,Z 71,Z 72,Z 73,Z 74,Z 75]) [[.int .i64 (n : Int), .int .i64 (n : Int), .slice A1 L1.length q1, .int .i64 (n : Int), .int .i64 (m : Int), .slice A2 L2.length q2]] H3 V3 s ∧ rowsB n m p q n = true) ?_ ?_
  · first | refine Gx.a (by kernel_rfl) fun K hK => ?_ | refine Gx.b (by kernel_rfl) fun K hK => ?_ | refine Gx.c (by kernel_rfl) fun K hK => ?_
    simp only [XM, XA, XB, gateX, Nat.reduceAdd, Nat.reduceLeDiff, Nat.reduceSub, Nat.reduceMul, ↓reduceIte, Int.reduceToNat, Int.reduceLE, beq_self_eq_true]
    refine hK _ ?_
    clear hK
    first | refine XWP.block ?_ | refine XWP.seq (XWP.block ?_)
    refine XWP.loopD 1 (fun r s => ∃ (i : Nat) (V3 : View) (H3 : Heap), StIs (fun Z => [Z 0, .p 0 0, Z 2,Z 3,Z 4,Z 5,Z 6,Z 7,Z 8,Z 9,Z 10,Z 11,Z 12,Z 13,Z 14,Z 15,Z 16,Z 17,Z 18,Z 19,Z 20,Z 21,Z 22,Z 23,Z 24,Z 25,Z 26,Z 27,Z 28,Z 29,Z 30,Z 31,Z 32,Z 33,Z 34,Z 35,Z 36,Z 37, .v (.int .i64 (n : Int)), .v (.int .i64 (i : Int)), Z 40,Z 41,Z 42,Z 43,Z 44,Z 45,Z 46,Z 47,Z 48,Z 49,Z 50,Z 51,Z 52,Z 53,Z 54,Z 55,Z 56,Z 57,Z 58,Z 59,Z 60,Z 61,Z 62,Z 63,Z 64,Z 65,Z 66,Z 67,Z 68,Z 69,Z 70,Z 71,Z 72,Z 73,Z 74,Z 75]) [[.int .i64 (n : Int), .int .i64 (n : Int), .slice A1 L1.length q1, .int .i64 (n : Int), .int .i64 (m : Int), .slice A2 L2.length q2]] H3 V3 s ∧ V2.le V3 ∧ r + i = n ∧ rowsB n m p q i = true) n ⟨0, V2, _, StIs.of (by exact rfl), View.le_refl _, by omega, rfl⟩ ?_
    rintro r s ⟨i, V3, H3, hs, hV3, hr, hrow⟩
    obtain ⟨z, rfl⟩ := hs.out
    try dsimp only
    clear hs
    by_cases hi : i < n
    rotate_left
    · obtain rfl : i = n := by omega
      have b1 : decide ((i : Int) < (i : Int)) = false := decide_eq_false (by omega)
      first | refine Gx.a (by kernel_rfl) fun K hK => ?_ | refine Gx.b (by kernel_rfl) fun K hK => ?_ | refine Gx.c (by kernel_rfl) fun K hK => ?_
      simp only [XM, XA, XB, gateX, Nat.reduceAdd, Nat.reduceLeDiff, Nat.reduceSub, Nat.reduceMul, ↓reduceIte, Int.reduceToNat, Int.reduceLE, beq_self_eq_true, b1]
      refine hK _ ?_
      first | refine Gx.f rfl ?_ | refine XWP.seq (Gx.f rfl ?_)
      refine XWP.exit ?_
      exact fun f => ⟨V3, _, StIs.of (by exact rfl), hrow⟩
    have b1 : decide ((i : Int) < (n : Int)) = true := decide_eq_true (by omega)
    first | refine Gx.a (by kernel_rfl) fun K hK => ?_ | refine Gx.b (by kernel_rfl) fun K hK => ?_ | refine Gx.c (by kernel_rfl) fun K hK => ?_
    simp only [XM, XA, XB, gateX, Nat.reduceAdd, Nat.reduceLeDiff, Nat.reduceSub, Nat.reduceMul, ↓reduceIte, Int.reduceToNat, Int.reduceLE, beq_self_eq_true, b1]
    refine hK _ ?_
    first | refine Gx.t rfl ?_ | refine XWP.seq (Gx.t rfl ?_)
    refine XWP.skip ?_
    refine XWP.seq ?_
    first | refine XWP.block ?_ | refine XWP.seq (XWP.block ?_)
    first | refine Gx.a (by kernel_rfl) fun K hK => ?_ | refine Gx.b (by kernel_rfl) fun K hK => ?_ | refine Gx.c (by kernel_rfl) fun K hK => ?_
    simp only [XM, XA, XB, gateX, Nat.reduceAdd, Nat.reduceLeDiff, Nat.reduceSub, Nat.reduceMul, ↓reduceIte, Int.reduceToNat, Int.reduceLE, beq_self_eq_true]
    refine hK _ ?_
    first | refine Gx.a (by kernel_rfl) fun K hK => ?_ | refine Gx.b (by kernel_rfl) fun K hK => ?_ | refine Gx.c (by kernel_rfl) fun K hK => ?_
    simp only [XM, XA, XB, gateX, Nat.reduceAdd, Nat.reduceLeDiff, Nat.reduceSub, Nat.reduceMul, ↓reduceIte, Int.reduceToNat, Int.reduceLE, beq_self_eq_true]
    refine call_go (by kernel_rfl) rfl (qzero_c _) fun v4 V4 hV4 h4 => ?_
    obtain ⟨x4, y4, rfl, o1, o2⟩ := h4.form
    simp only [XM, XA, XB, gateX, Nat.reduceAdd, Nat.reduceLeDiff, Nat.reduceSub, Nat.reduceMul, ↓reduceIte, Int.reduceToNat, Int.reduceLE, beq_self_eq_true]
    refine st_rat rfl rfl rfl o1 o2 ?_
    simp only [XM, XA, XB, gateX, Nat.reduceAdd, Nat.reduceLeDiff, Nat.reduceSub, Nat.reduceMul, ↓reduceIte, Int.reduceToNat, Int.reduceLE, beq_self_eq_true]
    refine hK _ ?_
    clear hK
    refine XWP.cutD 2 (fun s => ∃ (V5 : View) (H5 : Heap) (x y : Value), StIs (fun Z => [Z 0, .p 0 0, Z 2, .v (.int .i64 (i : Int)), .p 1 0, Z 5,Z 6,Z 7,Z 8,Z 9,Z 10,Z 11,Z 12,Z 13,Z 14,Z 15,Z 16,Z 17,Z 18,Z 19,Z 20,Z 21,Z 22,Z 23,Z 24,Z 25,Z 26,Z 27,Z 28,Z 29,Z 30,Z 31,Z 32,Z 33,Z 34,Z 35,Z 36,Z 37, .v (.int .i64 (n : Int)), .v (.int .i64 (i : Int)), Z 40,Z 41,Z 42,Z 43,Z 44,Z 45,Z 46,Z 47,Z 48,Z 49,Z 50,Z 51,Z 52,Z 53,Z 54,Z 55,Z 56,Z 57,Z 58,Z 59,Z 60,Z 61,Z 62,Z 63,Z 64,Z 65,Z 66,Z 67,Z 68,Z 69,Z 70,Z 71,Z 72,Z 73,Z 74,Z 75]) [[Value.int .i64 (n : Int), .int .i64 (n : Int), .slice A1 L1.length q1, .int .i64 (n : Int), .int .i64 (m : Int), .slice A2 L2.length q2], [.bool (ng (chX n m p q i 2)), x, y]] H5 V5 s ∧ V4.le V5 ∧ RatC V5 (.agg #[.bool (ng (chX n m p q i 2)), x, y]) (chX n m p q i 2) ∧ isOne x = true ∧ isOne y = true ∧ chO n m p q i 2 = true) ?_ ?_
    · first | refine Gx.a (by kernel_rfl) fun K hK => ?_ | refine Gx.b (by kernel_rfl) fun K hK => ?_ | refine Gx.c (by kernel_rfl) fun K hK => ?_
      simp only [XM, XA, XB, gateX, Nat.reduceAdd, Nat.reduceLeDiff, Nat.reduceSub, Nat.reduceMul, ↓reduceIte, Int.reduceToNat, Int.reduceLE, beq_self_eq_true]
      refine bs_go (by kernel_rfl) #[(0, .agg #[.int .i64 (n : Int), .int .i64 (n : Int), .slice A1 L1.length q1]), (1, .agg #[.int .i64 (n : Int), .int .i64 (m : Int), .slice A2 L2.length q2])] (by simp [ev_tmp, SV.val]) (bs_mat elemT_137 zeroT_61) fun b hb1 hb2 => ?_
      simp only [XM, XA, XB, gateX, Nat.reduceAdd, Nat.reduceLeDiff, Nat.reduceSub, Nat.reduceMul, ↓reduceIte, Int.reduceToNat, Int.reduceLE, beq_self_eq_true]
      refine hK _ ?_
      clear hK
      first | refine XWP.block ?_ | refine XWP.seq (XWP.block ?_)
      refine XWP.loopD 2 (fun r2 s => ∃ (j : Nat) (V5 : View) (x y : Value), StIs (fun Z => [Z 0, .p 0 0, Z 2, .v (.int .i64 (i : Int)), .p 1 0, Z 5,Z 6,Z 7,Z 8,Z 9,Z 10,Z 11,Z 12,Z 13,Z 14,Z 15,Z 16,Z 17,Z 18,Z 19,Z 20,Z 21,Z 22,Z 23,Z 24,Z 25,Z 26,Z 27,Z 28,Z 29,Z 30,Z 31,Z 32,Z 33,Z 34,Z 35,Z 36,Z 37, .v (.int .i64 (n : Int)), .v (.int .i64 (i : Int)), Z 40,Z 41,Z 42,Z 43,Z 44,Z 45,Z 46, .v (.slice (some ⟨b, 0, none⟩) 2 2), .v (.int .i64 2), .v (.int .i64 (j : Int)), Z 50,Z 51,Z 52,Z 53,Z 54,Z 55,Z 56,Z 57,Z 58,Z 59,Z 60,Z 61,Z 62,Z 63,Z 64,Z 65,Z 66,Z 67,Z 68,Z 69,Z 70,Z 71,Z 72,Z 73,Z 74,Z 75]) [[Value.int .i64 (n : Int), .int .i64 (n : Int), .slice A1 L1.length q1, .int .i64 (n : Int), .int .i64 (m : Int), .slice A2 L2.length q2], [.bool (ng (chX n m p q i j)), x, y]] (upd H3 b (some ⟨61, [Value.int .i64 (n : Int), .int .i64 (n : Int), .slice A1 L1.length q1, .int .i64 (n : Int), .int .i64 (m : Int), .slice A2 L2.length q2], 6⟩)) V5 s ∧ V4.le V5 ∧ r2 + j = 2 ∧ RatC V5 (.agg #[.bool (ng (chX n m p q i j)), x, y]) (chX n m p q i j) ∧ isOne x = true ∧ isOne y = true ∧ chO n m p q i j = true) 2 ⟨0, V4, x4, y4, StIs.of (by exact rfl), View.le_refl _, by omega, h4, o1, o2, rfl⟩ ?_
      clear h4 o1 o2
      rintro r2 s ⟨j, V5, x, y, hs, hV5, hr2, h5, o1, o2, hO⟩
      obtain ⟨z, rfl⟩ := hs.out
      try dsimp only
      clear hs
      by_cases hj : j < 2
      rotate_left
      · obtain rfl : j = 2 := by omega
        have b2 : decide (((2 : Nat) : Int) < 2) = false := decide_eq_false (by omega)
        first | refine Gx.a (by kernel_rfl) fun K hK => ?_ | refine Gx.b (by kernel_rfl) fun K hK => ?_ | refine Gx.c (by kernel_rfl) fun K hK => ?_
        simp only [XM, XA, XB, gateX, Nat.reduceAdd, Nat.reduceLeDiff, Nat.reduceSub, Nat.reduceMul, ↓reduceIte, Int.reduceToNat, Int.reduceLE, beq_self_eq_true, b2]
        refine hK _ ?_
        first | refine Gx.f rfl ?_ | refine XWP.seq (Gx.f rfl ?_)
        refine XWP.exit ?_
        exact fun f => ⟨V5, _, x, y, StIs.of (by exact rfl), hV5, h5, o1, o2, hO⟩
      have b2 : decide ((j : Int) < 2) = true := decide_eq_true (by omega)
      first | refine Gx.a (by kernel_rfl) fun K hK => ?_ | refine Gx.b (by kernel_rfl) fun K hK => ?_ | refine Gx.c (by kernel_rfl) fun K hK => ?_
      simp only [XM, XA, XB, gateX, Nat.reduceAdd, Nat.reduceLeDiff, Nat.reduceSub, Nat.reduceMul, ↓reduceIte, Int.reduceToNat, Int.reduceLE, beq_self_eq_true, b2]
      refine hK _ ?_
      first | refine Gx.t rfl ?_ | refine XWP.seq (Gx.t rfl ?_)
      refine XWP.skip ?_
      refine XWP.seq ?_
      first | refine XWP.block ?_ | refine XWP.seq (XWP.block ?_)
      obtain ⟨l, k, C, sj, hl, hk60, hlen, cl, hC, t0, t1, t2, qX, qS, hX, hOn⟩ := ch_pick (hp3 (View.le_trans (View.le_trans hV3 hV4) hV5)) (hq3 (View.le_trans (View.le_trans hV3 hV4) hV5)) hn hm k1 k2 hA hB i j hj hi
      have hhb : upd H3 b (some ⟨61, [Value.int .i64 (n : Int), .int .i64 (n : Int), .slice A1 L1.length q1, .int .i64 (n : Int), .int .i64 (m : Int), .slice A2 L2.length q2], 6⟩) b = some ⟨61, [Value.int .i64 (n : Int), .int .i64 (n : Int), .slice A1 L1.length q1, .int .i64 (n : Int), .int .i64 (m : Int), .slice A2 L2.length q2], 6⟩ := upd_at _ _ _
      have osj : isOne sj = true := by obtain ⟨_, _, rfl, _, _⟩ := hl.form; rfl
      generalize upd H3 b (some ⟨61, [Value.int .i64 (n : Int), .int .i64 (n : Int), .slice A1 L1.length q1, .int .i64 (n : Int), .int .i64 (m : Int), .slice A2 L2.length q2], 6⟩) = H5 at *
      have hik : i * k + k ≤ n * k := by
        have := Nat.mul_le_mul_right k (show i + 1 ≤ n by omega)
        rw [Nat.add_mul, Nat.one_mul] at this; exact this
      have hnk : n * k ≤ 3600 := Nat.le_trans (Nat.mul_le_mul hn hk60) (by decide)
      first | refine Gx.a (by kernel_rfl) fun K hK => ?_ | refine Gx.b (by kernel_rfl) fun K hK => ?_ | refine Gx.c (by kernel_rfl) fun K hK => ?_
      simp only [XM, XA, XB, gateX, Nat.reduceAdd, Nat.reduceLeDiff, Nat.reduceSub, Nat.reduceMul, ↓reduceIte, Int.reduceToNat, Int.reduceLE, beq_self_eq_true]
      refine ⟨by omega, by omega, ld_mem (ld3 shapeT_61 hhb (by simpa using t0) (by simpa using t1) (by simpa using t2)) ?_⟩
      simp only [XM, XA, XB, gateX, Nat.reduceAdd, Nat.reduceLeDiff, Nat.reduceSub, Nat.reduceMul, ↓reduceIte, Int.reduceToNat, Int.reduceLE, beq_self_eq_true]
      refine st_mat shapeT_61 rfl rfl rfl rfl osj ?_
      simp only [XM, XA, XB, gateX, Nat.reduceAdd, Nat.reduceLeDiff, Nat.reduceSub, Nat.reduceMul, ↓reduceIte, Int.reduceToNat, Int.reduceLE, beq_self_eq_true]
      refine hK _ ?_
      first | refine Gx.a (by kernel_rfl) fun K hK => ?_ | refine Gx.b (by kernel_rfl) fun K hK => ?_ | refine Gx.c (by kernel_rfl) fun K hK => ?_
      simp only [XM, XA, XB, gateX, Nat.reduceAdd, Nat.reduceLeDiff, Nat.reduceSub, Nat.reduceMul, ↓reduceIte, Int.reduceToNat, Int.reduceLE, beq_self_eq_true]
      refine hK _ ?_
      clear hK
      refine XWP.post (fun s => ∃ (V6 : View) (x y : Value), StIs (fun Z => [Z 0, .p 0 0, Z 2, .v (.int .i64 (i : Int)), .p 1 0, Z 5, .p 2 0, Z 7,Z 8,Z 9,Z 10,Z 11,Z 12,Z 13,Z 14,Z 15,Z 16,Z 17,Z 18,Z 19,Z 20,Z 21,Z 22,Z 23,Z 24,Z 25,Z 26,Z 27,Z 28,Z 29,Z 30,Z 31,Z 32,Z 33,Z 34,Z 35,Z 36,Z 37, .v (.int .i64 (n : Int)), .v (.int .i64 (i : Int)), Z 40,Z 41,Z 42,Z 43,Z 44,Z 45,Z 46, .v (.slice (some ⟨b, 0, none⟩) 2 2), .v (.int .i64 2), .v (.int .i64 (j : Int)), Z 50,Z 51,Z 52,Z 53, .v (.int .i64 (k : Int)), Z 55,Z 56,Z 57,Z 58,Z 59,Z 60,Z 61,Z 62,Z 63,Z 64,Z 65,Z 66,Z 67,Z 68,Z 69,Z 70,Z 71,Z 72,Z 73,Z 74,Z 75]) [[Value.int .i64 (n : Int), .int .i64 (n : Int), .slice A1 L1.length q1, .int .i64 (n : Int), .int .i64 (m : Int), .slice A2 L2.length q2], [.bool (ng (chX n m p q i (j + 1))), x, y], [.int .i64 (n : Int), .int .i64 (k : Int), sj]] H5 V6 s ∧ V5.le V6 ∧ RatC V6 (.agg #[.bool (ng (chX n m p q i (j + 1))), x, y]) (chX n m p q i (j + 1)) ∧ isOne x = true ∧ isOne y = true ∧ nnB l (i * k) k = true) ?_ ?_
      · first | refine XWP.block ?_ | refine XWP.seq (XWP.block ?_)
        refine XWP.loop (fun r3 s => ∃ (k0 : Nat) (V6 : View) (x y : Value), StIs (fun Z => [Z 0, .p 0 0, Z 2, .v (.int .i64 (i : Int)), .p 1 0, Z 5, .p 2 0, Z 7,Z 8,Z 9,Z 10,Z 11,Z 12,Z 13,Z 14,Z 15,Z 16,Z 17,Z 18,Z 19,Z 20,Z 21,Z 22,Z 23,Z 24,Z 25,Z 26,Z 27,Z 28,Z 29,Z 30,Z 31,Z 32,Z 33,Z 34,Z 35,Z 36,Z 37, .v (.int .i64 (n : Int)), .v (.int .i64 (i : Int)), Z 40,Z 41,Z 42,Z 43,Z 44,Z 45,Z 46, .v (.slice (some ⟨b, 0, none⟩) 2 2), .v (.int .i64 2), .v (.int .i64 (j : Int)), Z 50,Z 51,Z 52,Z 53, .v (.int .i64 (k : Int)), .v (.int .i64 (k0 : Int)), Z 56,Z 57,Z 58,Z 59,Z 60,Z 61,Z 62,Z 63,Z 64,Z 65,Z 66,Z 67,Z 68,Z 69,Z 70,Z 71,Z 72,Z 73,Z 74,Z 75]) [[Value.int .i64 (n : Int), .int .i64 (n : Int), .slice A1 L1.length q1, .int .i64 (n : Int), .int .i64 (m : Int), .slice A2 L2.length q2], [.bool (ng (rS l (i * k) (chX n m p q i j) k0)), x, y], [.int .i64 (n : Int), .int .i64 (k : Int), sj]] H5 V6 s ∧ V5.le V6 ∧ r3 + k0 = k ∧ RatC V6 (.agg #[.bool (ng (rS l (i * k) (chX n m p q i j) k0)), x, y]) (rS l (i * k) (chX n m p q i j) k0) ∧ isOne x = true ∧ isOne y = true ∧ nnB l (i * k) k0 = true) k ⟨0, V5, x, y, StIs.of (by exact rfl), View.le_refl _, by omega, h5, o1, o2, rfl⟩ ?_
        clear h5 o1 o2
        rintro r3 s ⟨k0, V6, x, y, hs, hV6, hr3, h6, o1, o2, hnn⟩
        obtain ⟨z, rfl⟩ := hs.out
        try dsimp only
        clear hs
        by_cases hk0 : k0 < k
        rotate_left
        · obtain rfl : k0 = k := by omega
          rw [hX] at h6 ⊢
          have b3 : decide ((k0 : Int) < (k0 : Int)) = false := decide_eq_false (by omega)
          first | refine Gx.a (by kernel_rfl) fun K hK => ?_ | refine Gx.b (by kernel_rfl) fun K hK => ?_ | refine Gx.c (by kernel_rfl) fun K hK => ?_
          simp only [XM, XA, XB, gateX, Nat.reduceAdd, Nat.reduceLeDiff, Nat.reduceSub, Nat.reduceMul, ↓reduceIte, Int.reduceToNat, Int.reduceLE, beq_self_eq_true, b3]
          refine hK _ ?_
          first | refine Gx.f rfl ?_ | refine XWP.seq (Gx.f rfl ?_)
          refine XWP.exit ?_
          exact ⟨V6, x, y, StIs.of (by exact rfl), hV6, h6, o1, o2, hnn⟩
        have b3 : decide ((k0 : Int) < (k : Int)) = true := decide_eq_true (by omega)
        first | refine Gx.a (by kernel_rfl) fun K hK => ?_ | refine Gx.b (by kernel_rfl) fun K hK => ?_ | refine Gx.c (by kernel_rfl) fun K hK => ?_
        simp only [XM, XA, XB, gateX, Nat.reduceAdd, Nat.reduceLeDiff, Nat.reduceSub, Nat.reduceMul, ↓reduceIte, Int.reduceToNat, Int.reduceLE, beq_self_eq_true, b3]
        refine hK _ ?_
        first | refine Gx.t rfl ?_ | refine XWP.seq (Gx.t rfl ?_)
        refine XWP.skip ?_
        refine XWP.seq ?_
        first | refine XWP.block ?_ | refine XWP.seq (XWP.block ?_)
        first | refine Gx.a (by kernel_rfl) fun K hK => ?_ | refine Gx.b (by kernel_rfl) fun K hK => ?_ | refine Gx.c (by kernel_rfl) fun K hK => ?_
        simp only [XM, XA, XB, gateX, Nat.reduceAdd, Nat.reduceLeDiff, Nat.reduceSub, Nat.reduceMul, ↓reduceIte, Int.reduceToNat, Int.reduceLE, beq_self_eq_true]
        refine hK _ ?_
        have hl6 := hl.up hV6
        have hik0 : i * k + k0 < l.length := by omega
        first | refine Gx.a (by kernel_rfl) fun K hK => ?_ | refine Gx.b (by kernel_rfl) fun K hK => ?_ | refine Gx.c (by kernel_rfl) fun K hK => ?_
        simp only [XM, XA, XB, gateX, Nat.reduceAdd, Nat.reduceLeDiff, Nat.reduceSub, Nat.reduceMul, ↓reduceIte, Int.reduceToNat, Int.reduceLE, beq_self_eq_true]
        refine call_go (by kernel_rfl) rfl (ccell_c _ _ _ k i k0 l hl6 hik0 hk60 (by omega) (by omega)) fun v7 V7 hV7 h7 => ?_
        obtain ⟨x7, y7, rfl, o3, o4⟩ := h7.form
        cases hng : ng (cf l (i * k + k0))
        rotate_left
        · simp only [XM, XA, XB, gateX, Nat.reduceAdd, Nat.reduceLeDiff, Nat.reduceSub, Nat.reduceMul, ↓reduceIte, Int.reduceToNat, Int.reduceLE, beq_self_eq_true]
          refine hK _ ?_
          first | refine Gx.t rfl ?_ | refine XWP.seq (Gx.t rfl ?_)
          first | refine Gx.a (by kernel_rfl) fun K hK => ?_ | refine Gx.b (by kernel_rfl) fun K hK => ?_ | refine Gx.c (by kernel_rfl) fun K hK => ?_
          simp only [XM, XA, XB, gateX, Nat.reduceAdd, Nat.reduceLeDiff, Nat.reduceSub, Nat.reduceMul, ↓reduceIte, Int.reduceToNat, Int.reduceLE, beq_self_eq_true]
          refine hK _ (XWP.ret ?_)
          try simp only [thenX_ret, inBlockX_ret]
          refine ret_go _ rfl ?_
          have := nnB_bad hng hk0
          rw [rowsB_bad (rowB_neg (j := j + 1) (by rw [hOn hO]; exact this)) hi]; rfl
        simp only [XM, XA, XB, gateX, Nat.reduceAdd, Nat.reduceLeDiff, Nat.reduceSub, Nat.reduceMul, ↓reduceIte, Int.reduceToNat, Int.reduceLE, beq_self_eq_true]
        refine hK _ ?_
        first | refine Gx.f rfl ?_ | refine XWP.seq (Gx.f rfl ?_)
        refine XWP.skip ?_
        (first | refine XWP.drw [0, 1, 2, 3, 4, 5, 6] (by kernel_rfl) (by kernel_rfl) (by kernel_rfl) fun K hK => ?_ | refine XWP.seq (XWP.drw [0, 1, 2, 3, 4, 5, 6] (by kernel_rfl) (by kernel_rfl) (by kernel_rfl) fun K hK => ?_) | refine XWP.drw1 [0, 1, 2, 3, 4, 5, 6] (by kernel_rfl) (by kernel_rfl) (by kernel_rfl) fun K hK => ?_) <;> dsimp only [pickOps, List.getElem?_cons_zero, List.getElem?_cons_succ]
        simp only [XM, XA, XB, gateX, Nat.reduceAdd, Nat.reduceLeDiff, Nat.reduceSub, Nat.reduceMul, ↓reduceIte, Int.reduceToNat, Int.reduceLE, beq_self_eq_true]
        refine call_go (by kernel_rfl) rfl (ccell_c _ _ _ k i k0 l (hl6.up hV7) hik0 hk60 (by omega) (by omega)) fun v8 V8 hV8 h8 => ?_
        simp only [XM, XA, XB, gateX, Nat.reduceAdd, Nat.reduceLeDiff, Nat.reduceSub, Nat.reduceMul, ↓reduceIte, Int.reduceToNat, Int.reduceLE, beq_self_eq_true]
        refine call_go (by kernel_rfl) rfl (qadd_c _ _ _ _ _ (h6.mono (View.le_trans hV7 hV8)) h8 ((qS k0).qf (by omega)) ((cl.at _).qf (by omega))) fun v9 V9 hV9 h9 => ?_
        obtain ⟨x9, y9, rfl, o5, o6⟩ := h9.form
        simp only [XM, XA, XB, gateX, Nat.reduceAdd, Nat.reduceLeDiff, Nat.reduceSub, Nat.reduceMul, ↓reduceIte, Int.reduceToNat, Int.reduceLE, beq_self_eq_true]
        refine st_rat rfl rfl rfl o5 o6 ?_
        simp only [XM, XA, XB, gateX, Nat.reduceAdd, Nat.reduceLeDiff, Nat.reduceSub, Nat.reduceMul, ↓reduceIte, Int.reduceToNat, Int.reduceLE, beq_self_eq_true]
        refine hK _ ?_
        first | refine Gx.a (by kernel_rfl) fun K hK => ?_ | refine Gx.b (by kernel_rfl) fun K hK => ?_ | refine Gx.c (by kernel_rfl) fun K hK => ?_
        simp only [XM, XA, XB, gateX, Nat.reduceAdd, Nat.reduceLeDiff, Nat.reduceSub, Nat.reduceMul, ↓reduceIte, Int.reduceToNat, Int.reduceLE, beq_self_eq_true, i64_succ k0 (by omega)]
        exact hK _ ⟨r3 - 1, by omega, k0 + 1, V9, x9, y9, StIs.of (by exact rfl), View.le_trans hV6 (View.le_trans hV7 (View.le_trans hV8 hV9)), by omega, h9, o5, o6, by rw [nnB, hnn, hng]; rfl⟩
      rintro s ⟨V6, x6, y6, hs, hV6, h6, o3, o4, hnn⟩
      obtain ⟨z, rfl⟩ := hs.out
      try dsimp only
      clear hs
      first | refine Gx.a (by kernel_rfl) fun K hK => ?_ | refine Gx.b (by kernel_rfl) fun K hK => ?_ | refine Gx.c (by kernel_rfl) fun K hK => ?_
      simp only [XM, XA, XB, gateX, Nat.reduceAdd, Nat.reduceLeDiff, Nat.reduceSub, Nat.reduceMul, ↓reduceIte, Int.reduceToNat, Int.reduceLE, beq_self_eq_true, i64_succ j (by omega)]
      refine hK _ ⟨r2 - 1, by omega, fun f => ⟨j + 1, V6, x6, y6, StIs.of (by exact rfl), View.le_trans hV5 hV6, by omega, h6, o3, o4, by rw [hOn hO]; exact hnn⟩⟩
    rintro s ⟨V5, H5, x, y, hs, hV5, h5, o3, o4, hO⟩
    obtain ⟨z, rfl⟩ := hs.out
    try dsimp only
    clear hs
    have hrw := rowB_two n m p q i hO
    have qX : QF (chX n m p q i 2) := by
      have := rS_QB hB (rS_QB hA (QB_zero 0) (i * n) n) (i * m) m
      exact this.qf (by omega)
    (first | refine XWP.drw [0, 1, 2, 3] (by kernel_rfl) (by kernel_rfl) (by kernel_rfl) fun K hK => ?_ | refine XWP.seq (XWP.drw [0, 1, 2, 3] (by kernel_rfl) (by kernel_rfl) (by kernel_rfl) fun K hK => ?_) | refine XWP.drw1 [0, 1, 2, 3] (by kernel_rfl) (by kernel_rfl) (by kernel_rfl) fun K hK => ?_) <;> dsimp only [pickOps, List.getElem?_cons_zero, List.getElem?_cons_succ]
    simp only [XM, XA, XB, gateX, Nat.reduceAdd, Nat.reduceLeDiff, Nat.reduceSub, Nat.reduceMul, ↓reduceIte, Int.reduceToNat, Int.reduceLE, beq_self_eq_true]
    refine call_go (by kernel_rfl) rfl (qone_c _) fun v6 V6 hV6 h6 => ?_
    simp only [XM, XA, XB, gateX, Nat.reduceAdd, Nat.reduceLeDiff, Nat.reduceSub, Nat.reduceMul, ↓reduceIte, Int.reduceToNat, Int.reduceLE, beq_self_eq_true]
    refine call_go (by kernel_rfl) rfl (qsame_c _ _ _ _ _ (h5.mono hV6) h6 qX QF_one) fun v7 V7 hV7 h7 => ?_
    subst h7
    cases hb : decide (chX n m p q i 2 = 1)
    · simp only [XM, XA, XB, gateX, Nat.reduceAdd, Nat.reduceLeDiff, Nat.reduceSub, Nat.reduceMul, ↓reduceIte, Int.reduceToNat, Int.reduceLE, beq_self_eq_true]
      refine hK _ ?_
      first | refine Gx.t rfl ?_ | refine XWP.seq (Gx.t rfl ?_)
      first | refine Gx.a (by kernel_rfl) fun K hK => ?_ | refine Gx.b (by kernel_rfl) fun K hK => ?_ | refine Gx.c (by kernel_rfl) fun K hK => ?_
      simp only [XM, XA, XB, gateX, Nat.reduceAdd, Nat.reduceLeDiff, Nat.reduceSub, Nat.reduceMul, ↓reduceIte, Int.reduceToNat, Int.reduceLE, beq_self_eq_true]
      refine hK _ (XWP.ret ?_)
      try simp only [thenX_ret, inBlockX_ret]
      refine ret_go _ rfl ?_
      rw [hb] at hrw
      rw [rowsB_bad hrw hi]; rfl
    · simp only [XM, XA, XB, gateX, Nat.reduceAdd, Nat.reduceLeDiff, Nat.reduceSub, Nat.reduceMul, ↓reduceIte, Int.reduceToNat, Int.reduceLE, beq_self_eq_true]
      refine hK _ ?_
      first | refine Gx.f rfl ?_ | refine XWP.seq (Gx.f rfl ?_)
      refine XWP.skip ?_
      first | refine Gx.a (by kernel_rfl) fun K hK => ?_ | refine Gx.b (by kernel_rfl) fun K hK => ?_ | refine Gx.c (by kernel_rfl) fun K hK => ?_
      simp only [XM, XA, XB, gateX, Nat.reduceAdd, Nat.reduceLeDiff, Nat.reduceSub, Nat.reduceMul, ↓reduceIte, Int.reduceToNat, Int.reduceLE, beq_self_eq_true, i64_succ i (by omega)]
      refine hK _ ⟨r - 1, by omega, fun f => ⟨i + 1, V7, _, StIs.of (by exact rfl), View.le_trans hV3 (View.le_trans hV4 (View.le_trans hV5 (View.le_trans hV6 hV7))), by omega, ?_⟩⟩
      rw [rowsB, hrow, hrw, hb]; rfl
  rintro s ⟨V3, H3, hs, hrow⟩
  obtain ⟨z, rfl⟩ := hs.out
  try dsimp only
  first | refine Gx.a (by kernel_rfl) fun K hK => ?_ | refine Gx.b (by kernel_rfl) fun K hK => ?_ | refine Gx.c (by kernel_rfl) fun K hK => ?_
  simp only [XM, XA, XB, gateX, Nat.reduceAdd, Nat.reduceLeDiff, Nat.reduceSub, Nat.reduceMul, ↓reduceIte, Int.reduceToNat, Int.reduceLE, beq_self_eq_true]
  refine hK _ (XWP.ret ?_)
  try simp only [thenX_ret, inBlockX_ret]
  refine ret_go _ rfl ?_
  rw [hrow]; rfl
end Go.Proofs.Ythoboehbadmlmaa
end
section
namespace Go.Proofs.Ythoboehbadmlmaa
open Go Go.RowKit
set_option linter.unusedSimpArgs false
set_option linter.unusedVariables false
attribute [local irreducible] XWP Spec SpecO XPub XCall seqX clX apX stX ldX iaX slX
theorem CB.fitR {A : Nat} {l : List Rat} (h : CB A l) (hA : A ≤ 17592186044416) : fitR (l.map toRaw) := fitR_toRaw (h.qf hA)
end Go.Proofs.Ythoboehbadmlmaa
end
section
namespace Go.Proofs.Ythoboehbadmlmaa
open Go Go.RowKit
set_option linter.unusedSimpArgs false
set_option linter.unusedVariables false
attribute [local irreducible] XWP Spec SpecO XPub XCall seqX clX apX stX ldX iaX slX
def listsE (L A : List Raw) (n : Int) : Int :=
  if okR L = false ∨ okR A = false then 1 else if 400 < (L.length : Int) ∨ 400 < (A.length : Int) ∨ 400 < n then 2 else if (L.length : Int) < (A.length : Int) ∨ n < 0 then 1 else 0
theorem lists_c (V : View) (v u : Value) (L A : List Raw) (n : Int) (hv : Raws V v L) (hu : Raws V u A) (fL : fitR L) (fA : fitR A) (lL : L.length ≤ 1000000) (lA : A.length ≤ 1000000) :
    Spec Try.prog 61 [v, u, .int .i64 n] V fun v' V' => v' = .int .i64 (listsE L A n) := by
  obtain ⟨A1, c1, rfl, hc1, hm1⟩ := hv.form
  obtain ⟨A2, c2, rfl, hc2, hm2⟩ := hu.form
  unfold listsE
  refine (Spec.enter Try.func61 rfl fun Γ => ?_)
  simp only [Try.ntmps61, List.map_cons, List.map_nil, List.length_cons, List.length_nil, Nat.reduceAdd, Nat.reduceSub, List.replicate_succ, List.replicate_zero, List.cons_append, List.nil_append]
  first | refine Gx.a (by kernel_rfl) fun K hK => ?_ | refine Gx.b (by kernel_rfl) fun K hK => ?_ | refine Gx.c (by kernel_rfl) fun K hK => ?_
  simp only [XA, XB, gateX, Nat.reduceAdd, Nat.reduceLeDiff, Nat.reduceSub, Nat.reduceMul, ↓reduceIte, Int.reduceToNat, Int.reduceLE, beq_self_eq_true]
  refine hK _ ?_
  refine XWP.seq ?_
  first | refine XWP.block ?_ | refine XWP.seq (XWP.block ?_)
  first | refine Gx.a (by kernel_rfl) fun K hK => ?_ | refine Gx.b (by kernel_rfl) fun K hK => ?_ | refine Gx.c (by kernel_rfl) fun K hK => ?_
  simp only [XA, XB, gateX, Nat.reduceAdd, Nat.reduceLeDiff, Nat.reduceSub, Nat.reduceMul, ↓reduceIte, Int.reduceToNat, Int.reduceLE, beq_self_eq_true]
  refine call_go (by kernel_rfl) rfl (fine_c _ _ _ hv fL lL) fun v1 V1 hV1 h1 => ?_
  subst h1
  cases e1 : okR L
  · simp only [XA, XB, gateX, Nat.reduceAdd, Nat.reduceLeDiff, Nat.reduceSub, Nat.reduceMul, ↓reduceIte, Int.reduceToNat, Int.reduceLE, beq_self_eq_true]
    refine hK _ ?_
    first | refine Gx.t rfl ?_ | refine XWP.seq (Gx.t rfl ?_)
    first | refine Gx.a (by kernel_rfl) fun K hK => ?_ | refine Gx.b (by kernel_rfl) fun K hK => ?_ | refine Gx.c (by kernel_rfl) fun K hK => ?_
    simp only [XA, XB, gateX, Nat.reduceAdd, Nat.reduceLeDiff, Nat.reduceSub, Nat.reduceMul, ↓reduceIte, Int.reduceToNat, Int.reduceLE, beq_self_eq_true]
    refine hK _ (XWP.ret ?_)
    try simp only [thenX_ret, inBlockX_ret]
    refine ret_go _ rfl ?_
    rw [if_pos (.inl e1)]; rfl
  simp only [XA, XB, gateX, Nat.reduceAdd, Nat.reduceLeDiff, Nat.reduceSub, Nat.reduceMul, ↓reduceIte, Int.reduceToNat, Int.reduceLE, beq_self_eq_true]
  refine call_go (by kernel_rfl) rfl (fine_c _ _ _ (hu.up hV1) fA lA) fun v2 V2 hV2 h2 => ?_
  subst h2
  cases e2 : okR A
  · simp only [XA, XB, gateX, Nat.reduceAdd, Nat.reduceLeDiff, Nat.reduceSub, Nat.reduceMul, ↓reduceIte, Int.reduceToNat, Int.reduceLE, beq_self_eq_true]
    refine hK _ ?_
    first | refine Gx.t rfl ?_ | refine XWP.seq (Gx.t rfl ?_)
    first | refine Gx.a (by kernel_rfl) fun K hK => ?_ | refine Gx.b (by kernel_rfl) fun K hK => ?_ | refine Gx.c (by kernel_rfl) fun K hK => ?_
    simp only [XA, XB, gateX, Nat.reduceAdd, Nat.reduceLeDiff, Nat.reduceSub, Nat.reduceMul, ↓reduceIte, Int.reduceToNat, Int.reduceLE, beq_self_eq_true]
    refine hK _ (XWP.ret ?_)
    try simp only [thenX_ret, inBlockX_ret]
    refine ret_go _ rfl ?_
    rw [if_pos (.inr e2)]; rfl
  simp only [XA, XB, gateX, Nat.reduceAdd, Nat.reduceLeDiff, Nat.reduceSub, Nat.reduceMul, ↓reduceIte, Int.reduceToNat, Int.reduceLE, beq_self_eq_true]
  refine hK _ ?_
  first | refine Gx.f rfl ?_ | refine XWP.seq (Gx.f rfl ?_)
  have g0 : ¬(okR L = false ∨ okR A = false) := by rw [e1, e2]; simp
  by_cases g1 : (400 : Int) < (L.length : Int) ∨ 400 < (A.length : Int) ∨ 400 < n
  · by_cases d1 : (400 : Int) < (L.length : Int)
    · have b1 : decide ((400 : Int) < (L.length : Int)) = true := decide_eq_true d1
      first | refine Gx.a (by kernel_rfl) fun K hK => ?_ | refine Gx.b (by kernel_rfl) fun K hK => ?_ | refine Gx.c (by kernel_rfl) fun K hK => ?_
      simp only [XA, XB, gateX, Nat.reduceAdd, Nat.reduceLeDiff, Nat.reduceSub, Nat.reduceMul, ↓reduceIte, Int.reduceToNat, Int.reduceLE, beq_self_eq_true, b1]
      refine hK _ ?_
      first | refine Gx.t rfl ?_ | refine XWP.seq (Gx.t rfl ?_)
      first | refine Gx.a (by kernel_rfl) fun K hK => ?_ | refine Gx.b (by kernel_rfl) fun K hK => ?_ | refine Gx.c (by kernel_rfl) fun K hK => ?_
      simp only [XA, XB, gateX, Nat.reduceAdd, Nat.reduceLeDiff, Nat.reduceSub, Nat.reduceMul, ↓reduceIte, Int.reduceToNat, Int.reduceLE, beq_self_eq_true]
      refine hK _ (XWP.ret ?_)
      try simp only [thenX_ret, inBlockX_ret]
      refine ret_go _ rfl ?_
      rw [if_neg g0, if_pos g1]; rfl
    · have b1 : decide ((400 : Int) < (L.length : Int)) = false := decide_eq_false d1
      by_cases d2 : (400 : Int) < (A.length : Int)
      · have b2 : decide ((400 : Int) < (A.length : Int)) = true := decide_eq_true d2
        first | refine Gx.a (by kernel_rfl) fun K hK => ?_ | refine Gx.b (by kernel_rfl) fun K hK => ?_ | refine Gx.c (by kernel_rfl) fun K hK => ?_
        simp only [XA, XB, gateX, Nat.reduceAdd, Nat.reduceLeDiff, Nat.reduceSub, Nat.reduceMul, ↓reduceIte, Int.reduceToNat, Int.reduceLE, beq_self_eq_true, b1, b2]
        refine hK _ ?_
        first | refine Gx.t rfl ?_ | refine XWP.seq (Gx.t rfl ?_)
        first | refine Gx.a (by kernel_rfl) fun K hK => ?_ | refine Gx.b (by kernel_rfl) fun K hK => ?_ | refine Gx.c (by kernel_rfl) fun K hK => ?_
        simp only [XA, XB, gateX, Nat.reduceAdd, Nat.reduceLeDiff, Nat.reduceSub, Nat.reduceMul, ↓reduceIte, Int.reduceToNat, Int.reduceLE, beq_self_eq_true]
        refine hK _ (XWP.ret ?_)
        try simp only [thenX_ret, inBlockX_ret]
        refine ret_go _ rfl ?_
        rw [if_neg g0, if_pos g1]; rfl
      · have b2 : decide ((400 : Int) < (A.length : Int)) = false := decide_eq_false d2
        have b3 : decide ((400 : Int) < n) = true := decide_eq_true (by omega)
        first | refine Gx.a (by kernel_rfl) fun K hK => ?_ | refine Gx.b (by kernel_rfl) fun K hK => ?_ | refine Gx.c (by kernel_rfl) fun K hK => ?_
        simp only [XA, XB, gateX, Nat.reduceAdd, Nat.reduceLeDiff, Nat.reduceSub, Nat.reduceMul, ↓reduceIte, Int.reduceToNat, Int.reduceLE, beq_self_eq_true, b1, b2, b3]
        refine hK _ ?_
        first | refine Gx.t rfl ?_ | refine XWP.seq (Gx.t rfl ?_)
        first | refine Gx.a (by kernel_rfl) fun K hK => ?_ | refine Gx.b (by kernel_rfl) fun K hK => ?_ | refine Gx.c (by kernel_rfl) fun K hK => ?_
        simp only [XA, XB, gateX, Nat.reduceAdd, Nat.reduceLeDiff, Nat.reduceSub, Nat.reduceMul, ↓reduceIte, Int.reduceToNat, Int.reduceLE, beq_self_eq_true]
        refine hK _ (XWP.ret ?_)
        try simp only [thenX_ret, inBlockX_ret]
        refine ret_go _ rfl ?_
        rw [if_neg g0, if_pos g1]; rfl
  · have b1 : decide ((400 : Int) < (L.length : Int)) = false := decide_eq_false (by omega)
    have b2 : decide ((400 : Int) < (A.length : Int)) = false := decide_eq_false (by omega)
    have b3 : decide ((400 : Int) < n) = false := decide_eq_false (by omega)
    first | refine Gx.a (by kernel_rfl) fun K hK => ?_ | refine Gx.b (by kernel_rfl) fun K hK => ?_ | refine Gx.c (by kernel_rfl) fun K hK => ?_
    simp only [XA, XB, gateX, Nat.reduceAdd, Nat.reduceLeDiff, Nat.reduceSub, Nat.reduceMul, ↓reduceIte, Int.reduceToNat, Int.reduceLE, beq_self_eq_true, b1, b2, b3]
    refine hK _ ?_
    first | refine Gx.f rfl ?_ | refine XWP.seq (Gx.f rfl ?_)
    by_cases g2 : (L.length : Int) < (A.length : Int) ∨ n < 0
    · by_cases d1 : (L.length : Int) < (A.length : Int)
      · have b4 : decide ((L.length : Int) < (A.length : Int)) = true := decide_eq_true d1
        first | refine Gx.a (by kernel_rfl) fun K hK => ?_ | refine Gx.b (by kernel_rfl) fun K hK => ?_ | refine Gx.c (by kernel_rfl) fun K hK => ?_
        simp only [XA, XB, gateX, Nat.reduceAdd, Nat.reduceLeDiff, Nat.reduceSub, Nat.reduceMul, ↓reduceIte, Int.reduceToNat, Int.reduceLE, beq_self_eq_true, b4]
        refine hK _ ?_
        first | refine Gx.t rfl ?_ | refine XWP.seq (Gx.t rfl ?_)
        first | refine Gx.a (by kernel_rfl) fun K hK => ?_ | refine Gx.b (by kernel_rfl) fun K hK => ?_ | refine Gx.c (by kernel_rfl) fun K hK => ?_
        simp only [XA, XB, gateX, Nat.reduceAdd, Nat.reduceLeDiff, Nat.reduceSub, Nat.reduceMul, ↓reduceIte, Int.reduceToNat, Int.reduceLE, beq_self_eq_true]
        refine hK _ (XWP.ret ?_)
        try simp only [thenX_ret, inBlockX_ret]
        refine ret_go _ rfl ?_
        rw [if_neg g0, if_neg g1, if_pos g2]; rfl
      · have b4 : decide ((L.length : Int) < (A.length : Int)) = false := decide_eq_false d1
        have b5 : decide (n < 0) = true := decide_eq_true (by omega)
        first | refine Gx.a (by kernel_rfl) fun K hK => ?_ | refine Gx.b (by kernel_rfl) fun K hK => ?_ | refine Gx.c (by kernel_rfl) fun K hK => ?_
        simp only [XA, XB, gateX, Nat.reduceAdd, Nat.reduceLeDiff, Nat.reduceSub, Nat.reduceMul, ↓reduceIte, Int.reduceToNat, Int.reduceLE, beq_self_eq_true, b4, b5]
        refine hK _ ?_
        first | refine Gx.t rfl ?_ | refine XWP.seq (Gx.t rfl ?_)
        first | refine Gx.a (by kernel_rfl) fun K hK => ?_ | refine Gx.b (by kernel_rfl) fun K hK => ?_ | refine Gx.c (by kernel_rfl) fun K hK => ?_
        simp only [XA, XB, gateX, Nat.reduceAdd, Nat.reduceLeDiff, Nat.reduceSub, Nat.reduceMul, ↓reduceIte, Int.reduceToNat, Int.reduceLE, beq_self_eq_true]
        refine hK _ (XWP.ret ?_)
        try simp only [thenX_ret, inBlockX_ret]
        refine ret_go _ rfl ?_
        rw [if_neg g0, if_neg g1, if_pos g2]; rfl
    · have b4 : decide ((L.length : Int) < (A.length : Int)) = false := decide_eq_false (by omega)
      have b5 : decide (n < 0) = false := decide_eq_false (by omega)
      first | refine Gx.a (by kernel_rfl) fun K hK => ?_ | refine Gx.b (by kernel_rfl) fun K hK => ?_ | refine Gx.c (by kernel_rfl) fun K hK => ?_
      simp only [XA, XB, gateX, Nat.reduceAdd, Nat.reduceLeDiff, Nat.reduceSub, Nat.reduceMul, ↓reduceIte, Int.reduceToNat, Int.reduceLE, beq_self_eq_true, b4, b5]
      refine hK _ ?_
      first | refine Gx.f rfl ?_ | refine XWP.seq (Gx.f rfl ?_)
      refine XWP.skip ?_
      first | refine Gx.a (by kernel_rfl) fun K hK => ?_ | refine Gx.b (by kernel_rfl) fun K hK => ?_ | refine Gx.c (by kernel_rfl) fun K hK => ?_
      simp only [XA, XB, gateX, Nat.reduceAdd, Nat.reduceLeDiff, Nat.reduceSub, Nat.reduceMul, ↓reduceIte, Int.reduceToNat, Int.reduceLE, beq_self_eq_true]
      refine hK _ (XWP.ret ?_)
      try simp only [thenX_ret, inBlockX_ret]
      refine ret_go _ rfl ?_
      rw [if_neg g0, if_neg g1, if_neg g2]; rfl
theorem rclone_o (V : View) (v : Value) (l : List Rat) (h : Rats V v l) (hl : l.length ≤ 1000000) :
    SpecO Try.prog 62 [v] V fun v' V' o => (v' = .slice none 0 0 ∧ l = [] ∧ o = none) ∨ ∃ g cells c, v' = .slice (some ⟨g, 0, none⟩) l.length c ∧ o = some (g, ⟨34, cells, c * 3⟩) ∧ RowAt ratE V' cells l ∧ l.length ≤ c ∧ c ≤ maxLen := by
  obtain ⟨A, c, rfl, hc, hm⟩ := h.form
  refine (SpecO.enter Try.func62 rfl fun Γ => ?_)
  simp only [Try.ntmps62, List.map_cons, List.map_nil, List.length_cons, List.length_nil, Nat.reduceAdd, Nat.reduceSub, List.replicate_succ, List.replicate_zero, List.cons_append, List.nil_append]
  first | refine Gx.a (by kernel_rfl) fun K hK => ?_ | refine Gx.b (by kernel_rfl) fun K hK => ?_ | refine Gx.c (by kernel_rfl) fun K hK => ?_
  simp only [XA, XB, gateX, Nat.reduceAdd, Nat.reduceLeDiff, Nat.reduceSub, Nat.reduceMul, ↓reduceIte, Int.reduceToNat, Int.reduceLE, beq_self_eq_true]
  refine hK _ ?_
  refine XWP.seq ?_
  first | refine Gx.a (by kernel_rfl) fun K hK => ?_ | refine Gx.b (by kernel_rfl) fun K hK => ?_ | refine Gx.c (by kernel_rfl) fun K hK => ?_
  simp only [XA, XB, gateX, Nat.reduceAdd, Nat.reduceLeDiff, Nat.reduceSub, Nat.reduceMul, ↓reduceIte, Int.reduceToNat, Int.reduceLE, beq_self_eq_true]
  refine hK _ ?_
  refine (XWP.cond (t := A.isNone) rfl (fun hA => ?_) (fun hA => XWP.skip ?_))
  · first | refine Gx.a (by kernel_rfl) fun K hK => ?_ | refine Gx.b (by kernel_rfl) fun K hK => ?_ | refine Gx.c (by kernel_rfl) fun K hK => ?_
    simp only [XA, XB, gateX, Nat.reduceAdd, Nat.reduceLeDiff, Nat.reduceSub, Nat.reduceMul, ↓reduceIte, Int.reduceToNat, Int.reduceLE, beq_self_eq_true]
    refine hK _ (XWP.ret ?_)
    try simp only [thenX_ret, inBlockX_ret]
    refine ret_own _ none rfl (fun g r e => by cases e) ?_
    cases A with
    | some a => cases hA
    | none =>
      refine .inl ⟨rfl, ?_, rfl⟩
      rcases Nat.eq_zero_or_pos l.length with h0 | h0
      · exact List.length_eq_zero_iff.1 h0
      · obtain ⟨b, o, e⟩ := SlAt.addr h h0; cases e
  · obtain ⟨cells, hrow, hsrc⟩ := SlAt.src h
    first | refine Gx.a (by kernel_rfl) fun K hK => ?_ | refine Gx.b (by kernel_rfl) fun K hK => ?_ | refine Gx.c (by kernel_rfl) fun K hK => ?_
    refine bs_go (by kernel_rfl) #[] (by simp) (bs_zero elemT_22 zeroT_34) fun b hb1 hb2 => ?_
    simp only [XA, XB, gateX, Nat.reduceAdd, Nat.reduceLeDiff, Nat.reduceSub, Nat.reduceMul, ↓reduceIte, Int.reduceToNat, Int.reduceLE, beq_self_eq_true]
    refine ap_go elemT_22 (by kernel_rfl) zeroT_34 rfl (by omega) (n := 0) (xs := []) (own3 (by simp [upd]) rfl (Nat.le_refl _) (by omega)) (hsrc _) (by omega) (by omega) fun v' H' hres => ?_
    simp only [XA, XB, gateX, Nat.reduceAdd, Nat.reduceLeDiff, Nat.reduceSub, Nat.reduceMul, ↓reduceIte, Int.reduceToNat, Int.reduceLE, beq_self_eq_true]
    refine hK _ (XWP.ret ?_)
    try simp only [thenX_ret, inBlockX_ret]
    obtain ⟨hown, _, _⟩ := hres
    simp only [List.nil_append, Nat.zero_add] at hown
    obtain ⟨hl3, ⟨rfl, hn⟩ | ⟨g, cap, rfl, hg, hle, hcap⟩⟩ := hown
    · refine ret_own _ none rfl (fun g r e => by cases e) ?_
      exact .inl ⟨rfl, List.length_eq_zero_iff.1 hn, rfl⟩
    · refine ret_own _ (some (g, _)) rfl (fun g' r e => ?_) (.inr ⟨g, cells, cap, rfl, rfl, hrow, hle, hcap⟩)
      cases e; exact hg
end Go.Proofs.Ythoboehbadmlmaa
end
section
namespace Go.Proofs.Ythoboehbadmlmaa
open Go Go.RowKit
set_option linter.unusedSimpArgs false
set_option linter.unusedVariables false
attribute [local irreducible] XWP Spec SpecO XPub XCall seqX clX apX stX ldX iaX slX
theorem rowQ_load {H : Heap} {V : View} {b e tot : Nat} {cells : List Value} {xs : List Rat} (hr : H b = some ⟨e, cells, tot⟩) (h : RowAt ratE V cells xs) (i : Nat) (hi : i < xs.length) : ∃ m n d, RatC V (.agg #[m, n, d]) (cf xs i) ∧ (isOne m = true ∧ isOne n = true ∧ isOne d = true) ∧ Loads Try.prog H V 34 b (i * 3) (.agg #[m, n, d]) := by
  obtain ⟨v, h1, ⟨m, n, d, rfl, o1⟩, h2⟩ := RowAt.load hr h i hi
  rw [cf_get hi] at h1
  exact ⟨m, n, d, h1, o1, h2⟩
/-- nothing there, and a row that is owned -/
theorem own_addRow {V : View} {v : Value} {l : List Rat} {o : Option (Nat × Row)} (h : (v = .slice none 0 0 ∧ l = [] ∧ o = none) ∨ ∃ g cells c, v = .slice (some ⟨g, 0, none⟩) l.length c ∧ o = some (g, ⟨34, cells, c * 3⟩) ∧ RowAt ratE V cells l ∧ l.length ≤ c ∧ c ≤ maxLen) :
    ∃ cells, Own (addRow (fun _ => none) o) 34 3 v l.length cells ∧ RowAt ratE V cells l := by
  rcases h with ⟨rfl, rfl, rfl⟩ | ⟨g, cells, c, rfl, rfl, h1, h2, h3⟩
  · exact ⟨[], ⟨rfl, .inl ⟨rfl, rfl⟩⟩, RowAt.nil _⟩
  · exact ⟨cells, own3 (show upd (fun _ => none) g (some _) g = some _ from upd_at _ _ _) h1.1 h2 (by unfold maxLen at h3; omega), h1⟩
theorem RowAt.drop {α : Type} {E : View → Value → α → Prop} {V : View} {cells : List Value} {xs : List α} (h : RowAt E V cells xs) (k : Nat) : RowAt E V (cells.drop (k * 3)) (xs.drop k) := by
  refine ⟨by rw [List.length_drop, List.length_drop, h.1]; omega, fun i x hi => ?_⟩
  rw [List.getElem?_drop] at hi
  obtain ⟨m, n, d, g1, g2, g3, r⟩ := h.2 (k + i) x hi
  refine ⟨m, n, d, ?_, ?_, ?_, r⟩
  · show (cells.drop (k * 3))[i * 3]? = _
    rw [List.getElem?_drop, show k * 3 + i * 3 = (k + i) * 3 by omega]; exact g1
  · show (cells.drop (k * 3))[i * 3 + 1]? = _
    rw [List.getElem?_drop, show k * 3 + (i * 3 + 1) = (k + i) * 3 + 1 by omega]; exact g2
  · show (cells.drop (k * 3))[i * 3 + 2]? = _
    rw [List.getElem?_drop, show k * 3 + (i * 3 + 2) = (k + i) * 3 + 2 by omega]; exact g3
theorem src_drop {α : Type} {E : View → Value → α → Prop} {H : Heap} {V : View} {b e tot n c k : Nat} {cells : List Value} {xs : List α} (h : RowAt E V cells xs) (hr : H b = some ⟨e, cells, tot⟩) (hn : xs.length = n) (hk : k ≤ n) (hc : n ≤ c) :
    Src H V 3 (sliceV (some ⟨b, 0, none⟩) c 3 k n) (n - k) (cells.drop (k * 3)) := by
  obtain ⟨_, _, _, h1, h2, _⟩ := h.src (c := c) hr hn
  unfold sliceV
  refine ⟨_, c - k, rfl, by rw [List.length_drop, h1]; omega, fun u hu => h2 u (List.mem_of_mem_drop hu), ?_⟩
  by_cases hck : c = k
  · exact .inl (by omega)
  · refine .inr ⟨b, 0 + k * 3, ?_, fun j u hj => .inl ⟨_, hr, ?_⟩⟩
    · rw [if_neg hck, Option.map_some, addr_add]
    · rw [List.getElem?_drop] at hj
      rw [Nat.zero_add]; exact hj
theorem src_nil3 {H : Heap} {V : View} (k : Nat) : Src H V 3 (sliceV none 0 3 k 0) 0 [] :=
  ⟨_, 0 - k, by unfold sliceV; rw [Nat.zero_sub], rfl, fun u hu => (by cases hu), .inl rfl⟩
theorem listsE_zero {L A : List Raw} {N : Int} (h : listsE L A N = 0) : okR L = true ∧ okR A = true ∧ L.length ≤ 400 ∧ A.length ≤ L.length ∧ 0 ≤ N ∧ N ≤ 400 := by
  unfold listsE at h
  split at h
  · cases h
  · rename_i h1
    split at h
    · cases h
    · split at h
      · cases h
      · refine ⟨?_, ?_, by omega, by omega, by omega, by omega⟩
        · cases hk : okR L
          · exact absurd (.inl hk) h1
          · rfl
        · cases hk : okR A
          · exact absurd (.inr hk) h1
          · rfl
theorem cnext_c (V : View) (v u : Value) (L A : List Raw) (N : Int) (hv : Raws V v L) (hu : Raws V u A) (fL : fitR L) (fA : fitR A) (lL : L.length ≤ 1000000) (lA : A.length ≤ 1000000) (C B : Nat)
    (hC : listsE L A N = 0 → CB C (nxI (qs L) (qs A) N.toNat) ∧ CB B (qs A)) (hfit : C + B + 10 ≤ 17592186044416) :
    Spec Try.prog 15 [v, u, .int .i64 N] V fun v' V' => (listsE L A N ≠ 0 → v' = .tuple #[.slice none 0 0, .int .i64 (listsE L A N)]) ∧ (listsE L A N = 0 → ∃ w, v' = .tuple #[w, .int .i64 0] ∧ Rats V' w (nextP (qs L) (qs A) N.toNat)) := by
  obtain ⟨A1, c1, rfl, hc1, hm1⟩ := hv.form
  obtain ⟨A2, c2, rfl, hc2, hm2⟩ := hu.form
  refine (Spec.enter Try.func15 rfl fun Γ => ?_)
  simp only [Try.ntmps15, List.map_cons, List.map_nil, List.length_cons, List.length_nil, Nat.reduceAdd, Nat.reduceSub, List.replicate_succ, List.replicate_zero, List.cons_append, List.nil_append]
  first | refine Gx.a (by kernel_rfl) fun K hK => ?_ | refine Gx.b (by kernel_rfl) fun K hK => ?_ | refine Gx.c (by kernel_rfl) fun K hK => ?_
  simp only [XA, XB, gateX, Nat.reduceAdd, Nat.reduceLeDiff, Nat.reduceSub, Nat.reduceMul, ↓reduceIte, Int.reduceToNat, Int.reduceLE, beq_self_eq_true]
  refine hK _ ?_
  refine XWP.seq ?_
  first | refine Gx.a (by kernel_rfl) fun K hK => ?_ | refine Gx.b (by kernel_rfl) fun K hK => ?_ | refine Gx.c (by kernel_rfl) fun K hK => ?_
  simp only [XA, XB, gateX, Nat.reduceAdd, Nat.reduceLeDiff, Nat.reduceSub, Nat.reduceMul, ↓reduceIte, Int.reduceToNat, Int.reduceLE, beq_self_eq_true]
  refine call_go (by kernel_rfl) rfl (lists_c _ _ _ L A N hv hu fL fA lL lA) fun v1 V1 hV1 h1 => ?_
  subst h1
  simp only [XA, XB, gateX, Nat.reduceAdd, Nat.reduceLeDiff, Nat.reduceSub, Nat.reduceMul, ↓reduceIte, Int.reduceToNat, Int.reduceLE, beq_self_eq_true]
  refine hK _ ?_
  by_cases he : listsE L A N = 0
  rotate_left
  · have b1 : (!decide (listsE L A N = 0)) = true := by rw [decide_eq_false he]; rfl
    first | refine Gx.a (by kernel_rfl) fun K hK => ?_ | refine Gx.b (by kernel_rfl) fun K hK => ?_ | refine Gx.c (by kernel_rfl) fun K hK => ?_
    simp only [XA, XB, gateX, Nat.reduceAdd, Nat.reduceLeDiff, Nat.reduceSub, Nat.reduceMul, ↓reduceIte, Int.reduceToNat, Int.reduceLE, beq_self_eq_true, b1]
    refine hK _ ?_
    first | refine Gx.t rfl ?_ | refine XWP.seq (Gx.t rfl ?_)
    first | refine Gx.a (by kernel_rfl) fun K hK => ?_ | refine Gx.b (by kernel_rfl) fun K hK => ?_ | refine Gx.c (by kernel_rfl) fun K hK => ?_
    simp only [XA, XB, gateX, Nat.reduceAdd, Nat.reduceLeDiff, Nat.reduceSub, Nat.reduceMul, ↓reduceIte, Int.reduceToNat, Int.reduceLE, beq_self_eq_true]
    refine hK _ (XWP.ret ?_)
    try simp only [thenX_ret, inBlockX_ret]
    refine ret_go _ rfl ?_
    exact ⟨fun _ => rfl, fun h => absurd h he⟩
  have b1 : (!decide (listsE L A N = 0)) = false := by rw [decide_eq_true he]; rfl
  first | refine Gx.a (by kernel_rfl) fun K hK => ?_ | refine Gx.b (by kernel_rfl) fun K hK => ?_ | refine Gx.c (by kernel_rfl) fun K hK => ?_
  simp only [XA, XB, gateX, Nat.reduceAdd, Nat.reduceLeDiff, Nat.reduceSub, Nat.reduceMul, ↓reduceIte, Int.reduceToNat, Int.reduceLE, beq_self_eq_true, b1]
  refine hK _ ?_
  first | refine Gx.f rfl ?_ | refine XWP.seq (Gx.f rfl ?_)
  refine XWP.skip ?_
  have hC := hC he
  obtain ⟨k1, k2, k3, k4, k5, k6⟩ := listsE_zero he
  have hl := (Raws.rats hv k1).up hV1
  have ha := (Raws.rats hu k2).up hV1
  have el := qs_len L
  have ea := qs_len A
  obtain ⟨N, rfl⟩ : ∃ n : Nat, N = n := ⟨N.toNat, by omega⟩
  rw [Int.toNat_natCast] at *
  generalize listsE L A N = E at he
  generalize qs L = l at *
  generalize qs A = a at *
  obtain ⟨hCl, hCa⟩ := hC
  have hCi : ∀ i, i ≤ N → CB C (nxI l a i) := fun i hi => by rw [← nxI_take l a hi]; exact hCl.take _
  refine XWP.cut (fun s => ∃ (V5 : View) (H5 : Heap) (w : Value) (cells : List Value), StIs (fun Z => [.v (.slice A1 L.length c1), .v (.slice A2 A.length c2), .v (.int .i64 (N : Int)), Z 3,Z 4,Z 5,Z 6,Z 7,Z 8, .v w, Z 10,Z 11,Z 12,Z 13,Z 14,Z 15,Z 16,Z 17,Z 18,Z 19,Z 20,Z 21,Z 22,Z 23,Z 24,Z 25,Z 26,Z 27,Z 28,Z 29,Z 30,Z 31,Z 32,Z 33,Z 34,Z 35,Z 36,Z 37,Z 38,Z 39,Z 40,Z 41,Z 42,Z 43,Z 44,Z 45,Z 46,Z 47,Z 48,Z 49,Z 50,Z 51,Z 52,Z 53,Z 54,Z 55,Z 56]) [] H5 V5 s ∧ V1.le V5 ∧ Own H5 34 3 w l.length cells ∧ RowAt ratE V5 cells l) ?_ ?_
  · first | refine Gx.a (by kernel_rfl) fun K hK => ?_ | refine Gx.b (by kernel_rfl) fun K hK => ?_ | refine Gx.c (by kernel_rfl) fun K hK => ?_
    simp only [XA, XB, gateX, Nat.reduceAdd, Nat.reduceLeDiff, Nat.reduceSub, Nat.reduceMul, ↓reduceIte, Int.reduceToNat, Int.reduceLE, beq_self_eq_true]
    refine call_own (by kernel_rfl) rfl (rclone_o _ _ l hl (by omega)) fun v5 V5 o5 hV5 hs5 h5 => ?_
    obtain ⟨cells, h6, h7⟩ := own_addRow h5
    simp only [XA, XB, gateX, Nat.reduceAdd, Nat.reduceLeDiff, Nat.reduceSub, Nat.reduceMul, ↓reduceIte, Int.reduceToNat, Int.reduceLE, beq_self_eq_true]
    exact hK _ ⟨V5, _, v5, cells, StIs.of (by exact rfl), hV5, h6, h7⟩
  rintro s ⟨V5, H5, w, cells, hs, hV5, hown, hrow⟩
  obtain ⟨z, rfl⟩ := hs.out
  try dsimp only
  refine XWP.cutD 0 (fun s => ∃ (V6 : View) (H6 : Heap) (w : Value) (cells : List Value), StIs (fun Z => [.v (.slice A1 L.length c1), .v (.slice A2 A.length c2), .v (.int .i64 (N : Int)), Z 3,Z 4,Z 5,Z 6,Z 7,Z 8, .v w, Z 10,Z 11,Z 12,Z 13,Z 14,Z 15,Z 16,Z 17,Z 18,Z 19,Z 20,Z 21,Z 22,Z 23,Z 24,Z 25,Z 26,Z 27,Z 28,Z 29,Z 30,Z 31,Z 32,Z 33,Z 34,Z 35,Z 36,Z 37,Z 38,Z 39,Z 40,Z 41,Z 42,Z 43,Z 44,Z 45,Z 46,Z 47,Z 48,Z 49,Z 50,Z 51,Z 52,Z 53,Z 54,Z 55,Z 56]) [] H6 V6 s ∧ V1.le V6 ∧ Own H6 34 3 w (l.length + N) cells ∧ RowAt ratE V6 cells (nxI l a N)) ?_ ?_
  · first | refine Gx.a (by kernel_rfl) fun K hK => ?_ | refine Gx.b (by kernel_rfl) fun K hK => ?_ | refine Gx.c (by kernel_rfl) fun K hK => ?_
    simp only [XA, XB, gateX, Nat.reduceAdd, Nat.reduceLeDiff, Nat.reduceSub, Nat.reduceMul, ↓reduceIte, Int.reduceToNat, Int.reduceLE, beq_self_eq_true]
    refine hK _ ?_
    clear hK
    first | refine XWP.block ?_ | refine XWP.seq (XWP.block ?_)
    refine XWP.loopD 0 (fun m s => ∃ (i : Nat) (V6 : View) (H6 : Heap) (w : Value) (cells : List Value), StIs (fun Z => [.v (.slice A1 L.length c1), .v (.slice A2 A.length c2), .v (.int .i64 (N : Int)), Z 3,Z 4,Z 5,Z 6,Z 7,Z 8, .v w, Z 10,Z 11,Z 12,Z 13,Z 14,Z 15,Z 16,Z 17,Z 18,Z 19,Z 20,Z 21, .v (.int .i64 (N : Int)), .v (.int .i64 (i : Int)), Z 24,Z 25,Z 26,Z 27,Z 28,Z 29,Z 30,Z 31,Z 32,Z 33,Z 34,Z 35,Z 36,Z 37,Z 38,Z 39,Z 40,Z 41,Z 42,Z 43,Z 44,Z 45,Z 46,Z 47,Z 48,Z 49,Z 50,Z 51,Z 52,Z 53,Z 54,Z 55,Z 56]) [] H6 V6 s ∧ V1.le V6 ∧ m + i = N ∧ Own H6 34 3 w (l.length + i) cells ∧ RowAt ratE V6 cells (nxI l a i)) N ⟨0, V5, H5, w, cells, StIs.of (by exact rfl), hV5, by omega, hown, hrow⟩ ?_
    clear hs z hown hrow
    rintro m s ⟨i, V6, H6, w, cells, hs, hV6, hm, hown, hrow⟩
    obtain ⟨z, rfl⟩ := hs.out
    try dsimp only
    by_cases hi : i < N
    rotate_left
    · obtain rfl : i = N := by omega
      have b2 : decide ((i : Int) < (i : Int)) = false := decide_eq_false (by omega)
      first | refine Gx.a (by kernel_rfl) fun K hK => ?_ | refine Gx.b (by kernel_rfl) fun K hK => ?_ | refine Gx.c (by kernel_rfl) fun K hK => ?_
      simp only [XA, XB, gateX, Nat.reduceAdd, Nat.reduceLeDiff, Nat.reduceSub, Nat.reduceMul, ↓reduceIte, Int.reduceToNat, Int.reduceLE, beq_self_eq_true, b2]
      refine hK _ ?_
      first | refine Gx.f rfl ?_ | refine XWP.seq (Gx.f rfl ?_)
      refine XWP.exit ?_
      exact fun f => ⟨V6, H6, w, cells, StIs.of (by exact rfl), hV6, hown, hrow⟩
    have b2 : decide ((i : Int) < (N : Int)) = true := decide_eq_true (by omega)
    first | refine Gx.a (by kernel_rfl) fun K hK => ?_ | refine Gx.b (by kernel_rfl) fun K hK => ?_ | refine Gx.c (by kernel_rfl) fun K hK => ?_
    simp only [XA, XB, gateX, Nat.reduceAdd, Nat.reduceLeDiff, Nat.reduceSub, Nat.reduceMul, ↓reduceIte, Int.reduceToNat, Int.reduceLE, beq_self_eq_true, b2]
    refine hK _ ?_
    first | refine Gx.t rfl ?_ | refine XWP.seq (Gx.t rfl ?_)
    refine XWP.skip ?_
    refine XWP.seq ?_
    first | refine XWP.block ?_ | refine XWP.seq (XWP.block ?_)
    first | refine Gx.a (by kernel_rfl) fun K hK => ?_ | refine Gx.b (by kernel_rfl) fun K hK => ?_ | refine Gx.c (by kernel_rfl) fun K hK => ?_
    simp only [XA, XB, gateX, Nat.reduceAdd, Nat.reduceLeDiff, Nat.reduceSub, Nat.reduceMul, ↓reduceIte, Int.reduceToNat, Int.reduceLE, beq_self_eq_true]
    refine call_go (by kernel_rfl) rfl (qzero_c _) fun v7 V7 hV7 h7 => ?_
    obtain ⟨x7, y7, rfl, o1, o2⟩ := h7.form
    simp only [XA, XB, gateX, Nat.reduceAdd, Nat.reduceLeDiff, Nat.reduceSub, Nat.reduceMul, ↓reduceIte, Int.reduceToNat, Int.reduceLE, beq_self_eq_true]
    refine st_rat rfl rfl rfl o1 o2 ?_
    simp only [XA, XB, gateX, Nat.reduceAdd, Nat.reduceLeDiff, Nat.reduceSub, Nat.reduceMul, ↓reduceIte, Int.reduceToNat, Int.reduceLE, beq_self_eq_true]
    refine hK _ ?_
    clear hK
    have hCi' := hCi i (by omega)
    have hlen := nxI_len l a i
    obtain ⟨all, hall⟩ : ∃ all, all = nxI l a i := ⟨_, rfl⟩
    rw [← hall] at hrow hCi' hlen
    have hS : ∀ k, k ≤ 512 → QF (nxS all a k) := fun k hk => (nxS_QB (e := 9) hCi' hCa hk).qf (by omega)
    have hT : ∀ j, QF (cf a j * cf all (all.length - 1 - j)) := fun j => ((hCa.at j).mul (hCi'.at _)).qf (by omega)
    refine XWP.cutD 1 (fun s => ∃ (V8 : View) (m : Bool) (x y : Value), StIs (fun Z => [.v (.slice A1 L.length c1), .v (.slice A2 A.length c2), .v (.int .i64 (N : Int)), Z 3,Z 4,Z 5,Z 6,Z 7,Z 8, .v w, .p 0 0, Z 11,Z 12,Z 13,Z 14,Z 15,Z 16,Z 17,Z 18,Z 19,Z 20,Z 21, .v (.int .i64 (N : Int)), .v (.int .i64 (i : Int)), Z 24,Z 25,Z 26,Z 27,Z 28,Z 29,Z 30,Z 31,Z 32,Z 33,Z 34,Z 35,Z 36,Z 37,Z 38,Z 39,Z 40,Z 41,Z 42,Z 43,Z 44,Z 45,Z 46,Z 47,Z 48,Z 49,Z 50,Z 51,Z 52,Z 53,Z 54,Z 55,Z 56]) [[.bool m, x, y]] H6 V8 s ∧ V6.le V8 ∧ RatC V8 (.agg #[.bool m, x, y]) (nxS all a A.length) ∧ isOne x = true ∧ isOne y = true) ?_ ?_
    · first | refine Gx.a (by kernel_rfl) fun K hK => ?_ | refine Gx.b (by kernel_rfl) fun K hK => ?_ | refine Gx.c (by kernel_rfl) fun K hK => ?_
      simp only [XA, XB, gateX, Nat.reduceAdd, Nat.reduceLeDiff, Nat.reduceSub, Nat.reduceMul, ↓reduceIte, Int.reduceToNat, Int.reduceLE, beq_self_eq_true]
      refine hK _ ?_
      clear hK
      first | refine XWP.block ?_ | refine XWP.seq (XWP.block ?_)
      refine XWP.loopD 1 (fun r s => ∃ (j : Nat) (V8 : View) (m : Bool) (x y : Value), StIs (fun Z => [.v (.slice A1 L.length c1), .v (.slice A2 A.length c2), .v (.int .i64 (N : Int)), Z 3,Z 4,Z 5,Z 6,Z 7,Z 8, .v w, .p 0 0, Z 11,Z 12,Z 13,Z 14,Z 15,Z 16,Z 17,Z 18,Z 19,Z 20,Z 21, .v (.int .i64 (N : Int)), .v (.int .i64 (i : Int)), Z 24,Z 25, .v (.slice A2 A.length c2), .v (.int .i64 (A.length : Int)), .v (.int .i64 (j : Int)), Z 29,Z 30,Z 31,Z 32,Z 33,Z 34,Z 35,Z 36,Z 37,Z 38,Z 39,Z 40,Z 41,Z 42,Z 43,Z 44,Z 45,Z 46,Z 47,Z 48,Z 49,Z 50,Z 51,Z 52,Z 53,Z 54,Z 55,Z 56]) [[.bool m, x, y]] H6 V8 s ∧ V6.le V8 ∧ r + j = A.length ∧ RatC V8 (.agg #[.bool m, x, y]) (nxS all a j) ∧ isOne x = true ∧ isOne y = true) A.length ⟨0, V7, _, x7, y7, StIs.of (by exact rfl), hV7, by omega, h7, o1, o2⟩ ?_
      clear h7 o1 o2
      rintro r s ⟨j, V8, m', x, y, hs, hV8, hr, h8, o1, o2⟩
      obtain ⟨z, rfl⟩ := hs.out
      try dsimp only
      by_cases hj : j < A.length
      rotate_left
      · obtain rfl : j = A.length := by omega
        have b3 : decide ((A.length : Int) < (A.length : Int)) = false := decide_eq_false (by omega)
        first | refine Gx.a (by kernel_rfl) fun K hK => ?_ | refine Gx.b (by kernel_rfl) fun K hK => ?_ | refine Gx.c (by kernel_rfl) fun K hK => ?_
        simp only [XA, XB, gateX, Nat.reduceAdd, Nat.reduceLeDiff, Nat.reduceSub, Nat.reduceMul, ↓reduceIte, Int.reduceToNat, Int.reduceLE, beq_self_eq_true, b3]
        refine hK _ ?_
        first | refine Gx.f rfl ?_ | refine XWP.seq (Gx.f rfl ?_)
        refine XWP.exit ?_
        exact fun f => ⟨V8, m', x, y, StIs.of (by exact rfl), hV8, h8, o1, o2⟩
      have b3 : decide ((j : Int) < (A.length : Int)) = true := decide_eq_true (by omega)
      first | refine Gx.a (by kernel_rfl) fun K hK => ?_ | refine Gx.b (by kernel_rfl) fun K hK => ?_ | refine Gx.c (by kernel_rfl) fun K hK => ?_
      simp only [XA, XB, gateX, Nat.reduceAdd, Nat.reduceLeDiff, Nat.reduceSub, Nat.reduceMul, ↓reduceIte, Int.reduceToNat, Int.reduceLE, beq_self_eq_true, b3]
      refine hK _ ?_
      first | refine Gx.t rfl ?_ | refine XWP.seq (Gx.t rfl ?_)
      refine XWP.skip ?_
      refine XWP.seq ?_
      first | refine XWP.block ?_ | refine XWP.seq (XWP.block ?_)
      have ha8 := ha.up (View.le_trans hV6 hV8)
      obtain ⟨b, o, rfl⟩ := SlAt.addr ha8 (by omega)
      obtain ⟨m3, n3, d3, hx3, ⟨p1, p2, p3⟩, hld3⟩ := Rats.get ha8 j (by omega)
      first | refine Gx.a (by kernel_rfl) fun K hK => ?_ | refine Gx.b (by kernel_rfl) fun K hK => ?_ | refine Gx.c (by kernel_rfl) fun K hK => ?_
      simp only [XA, XB, gateX, Nat.reduceAdd, Nat.reduceLeDiff, Nat.reduceSub, Nat.reduceMul, ↓reduceIte, Int.reduceToNat, Int.reduceLE, beq_self_eq_true]
      refine ⟨by omega, by omega, ld_mem (hld3 _) ?_⟩
      simp only [XA, XB, gateX, Nat.reduceAdd, Nat.reduceLeDiff, Nat.reduceSub, Nat.reduceMul, ↓reduceIte, Int.reduceToNat, Int.reduceLE, beq_self_eq_true]
      refine st_rat rfl rfl p1 p2 p3 ?_
      simp only [XA, XB, gateX, Nat.reduceAdd, Nat.reduceLeDiff, Nat.reduceSub, Nat.reduceMul, ↓reduceIte, Int.reduceToNat, Int.reduceLE, beq_self_eq_true]
      refine hK _ ?_
      rcases own_parts hown with ⟨_, h0, _⟩ | ⟨g, cap, rfl, hg, hle, hcap, hcl⟩
      · omega
      have w1 := i64_pred (l.length + i) (by omega) (by omega)
      have w2 := i64_sub (l.length + i - 1) j (by omega) (by omega)
      have hrow8 := hrow.mono ratE_ok hV8
      obtain ⟨m4, n4, d4, hx4, ⟨r1, r2, r3⟩, hld4⟩ := rowQ_load hg hrow8 (l.length + i - 1 - j) (by omega)
      (first | refine XWP.drw [0, 1, 2, 3, 4, 5, 6, 7, 8, 9, 10, 11, 12] (by kernel_rfl) (by kernel_rfl) (by kernel_rfl) fun K hK => ?_ | refine XWP.seq (XWP.drw [0, 1, 2, 3, 4, 5, 6, 7, 8, 9, 10, 11, 12] (by kernel_rfl) (by kernel_rfl) (by kernel_rfl) fun K hK => ?_) | refine XWP.drw1 [0, 1, 2, 3, 4, 5, 6, 7, 8, 9, 10, 11, 12] (by kernel_rfl) (by kernel_rfl) (by kernel_rfl) fun K hK => ?_) <;> dsimp only [pickOps, List.getElem?_cons_zero, List.getElem?_cons_succ]
      simp only [XA, XB, gateX, Nat.reduceAdd, Nat.reduceLeDiff, Nat.reduceSub, Nat.reduceMul, ↓reduceIte, Int.reduceToNat, Int.reduceLE, beq_self_eq_true, w1, w2]
      refine ⟨by omega, by omega, ?_⟩
      refine ld_mem hld4 ?_
      simp only [XA, XB, gateX, Nat.reduceAdd, Nat.reduceLeDiff, Nat.reduceSub, Nat.reduceMul, ↓reduceIte, Int.reduceToNat, Int.reduceLE, beq_self_eq_true]
      refine call_go (by kernel_rfl) rfl (qmul_c _ _ _ _ _ hx3 hx4 ((hCa.at _).qf (by omega)) ((hCi'.at _).qf (by omega))) fun v9 V9 hV9 h9 => ?_
      simp only [XA, XB, gateX, Nat.reduceAdd, Nat.reduceLeDiff, Nat.reduceSub, Nat.reduceMul, ↓reduceIte, Int.reduceToNat, Int.reduceLE, beq_self_eq_true]
      refine call_go (by kernel_rfl) rfl (qadd_c _ _ _ _ _ (h8.mono hV9) h9 (hS j (by omega)) (by have := hT j; rw [hlen] at this; exact this)) fun v10 V10 hV10 h10 => ?_
      obtain ⟨x10, y10, rfl, o6, o7⟩ := h10.form
      simp only [XA, XB, gateX, Nat.reduceAdd, Nat.reduceLeDiff, Nat.reduceSub, Nat.reduceMul, ↓reduceIte, Int.reduceToNat, Int.reduceLE, beq_self_eq_true]
      refine st_rat rfl rfl rfl o6 o7 ?_
      simp only [XA, XB, gateX, Nat.reduceAdd, Nat.reduceLeDiff, Nat.reduceSub, Nat.reduceMul, ↓reduceIte, Int.reduceToNat, Int.reduceLE, beq_self_eq_true]
      refine hK _ ?_
      first | refine Gx.a (by kernel_rfl) fun K hK => ?_ | refine Gx.b (by kernel_rfl) fun K hK => ?_ | refine Gx.c (by kernel_rfl) fun K hK => ?_
      simp only [XA, XB, gateX, Nat.reduceAdd, Nat.reduceLeDiff, Nat.reduceSub, Nat.reduceMul, ↓reduceIte, Int.reduceToNat, Int.reduceLE, beq_self_eq_true, i64_succ j (by omega)]
      exact hK _ ⟨r - 1, by omega, fun f => ⟨j + 1, V10, _, x10, y10, StIs.of (by exact rfl), View.le_trans hV8 (View.le_trans hV9 hV10), by omega, by rw [nxS, hlen]; exact h10, o6, o7⟩⟩
    clear h7 o1 o2
    rintro s ⟨V8, m', x, y, hs, hV8, h8, o1, o2⟩
    obtain ⟨z, rfl⟩ := hs.out
    try dsimp only
    first | refine Gx.a (by kernel_rfl) fun K hK => ?_ | refine Gx.b (by kernel_rfl) fun K hK => ?_ | refine Gx.c (by kernel_rfl) fun K hK => ?_
    simp only [XA, XB, gateX, Nat.reduceAdd, Nat.reduceLeDiff, Nat.reduceSub, Nat.reduceMul, ↓reduceIte, Int.reduceToNat, Int.reduceLE, beq_self_eq_true]
    refine bs_go (by kernel_rfl) #[(0, .agg #[.bool m', x, y])] (by simp [ev_tmp, SV.val]) (bs_rat elemT_22) fun b3 hb3 hb4 => ?_
    simp only [XA, XB, gateX, Nat.reduceAdd, Nat.reduceLeDiff, Nat.reduceSub, Nat.reduceMul, ↓reduceIte, Int.reduceToNat, Int.reduceLE, beq_self_eq_true]
    refine ap_go elemT_22 (by kernel_rfl) zeroT_34 rfl (by omega) (own_upd hown hb3) (src3 (upd_at _ _ _) rfl o1 o2) (by omega) (by omega) fun v' H' hres => ?_
    simp only [XA, XB, gateX, Nat.reduceAdd, Nat.reduceLeDiff, Nat.reduceSub, Nat.reduceMul, ↓reduceIte, Int.reduceToNat, Int.reduceLE, beq_self_eq_true]
    refine hK _ ?_
    first | refine Gx.a (by kernel_rfl) fun K hK => ?_ | refine Gx.b (by kernel_rfl) fun K hK => ?_ | refine Gx.c (by kernel_rfl) fun K hK => ?_
    simp only [XA, XB, gateX, Nat.reduceAdd, Nat.reduceLeDiff, Nat.reduceSub, Nat.reduceMul, ↓reduceIte, Int.reduceToNat, Int.reduceLE, beq_self_eq_true, i64_succ i (by omega)]
    have hrow' := (hrow.mono ratE_ok hV8).snoc (show isOne (.bool m') = true from rfl) o1 o2 h8
    rw [hall, ← ea, show nxI l a i ++ [nxS (nxI l a i) a a.length] = nxI l a (i + 1) from rfl] at hrow'
    exact hK _ ⟨m - 1, by omega, fun f => ⟨i + 1, V8, _, _, _, StIs.of (by exact rfl), View.le_trans hV6 hV8, by omega, hres.1, hrow'⟩⟩
  rintro s ⟨V6, H6, w, cells, hs, hV6, hown, hrow⟩
  obtain ⟨z, rfl⟩ := hs.out
  try dsimp only
  have hlen := nxI_len l a N
  rcases own_parts hown with ⟨rfl, h0, rfl⟩ | ⟨g, cap, rfl, hg, hle, hcap, hcl⟩
  · first | refine Gx.a (by kernel_rfl) fun K hK => ?_ | refine Gx.b (by kernel_rfl) fun K hK => ?_ | refine Gx.c (by kernel_rfl) fun K hK => ?_
    refine bs_go (by kernel_rfl) #[] (by simp) (bs_zero elemT_22 zeroT_34) fun b hb1 hb2 => ?_
    simp only [XA, XB, gateX, Nat.reduceAdd, Nat.reduceLeDiff, Nat.reduceSub, Nat.reduceMul, ↓reduceIte, Int.reduceToNat, Int.reduceLE, beq_self_eq_true]
    refine ⟨by omega, by omega, by omega, ?_⟩
    refine ap_go elemT_22 (by kernel_rfl) zeroT_34 rfl (by omega) (n := 0) (xs := []) (own3 (by simp [upd]) rfl (Nat.le_refl _) (by omega)) (src_nil3 _) (by omega) (by omega) fun v' H' hres => ?_
    simp only [XA, XB, gateX, Nat.reduceAdd, Nat.reduceLeDiff, Nat.reduceSub, Nat.reduceMul, ↓reduceIte, Int.reduceToNat, Int.reduceLE, beq_self_eq_true]
    refine hK _ (XWP.ret ?_)
    try simp only [thenX_ret, inBlockX_ret]
    have hnil : nextP l a N = [] := List.length_eq_zero_iff.1 (by rw [nextP_len]; omega)
    rcases own_parts hres.1 with ⟨rfl, _, _⟩ | ⟨g, cap, rfl, hg, hle, hcap, _⟩
    · exact ret_go _ rfl ⟨fun h => absurd he h, fun _ => ⟨_, rfl, by rw [hnil]; exact SlAt.nil _⟩⟩
    · refine ret_pub g _ hg fun o ho hle' => ret_go _ rfl ⟨fun h => absurd he h, fun _ => ⟨_, rfl, ?_⟩⟩
      rw [hnil]
      exact (RowAt.nil _).pub ratE_ok ho hle' rfl hle (by unfold maxLen at hcap; omega)
  · first | refine Gx.a (by kernel_rfl) fun K hK => ?_ | refine Gx.b (by kernel_rfl) fun K hK => ?_ | refine Gx.c (by kernel_rfl) fun K hK => ?_
    refine bs_go (by kernel_rfl) #[] (by simp) (bs_zero elemT_22 zeroT_34) fun b hb1 hb2 => ?_
    have hb1' : H6 b = none := hb1
    have hgb : g ≠ b := fun e => by subst e; rw [hg] at hb1'; cases hb1'
    simp only [XA, XB, gateX, Nat.reduceAdd, Nat.reduceLeDiff, Nat.reduceSub, Nat.reduceMul, ↓reduceIte, Int.reduceToNat, Int.reduceLE, beq_self_eq_true]
    refine ⟨by omega, by omega, by omega, ?_⟩
    refine ap_go elemT_22 (by kernel_rfl) zeroT_34 rfl (by omega) (n := 0) (xs := []) (own3 (by simp [upd]) rfl (Nat.le_refl _) (by omega)) (src_drop hrow (by simp only [upd, if_neg hgb]; exact hg) hlen (by omega) hle) (by omega) (by omega) fun v' H' hres => ?_
    simp only [XA, XB, gateX, Nat.reduceAdd, Nat.reduceLeDiff, Nat.reduceSub, Nat.reduceMul, ↓reduceIte, Int.reduceToNat, Int.reduceLE, beq_self_eq_true]
    refine hK _ (XWP.ret ?_)
    try simp only [thenX_ret, inBlockX_ret]
    have hrow' := hrow.drop L.length
    have hnx : (nxI l a N).drop L.length = nextP l a N := by unfold nextP; rw [el]
    rw [hnx] at hrow'
    have hln := nextP_len l a N
    rcases own_parts hres.1 with ⟨rfl, h0', _⟩ | ⟨g', cap', rfl, hg', hle', hcap', _⟩
    · refine ret_go _ rfl ⟨fun h => absurd he h, fun _ => ⟨_, rfl, ?_⟩⟩
      rw [List.length_eq_zero_iff.1 (show (nextP l a N).length = 0 by omega)]; exact SlAt.nil _
    · refine ret_pub g' _ hg' fun o ho hle2 => ret_go _ rfl ⟨fun h => absurd he h, fun _ => ⟨_, rfl, ?_⟩⟩
      exact hrow'.pub ratE_ok ho hle2 (by omega) hle' (by unfold maxLen at hcap'; omega)
end Go.Proofs.Ythoboehbadmlmaa
end
section
namespace Go.Proofs.Ythoboehbadmlmaa
open Go Go.RowKit
set_option linter.unusedSimpArgs false
set_option linter.unusedVariables false
attribute [local irreducible] XWP Spec SpecO XPub XCall seqX clX apX stX ldX iaX slX
end Go.Proofs.Ythoboehbadmlmaa
end
