/- the exits of a chain step by step satisfy a recurrence no longer than its states, whose generating function at 1 is the chance of the exit (part 8 of 13) -/
import Derived.OrdersHeld
import Derived.Below
import Derived.Tactics
import Derived.KernelRfl
import Derived.RangeFuncCalls
import Derived.RangeFuncFrom
import Derived.RangeFuncLeaves
import Derived.OrdersIn
import Derived.Laws.AppendOwn
import Derived.Laws.MakeOwn
import Derived.Laws.CopyRow
import Derived.Laws.Cells
import Derived.Laws.World
import Derived.Laws.Alloc2
import Derived.Laws.NewBlocks
import Derived.Maps.AppendAt
import Derived.Test.YthoboehbadmlmaaGreatProg
import Init.Data.List.Lemmas
import Init.Omega
import Derived.WalkKit
import Derived.ProofKit
import Derived.OpenShut
import Derived.ChangeOld
import Derived.SizedLaws
import Derived.ChangeSlices
import Derived.ChangeArms
import Derived.Deep.Slices
import Derived.Test.YthoboehbadmlmaaGreatCH7
set_option linter.unusedVariables false
set_option linter.unusedSimpArgs false
section
namespace Go.Proofs.YthoboehbadmlmaaGreat
theorem off_cv {l q : List Rat} (i : Nat) : off l q i = cv (cf q) (cf l) i := by
 unfold off
 rw [off_meet q l i _ (by omega), ← meet_cv]
 rcases Nat.le_total q.length (i + 1) with h | h
 ·rw [Nat.min_eq_left h]
  exact (meet_more q l i h fun j h1 _ => .inr h1).symm
 ·rw [Nat.min_eq_right h]
def Gen (l : Nat → Rat) (q : Nat → Rat) (L n : Nat) : Prop := q 0 = 1 ∧ (∀ j, L < j → q j = 0) ∧ ∀ k, L ≤ k → k < n → cv q l k = 0
theorem cv_mid (last l : Nat → Rat) (c : Rat) (a k : Nat) : cv (cv last (mon c a)) l k = if a ≤ k then c * cv last l (k - a) else 0 := by
 have e : cv (cv last (mon c a)) l = cv (cv last l) (mon c a) := by
  rw [cv_assoc, cv_comm (mon c a) l, ← cv_assoc]
 rw [e, cv_mon]
theorem cv_addl (f g h : Nat → Rat) : cv (fun i => f i + g i) h = fun n => cv f h n + cv g h n := by
 rw [cv_comm, cv_add, cv_comm h f, cv_comm h g]
def BMInv (l : Nat → Rat) (s : BM) (i : Nat) : Prop :=
  Gen l (cf s.q) s.size i ∧ s.was ≠ 0 ∧
  ((s.size = 0 ∧ s.last = [1] ∧ s.ago = i + 1) ∨
   ∃ m L', m < i ∧ s.ago = i - m ∧ s.size + L' = m + 1 ∧ cf s.last 0 = 1 ∧ (∀ j, L' < j → cf s.last j = 0) ∧ (∀ k, L' ≤ k → k < m → cv (cf s.last) l k = 0) ∧ cv (cf s.last) l m = s.was)
theorem bm_inv (l : List Rat) (i : Nat) : BMInv (cf l) (bmI l i) i := by
 induction i with
 | zero =>
  refine ⟨⟨by rw [show (bmI l 0).q = [1] from rfl, cf_one]; rfl, fun j hj => ?_, fun k _ h => by omega⟩, one_ne, .inl ⟨rfl, rfl, rfl⟩⟩
  rw [show (bmI l 0).q = [1] from rfl, cf_one]
  have : (bmI l 0).size = 0 := rfl
  rw [if_neg (by omega)]
 | succ i ih =>
  obtain ⟨⟨g0, g1, g2⟩, hw, hor⟩ := ih
  rw [bmI]
  generalize bmI l i = s at *
  unfold bmStep
  rw [off_cv]
  split
  ·rename_i hd
   refine ⟨⟨g0, g1, fun k h1 h2 => ?_⟩, hw, ?_⟩
   ·rcases Nat.eq_or_lt_of_le (Nat.lt_succ_iff.1 h2) with h | h
    ·rw [h]; exact hd
    ·exact g2 k h1 h
   ·rcases hor with ⟨a1, a2, a3⟩ | ⟨m, L', a1, a2, a3, a4⟩
    ·exact .inl ⟨a1, a2, by dsimp only; omega⟩
    ·exact .inr ⟨m, L', by omega, by dsimp only; omega, a3, a4⟩
  ·rename_i hd
   have hq : cf (bmNext l s i) = fun j => cf s.q j + cv (cf s.last) (mon (-(cv (cf s.q) (cf l) i / s.was)) s.ago) j := by
    funext j
    unfold bmNext
    rw [pAdd_cv, off_cv]
   have hz : ∀ k, cv (cf (bmNext l s i)) (cf l) k = cv (cf s.q) (cf l) k + if s.ago ≤ k then -(cv (cf s.q) (cf l) i / s.was) * cv (cf s.last) (cf l) (k - s.ago) else 0 := fun k => by
    rw [hq, cv_addl]
    show _ + cv (cv (cf s.last) (mon _ s.ago)) (cf l) k = _
    rw [cv_mid]
   have hj : ∀ j, cf (bmNext l s i) j = cf s.q j + if s.ago ≤ j then -(cv (cf s.q) (cf l) i / s.was) * cf s.last (j - s.ago) else 0 := fun j => by
    rw [hq]
    show _ + cv (cf s.last) (mon _ s.ago) j = _
    rw [cv_mon]
   rcases hor with ⟨a1, a2, a3⟩ | ⟨m, L', a1, a2, a3, a4, a5, a6, a7⟩
   ·rw [if_pos (by omega)]
    refine ⟨⟨?_, fun j h => ?_, fun k h1 h2 => ?_⟩, hd, .inr ⟨i, 0, by omega, by dsimp only; omega, by dsimp only; omega, g0, fun j h => g1 j (by omega), fun k h1 h2 => g2 k (by omega) h2, rfl⟩⟩
    ·dsimp only; rw [hj, if_neg (by omega), g0]; grind
    ·dsimp only at h ⊢
     rw [hj, g1 j (by omega), a2, cf_one]
     split
     ·rw [if_neg (by omega)]; grind
     ·grind
    ·dsimp only at h1; omega
   ·have hlast0 : ∀ L2, (∀ k, L2 ≤ k → s.size ≤ k) → (∀ k, L2 ≤ k → k < i + 1 → s.ago ≤ k → L' ≤ k - s.ago) → ∀ k, L2 ≤ k → k < i + 1 → cv (cf (bmNext l s i)) (cf l) k = 0 := fun L2 hA hB k h1 h2 => by
     rw [hz]
     rcases Nat.eq_or_lt_of_le (Nat.lt_succ_iff.1 h2) with h | h
     ·subst h
      rw [if_pos (by omega), show k - s.ago = m by omega, a7]
      have : cv (cf s.q) (cf l) k / s.was * s.was = cv (cf s.q) (cf l) k := Rat.div_mul_cancel hw
      grind
     ·rw [g2 k (hA k h1) h]
      split
      ·rename_i ha
       rw [a6 (k - s.ago) (hB k h1 h2 ha) (by omega)]; grind
      ·grind
    have h0 : cf (bmNext l s i) 0 = 1 := by rw [hj, if_neg (by omega), g0]; grind
    split
    ·rename_i h2s
     refine ⟨⟨h0, fun j h => ?_, hlast0 _ (fun k h => by dsimp only at h; omega) (fun k h1 h2 h3 => by dsimp only at h1; omega)⟩, hd, .inr ⟨i, s.size, by omega, by dsimp only; omega, by dsimp only; omega, g0, g1, g2, rfl⟩⟩
     dsimp only at h ⊢
     rw [hj, g1 j (by omega)]
     split
     ·rw [a5 _ (by omega)]; grind
     ·grind
    ·rename_i h2s
     refine ⟨⟨h0, fun j h => ?_, hlast0 _ (fun k h => by dsimp only at h; omega) (fun k h1 h2 h3 => by dsimp only at h1; omega)⟩, hw, .inr ⟨m, L', by omega, by dsimp only; omega, a3, a4, a5, a6, a7⟩⟩
     dsimp only at h ⊢
     rw [hj, g1 j (by omega)]
     split
     ·rw [a5 _ (by omega)]; grind
     ·grind
theorem bm_gen (l : List Rat) (i : Nat) : Gen (cf l) (cf (bmI l i).q) (bmI l i).size i := (bm_inv l i).1
theorem gen_both {l q r : Nat → Rat} {L R i : Nat} (hq : Gen l q L i) (hr : Gen l r R (i + 1)) (h : L + R ≤ i) : cv q l i = 0 := by
 obtain ⟨q0, q1, q2⟩ := hq
 obtain ⟨r0, r1, r2⟩ := hr
 have e1 : cv r (cv q l) i = cv q l i := by
  unfold cv
  rw [Sm_one (k := 0) (by omega) fun j hj hne => ?_]
  ·rw [r0]; simp only [Nat.sub_zero]; grind
  ·by_cases hjR : j ≤ R
   ·have := q2 (i - j) (by omega) (by omega)
    unfold cv at this
    rw [this]; grind
   ·rw [r1 j (by omega)]; grind
 have e2 : cv q (cv r l) i = 0 := by
  refine Sm_zero _ fun j hj => ?_
  by_cases hjL : j ≤ L
  ·rw [r2 (i - j) (by omega) (by omega)]; grind
  ·rw [q1 j (by omega)]; grind
 have e3 : cv r (cv q l) = cv q (cv r l) := by rw [← cv_assoc, cv_comm r q, cv_assoc]
 rw [← e1, e3, e2]
theorem bm_least (l : List Rat) {r : Nat → Rat} {R : Nat} (n : Nat) (hr : Gen (cf l) r R n) (i : Nat) (hi : i ≤ n) : (bmI l i).size ≤ R := by
 induction i with
 | zero => exact Nat.zero_le _
 | succ i ih =>
  have ih := ih (by omega)
  have hg := bm_gen l i
  rw [bmI]
  unfold bmStep
  split
  ·exact ih
  ·rename_i hd
   split
   ·dsimp only
    rw [off_cv] at hd
    by_cases h : (bmI l i).size + R ≤ i
    ·exact absurd (gen_both hg ⟨hr.1, hr.2.1, fun k h1 h2 => hr.2.2 k h1 (by omega)⟩ h) hd
    ·omega
   ·exact ih
def nxS (all a : List Rat) : Nat → Rat
 | 0 => 0
 | j + 1 => nxS all a j + cf a j * cf all (all.length - 1 - j)
def nxI (l a : List Rat) : Nat → List Rat
 | 0 => l
 | k + 1 => nxI l a k ++ [nxS (nxI l a k) a a.length]
def nextP (l a : List Rat) (n : Nat) : List Rat := (nxI l a n).drop l.length
theorem nxI_len (l a : List Rat) (n : Nat) : (nxI l a n).length = l.length + n := by
 induction n with
 | zero => rfl
 | succ n ih => rw [nxI, List.length_append, ih]; simp; omega
theorem nextP_len (l a : List Rat) (n : Nat) : (nextP l a n).length = n := by unfold nextP; rw [List.length_drop, nxI_len]; omega
theorem nxI_take (l a : List Rat) {k n : Nat} (h : k ≤ n) : (nxI l a n).take (l.length + k) = nxI l a k := by
 induction n with
 | zero => rw [show k = 0 by omega]; exact List.take_of_length_le (by rw [nxI_len]; omega)
 | succ n ih =>
  rcases Nat.eq_or_lt_of_le h with h1 | h1
  ·rw [h1]; exact List.take_of_length_le (by rw [nxI_len]; omega)
  ·rw [nxI, List.take_append_of_le_length (by rw [nxI_len]; omega)]
   exact ih (by omega)
theorem Over.nxs {D E A B : Nat} {all a : List Rat} (hD : 0 < D) (hE : 0 < E) (hl : ∀ i, Over D A (cf all i)) (hq : ∀ i, Over E B (cf a i)) (e : Nat) : ∀ k, k ≤ 2 ^ e → Over (D * E) (A + B + e) (nxS all a k) := by
 have key : ∀ m k, k ≤ 2 ^ m → ∀ s, Over (D * E) (A + B + m) (Sm (fun j => cf a (s + j) * cf all (all.length - 1 - (s + j))) k) := by
  intro m
  induction m with
  | zero =>
   intro k hk s
   have : k = 0 ∨ k = 1 := by omega
   rcases this with rfl | rfl
   ·exact Over.zero _ _
   ·have h := (hl (all.length - 1 - (s + 0))).mul (hq (s + 0))
    have e1 : Sm (fun j => cf a (s + j) * cf all (all.length - 1 - (s + j))) 1 = cf all (all.length - 1 - (s + 0)) * cf a (s + 0) := by
     simp only [Sm]; grind
    rw [e1]; exact h
  | succ m ih =>
   intro k hk s
   have h1 := ih (min k (2 ^ m)) (Nat.min_le_right _ _) s
   have h2 := ih (k - 2 ^ m) (by rw [Nat.pow_succ] at hk; omega) (s + min k (2 ^ m))
   have h3 := h1.add (Nat.mul_pos hD hE) h2
   have e1 : ∀ (f : Nat → Rat) (x y : Nat), Sm f (x + y) = Sm f x + Sm (fun j => f (x + j)) y := by
    intro f x y
    induction y with
    | zero => simp only [Sm, Nat.add_zero]; grind
    | succ y ih => rw [← Nat.add_assoc]; simp only [Sm, ih]; grind
   have e2 := e1 (fun j => cf a (s + j) * cf all (all.length - 1 - (s + j))) (min k (2 ^ m)) (k - 2 ^ m)
   rw [show min k (2 ^ m) + (k - 2 ^ m) = k by omega] at e2
   have e3 : (fun j => cf a (s + (min k (2 ^ m) + j)) * cf all (all.length - 1 - (s + (min k (2 ^ m) + j)))) = fun j => cf a (s + min k (2 ^ m) + j) * cf all (all.length - 1 - (s + min k (2 ^ m) + j)) := by
    funext j; rw [Nat.add_assoc]
   rw [e3] at e2
   rw [e2]; exact h3
 intro k hk
 have e1 : ∀ k, nxS all a k = Sm (fun j => cf a (0 + j) * cf all (all.length - 1 - (0 + j))) k := by
  intro k
  induction k with
  | zero => rfl
  | succ k ih => simp only [nxS, Sm, ih, Nat.zero_add]
 rw [e1]; exact key e k hk 0
theorem nxS_QB {C B e : Nat} {all a : List Rat} (hl : CB C all) (ha : CB B a) {k : Nat} (hk : k ≤ 2 ^ e) : QB (C + B + e) (nxS all a k) := by
 obtain ⟨D, d1, d2, d3⟩ := hl
 obtain ⟨E, e1, e2, e3⟩ := ha
 exact (Over.nxs d1 e1 d3 e3 e k hk).qb (Nat.le_trans (two_mul_le d2 e2) (two_mono (by omega)))
def frQ (a : List Rat) : List Rat := [1] ++ a.map fun x => -x
def frP (l a : List Rat) : List Rat := trimQ ((mulP (trimQ (l.take a.length)) (trimQ (frQ a))).take (min (mulP (trimQ (l.take a.length)) (trimQ (frQ a))).length a.length))
theorem frQ_len (a : List Rat) : (frQ a).length = a.length + 1 := by simp [frQ]
theorem cf_frQ (a : List Rat) (j : Nat) : cf (frQ a) (j + 1) = -(cf a j) := by
 unfold frQ cf
 rw [List.getD_eq_getElem?_getD, List.getD_eq_getElem?_getD, List.singleton_append, List.getElem?_cons_succ, List.getElem?_map]
 cases a[j]? with
 | none => simp
 | some x => rfl
theorem cf_frQ0 (a : List Rat) : cf (frQ a) 0 = 1 := rfl
theorem frQ_CB {B : Nat} {a : List Rat} (h : CB B a) : CB B (frQ a) := by
 obtain ⟨D, d1, d2, d3⟩ := h
 refine ⟨D, d1, d2, fun i => ?_⟩
 cases i with
 | zero =>
  rw [cf_frQ0]
  refine ⟨(D : Int), by simpa using d2, ?_⟩
  have h : mkRat (1 * (D : Int)) (1 * D) = mkRat 1 1 := Rat.mkRat_mul_right (by omega)
  rw [Int.one_mul, Nat.one_mul] at h
  rw [h]; rfl
 | succ j => rw [cf_frQ]; exact (d3 j).neg
theorem nxS_Sm (all a : List Rat) (k : Nat) : nxS all a k = Sm (fun j => cf a j * cf all (all.length - 1 - j)) k := by
 induction k with
 | zero => rfl
 | succ k ih => rw [nxS, ih]; rfl
theorem cf_take (l : List Rat) (k i : Nat) : cf (l.take k) i = if i < k then cf l i else 0 := by
 by_cases hi : i < k
 ·rw [if_pos hi]; unfold cf; simp [hi]
 ·rw [if_neg hi]; exact cf_none (by simp; omega)
theorem cv_upto {q y z : Nat → Rat} {i : Nat} (h : ∀ j, j ≤ i → y j = z j) : cv q y i = cv q z i :=
 Sm_congr _ fun j _ => by rw [h (i - j) (by omega)]
theorem cv_front (q y : Nat → Rat) (i : Nat) : cv q y i = q 0 * y i + Sm (fun j => q (j + 1) * y (i - (j + 1))) i := by
 unfold cv
 rw [Sm_front]; rfl
theorem cv_next (Y a : List Rat) (x : Rat) (hl : a.length ≤ Y.length) : cv (cf (frQ a)) (cf (Y ++ [x])) Y.length = x - nxS Y a a.length := by
 rw [cv_front, cf_frQ0, cf_append_right (Nat.le_refl _), Nat.sub_self]
 have e1 : Sm (fun j => cf (frQ a) (j + 1) * cf (Y ++ [x]) (Y.length - (j + 1))) Y.length = -1 * Sm (fun j => cf a j * cf Y (Y.length - 1 - j)) Y.length := by
  rw [← Sm_mul]
  refine Sm_congr _ fun j hj => ?_
  rw [cf_frQ, cf_append_left (by omega), show Y.length - (j + 1) = Y.length - 1 - j by omega]; grind
 have e2 : Sm (fun j => cf a j * cf Y (Y.length - 1 - j)) Y.length = nxS Y a a.length := by
  rw [nxS_Sm]
  exact Sm_more hl fun j h1 _ => by rw [cf_none h1]; grind
 rw [e1, e2, show cf [x] 0 = x from rfl]; grind
theorem cf_nxI (l a : List Rat) {n i : Nat} (h : i < l.length + n) : ∀ k, n ≤ k → cf (nxI l a k) i = cf (nxI l a n) i := fun k hk => by
 rw [← nxI_take l a hk, cf_take, if_pos h]
theorem Gen.upto {l l' q : Nat → Rat} {L n : Nat} (h : Gen l q L n) (e : ∀ i, i < n → l i = l' i) : Gen l' q L n :=
 ⟨h.1, h.2.1, fun k h1 h2 => by rw [← h.2.2 k h1 h2]; exact (cv_upto fun j hj => e j (by omega)).symm⟩
theorem nx_gen {l a : List Rat} (hl : a.length ≤ l.length) (h : Gen (cf l) (cf (frQ a)) a.length l.length) (n : Nat) : Gen (cf (nxI l a n)) (cf (frQ a)) a.length (l.length + n) := by
 induction n with
 | zero => exact h
 | succ n ih =>
  have hlen := nxI_len l a n
  have h2 : Gen (cf (nxI l a (n + 1))) (cf (frQ a)) a.length (l.length + n) := ih.upto fun i hi => (cf_nxI l a hi _ (by omega)).symm
  refine ⟨h2.1, h2.2.1, fun k h3 h4 => ?_⟩
  rcases Nat.eq_or_lt_of_le (Nat.lt_succ_iff.1 (show k < (l.length + n) + 1 by omega)) with e | e
  ·have := cv_next (nxI l a n) a (nxS (nxI l a n) a a.length) (by omega)
   rw [e, ← hlen]
   show cv _ (cf (nxI l a n ++ [_])) _ = 0
   rw [this]; grind
  ·exact h2.2.2 k h3 e
theorem bm_frQ (l : List Rat) (i : Nat) : cf (frQ (bmOut (bmI l i))) = cf (bmI l i).q := by
 obtain ⟨h0, h1, _⟩ := bm_gen l i
 funext j
 cases j with
 | zero => rw [cf_frQ0, h0]
 | succ j =>
  rw [cf_frQ]
  unfold bmOut
  rw [cf_mk]
  split
  ·grind
  ·rw [h1 (j + 1) (by omega)]; grind
theorem bmOut_len (s : BM) : (bmOut s).length = s.size := mk_len _ _
theorem bm_out_gen (l : List Rat) : Gen (cf l) (cf (frQ (bmOut (bmI l l.length)))) (bmOut (bmI l l.length)).length l.length := by
 rw [bm_frQ, bmOut_len]; exact bm_gen l l.length
theorem nx_same {l a b : List Rat} (ha : Gen (cf l) (cf (frQ a)) a.length l.length) (hb : Gen (cf l) (cf (frQ b)) b.length l.length) (h : a.length + b.length ≤ l.length) (n : Nat) : nxI l a n = nxI l b n := by
 induction n with
 | zero => rfl
 | succ n ih =>
  have hlen := nxI_len l a n
  have ga := nx_gen (by omega) ha (n + 1)
  have gb := nx_gen (by omega) hb n
  rw [← ih] at gb
  have gb' : Gen (cf (nxI l a (n + 1))) (cf (frQ b)) b.length (l.length + n) := gb.upto fun i hi => (cf_nxI l a hi _ (by omega)).symm
  have hz := gen_both gb' ga (by omega)
  have hx := cv_next (nxI l a n) b (nxS (nxI l a n) a a.length) (by omega)
  rw [hlen] at hx
  have hx' : cv (cf (frQ b)) (cf (nxI l a (n + 1))) (l.length + n) = nxS (nxI l a n) a a.length - nxS (nxI l a n) b b.length := hx
  rw [hz] at hx'
  show nxI l a n ++ [_] = nxI l b n ++ [_]
  rw [← ih, show nxS (nxI l a n) a a.length = nxS (nxI l a n) b b.length by grind]
theorem cf_frP (l a : List Rat) (i : Nat) : cf (frP l a) i = if i < a.length then cv (cf (l.take a.length)) (cf (frQ a)) i else 0 := by
 unfold frP
 rw [cf_trimQ, cf_take, mulP_cv]
 have e1 : ∀ l : List Rat, cf (trimQ l) = cf l := fun l => funext (cf_trimQ l)
 rw [e1, e1]
 split
 ·rw [if_pos (by omega)]
 ·rename_i h
  split
  ·rename_i h2
   have := cf_none (l := mulP (trimQ (l.take a.length)) (trimQ (frQ a))) (i := i) (by omega)
   rw [mulP_cv, e1, e1] at this
   exact this.symm
  ·rfl

def nnB (l : List Rat) (off : Nat) : Nat → Bool
 | 0 => true
 | k + 1 => nnB l off k && !ng (cf l (off + k))
def rS (l : List Rat) (off : Nat) (b : Rat) : Nat → Rat
 | 0 => b
 | k + 1 => rS l off b k + cf l (off + k)
theorem nnB_le {l : List Rat} {off m : Nat} (h : nnB l off m = true) : ∀ k, k ≤ m → nnB l off k = true := by
 induction m with
 | zero => intro k hk; rw [show k = 0 by omega]; rfl
 | succ m ih =>
  intro k hk
  rw [nnB, Bool.and_eq_true] at h
  rcases Nat.eq_or_lt_of_le hk with e | e
  ·rw [e, nnB, Bool.and_eq_true]; exact h
  ·exact ih h.1 k (by omega)
theorem nnB_get {l : List Rat} {off m : Nat} (h : nnB l off m = true) (k : Nat) (hk : k < m) : ng (cf l (off + k)) = false := by
 have := nnB_le h (k + 1) (by omega)
 rw [nnB, Bool.and_eq_true] at this
 simpa using this.2
theorem rS_over {A D : Nat} {l : List Rat} (hD : 0 < D) (h : ∀ i, Over D A (cf l i)) (off : Nat) : ∀ k, Over D (A + k) (rS l off 0 k)
 | 0 => Over.zero _ _
 | k + 1 => by
  have := (rS_over hD h off k).add hD ((h (off + k)).mono (show A ≤ A + k by omega))
  exact this
theorem rS_base (l : List Rat) (off : Nat) (b : Rat) (k : Nat) : rS l off b k = b + rS l off 0 k := by
 induction k with
 | zero => simp only [rS]; grind
 | succ k ih => simp only [rS, ih]; grind
theorem rS_QB {A B : Nat} {l : List Rat} {b : Rat} (h : CB A l) (hb : QB B b) (off k : Nat) : QB (B + (A + k) + 1) (rS l off b k) := by
 obtain ⟨D, d1, d2, d3⟩ := h
 rw [rS_base]
 exact hb.add ((rS_over d1 d3 off k).qb (Nat.le_trans d2 (two_mono (by omega))))
def rowB (n m : Nat) (M E : List Rat) (i : Nat) : Bool := nnB M (i * n) n && nnB E (i * m) m && decide (rS E (i * m) (rS M (i * n) 0 n) m = 1)
def rowsB (n m : Nat) (M E : List Rat) : Nat → Bool
 | 0 => true
 | i + 1 => rowsB n m M E i && rowB n m M E i
theorem rowsB_bad {n m : Nat} {M E : List Rat} {i k : Nat} (h : rowB n m M E i = false) (hi : i < k) : rowsB n m M E k = false := by
 induction k with
 | zero => omega
 | succ k ih =>
  rw [rowsB]
  rcases Nat.eq_or_lt_of_le hi with e | e
  ·rw [show i = k by omega] at h
   rw [h, Bool.and_false]
  ·rw [ih (by omega), Bool.false_and]
theorem rowsB_get {n m : Nat} {M E : List Rat} {k : Nat} (h : rowsB n m M E k = true) (i : Nat) (hi : i < k) : rowB n m M E i = true := by
 cases hb : rowB n m M E i
 ·rw [rowsB_bad hb hi] at h; cases h
 ·rfl
def tS (a M : List Rat) (c k : Nat) : Nat → Rat
 | 0 => 0
 | i + 1 => tS a M c k i + cf a i * cf M (i * c + k)
def thr (a M : List Rat) (c : Nat) : List Rat := mk c fun k => tS a M c k a.length
theorem thr_len (a M : List Rat) (c : Nat) : (thr a M c).length = c := mk_len _ _
theorem tS_over {A B D E : Nat} {a M : List Rat} (hD : 0 < D) (hE : 0 < E) (ha : ∀ i, Over D A (cf a i)) (hM : ∀ i, Over E B (cf M i)) (c k : Nat) : ∀ i, Over (D * E) (A + B + i) (tS a M c k i)
 | 0 => Over.zero _ _
 | i + 1 => by
  have h1 := (ha i).mul (hM (i * c + k))
  have := (tS_over hD hE ha hM c k i).add (Nat.mul_pos hD hE) (h1.mono (show A + B ≤ A + B + i by omega))
  exact this
theorem tS_QB {A B : Nat} {a M : List Rat} (ha : CB A a) (hM : CB B M) (c k i : Nat) : QB (A + B + i) (tS a M c k i) := by
 obtain ⟨D, d1, d2, d3⟩ := ha
 obtain ⟨E, e1, e2, e3⟩ := hM
 exact (tS_over d1 e1 d3 e3 c k i).qb (Nat.le_trans (two_mul_le d2 e2) (two_mono (by omega)))
theorem thr_CB {A B : Nat} {a M : List Rat} (ha : CB A a) (hM : CB B M) (c : Nat) : CB (A + B + a.length) (thr a M c) := by
 obtain ⟨D, d1, d2, d3⟩ := ha
 obtain ⟨E, e1, e2, e3⟩ := hM
 refine ⟨D * E, Nat.mul_pos d1 e1, Nat.le_trans (two_mul_le d2 e2) (two_mono (by omega)), fun i => ?_⟩
 unfold thr
 rw [cf_mk]
 split
 ·exact tS_over d1 e1 d3 e3 c i a.length
 ·exact Over.zero _ _
theorem ng_iff (q : Rat) : ng q = false ↔ 0 ≤ q := by
 unfold ng
 rw [decide_eq_false_iff_not]
 rw [Int.not_lt]; exact Rat.num_nonneg
theorem tS_nn {a M : List Rat} {c : Nat} (k : Nat) : ∀ i, (∀ j, j < i → 0 ≤ cf a j) → (∀ j, j < i → 0 ≤ cf M (j * c + k)) → 0 ≤ tS a M c k i
 | 0, _, _ => Rat.le_refl
 | i + 1, ha, hM => by
  have h1 := tS_nn (a := a) (M := M) (c := c) k i (fun j hj => ha j (by omega)) (fun j hj => hM j (by omega))
  have h2 := Rat.mul_nonneg (ha i (by omega)) (hM i (by omega))
  exact Rat.add_nonneg h1 h2
theorem XM : type_of% (And.intro (And.intro (And.intro (And.intro (@shapeT_24) (And.intro (@zeroT_24) (@fieldT_24_0))) (And.intro (@fieldT_24_1) (And.intro (@fieldT_24_2) (@shapeT_57)))) (And.intro (And.intro (@zeroT_57) (And.intro (@fieldT_57_0) (@fieldT_57_1))) (And.intro (@shapeT_34) (And.intro (@zeroT_34) (@fieldT_34_0))))) (And.intro (And.intro (And.intro (@fieldT_34_1) (And.intro (@fieldT_34_2) (@shapeT_62))) (And.intro (@zeroT_62) (And.intro (@fieldT_62_0) (@fieldT_62_1)))) (And.intro (And.intro (@elemT_149) (And.intro (@kindT_149) (@shapeT_149))) (And.intro (@elemT_103) (And.intro (@kindT_103) (@shapeT_103)))))) := And.intro (And.intro (And.intro (And.intro (@shapeT_24) (And.intro (@zeroT_24) (@fieldT_24_0))) (And.intro (@fieldT_24_1) (And.intro (@fieldT_24_2) (@shapeT_57)))) (And.intro (And.intro (@zeroT_57) (And.intro (@fieldT_57_0) (@fieldT_57_1))) (And.intro (@shapeT_34) (And.intro (@zeroT_34) (@fieldT_34_0))))) (And.intro (And.intro (And.intro (@fieldT_34_1) (And.intro (@fieldT_34_2) (@shapeT_62))) (And.intro (@zeroT_62) (And.intro (@fieldT_62_0) (@fieldT_62_1)))) (And.intro (And.intro (@elemT_149) (And.intro (@kindT_149) (@shapeT_149))) (And.intro (@elemT_103) (And.intro (@kindT_103) (@shapeT_103)))))
end Go.Proofs.YthoboehbadmlmaaGreat
end
section
namespace Go.Proofs.YthoboehbadmlmaaGreat
open Go Go.RowKit
attribute [local irreducible] XWP Spec SpecO XPub XCall seqX clX apX stX ldX iaX slX
def matR (r c : Int) (L : List Raw) : Bool := decide (0 ≤ r ∧ r ≤ 60 ∧ 0 ≤ c ∧ c ≤ 60 ∧ (L.length : Int) = r * c) && okR L
theorem mul60 {r c : Int} (h1 : 0 ≤ r) (h2 : r ≤ 60) (h3 : 0 ≤ c) (h4 : c ≤ 60) : 0 ≤ r * c ∧ r * c ≤ 3600 :=
 ⟨Int.mul_nonneg h1 h3, Int.le_trans (Int.mul_le_mul h2 h4 h3 (by omega)) (by omega)⟩
theorem matR_bad {r c : Int} {L : List Raw} (h : ¬ (0 ≤ r ∧ r ≤ 60 ∧ 0 ≤ c ∧ c ≤ 60 ∧ (L.length : Int) = r * c)) : matR r c L = false := by unfold matR; rw [decide_eq_false h]; rfl
theorem cmright_c (V : View) (s : Value) (r c : Int) (l : List Raw) (h : Raws V s l) (f : fitR l) (ll : l.length ≤ 1000000) : Spec Tryz.prog 37 [.agg #[.int .i64 r, .int .i64 c, s]] V fun v' V' => v' = .bool (matR r c l) := by
 obtain ⟨A, cp, rfl, hc, hm⟩ := h.form
 refine (Spec.enter Tryz.func37 rfl fun Γ => ?_)
 simp only [Tryz.ntmps37, List.map_cons, List.map_nil, List.length_cons, List.length_nil, Nat.reduceAdd, Nat.reduceSub, List.replicate_succ, List.replicate_zero, List.cons_append, List.nil_append]
 refine Gx.a (by kernel_rfl) fun K hK => ?_
 simp only [XA]
 refine hK _ ?_
 refine XWP.seq ?_
 by_cases d1 : r < 0
 ·have b1 : decide (r < 0) = true := decide_eq_true d1
  have e := matR_bad (r := r) (c := c) (L := l) (by omega)
  refine Gx.a (by kernel_rfl) fun K hK => ?_
  simp only [XM, XA, XB, gateX, ↓reduceIte, b1]
  refine hK _ ?_
  refine Gx.t rfl ?_
  refine Gx.a (by kernel_rfl) fun K hK => ?_
  simp only [XA]
  refine hK _ (XWP.ret ?_)
  try simp only [thenX_ret, inBlockX_ret]
  refine ret_go _ rfl ?_
  rw [e]; rfl
 have b1 : decide (r < 0) = false := decide_eq_false d1
 by_cases d2 : 60 < r
 ·have b2 : decide (60 < r) = true := decide_eq_true d2
  have e := matR_bad (r := r) (c := c) (L := l) (by omega)
  refine Gx.a (by kernel_rfl) fun K hK => ?_
  simp only [XM, XA, XB, gateX, ↓reduceIte, beq_self_eq_true, b1, b2]
  refine hK _ ?_
  refine Gx.t rfl ?_
  refine Gx.a (by kernel_rfl) fun K hK => ?_
  simp only [XA]
  refine hK _ (XWP.ret ?_)
  try simp only [thenX_ret, inBlockX_ret]
  refine ret_go _ rfl ?_
  rw [e]; rfl
 have b2 : decide (60 < r) = false := decide_eq_false d2
 by_cases d3 : c < 0
 ·have b3 : decide (c < 0) = true := decide_eq_true d3
  have e := matR_bad (r := r) (c := c) (L := l) (by omega)
  refine Gx.a (by kernel_rfl) fun K hK => ?_
  simp only [XM, XA, XB, gateX, ↓reduceIte, beq_self_eq_true, b1, b2, b3]
  refine hK _ ?_
  refine Gx.t rfl ?_
  refine Gx.a (by kernel_rfl) fun K hK => ?_
  simp only [XA]
  refine hK _ (XWP.ret ?_)
  try simp only [thenX_ret, inBlockX_ret]
  refine ret_go _ rfl ?_
  rw [e]; rfl
 have b3 : decide (c < 0) = false := decide_eq_false d3
 by_cases d4 : 60 < c
 ·have b4 : decide (60 < c) = true := decide_eq_true d4
  have e := matR_bad (r := r) (c := c) (L := l) (by omega)
  refine Gx.a (by kernel_rfl) fun K hK => ?_
  simp only [XM, XA, XB, gateX, ↓reduceIte, beq_self_eq_true, b1, b2, b3, b4]
  refine hK _ ?_
  refine Gx.t rfl ?_
  refine Gx.a (by kernel_rfl) fun K hK => ?_
  simp only [XA]
  refine hK _ (XWP.ret ?_)
  try simp only [thenX_ret, inBlockX_ret]
  refine ret_go _ rfl ?_
  rw [e]; rfl
 have b4 : decide (60 < c) = false := decide_eq_false d4
 have hm60 := mul60 (r := r) (c := c) (by omega) (by omega) (by omega) (by omega)
 have w : IntKind.i64.wrap (r * c) = r * c := wrap_id (by omega) (by omega)
 by_cases d5 : (l.length : Int) = r * c
 rotate_left
 ·have b5 : decide ((l.length : Int) = r * c) = false := decide_eq_false d5
  have e := matR_bad (r := r) (c := c) (L := l) (by omega)
  refine Gx.a (by kernel_rfl) fun K hK => ?_
  simp only [XM, XA, XB, gateX, ↓reduceIte, beq_self_eq_true, b1, b2, b3, b4, w, b5]
  refine hK _ ?_
  refine Gx.t rfl ?_
  refine Gx.a (by kernel_rfl) fun K hK => ?_
  simp only [XA]
  refine hK _ (XWP.ret ?_)
  try simp only [thenX_ret, inBlockX_ret]
  refine ret_go _ rfl ?_
  rw [e]; rfl
 have b5 : decide ((l.length : Int) = r * c) = true := decide_eq_true d5
 refine Gx.a (by kernel_rfl) fun K hK => ?_
 simp only [XM, XA, XB, gateX, ↓reduceIte, beq_self_eq_true, b1, b2, b3, b4, w, b5]
 refine hK _ ?_
 refine Gx.f rfl ?_
 refine XWP.skip ?_
 have eM : matR r c l = okR l := by unfold matR; rw [decide_eq_true ⟨by omega, by omega, by omega, by omega, d5⟩]; rfl
 rw [eM]
 clear eM
 refine XWP.cutD 1 (fun s => ∃ V2, StIs (fun Z => [Z 0,Z 1,Z 2,Z 3,Z 4,Z 5,Z 6,Z 7,Z 8,Z 9,Z 10,Z 11,Z 12,Z 13,Z 14,Z 15,Z 16,Z 17,Z 18,Z 19,Z 20,Z 21,Z 22,Z 23,Z 24,Z 25,Z 26,Z 27,Z 28,Z 29,Z 30,Z 31,Z 32,Z 33,Z 34,Z 35,Z 36,Z 37,Z 38,Z 39,Z 40,Z 41,Z 42,Z 43,Z 44]) [[.int .i64 r, .int .i64 c, .slice A l.length cp]] (fun _ => none) V2 s ∧ okR l = true) ?_ ?_
 ·refine Gx.a (by kernel_rfl) fun K hK => ?_
  simp only [XM, XA, XB]
  refine hK _ ?_
  clear hK
  refine XWP.block ?_
  refine XWP.loopD 1 (fun n s => ∃ (k : Nat) (V2 : View), StIs (fun Z => [Z 0, .p 0 0, Z 2,Z 3,Z 4,Z 5,Z 6,Z 7,Z 8,Z 9,Z 10,Z 11,Z 12,Z 13,Z 14,Z 15,Z 16,Z 17,Z 18,Z 19,Z 20,Z 21,Z 22,Z 23,Z 24,Z 25,Z 26,Z 27,Z 28,Z 29,Z 30,Z 31,Z 32,Z 33,Z 34, .v (.slice A l.length cp), .v (.int .i64 (l.length : Int)), .v (.int .i64 (k : Int)), Z 38,Z 39,Z 40,Z 41,Z 42,Z 43,Z 44]) [[.int .i64 r, .int .i64 c, .slice A l.length cp]] (fun _ => none) V2 s ∧ V.le V2 ∧ n + k = l.length ∧ okR (l.take k) = true) l.length ⟨0, V, StIs.of (by exact rfl), View.le_refl _, rfl, by simp [okR]⟩ ?_
  rintro n s ⟨k, V2, hs, hV2, hn, hk⟩
  obtain ⟨u, rfl⟩ := hs.out
  try dsimp only
  by_cases hlt : k < l.length
  ·have b6 : decide ((k : Int) < (l.length : Int)) = true := decide_eq_true (by omega)
   refine Gx.a (by kernel_rfl) fun K hK => ?_
   simp only [XA, XB, b6]
   refine hK _ ?_
   refine XWP.seq (Gx.t rfl ?_)
   refine XWP.skip ?_
   refine XWP.seq ?_
   refine XWP.block ?_
   refine Gx.a (by kernel_rfl) fun K hK => ?_
   have hv2 := Raws.up h hV2
   obtain ⟨b, o, rfl⟩ := SlAt.addr hv2 (by omega)
   obtain ⟨x, hx, ⟨m3, n3, d3, rfl, p1, p2, p3⟩, hld⟩ := SlAt.load hv2 k hlt
   simp only [XA, XB]
   refine ⟨by omega, by omega, ld_mem (hld _) ?_⟩
   simp only [XA, XB]
   refine st_rat rfl rfl p1 p2 p3 ?_
   simp only [XA]
   refine hK _ ?_
   have ff := f _ (List.getElem_mem hlt)
   refine Gx.a (by kernel_rfl) fun K hK => ?_
   simp only [XA, XB, Nat.reduceAdd, Nat.reduceLeDiff, ↓reduceIte]
   refine call_go (by kernel_rfl) rfl (qright_c _ _ _ _ _ hx ff.1 ff.2) fun v3 V3 hV3 h3 => ?_
   subst h3
   have et : l.take (k + 1) = l.take k ++ [l[k]] := by rw [List.take_succ_eq_append_getElem hlt]
   cases hr : rawOk l[k].m l[k].nd l[k].dd
   ·simp only [XA]
    refine hK _ ?_
    refine Gx.t rfl ?_
    refine Gx.a (by kernel_rfl) fun K hK => ?_
    simp only [XA]
    refine hK _ (XWP.ret ?_)
    try simp only [thenX_ret, inBlockX_ret]
    refine ret_go _ rfl ?_
    have : okR l = false := by
     unfold okR
     rw [List.all_eq_false]
     exact ⟨l[k], List.getElem_mem hlt, by unfold Raw.ok; rw [hr]; simp⟩
    rw [this]; rfl
   ·simp only [XA]
    refine hK _ ?_
    refine Gx.f rfl ?_
    refine XWP.skip ?_
    refine Gx.c (by kernel_rfl) fun K hK => ?_
    simp only [XA, XB, i64_succ k (by omega)]
    refine hK _ ⟨n - 1, by omega, fun f => ⟨k + 1, V3, StIs.of (by exact rfl), View.le_trans hV2 hV3, by omega, ?_⟩⟩
    unfold okR at hk ⊢
    rw [et, List.all_append, hk]
    simp [Raw.ok, hr]
  ·have b6 : decide ((k : Int) < (l.length : Int)) = false := decide_eq_false (by omega)
   refine Gx.a (by kernel_rfl) fun K hK => ?_
   simp only [XA, XB, b6]
   refine hK _ ?_
   refine XWP.seq (Gx.f rfl ?_)
   refine XWP.exit ?_
   rw [List.take_of_length_le (by omega)] at hk
   exact fun f => ⟨V2, StIs.of (by exact rfl), hk⟩
 rintro s ⟨V2, hs, hk⟩
 obtain ⟨u, rfl⟩ := hs.out
 try dsimp only
 refine Gx.a (by kernel_rfl) fun K hK => ?_
 simp only [XA]
 refine hK _ (XWP.ret ?_)
 try simp only [thenX_ret, inBlockX_ret]
 refine ret_go _ rfl ?_
 rw [hk]; rfl
theorem dmright_c (V : View) (s : Value) (r c : Int) (l : List Raw) (h : Raws V s l) (f : fitR l) (ll : l.length ≤ 1000000) : Spec Tryz.prog 15 [.agg #[.int .i64 r, .int .i64 c, s]] V fun v' V' => v' = .bool (matR r c l) := by
 obtain ⟨A, cp, rfl, hc, hm⟩ := h.form
 refine (Spec.enter Tryz.func15 rfl fun Γ => ?_)
 simp only [Tryz.ntmps15, List.map_cons, List.map_nil, List.length_cons, List.length_nil, Nat.reduceAdd, Nat.reduceSub, List.replicate_succ, List.replicate_zero, List.cons_append, List.nil_append]
 refine Gx.a (by kernel_rfl) fun K hK => ?_
 simp only [XA]
 refine hK _ ?_
 refine XWP.seq ?_
 by_cases d1 : r < 0
 ·have b1 : decide (r < 0) = true := decide_eq_true d1
  have e := matR_bad (r := r) (c := c) (L := l) (by omega)
  refine Gx.a (by kernel_rfl) fun K hK => ?_
  simp only [XM, XA, XB, gateX, ↓reduceIte, b1]
  refine hK _ ?_
  refine Gx.t rfl ?_
  refine Gx.a (by kernel_rfl) fun K hK => ?_
  simp only [XA]
  refine hK _ (XWP.ret ?_)
  try simp only [thenX_ret, inBlockX_ret]
  refine ret_go _ rfl ?_
  rw [e]; rfl
 have b1 : decide (r < 0) = false := decide_eq_false d1
 by_cases d2 : 60 < r
 ·have b2 : decide (60 < r) = true := decide_eq_true d2
  have e := matR_bad (r := r) (c := c) (L := l) (by omega)
  refine Gx.a (by kernel_rfl) fun K hK => ?_
  simp only [XM, XA, XB, gateX, ↓reduceIte, beq_self_eq_true, b1, b2]
  refine hK _ ?_
  refine Gx.t rfl ?_
  refine Gx.a (by kernel_rfl) fun K hK => ?_
  simp only [XA]
  refine hK _ (XWP.ret ?_)
  try simp only [thenX_ret, inBlockX_ret]
  refine ret_go _ rfl ?_
  rw [e]; rfl
 have b2 : decide (60 < r) = false := decide_eq_false d2
 by_cases d3 : c < 0
 ·have b3 : decide (c < 0) = true := decide_eq_true d3
  have e := matR_bad (r := r) (c := c) (L := l) (by omega)
  refine Gx.a (by kernel_rfl) fun K hK => ?_
  simp only [XM, XA, XB, gateX, ↓reduceIte, beq_self_eq_true, b1, b2, b3]
  refine hK _ ?_
  refine Gx.t rfl ?_
  refine Gx.a (by kernel_rfl) fun K hK => ?_
  simp only [XA]
  refine hK _ (XWP.ret ?_)
  try simp only [thenX_ret, inBlockX_ret]
  refine ret_go _ rfl ?_
  rw [e]; rfl
 have b3 : decide (c < 0) = false := decide_eq_false d3
 by_cases d4 : 60 < c
 ·have b4 : decide (60 < c) = true := decide_eq_true d4
  have e := matR_bad (r := r) (c := c) (L := l) (by omega)
  refine Gx.a (by kernel_rfl) fun K hK => ?_
  simp only [XM, XA, XB, gateX, ↓reduceIte, beq_self_eq_true, b1, b2, b3, b4]
  refine hK _ ?_
  refine Gx.t rfl ?_
  refine Gx.a (by kernel_rfl) fun K hK => ?_
  simp only [XA]
  refine hK _ (XWP.ret ?_)
  try simp only [thenX_ret, inBlockX_ret]
  refine ret_go _ rfl ?_
  rw [e]; rfl
 have b4 : decide (60 < c) = false := decide_eq_false d4
 have hm60 := mul60 (r := r) (c := c) (by omega) (by omega) (by omega) (by omega)
 have w : IntKind.i64.wrap (r * c) = r * c := wrap_id (by omega) (by omega)
 by_cases d5 : (l.length : Int) = r * c
 rotate_left
 ·have b5 : decide ((l.length : Int) = r * c) = false := decide_eq_false d5
  have e := matR_bad (r := r) (c := c) (L := l) (by omega)
  refine Gx.a (by kernel_rfl) fun K hK => ?_
  simp only [XM, XA, XB, gateX, ↓reduceIte, beq_self_eq_true, b1, b2, b3, b4, w, b5]
  refine hK _ ?_
  refine Gx.t rfl ?_
  refine Gx.a (by kernel_rfl) fun K hK => ?_
  simp only [XA]
  refine hK _ (XWP.ret ?_)
  try simp only [thenX_ret, inBlockX_ret]
  refine ret_go _ rfl ?_
  rw [e]; rfl
 have b5 : decide ((l.length : Int) = r * c) = true := decide_eq_true d5
 refine Gx.a (by kernel_rfl) fun K hK => ?_
 simp only [XM, XA, XB, gateX, ↓reduceIte, beq_self_eq_true, b1, b2, b3, b4, w, b5]
 refine hK _ ?_
 refine Gx.f rfl ?_
 refine XWP.skip ?_
 have eM : matR r c l = okR l := by unfold matR; rw [decide_eq_true ⟨by omega, by omega, by omega, by omega, d5⟩]; rfl
 rw [eM]
 clear eM
 refine XWP.cutD 1 (fun s => ∃ V2, StIs (fun Z => [Z 0,Z 1,Z 2,Z 3,Z 4,Z 5,Z 6,Z 7,Z 8,Z 9,Z 10,Z 11,Z 12,Z 13,Z 14,Z 15,Z 16,Z 17,Z 18,Z 19,Z 20,Z 21,Z 22,Z 23,Z 24,Z 25,Z 26,Z 27,Z 28,Z 29,Z 30,Z 31,Z 32,Z 33,Z 34,Z 35,Z 36,Z 37,Z 38,Z 39,Z 40,Z 41,Z 42,Z 43,Z 44]) [[.int .i64 r, .int .i64 c, .slice A l.length cp]] (fun _ => none) V2 s ∧ okR l = true) ?_ ?_
 ·refine Gx.a (by kernel_rfl) fun K hK => ?_
  simp only [XM, XA, XB]
  refine hK _ ?_
  clear hK
  refine XWP.block ?_
  refine XWP.loopD 1 (fun n s => ∃ (k : Nat) (V2 : View), StIs (fun Z => [Z 0, .p 0 0, Z 2,Z 3,Z 4,Z 5,Z 6,Z 7,Z 8,Z 9,Z 10,Z 11,Z 12,Z 13,Z 14,Z 15,Z 16,Z 17,Z 18,Z 19,Z 20,Z 21,Z 22,Z 23,Z 24,Z 25,Z 26,Z 27,Z 28,Z 29,Z 30,Z 31,Z 32,Z 33,Z 34, .v (.slice A l.length cp), .v (.int .i64 (l.length : Int)), .v (.int .i64 (k : Int)), Z 38,Z 39,Z 40,Z 41,Z 42,Z 43,Z 44]) [[.int .i64 r, .int .i64 c, .slice A l.length cp]] (fun _ => none) V2 s ∧ V.le V2 ∧ n + k = l.length ∧ okR (l.take k) = true) l.length ⟨0, V, StIs.of (by exact rfl), View.le_refl _, rfl, by simp [okR]⟩ ?_
  rintro n s ⟨k, V2, hs, hV2, hn, hk⟩
  obtain ⟨u, rfl⟩ := hs.out
  try dsimp only
  by_cases hlt : k < l.length
  ·have b6 : decide ((k : Int) < (l.length : Int)) = true := decide_eq_true (by omega)
   refine Gx.a (by kernel_rfl) fun K hK => ?_
   simp only [XA, XB, b6]
   refine hK _ ?_
   refine XWP.seq (Gx.t rfl ?_)
   refine XWP.skip ?_
   refine XWP.seq ?_
   refine XWP.block ?_
   refine Gx.a (by kernel_rfl) fun K hK => ?_
   have hv2 := Raws.up h hV2
   obtain ⟨b, o, rfl⟩ := SlAt.addr hv2 (by omega)
   obtain ⟨x, hx, ⟨m3, n3, d3, rfl, p1, p2, p3⟩, hld⟩ := SlAt.load hv2 k hlt
   simp only [XA, XB]
   refine ⟨by omega, by omega, ld_mem (hld _) ?_⟩
   simp only [XA, XB]
   refine st_rat rfl rfl p1 p2 p3 ?_
   simp only [XA]
   refine hK _ ?_
   have ff := f _ (List.getElem_mem hlt)
   refine Gx.a (by kernel_rfl) fun K hK => ?_
   simp only [XA, XB, Nat.reduceAdd, Nat.reduceLeDiff, ↓reduceIte]
   refine call_go (by kernel_rfl) rfl (pright_c _ _ _ _ _ hx ff.1 ff.2) fun v3 V3 hV3 h3 => ?_
   subst h3
   have et : l.take (k + 1) = l.take k ++ [l[k]] := by rw [List.take_succ_eq_append_getElem hlt]
   cases hr : rawOk l[k].m l[k].nd l[k].dd
   ·simp only [XA]
    refine hK _ ?_
    refine Gx.t rfl ?_
    refine Gx.a (by kernel_rfl) fun K hK => ?_
    simp only [XA]
    refine hK _ (XWP.ret ?_)
    try simp only [thenX_ret, inBlockX_ret]
    refine ret_go _ rfl ?_
    have : okR l = false := by
     unfold okR
     rw [List.all_eq_false]
     exact ⟨l[k], List.getElem_mem hlt, by unfold Raw.ok; rw [hr]; simp⟩
    rw [this]; rfl
   ·simp only [XA]
    refine hK _ ?_
    refine Gx.f rfl ?_
    refine XWP.skip ?_
    refine Gx.c (by kernel_rfl) fun K hK => ?_
    simp only [XA, XB, i64_succ k (by omega)]
    refine hK _ ⟨n - 1, by omega, fun f => ⟨k + 1, V3, StIs.of (by exact rfl), View.le_trans hV2 hV3, by omega, ?_⟩⟩
    unfold okR at hk ⊢
    rw [et, List.all_append, hk]
    simp [Raw.ok, hr]
  ·have b6 : decide ((k : Int) < (l.length : Int)) = false := decide_eq_false (by omega)
   refine Gx.a (by kernel_rfl) fun K hK => ?_
   simp only [XA, XB, b6]
   refine hK _ ?_
   refine XWP.seq (Gx.f rfl ?_)
   refine XWP.exit ?_
   rw [List.take_of_length_le (by omega)] at hk
   exact fun f => ⟨V2, StIs.of (by exact rfl), hk⟩
 rintro s ⟨V2, hs, hk⟩
 obtain ⟨u, rfl⟩ := hs.out
 try dsimp only
 refine Gx.a (by kernel_rfl) fun K hK => ?_
 simp only [XA]
 refine hK _ (XWP.ret ?_)
 try simp only [thenX_ret, inBlockX_ret]
 refine ret_go _ rfl ?_
 rw [hk]; rfl
theorem ccell_c (V : View) (s : Value) (r : Int) (n i k : Nat) (l : List Rat) (h : Rats V s l) (hk : i * n + k < l.length) (hn : n ≤ 60) (hi : i ≤ 60) (ll : l.length ≤ 1000000) :
  Spec Tryz.prog 123 [.agg #[.int .i64 r, .int .i64 (n : Int), s], .int .i64 (i : Int), .int .i64 (k : Int)] V fun v' V' => RatC V' v' (cf l (i * n + k)) := by
 obtain ⟨A, cp, rfl, hc, hm⟩ := h.form
 obtain ⟨b, o, rfl⟩ := SlAt.addr h (by omega)
 obtain ⟨m3, n3, d3, hx, ⟨p1, p2, p3⟩, hld⟩ := Rats.get h (i * n + k) hk
 have hin : i * n ≤ 3600 := Nat.le_trans (Nat.mul_le_mul hi hn) (by decide)
 have w1 : IntKind.i64.wrap ((i : Int) * (n : Int)) = ((i * n : Nat) : Int) := by rw [← Int.natCast_mul, wrap_id (by omega) (by omega)]
 have w2 := i64_add (i * n) k (by omega)
 refine (Spec.enter Tryz.func123 rfl fun Γ => ?_)
 simp only [Tryz.ntmps123, List.map_cons, List.map_nil, List.length_cons, List.length_nil, Nat.reduceAdd, Nat.reduceSub, List.replicate_succ, List.replicate_zero, List.cons_append, List.nil_append]
 refine Gx.a (by kernel_rfl) fun K hK => ?_
 simp only [XA, XB]
 refine hK _ ?_
 refine Gx.a (by kernel_rfl) fun K hK => ?_
 simp only [XM, XA, XB, w1, w2]
 refine ⟨by omega, by omega, ld_mem (hld _) ?_⟩
 simp only [XA]
 refine st_rat rfl rfl p1 p2 p3 ?_
 simp only [XA]
 refine hK _ (XWP.ret ?_)
 try simp only [thenX_ret, inBlockX_ret]
 exact ret_rat1 rfl rfl rfl hx
theorem sgI_abs (q : Rat) : (q.num : Int) = sgI q * (q.num.natAbs : Int) := by
 unfold sgI
 have h0 := rat_zero_iff q
 by_cases h : q = 0
 ·rw [if_pos h, h]; rfl
 ·rw [if_neg h]
  cases hn : ng q
  ·have := (ng_iff q).1 hn
   have := Rat.num_nonneg.2 this
   rw [if_neg (by simp)]; omega
  ·unfold ng at hn
   have := of_decide_eq_true hn
   rw [if_pos rfl]; omega
theorem sgI_val (q : Rat) : sgI q = 0 ∨ sgI q = 1 ∨ sgI q = -1 := by
 unfold sgI
 split
 ·exact .inl rfl
 ·split
  ·exact .inr (.inr rfl)
  ·exact .inr (.inl rfl)
theorem cmp_same {p q : Rat} (h : sgI p = sgI q) : sgI p * cmpI (p.num.natAbs * q.den) (q.num.natAbs * p.den) = 0 ↔ p = q := by
 have hp := sgI_abs p
 have hq := sgI_abs q
 constructor
 ·intro hz
  rcases Int.mul_eq_zero.1 hz with h0 | h0
  ·have e1 := sgI_zero p
   have e2 := sgI_zero q
   rw [← h, h0] at e2
   rw [h0] at e1
   have e1 : p = 0 := by simpa using e1.symm
   have e2 : q = 0 := by simpa using e2.symm
   rw [e1, e2]
  ·have e : p.num.natAbs * q.den = q.num.natAbs * p.den := by
    unfold cmpI at h0
    split at h0
    ·cases h0
    ·split at h0
     ·cases h0
     ·omega
   rw [Rat.eq_iff_mul_eq_mul, hp, hq, h, Int.mul_assoc, Int.mul_assoc, ← Int.natCast_mul, ← Int.natCast_mul, e]
 ·intro e
  subst e
  have : cmpI (p.num.natAbs * p.den) (p.num.natAbs * p.den) = 0 := by unfold cmpI; rw [if_neg (by omega), if_neg (by omega)]
  rw [this, Int.mul_zero]
theorem cmpI_val (a b : Nat) : cmpI a b = 0 ∨ cmpI a b = 1 ∨ cmpI a b = -1 := by
 unfold cmpI
 split
 ·exact .inr (.inr rfl)
 ·split
  ·exact .inr (.inl rfl)
  ·exact .inl rfl
theorem qcompare_c (V : View) (v u : Value) (p q : Rat) (hv : RatC V v p) (hu : RatC V u q) (fp : QF p) (fq : QF q) : Spec Tryz.prog 150 [v, u] V fun v' V' => ∃ z : Int, v' = .int .i64 z ∧ (z = 0 ↔ p = q) := by
 have hv0 := hv
 have hu0 := hu
 obtain ⟨n1, d1, rfl, hn1, hd1⟩ := hv
 obtain ⟨n2, d2, rfl, hn2, hd2⟩ := hu
 refine (Spec.enter Tryz.func150 rfl fun Γ => ?_)
 simp only [Tryz.ntmps150, List.map_cons, List.map_nil, List.length_cons, List.length_nil, Nat.reduceAdd, Nat.reduceSub, List.replicate_succ, List.replicate_zero, List.cons_append, List.nil_append]
 refine Gx.a (by kernel_rfl) fun K hK => ?_
 simp only [XA]
 refine hK _ ?_
 (refine XWP.drw [0, 2, 1, 3, 4, 5] (by kernel_rfl) (by kernel_rfl) (by kernel_rfl) fun K hK => ?_) <;> dsimp only [pickOps, List.getElem?_cons_zero, List.getElem?_cons_succ]
 simp only [XA, XB, Nat.reduceAdd, Nat.reduceLeDiff, ↓reduceIte]
 refine call_go (by kernel_rfl) rfl (qsign_c _ _ _ hv0) fun v1 V1 hV1 h1 => ?_
 subst h1
 simp only [XA]
 refine call_go (by kernel_rfl) rfl (qsign_c _ _ _ (hu0.mono hV1)) fun v2 V2 hV2 h2 => ?_
 subst h2
 simp only [XA]
 refine hK _ ?_
 have hV := View.le_trans hV1 hV2
 have hne : sgI p ≠ sgI q → ¬ p = q := fun h e => h (by rw [e])
 refine XWP.cut (fun s => StIs (fun Z => [Z 0,Z 1, .p 0 0, .p 1 0, Z 4, .v (.int .i64 (sgI p)), .v (.int .i64 (sgI q)), Z 7,Z 8,Z 9,Z 10,Z 11,Z 12,Z 13,Z 14,Z 15,Z 16,Z 17,Z 18,Z 19,Z 20,Z 21,Z 22,Z 23,Z 24,Z 25,Z 26,Z 27,Z 28,Z 29,Z 30,Z 31]) [[.bool (ng p), n1, d1], [.bool (ng q), n2, d2]] (fun _ => none) V2 s ∧ sgI p = sgI q) ?_ ?_
 ·refine XWP.block ?_
  by_cases k1 : sgI p < sgI q
  ·have b1 : decide (sgI p < sgI q) = true := decide_eq_true k1
   refine Gx.a (by kernel_rfl) fun K hK => ?_
   simp only [XA, XB, b1]
   refine hK _ ?_
   refine Gx.t rfl ?_
   refine Gx.a (by kernel_rfl) fun K hK => ?_
   simp only [XA]
   refine hK _ (XWP.ret ?_)
   try simp only [thenX_ret, inBlockX_ret]
   refine ret_go _ rfl ?_
   exact ⟨-1, rfl, (fun h => by cases h), fun h => absurd h (hne (by omega))⟩
  have b1 : decide (sgI p < sgI q) = false := decide_eq_false k1
  by_cases k2 : sgI q < sgI p
  ·have b2 : decide (sgI q < sgI p) = true := decide_eq_true k2
   refine Gx.a (by kernel_rfl) fun K hK => ?_
   simp only [XA, XB, b1]
   refine hK _ ?_
   refine Gx.f rfl ?_
   refine Gx.a (by kernel_rfl) fun K hK => ?_
   simp only [XA, XB, b2]
   refine hK _ ?_
   refine Gx.t rfl ?_
   refine Gx.a (by kernel_rfl) fun K hK => ?_
   simp only [XA]
   refine hK _ (XWP.ret ?_)
   try simp only [thenX_ret, inBlockX_ret]
   refine ret_go _ rfl ?_
   exact ⟨1, rfl, (fun h => by cases h), fun h => absurd h (hne (by omega))⟩
  have b2 : decide (sgI q < sgI p) = false := decide_eq_false k2
  refine Gx.a (by kernel_rfl) fun K hK => ?_
  simp only [XA, XB, b1]
  refine hK _ ?_
  refine Gx.f rfl ?_
  refine Gx.a (by kernel_rfl) fun K hK => ?_
  simp only [XA, XB, b2]
  refine hK _ ?_
  refine Gx.f rfl ?_
  refine XWP.skip ?_
  exact ⟨StIs.of (by exact rfl), by omega⟩
 rintro s ⟨hs, hsg⟩
 obtain ⟨z, rfl⟩ := hs.out
 try dsimp only
 (refine XWP.drw [0, 1, 2, 3, 4, 6, 7, 8, 9, 5, 10, 11, 12, 13] (by kernel_rfl) (by kernel_rfl) (by kernel_rfl) fun K hK => ?_) <;> dsimp only [pickOps, List.getElem?_cons_zero, List.getElem?_cons_succ]
 simp only [XA, XB]
 refine call_go (by kernel_rfl) rfl (mul_c _ _ _ _ _ (hn1.mono hV) (hd2.mono hV) fp.fits.1 fq.fits.2) fun v3 V3 hV3 h3 => ?_
 simp only [XA]
 refine call_go (by kernel_rfl) rfl (mul_c _ _ _ _ _ ((hn2.mono hV).mono hV3) ((hd1.mono hV).mono hV3) fq.fits.1 fp.fits.2) fun v4 V4 hV4 h4 => ?_
 simp only [XA]
 refine call_go (by kernel_rfl) rfl (compare_c _ _ _ _ _ (h3.mono hV4) h4) fun v5 V5 hV5 h5 => ?_
 subst h5
 have w : IntKind.i64.wrap (sgI p * cmpI (p.num.natAbs * q.den) (q.num.natAbs * p.den)) = sgI p * cmpI (p.num.natAbs * q.den) (q.num.natAbs * p.den) := by
  rcases sgI_val p with e | e | e <;> rcases cmpI_val (p.num.natAbs * q.den) (q.num.natAbs * p.den) with e' | e' | e' <;> rw [e, e'] <;> exact wrap_id (by omega) (by omega)
 simp only [XA, XB, w]
 refine hK _ (XWP.ret ?_)
 try simp only [thenX_ret, inBlockX_ret]
 refine ret_go _ rfl ?_
 exact ⟨_, rfl, cmp_same hsg⟩
theorem qsame_c (V : View) (v u : Value) (p q : Rat) (hv : RatC V v p) (hu : RatC V u q) (fp : QF p) (fq : QF q) : Spec Tryz.prog 124 [v, u] V fun v' V' => v' = .bool (decide (p = q)) := by
 have hv0 := hv
 have hu0 := hu
 obtain ⟨x1, y1, rfl, o1, o2⟩ := hv.form
 obtain ⟨x2, y2, rfl, o3, o4⟩ := hu.form
 refine (Spec.enter Tryz.func124 rfl fun Γ => ?_)
 simp only [Tryz.ntmps124, List.map_cons, List.map_nil, List.length_cons, List.length_nil, Nat.reduceAdd, Nat.reduceSub, List.replicate_succ, List.replicate_zero, List.cons_append, List.nil_append]
 refine Gx.a (by kernel_rfl) fun K hK => ?_
 simp only [XA]
 refine hK _ ?_
 refine Gx.a (by kernel_rfl) fun K hK => ?_
 simp only [XA, XB, Nat.reduceAdd, Nat.reduceLeDiff, ↓reduceIte]
 refine call_go (by kernel_rfl) rfl (qcompare_c _ _ _ _ _ hv0 hu0 fp fq) fun v1 V1 hV1 h1 => ?_
 obtain ⟨z, rfl, hz⟩ := h1
 simp only [XA, XB]
 refine hK _ (XWP.ret ?_)
 try simp only [thenX_ret, inBlockX_ret]
 refine ret_go _ rfl ?_
 show Value.bool _ = _
 congr 1
 rw [decide_eq_decide]; exact hz
theorem ld3 {H : Heap} {V : View} {b e tot o t : Nat} {cells : List Value} {x y z : Value} (hs : shapeT Tryz.prog t = some (true, 3)) (hr : H b = some ⟨e, cells, tot⟩) (h0 : cells[o]? = some x) (h1 : cells[o + 1]? = some y) (h2 : cells[o + 2]? = some z) : Loads Tryz.prog H V t b o (.agg #[x, y, z]) :=
 ⟨true, 3, hs, .inl ⟨rfl, _, rfl, fun j u hj => .inl ⟨_, hr, by
  match j, hj with
  | 0, hj => cases hj; exact h0
  | 1, hj => cases hj; exact h1
  | 2, hj => cases hj; exact h2
  | j + 3, hj => simp at hj⟩, rfl⟩⟩
theorem bs_mat {t e by_ : Nat} {a b c a' b' c' : Value} (he : elemT Tryz.prog t = some e) (hz : zeroT Tryz.prog e = some ([.int .i64 0, .int .i64 0, .slice none 0 0], 3, by_)) : BuildsSlice Tryz.prog t 2 #[(0, .agg #[a, b, c]), (1, .agg #[a', b', c'])] e [a, b, c, a', b', c'] := by
 obtain ⟨i, zv, hi, hzv, h1, h2, _⟩ := zero_parts hz
 have hc : zv.cells = #[.int .i64 0, .int .i64 0, .slice none 0 0] := Array.toList_inj.1 h1
 refine bs_run (cells := #[a, b, c, a', b', c']) he hi hzv (by omega) (by omega) ?_
 rw [h2, hc]
 have : madeCells #[.int .i64 0, .int .i64 0, .slice none 0 0] (2 * 3) = #[.int .i64 0, .int .i64 0, .slice none 0 0, .int .i64 0, .int .i64 0, .slice none 0 0] := Array.toList_inj.1 (by rw [made_flat _ 3 rfl (by omega)]; rfl)
 rw [this, fill_three (off := 0) rfl (by simp), fill_three (off := 3) rfl (by simp)]; rfl
theorem st_mat {P : Program} {t i : Nat} {s : XS} {ops : Array Oper} {rest : List Oper} {K : XS → Prop} {d : Option Tmp} {m n e : Value} {vs : List Value} (hs : shapeT P t = some (true, 3)) (hb : s.bx[i]? = some vs) (hl : vs.length = 3) (h0 : isOne m = true) (h1 : isOne n = true) (h2 : isOne e = true) (h : seqX P ops rest K (XS.put ⟨s.t, s.bx.set i [m, n, e], s.H, s.V⟩ d (.v undef))) : stX P ops rest K s d t (.p i 0) (.v (.agg #[m, n, e])) := by
 refine st_agg (cs := [m, n, e]) hs hb rfl ⟨rfl, by simp [h0, h1, h2], by omega, ?_⟩
 have : splice vs 0 [m, n, e] = [m, n, e] := by
  unfold splice; simp [hl]
 rw [this]; exact h
def chB (r1 c1 : Int) (L1 : List Raw) (r2 c2 : Int) (L2 : List Raw) : Bool := matR r1 c1 L1 && matR r2 c2 L2 && decide (r1 = c1) && decide (r2 = r1) && rowsB r1.toNat c2.toNat (qs L1) (qs L2) r1.toNat
theorem chB_shape {r1 c1 r2 c2 : Int} {L1 L2 : List Raw} (e1 : matR r1 c1 L1 = true) (e2 : matR r2 c2 L2 = true) (d1 : r1 = c1) (d2 : r2 = r1) :
  ∃ n m : Nat, r1 = n ∧ c1 = n ∧ r2 = n ∧ c2 = m ∧ n ≤ 60 ∧ m ≤ 60 ∧ L1.length = n * n ∧ L2.length = n * m ∧ okR L1 = true ∧ okR L2 = true ∧ chB r1 c1 L1 r2 c2 L2 = rowsB n m (qs L1) (qs L2) n := by
 have f1 := e1
 have f2 := e2
 unfold matR at f1 f2
 rw [Bool.and_eq_true, decide_eq_true_eq] at f1 f2
 obtain ⟨⟨a1, a2, a3, a4, a5⟩, a6⟩ := f1
 obtain ⟨⟨b1, b2, b3, b4, b5⟩, b6⟩ := f2
 obtain ⟨n, rfl⟩ : ∃ n : Nat, r1 = n := ⟨r1.toNat, by omega⟩
 obtain ⟨m, rfl⟩ : ∃ m : Nat, c2 = m := ⟨c2.toNat, by omega⟩
 subst d2
 subst d1
 refine ⟨n, m, rfl, rfl, rfl, rfl, by omega, by omega, ?_, ?_, a6, b6, ?_⟩
 ·rw [← Int.natCast_mul] at a5; omega
 ·rw [← Int.natCast_mul] at b5; omega
 ·unfold chB; rw [e1, e2]; simp
def chX (n m : Nat) (p q : List Rat) (i : Nat) : Nat → Rat
 | 0 => 0
 | 1 => rS p (i * n) 0 n
 | _ => rS q (i * m) (rS p (i * n) 0 n) m
def chO (n m : Nat) (p q : List Rat) (i : Nat) : Nat → Bool
 | 0 => true
 | 1 => nnB p (i * n) n
 | _ => nnB p (i * n) n && nnB q (i * m) m
theorem rowB_neg {n m : Nat} {p q : List Rat} {i j : Nat} (h : chO n m p q i j = false) : rowB n m p q i = false := by
 unfold rowB
 match j, h with
 | 0, h => cases h
 | 1, h => rw [show nnB p (i * n) n = false from h]; rfl
 | j + 2, h => rw [show (nnB p (i * n) n && nnB q (i * m) m) = false from h]; rfl
theorem rowB_two (n m : Nat) (p q : List Rat) (i : Nat) (h : chO n m p q i 2 = true) : rowB n m p q i = decide (chX n m p q i 2 = 1) := by
 unfold rowB
 rw [show (nnB p (i * n) n && nnB q (i * m) m) = true from h]; rfl
theorem nnB_bad {l : List Rat} {off k m : Nat} (h : ng (cf l (off + k)) = true) (hk : k < m) : nnB l off m = false := by
 cases hb : nnB l off m
 ·rfl
 ·have := nnB_get hb k hk
  rw [h] at this; cases this
theorem ch_pick {n m A B : Nat} {p q : List Rat} {V : View} {s1 s2 : Value} (h1 : Rats V s1 p) (h2 : Rats V s2 q) (hn : n ≤ 60) (hm : m ≤ 60) (e1 : p.length = n * n) (e2 : q.length = n * m) (hA : CB A p) (hB : CB B q) (i j : Nat) (hj : j < 2) (hi : i < n) :
  ∃ (l : List Rat) (k C : Nat) (s : Value), Rats V s l ∧ k ≤ 60 ∧ l.length = n * k ∧ CB C l ∧ C ≤ A + B ∧ [.int .i64 (n : Int), .int .i64 (n : Int), s1, .int .i64 (n : Int), .int .i64 (m : Int), s2][j * 3]? = some (.int .i64 (n : Int)) ∧
   [Value.int .i64 (n : Int), .int .i64 (n : Int), s1, .int .i64 (n : Int), .int .i64 (m : Int), s2][j * 3 + 1]? = some (.int .i64 (k : Int)) ∧ [Value.int .i64 (n : Int), .int .i64 (n : Int), s1, .int .i64 (n : Int), .int .i64 (m : Int), s2][j * 3 + 2]? = some s ∧
   QB (A + B + 122) (chX n m p q i j) ∧ (∀ k0, QB (A + B + 124 + k0 + (A + B)) (rS l (i * k) (chX n m p q i j) k0)) ∧ rS l (i * k) (chX n m p q i j) k = chX n m p q i (j + 1) ∧ (chO n m p q i j = true → chO n m p q i (j + 1) = nnB l (i * k) k) := by
 match j, hj with
 | 0, _ =>
  refine ⟨p, n, A, s1, h1, hn, e1, hA, by omega, rfl, rfl, rfl, QB_zero _, fun k0 => ?_, rfl, fun _ => rfl⟩
  exact (rS_QB hA (QB_zero 0) (i * n) k0).mono (by omega)
 | 1, _ =>
  have hx := rS_QB hA (QB_zero 0) (i * n) n
  refine ⟨q, m, B, s2, h2, hm, e2, hB, by omega, rfl, rfl, rfl, hx.mono (by omega), fun k0 => ?_, rfl, fun h => ?_⟩
  ·exact (rS_QB hB hx (i * m) k0).mono (by omega)
  ·show (nnB p (i * n) n && nnB q (i * m) m) = _
   rw [show nnB p (i * n) n = true from h, Bool.true_and]
theorem cchright_c (V : View) (s1 s2 : Value) (r1 c1 r2 c2 : Int) (L1 L2 : List Raw) (h1 : Raws V s1 L1) (h2 : Raws V s2 L2) (f1 : fitR L1) (f2 : fitR L2) (l1 : L1.length ≤ 1000000) (l2 : L2.length ≤ 1000000) (A B : Nat) (hA : okR L1 = true → CB A (qs L1)) (hB : okR L2 = true → CB B (qs L2)) (hfit : 2 * (A + B) + 200 ≤ 17592186044416) :
  Spec Tryz.prog 63 [.agg #[.int .i64 r1, .int .i64 c1, s1, .int .i64 r2, .int .i64 c2, s2]] V fun v' V' => v' = .bool (chB r1 c1 L1 r2 c2 L2) := by
 obtain ⟨A1, q1, rfl, _, _⟩ := h1.form
 obtain ⟨A2, q2, rfl, _, _⟩ := h2.form
 refine (Spec.enter Tryz.func63 rfl fun Γ => ?_)
 simp only [Tryz.ntmps63, List.map_cons, List.map_nil, List.length_cons, List.length_nil, Nat.reduceAdd, Nat.reduceSub, List.replicate_succ, List.replicate_zero, List.cons_append, List.nil_append]
 refine Gx.a (by kernel_rfl) fun K hK => ?_
 simp only [XA]
 refine hK _ ?_
 refine XWP.seq ?_
 refine Gx.a (by kernel_rfl) fun K hK => ?_
 simp only [XM, XA, Nat.reduceAdd, Nat.reduceLeDiff, ↓reduceIte]
 refine call_go (by kernel_rfl) rfl (cmright_c _ _ r1 c1 L1 h1 f1 l1) fun v1 V1 hV1 g1 => ?_
 subst g1
 cases e1 : matR r1 c1 L1
 ·have eC : chB r1 c1 L1 r2 c2 L2 = false := by unfold chB; rw [e1]; rfl
  simp only [XA, gateX, ↓reduceIte]
  refine hK _ ?_
  refine Gx.t rfl ?_
  refine Gx.a (by kernel_rfl) fun K hK => ?_
  simp only [XA]
  refine hK _ (XWP.ret ?_)
  try simp only [thenX_ret, inBlockX_ret]
  refine ret_go _ rfl ?_
  rw [eC]; rfl
 simp only [XM, XA, gateX, Nat.reduceAdd, Nat.reduceLeDiff, ↓reduceIte, beq_self_eq_true]
 refine call_go (by kernel_rfl) rfl (cmright_c _ _ r2 c2 L2 (h2.up hV1) f2 l2) fun v2 V2 hV2 g2 => ?_
 subst g2
 cases e2 : matR r2 c2 L2
 ·have eC : chB r1 c1 L1 r2 c2 L2 = false := by unfold chB; rw [e2, Bool.and_false]; rfl
  simp only [XA, gateX, ↓reduceIte, beq_self_eq_true]
  refine hK _ ?_
  refine Gx.t rfl ?_
  refine Gx.a (by kernel_rfl) fun K hK => ?_
  simp only [XA]
  refine hK _ (XWP.ret ?_)
  try simp only [thenX_ret, inBlockX_ret]
  refine ret_go _ rfl ?_
  rw [eC]; rfl
 by_cases d1 : r1 = c1
 rotate_left
 ·have eC : chB r1 c1 L1 r2 c2 L2 = false := by unfold chB; rw [decide_eq_false d1, Bool.and_false]; rfl
  have b1 : decide (r1 = c1) = false := decide_eq_false d1
  simp only [XM, XA, XB, gateX, ↓reduceIte, beq_self_eq_true, b1]
  refine hK _ ?_
  refine Gx.t rfl ?_
  refine Gx.a (by kernel_rfl) fun K hK => ?_
  simp only [XA]
  refine hK _ (XWP.ret ?_)
  try simp only [thenX_ret, inBlockX_ret]
  refine ret_go _ rfl ?_
  rw [eC]; rfl
 have b1 : decide (r1 = c1) = true := decide_eq_true d1
 by_cases d2 : r2 = r1
 rotate_left
 ·have eC : chB r1 c1 L1 r2 c2 L2 = false := by unfold chB; rw [decide_eq_false d2, Bool.and_false]; rfl
  have b2 : decide (r2 = r1) = false := decide_eq_false d2
  simp only [XM, XA, XB, gateX, ↓reduceIte, beq_self_eq_true, b1, b2]
  refine hK _ ?_
  refine Gx.t rfl ?_
  refine Gx.a (by kernel_rfl) fun K hK => ?_
  simp only [XA]
  refine hK _ (XWP.ret ?_)
  try simp only [thenX_ret, inBlockX_ret]
  refine ret_go _ rfl ?_
  rw [eC]; rfl
 have b2 : decide (r2 = r1) = true := decide_eq_true d2
 simp only [XM, XA, XB, gateX, ↓reduceIte, beq_self_eq_true, b1, b2]
 refine hK _ ?_
 refine Gx.f rfl ?_
 refine XWP.skip ?_
 obtain ⟨n, m, rfl, rfl, rfl, rfl, hn, hm, k1, k2, o1, o2, eC⟩ := chB_shape e1 e2 d1 d2
 rw [eC]
 clear eC e1 e2 b1 b2 d1 d2
 have hp := ((Raws.rats h1 o1).up hV1).up hV2
 have hq := ((Raws.rats h2 o2).up hV1).up hV2
 have hA := hA o1
 have hB := hB o2
 have k1 : (qs L1).length = n * n := by rw [qs_len]; exact k1
 have k2 : (qs L2).length = n * m := by rw [qs_len]; exact k2
 generalize qs L1 = p at *
 generalize qs L2 = q at *
 clear h1 h2 f1 f2 o1 o2 l1 l2
 have hp3 : ∀ {V3 : View}, V2.le V3 → Rats V3 _ p := fun h => hp.up h
 have hq3 : ∀ {V3 : View}, V2.le V3 → Rats V3 _ q := fun h => hq.up h
 refine XWP.cutD 1 (fun s => ∃ V3 H3, StIs (fun Z => [Z 0,Z 1,Z 2,Z 3,Z 4,Z 5,Z 6,Z 7,Z 8,Z 9,Z 10,Z 11,Z 12,Z 13,Z 14,Z 15,Z 16,Z 17,Z 18,Z 19,Z 20,Z 21,Z 22,Z 23,Z 24,Z 25,Z 26,Z 27,Z 28,Z 29,Z 30,Z 31,Z 32,Z 33,Z 34,Z 35,Z 36,Z 37,Z 38,Z 39,Z 40,Z 41,Z 42,Z 43,Z 44,Z 45,Z 46,Z 47,Z 48,Z 49,Z 50,Z 51,Z 52,Z 53,Z 54,Z 55,Z 56,Z 57,Z 58,Z 59,Z 60,Z 61,Z 62,Z 63,Z 64,Z 65,Z 66,Z 67,Z 68,Z 69,Z 70,Z 71,Z 72,Z 73,Z 74,Z 75]) [[.int .i64 (n : Int), .int .i64 (n : Int), .slice A1 L1.length q1, .int .i64 (n : Int), .int .i64 (m : Int), .slice A2 L2.length q2]] H3 V3 s ∧ rowsB n m p q n = true) ?_ ?_
 ·refine Gx.a (by kernel_rfl) fun K hK => ?_
  simp only [XM, XA, XB]
  refine hK _ ?_
  clear hK
  refine XWP.block ?_
  refine XWP.loopD 1 (fun r s => ∃ (i : Nat) (V3 : View) (H3 : Heap), StIs (fun Z => [Z 0, .p 0 0, Z 2,Z 3,Z 4,Z 5,Z 6,Z 7,Z 8,Z 9,Z 10,Z 11,Z 12,Z 13,Z 14,Z 15,Z 16,Z 17,Z 18,Z 19,Z 20,Z 21,Z 22,Z 23,Z 24,Z 25,Z 26,Z 27,Z 28,Z 29,Z 30,Z 31,Z 32,Z 33,Z 34,Z 35,Z 36,Z 37, .v (.int .i64 (n : Int)), .v (.int .i64 (i : Int)), Z 40,Z 41,Z 42,Z 43,Z 44,Z 45,Z 46,Z 47,Z 48,Z 49,Z 50,Z 51,Z 52,Z 53,Z 54,Z 55,Z 56,Z 57,Z 58,Z 59,Z 60,Z 61,Z 62,Z 63,Z 64,Z 65,Z 66,Z 67,Z 68,Z 69,Z 70,Z 71,Z 72,Z 73,Z 74,Z 75]) [[.int .i64 (n : Int), .int .i64 (n : Int), .slice A1 L1.length q1, .int .i64 (n : Int), .int .i64 (m : Int), .slice A2 L2.length q2]] H3 V3 s ∧ V2.le V3 ∧ r + i = n ∧ rowsB n m p q i = true) n ⟨0, V2, _, StIs.of (by exact rfl), View.le_refl _, by omega, rfl⟩ ?_
  rintro r s ⟨i, V3, H3, hs, hV3, hr, hrow⟩
  obtain ⟨z, rfl⟩ := hs.out
  try dsimp only
  clear hs
  by_cases hi : i < n
  rotate_left
  ·obtain rfl : i = n := by omega
   have b1 : decide ((i : Int) < (i : Int)) = false := decide_eq_false (by omega)
   refine Gx.a (by kernel_rfl) fun K hK => ?_
   simp only [XA, XB, b1]
   refine hK _ ?_
   refine XWP.seq (Gx.f rfl ?_)
   refine XWP.exit ?_
   exact fun f => ⟨V3, _, StIs.of (by exact rfl), hrow⟩
  have b1 : decide ((i : Int) < (n : Int)) = true := decide_eq_true (by omega)
  refine Gx.a (by kernel_rfl) fun K hK => ?_
  simp only [XA, XB, b1]
  refine hK _ ?_
  refine XWP.seq (Gx.t rfl ?_)
  refine XWP.skip ?_
  refine XWP.seq ?_
  refine XWP.block ?_
  refine Gx.a (by kernel_rfl) fun K hK => ?_
  simp only [XA]
  refine hK _ ?_
  refine Gx.a (by kernel_rfl) fun K hK => ?_
  simp only [XA]
  refine call_go (by kernel_rfl) rfl (qzero_c _) fun v4 V4 hV4 h4 => ?_
  obtain ⟨x4, y4, rfl, o1, o2⟩ := h4.form
  simp only [XA, XB]
  refine st_rat rfl rfl rfl o1 o2 ?_
  simp only [XA]
  refine hK _ ?_
  clear hK
  refine XWP.cutD 2 (fun s => ∃ (V5 : View) (H5 : Heap) (x y : Value), StIs (fun Z => [Z 0, .p 0 0, Z 2, .v (.int .i64 (i : Int)), .p 1 0, Z 5,Z 6,Z 7,Z 8,Z 9,Z 10,Z 11,Z 12,Z 13,Z 14,Z 15,Z 16,Z 17,Z 18,Z 19,Z 20,Z 21,Z 22,Z 23,Z 24,Z 25,Z 26,Z 27,Z 28,Z 29,Z 30,Z 31,Z 32,Z 33,Z 34,Z 35,Z 36,Z 37, .v (.int .i64 (n : Int)), .v (.int .i64 (i : Int)), Z 40,Z 41,Z 42,Z 43,Z 44,Z 45,Z 46,Z 47,Z 48,Z 49,Z 50,Z 51,Z 52,Z 53,Z 54,Z 55,Z 56,Z 57,Z 58,Z 59,Z 60,Z 61,Z 62,Z 63,Z 64,Z 65,Z 66,Z 67,Z 68,Z 69,Z 70,Z 71,Z 72,Z 73,Z 74,Z 75]) [[Value.int .i64 (n : Int), .int .i64 (n : Int), .slice A1 L1.length q1, .int .i64 (n : Int), .int .i64 (m : Int), .slice A2 L2.length q2], [.bool (ng (chX n m p q i 2)), x, y]] H5 V5 s ∧ V4.le V5 ∧ RatC V5 (.agg #[.bool (ng (chX n m p q i 2)), x, y]) (chX n m p q i 2) ∧ isOne x = true ∧ isOne y = true ∧ chO n m p q i 2 = true) ?_ ?_
  ·refine Gx.a (by kernel_rfl) fun K hK => ?_
   simp only [XM, XA, Nat.reduceAdd, Nat.reduceLeDiff, ↓reduceIte]
   refine bs_go (by kernel_rfl) #[(0, .agg #[.int .i64 (n : Int), .int .i64 (n : Int), .slice A1 L1.length q1]), (1, .agg #[.int .i64 (n : Int), .int .i64 (m : Int), .slice A2 L2.length q2])] (by simp [ev_tmp, SV.val]) (bs_mat elemT_149 zeroT_24) fun b hb1 hb2 => ?_
   simp only [XM, XA, Nat.reduceAdd]
   refine hK _ ?_
   clear hK
   refine XWP.block ?_
   refine XWP.loopD 2 (fun r2 s => ∃ (j : Nat) (V5 : View) (x y : Value), StIs (fun Z => [Z 0, .p 0 0, Z 2, .v (.int .i64 (i : Int)), .p 1 0, Z 5,Z 6,Z 7,Z 8,Z 9,Z 10,Z 11,Z 12,Z 13,Z 14,Z 15,Z 16,Z 17,Z 18,Z 19,Z 20,Z 21,Z 22,Z 23,Z 24,Z 25,Z 26,Z 27,Z 28,Z 29,Z 30,Z 31,Z 32,Z 33,Z 34,Z 35,Z 36,Z 37, .v (.int .i64 (n : Int)), .v (.int .i64 (i : Int)), Z 40,Z 41,Z 42,Z 43,Z 44,Z 45,Z 46, .v (.slice (some ⟨b, 0, none⟩) 2 2), .v (.int .i64 2), .v (.int .i64 (j : Int)), Z 50,Z 51,Z 52,Z 53,Z 54,Z 55,Z 56,Z 57,Z 58,Z 59,Z 60,Z 61,Z 62,Z 63,Z 64,Z 65,Z 66,Z 67,Z 68,Z 69,Z 70,Z 71,Z 72,Z 73,Z 74,Z 75]) [[Value.int .i64 (n : Int), .int .i64 (n : Int), .slice A1 L1.length q1, .int .i64 (n : Int), .int .i64 (m : Int), .slice A2 L2.length q2], [.bool (ng (chX n m p q i j)), x, y]] (upd H3 b (some ⟨24, [Value.int .i64 (n : Int), .int .i64 (n : Int), .slice A1 L1.length q1, .int .i64 (n : Int), .int .i64 (m : Int), .slice A2 L2.length q2], 6⟩)) V5 s ∧ V4.le V5 ∧ r2 + j = 2 ∧ RatC V5 (.agg #[.bool (ng (chX n m p q i j)), x, y]) (chX n m p q i j) ∧ isOne x = true ∧ isOne y = true ∧ chO n m p q i j = true) 2 ⟨0, V4, x4, y4, StIs.of (by exact rfl), View.le_refl _, by omega, h4, o1, o2, rfl⟩ ?_
   clear h4 o1 o2
   rintro r2 s ⟨j, V5, x, y, hs, hV5, hr2, h5, o1, o2, hO⟩
   obtain ⟨z, rfl⟩ := hs.out
   try dsimp only
   clear hs
   by_cases hj : j < 2
   rotate_left
   ·obtain rfl : j = 2 := by omega
    have b2 : decide (((2 : Nat) : Int) < 2) = false := decide_eq_false (by omega)
    refine Gx.a (by kernel_rfl) fun K hK => ?_
    simp only [XA, XB, b2]
    refine hK _ ?_
    refine XWP.seq (Gx.f rfl ?_)
    refine XWP.exit ?_
    exact fun f => ⟨V5, _, x, y, StIs.of (by exact rfl), hV5, h5, o1, o2, hO⟩
   have b2 : decide ((j : Int) < 2) = true := decide_eq_true (by omega)
   refine Gx.a (by kernel_rfl) fun K hK => ?_
   simp only [XA, XB, b2]
   refine hK _ ?_
   refine XWP.seq (Gx.t rfl ?_)
   refine XWP.skip ?_
   refine XWP.seq ?_
   refine XWP.block ?_
   obtain ⟨l, k, C, sj, hl, hk60, hlen, cl, hC, t0, t1, t2, qX, qS, hX, hOn⟩ := ch_pick (hp3 (View.le_trans (View.le_trans hV3 hV4) hV5)) (hq3 (View.le_trans (View.le_trans hV3 hV4) hV5)) hn hm k1 k2 hA hB i j hj hi
   have hhb : upd H3 b (some ⟨24, [Value.int .i64 (n : Int), .int .i64 (n : Int), .slice A1 L1.length q1, .int .i64 (n : Int), .int .i64 (m : Int), .slice A2 L2.length q2], 6⟩) b = some ⟨24, [Value.int .i64 (n : Int), .int .i64 (n : Int), .slice A1 L1.length q1, .int .i64 (n : Int), .int .i64 (m : Int), .slice A2 L2.length q2], 6⟩ := upd_at _ _ _
   have osj : isOne sj = true := by obtain ⟨_, _, rfl, _, _⟩ := hl.form; rfl
   generalize upd H3 b (some ⟨24, [Value.int .i64 (n : Int), .int .i64 (n : Int), .slice A1 L1.length q1, .int .i64 (n : Int), .int .i64 (m : Int), .slice A2 L2.length q2], 6⟩) = H5 at *
   have hik : i * k + k ≤ n * k := by
    have := Nat.mul_le_mul_right k (show i + 1 ≤ n by omega)
    rw [Nat.add_mul, Nat.one_mul] at this; exact this
   have hnk : n * k ≤ 3600 := Nat.le_trans (Nat.mul_le_mul hn hk60) (by decide)
   refine Gx.a (by kernel_rfl) fun K hK => ?_
   simp only [XM, XA]
   refine ⟨by omega, by omega, ld_mem (ld3 shapeT_24 hhb (by simpa using t0) (by simpa using t1) (by simpa using t2)) ?_⟩
   simp only [XM, XA, Nat.reduceAdd]
   refine st_mat shapeT_24 rfl rfl rfl rfl osj ?_
   simp only [XA]
   refine hK _ ?_
   refine Gx.a (by kernel_rfl) fun K hK => ?_
   simp only [XM, XA, XB]
   refine hK _ ?_
   clear hK
   refine XWP.post (fun s => ∃ (V6 : View) (x y : Value), StIs (fun Z => [Z 0, .p 0 0, Z 2, .v (.int .i64 (i : Int)), .p 1 0, Z 5, .p 2 0, Z 7,Z 8,Z 9,Z 10,Z 11,Z 12,Z 13,Z 14,Z 15,Z 16,Z 17,Z 18,Z 19,Z 20,Z 21,Z 22,Z 23,Z 24,Z 25,Z 26,Z 27,Z 28,Z 29,Z 30,Z 31,Z 32,Z 33,Z 34,Z 35,Z 36,Z 37, .v (.int .i64 (n : Int)), .v (.int .i64 (i : Int)), Z 40,Z 41,Z 42,Z 43,Z 44,Z 45,Z 46, .v (.slice (some ⟨b, 0, none⟩) 2 2), .v (.int .i64 2), .v (.int .i64 (j : Int)), Z 50,Z 51,Z 52,Z 53, .v (.int .i64 (k : Int)), Z 55,Z 56,Z 57,Z 58,Z 59,Z 60,Z 61,Z 62,Z 63,Z 64,Z 65,Z 66,Z 67,Z 68,Z 69,Z 70,Z 71,Z 72,Z 73,Z 74,Z 75]) [[Value.int .i64 (n : Int), .int .i64 (n : Int), .slice A1 L1.length q1, .int .i64 (n : Int), .int .i64 (m : Int), .slice A2 L2.length q2], [.bool (ng (chX n m p q i (j + 1))), x, y], [.int .i64 (n : Int), .int .i64 (k : Int), sj]] H5 V6 s ∧ V5.le V6 ∧ RatC V6 (.agg #[.bool (ng (chX n m p q i (j + 1))), x, y]) (chX n m p q i (j + 1)) ∧ isOne x = true ∧ isOne y = true ∧ nnB l (i * k) k = true) ?_ ?_
   ·refine XWP.block ?_
    refine XWP.loop (fun r3 s => ∃ (k0 : Nat) (V6 : View) (x y : Value), StIs (fun Z => [Z 0, .p 0 0, Z 2, .v (.int .i64 (i : Int)), .p 1 0, Z 5, .p 2 0, Z 7,Z 8,Z 9,Z 10,Z 11,Z 12,Z 13,Z 14,Z 15,Z 16,Z 17,Z 18,Z 19,Z 20,Z 21,Z 22,Z 23,Z 24,Z 25,Z 26,Z 27,Z 28,Z 29,Z 30,Z 31,Z 32,Z 33,Z 34,Z 35,Z 36,Z 37, .v (.int .i64 (n : Int)), .v (.int .i64 (i : Int)), Z 40,Z 41,Z 42,Z 43,Z 44,Z 45,Z 46, .v (.slice (some ⟨b, 0, none⟩) 2 2), .v (.int .i64 2), .v (.int .i64 (j : Int)), Z 50,Z 51,Z 52,Z 53, .v (.int .i64 (k : Int)), .v (.int .i64 (k0 : Int)), Z 56,Z 57,Z 58,Z 59,Z 60,Z 61,Z 62,Z 63,Z 64,Z 65,Z 66,Z 67,Z 68,Z 69,Z 70,Z 71,Z 72,Z 73,Z 74,Z 75]) [[Value.int .i64 (n : Int), .int .i64 (n : Int), .slice A1 L1.length q1, .int .i64 (n : Int), .int .i64 (m : Int), .slice A2 L2.length q2], [.bool (ng (rS l (i * k) (chX n m p q i j) k0)), x, y], [.int .i64 (n : Int), .int .i64 (k : Int), sj]] H5 V6 s ∧ V5.le V6 ∧ r3 + k0 = k ∧ RatC V6 (.agg #[.bool (ng (rS l (i * k) (chX n m p q i j) k0)), x, y]) (rS l (i * k) (chX n m p q i j) k0) ∧ isOne x = true ∧ isOne y = true ∧ nnB l (i * k) k0 = true) k ⟨0, V5, x, y, StIs.of (by exact rfl), View.le_refl _, by omega, h5, o1, o2, rfl⟩ ?_
    clear h5 o1 o2
    rintro r3 s ⟨k0, V6, x, y, hs, hV6, hr3, h6, o1, o2, hnn⟩
    obtain ⟨z, rfl⟩ := hs.out
    try dsimp only
    clear hs
    by_cases hk0 : k0 < k
    rotate_left
    ·obtain rfl : k0 = k := by omega
     rw [hX] at h6 ⊢
     have b3 : decide ((k0 : Int) < (k0 : Int)) = false := decide_eq_false (by omega)
     refine Gx.a (by kernel_rfl) fun K hK => ?_
     simp only [XA, XB, b3]
     refine hK _ ?_
     refine XWP.seq (Gx.f rfl ?_)
     refine XWP.exit ?_
     exact ⟨V6, x, y, StIs.of (by exact rfl), hV6, h6, o1, o2, hnn⟩
    have b3 : decide ((k0 : Int) < (k : Int)) = true := decide_eq_true (by omega)
    refine Gx.a (by kernel_rfl) fun K hK => ?_
    simp only [XA, XB, b3]
    refine hK _ ?_
    refine XWP.seq (Gx.t rfl ?_)
    refine XWP.skip ?_
    refine XWP.seq ?_
    refine XWP.block ?_
    refine Gx.a (by kernel_rfl) fun K hK => ?_
    simp only [XA]
    refine hK _ ?_
    have hl6 := hl.up hV6
    have hik0 : i * k + k0 < l.length := by omega
    refine Gx.b (by kernel_rfl) fun K hK => ?_
    simp only [XM, XA, Nat.reduceAdd, Nat.reduceLeDiff, ↓reduceIte]
    refine call_go (by kernel_rfl) rfl (ccell_c _ _ _ k i k0 l hl6 hik0 hk60 (by omega) (by omega)) fun v7 V7 hV7 h7 => ?_
    obtain ⟨x7, y7, rfl, o3, o4⟩ := h7.form
    cases hng : ng (cf l (i * k + k0))
    rotate_left
    ·simp only [XA, XB]
     refine hK _ ?_
     refine Gx.t rfl ?_
     refine Gx.a (by kernel_rfl) fun K hK => ?_
     simp only [XA]
     refine hK _ (XWP.ret ?_)
     try simp only [thenX_ret, inBlockX_ret]
     refine ret_go _ rfl ?_
     have := nnB_bad hng hk0
     rw [rowsB_bad (rowB_neg (j := j + 1) (by rw [hOn hO]; exact this)) hi]; rfl
    simp only [XA, XB]
    refine hK _ ?_
    refine Gx.f rfl ?_
    refine XWP.skip ?_
    (refine XWP.drw1 [0, 1, 2, 3, 4, 5, 6] (by kernel_rfl) (by kernel_rfl) (by kernel_rfl) fun K hK => ?_) <;> dsimp only [pickOps, List.getElem?_cons_zero, List.getElem?_cons_succ]
    simp only [XM, XA, XB, Nat.reduceAdd, Nat.reduceLeDiff, ↓reduceIte]
    refine call_go (by kernel_rfl) rfl (ccell_c _ _ _ k i k0 l (hl6.up hV7) hik0 hk60 (by omega) (by omega)) fun v8 V8 hV8 h8 => ?_
    simp only [XA]
    refine call_go (by kernel_rfl) rfl (qadd_c _ _ _ _ _ (h6.mono (View.le_trans hV7 hV8)) h8 ((qS k0).qf (by omega)) ((cl.at _).qf (by omega))) fun v9 V9 hV9 h9 => ?_
    obtain ⟨x9, y9, rfl, o5, o6⟩ := h9.form
    simp only [XA]
    refine st_rat rfl rfl rfl o5 o6 ?_
    simp only [XA]
    refine hK _ ?_
    refine Gx.c (by kernel_rfl) fun K hK => ?_
    simp only [XA, XB, i64_succ k0 (by omega)]
    exact hK _ ⟨r3 - 1, by omega, k0 + 1, V9, x9, y9, StIs.of (by exact rfl), View.le_trans hV6 (View.le_trans hV7 (View.le_trans hV8 hV9)), by omega, h9, o5, o6, by rw [nnB, hnn, hng]; rfl⟩
   rintro s ⟨V6, x6, y6, hs, hV6, h6, o3, o4, hnn⟩
   obtain ⟨z, rfl⟩ := hs.out
   try dsimp only
   clear hs
   refine Gx.c (by kernel_rfl) fun K hK => ?_
   simp only [XA, XB, i64_succ j (by omega)]
   refine hK _ ⟨r2 - 1, by omega, fun f => ⟨j + 1, V6, x6, y6, StIs.of (by exact rfl), View.le_trans hV5 hV6, by omega, h6, o3, o4, by rw [hOn hO]; exact hnn⟩⟩
  rintro s ⟨V5, H5, x, y, hs, hV5, h5, o3, o4, hO⟩
  obtain ⟨z, rfl⟩ := hs.out
  try dsimp only
  clear hs
  have hrw := rowB_two n m p q i hO
  have qX : QF (chX n m p q i 2) := by
   have := rS_QB hB (rS_QB hA (QB_zero 0) (i * n) n) (i * m) m
   exact this.qf (by omega)
  (refine XWP.drw [0, 1, 2, 3] (by kernel_rfl) (by kernel_rfl) (by kernel_rfl) fun K hK => ?_) <;> dsimp only [pickOps, List.getElem?_cons_zero, List.getElem?_cons_succ]
  simp only [XA, XB, Nat.reduceAdd, Nat.reduceLeDiff, ↓reduceIte]
  refine call_go (by kernel_rfl) rfl (qone_c _) fun v6 V6 hV6 h6 => ?_
  simp only [XA]
  refine call_go (by kernel_rfl) rfl (qsame_c _ _ _ _ _ (h5.mono hV6) h6 qX QF_one) fun v7 V7 hV7 h7 => ?_
  subst h7
  cases hb : decide (chX n m p q i 2 = 1)
  ·simp only [XA]
   refine hK _ ?_
   refine Gx.t rfl ?_
   refine Gx.a (by kernel_rfl) fun K hK => ?_
   simp only [XA]
   refine hK _ (XWP.ret ?_)
   try simp only [thenX_ret, inBlockX_ret]
   refine ret_go _ rfl ?_
   rw [hb] at hrw
   rw [rowsB_bad hrw hi]; rfl
  ·simp only [XA]
   refine hK _ ?_
   refine Gx.f rfl ?_
   refine XWP.skip ?_
   refine Gx.c (by kernel_rfl) fun K hK => ?_
   simp only [XA, XB, i64_succ i (by omega)]
   refine hK _ ⟨r - 1, by omega, fun f => ⟨i + 1, V7, _, StIs.of (by exact rfl), View.le_trans hV3 (View.le_trans hV4 (View.le_trans hV5 (View.le_trans hV6 hV7))), by omega, ?_⟩⟩
   rw [rowsB, hrow, hrw, hb]; rfl
 rintro s ⟨V3, H3, hs, hrow⟩
 obtain ⟨z, rfl⟩ := hs.out
 try dsimp only
 refine Gx.a (by kernel_rfl) fun K hK => ?_
 simp only [XA]
 refine hK _ (XWP.ret ?_)
 try simp only [thenX_ret, inBlockX_ret]
 refine ret_go _ rfl ?_
 rw [hrow]; rfl
theorem right_toRaw {l : List Rat} (h : PolQ l) (hl : l.length ≤ 500) : rightP (l.map toRaw) = true := by
 unfold rightP
 rw [okR_toRaw, qs_toRaw, (polB_iff l).2 h, List.length_map, decide_eq_true (by omega)]; rfl
theorem CB.fitR {A : Nat} {l : List Rat} (h : CB A l) (hA : A ≤ 17592186044416) : fitR (l.map toRaw) := fitR_toRaw (h.qf hA)
def listsE (L A : List Raw) (n : Int) : Int :=
 if okR L = false ∨ okR A = false then 1 else if 400 < (L.length : Int) ∨ 400 < (A.length : Int) ∨ 400 < n then 2 else if (L.length : Int) < (A.length : Int) ∨ n < 0 then 1 else 0
theorem lists_c (V : View) (v u : Value) (L A : List Raw) (n : Int) (hv : Raws V v L) (hu : Raws V u A) (fL : fitR L) (fA : fitR A) (lL : L.length ≤ 1000000) (lA : A.length ≤ 1000000) :
  Spec Tryz.prog 73 [v, u, .int .i64 n] V fun v' V' => v' = .int .i64 (listsE L A n) := by
 obtain ⟨A1, c1, rfl, hc1, hm1⟩ := hv.form
 obtain ⟨A2, c2, rfl, hc2, hm2⟩ := hu.form
 unfold listsE
 refine (Spec.enter Tryz.func73 rfl fun Γ => ?_)
 simp only [Tryz.ntmps73, List.map_cons, List.map_nil, List.length_cons, List.length_nil, Nat.reduceAdd, Nat.reduceSub, List.replicate_succ, List.replicate_zero, List.cons_append, List.nil_append]
 refine Gx.a (by kernel_rfl) fun K hK => ?_
 simp only [XA]
 refine hK _ ?_
 refine XWP.seq ?_
 refine XWP.block ?_
 refine Gx.a (by kernel_rfl) fun K hK => ?_
 simp only [XA]
 refine call_go (by kernel_rfl) rfl (fine_c _ _ _ hv fL lL) fun v1 V1 hV1 h1 => ?_
 subst h1
 cases e1 : okR L
 ·simp only [XA, gateX, ↓reduceIte]
  refine hK _ ?_
  refine Gx.t rfl ?_
  refine Gx.a (by kernel_rfl) fun K hK => ?_
  simp only [XA]
  refine hK _ (XWP.ret ?_)
  try simp only [thenX_ret, inBlockX_ret]
  refine ret_go _ rfl ?_
  rw [if_pos (.inl e1)]; rfl
 simp only [XA, gateX, ↓reduceIte, beq_self_eq_true]
 refine call_go (by kernel_rfl) rfl (fine_c _ _ _ (hu.up hV1) fA lA) fun v2 V2 hV2 h2 => ?_
 subst h2
 cases e2 : okR A
 ·simp only [XA, gateX, ↓reduceIte, beq_self_eq_true]
  refine hK _ ?_
  refine Gx.t rfl ?_
  refine Gx.a (by kernel_rfl) fun K hK => ?_
  simp only [XA]
  refine hK _ (XWP.ret ?_)
  try simp only [thenX_ret, inBlockX_ret]
  refine ret_go _ rfl ?_
  rw [if_pos (.inr e2)]; rfl
 simp only [XA, gateX, ↓reduceIte, beq_self_eq_true]
 refine hK _ ?_
 refine Gx.f rfl ?_
 have g0 : ¬(okR L = false ∨ okR A = false) := by rw [e1, e2]; simp
 by_cases g1 : (400 : Int) < (L.length : Int) ∨ 400 < (A.length : Int) ∨ 400 < n
 ·by_cases d1 : (400 : Int) < (L.length : Int)
  ·have b1 : decide ((400 : Int) < (L.length : Int)) = true := decide_eq_true d1
   refine Gx.a (by kernel_rfl) fun K hK => ?_
   simp only [XA, XB, gateX, ↓reduceIte, b1]
   refine hK _ ?_
   refine Gx.t rfl ?_
   refine Gx.a (by kernel_rfl) fun K hK => ?_
   simp only [XA]
   refine hK _ (XWP.ret ?_)
   try simp only [thenX_ret, inBlockX_ret]
   refine ret_go _ rfl ?_
   rw [if_neg g0, if_pos g1]; rfl
  ·have b1 : decide ((400 : Int) < (L.length : Int)) = false := decide_eq_false d1
   by_cases d2 : (400 : Int) < (A.length : Int)
   ·have b2 : decide ((400 : Int) < (A.length : Int)) = true := decide_eq_true d2
    refine Gx.a (by kernel_rfl) fun K hK => ?_
    simp only [XA, XB, gateX, ↓reduceIte, beq_self_eq_true, b1, b2]
    refine hK _ ?_
    refine Gx.t rfl ?_
    refine Gx.a (by kernel_rfl) fun K hK => ?_
    simp only [XA]
    refine hK _ (XWP.ret ?_)
    try simp only [thenX_ret, inBlockX_ret]
    refine ret_go _ rfl ?_
    rw [if_neg g0, if_pos g1]; rfl
   ·have b2 : decide ((400 : Int) < (A.length : Int)) = false := decide_eq_false d2
    have b3 : decide ((400 : Int) < n) = true := decide_eq_true (by omega)
    refine Gx.a (by kernel_rfl) fun K hK => ?_
    simp only [XA, XB, gateX, ↓reduceIte, beq_self_eq_true, b1, b2, b3]
    refine hK _ ?_
    refine Gx.t rfl ?_
    refine Gx.a (by kernel_rfl) fun K hK => ?_
    simp only [XA]
    refine hK _ (XWP.ret ?_)
    try simp only [thenX_ret, inBlockX_ret]
    refine ret_go _ rfl ?_
    rw [if_neg g0, if_pos g1]; rfl
 ·have b1 : decide ((400 : Int) < (L.length : Int)) = false := decide_eq_false (by omega)
  have b2 : decide ((400 : Int) < (A.length : Int)) = false := decide_eq_false (by omega)
  have b3 : decide ((400 : Int) < n) = false := decide_eq_false (by omega)
  refine Gx.a (by kernel_rfl) fun K hK => ?_
  simp only [XA, XB, gateX, ↓reduceIte, beq_self_eq_true, b1, b2, b3]
  refine hK _ ?_
  refine Gx.f rfl ?_
  by_cases g2 : (L.length : Int) < (A.length : Int) ∨ n < 0
  ·by_cases d1 : (L.length : Int) < (A.length : Int)
   ·have b4 : decide ((L.length : Int) < (A.length : Int)) = true := decide_eq_true d1
    refine Gx.a (by kernel_rfl) fun K hK => ?_
    simp only [XA, XB, gateX, ↓reduceIte, b4]
    refine hK _ ?_
    refine Gx.t rfl ?_
    refine Gx.a (by kernel_rfl) fun K hK => ?_
    simp only [XA]
    refine hK _ (XWP.ret ?_)
    try simp only [thenX_ret, inBlockX_ret]
    refine ret_go _ rfl ?_
    rw [if_neg g0, if_neg g1, if_pos g2]; rfl
   ·have b4 : decide ((L.length : Int) < (A.length : Int)) = false := decide_eq_false d1
    have b5 : decide (n < 0) = true := decide_eq_true (by omega)
    refine Gx.a (by kernel_rfl) fun K hK => ?_
    simp only [XA, XB, gateX, ↓reduceIte, beq_self_eq_true, b4, b5]
    refine hK _ ?_
    refine Gx.t rfl ?_
    refine Gx.a (by kernel_rfl) fun K hK => ?_
    simp only [XA]
    refine hK _ (XWP.ret ?_)
    try simp only [thenX_ret, inBlockX_ret]
    refine ret_go _ rfl ?_
    rw [if_neg g0, if_neg g1, if_pos g2]; rfl
  ·have b4 : decide ((L.length : Int) < (A.length : Int)) = false := decide_eq_false (by omega)
   have b5 : decide (n < 0) = false := decide_eq_false (by omega)
   refine Gx.a (by kernel_rfl) fun K hK => ?_
   simp only [XA, XB, gateX, ↓reduceIte, beq_self_eq_true, b4, b5]
   refine hK _ ?_
   refine Gx.f rfl ?_
   refine XWP.skip ?_
   refine Gx.a (by kernel_rfl) fun K hK => ?_
   simp only [XA]
   refine hK _ (XWP.ret ?_)
   try simp only [thenX_ret, inBlockX_ret]
   refine ret_go _ rfl ?_
   rw [if_neg g0, if_neg g1, if_neg g2]; rfl
theorem rclone_o (V : View) (v : Value) (l : List Rat) (h : Rats V v l) (hl : l.length ≤ 1000000) :
  SpecO Tryz.prog 74 [v] V fun v' V' o => (v' = .slice none 0 0 ∧ l = [] ∧ o = none) ∨ ∃ g cells c, v' = .slice (some ⟨g, 0, none⟩) l.length c ∧ o = some (g, ⟨48, cells, c * 3⟩) ∧ RowAt ratE V' cells l ∧ l.length ≤ c ∧ c ≤ maxLen := by
 obtain ⟨A, c, rfl, hc, hm⟩ := h.form
 refine (SpecO.enter Tryz.func74 rfl fun Γ => ?_)
 simp only [Tryz.ntmps74, List.map_cons, List.map_nil, List.length_cons, List.length_nil, Nat.reduceAdd, Nat.reduceSub, List.replicate_succ, List.replicate_zero, List.cons_append, List.nil_append]
 refine Gx.a (by kernel_rfl) fun K hK => ?_
 simp only [XA]
 refine hK _ ?_
 refine XWP.seq ?_
 refine Gx.a (by kernel_rfl) fun K hK => ?_
 simp only [XA, XB]
 refine hK _ ?_
 refine (XWP.cond (t := A.isNone) rfl (fun hA => ?_) (fun hA => XWP.skip ?_))
 ·refine Gx.a (by kernel_rfl) fun K hK => ?_
  simp only [XA]
  refine hK _ (XWP.ret ?_)
  try simp only [thenX_ret, inBlockX_ret]
  refine ret_own _ none rfl (fun g r e => by cases e) ?_
  cases A with
  | some a => cases hA
  | none =>
   refine .inl ⟨rfl, ?_, rfl⟩
   rcases Nat.eq_zero_or_pos l.length with h0 | h0
   ·exact List.length_eq_zero_iff.1 h0
   ·obtain ⟨b, o, e⟩ := SlAt.addr h h0; cases e
 ·obtain ⟨cells, hrow, hsrc⟩ := SlAt.src h
  refine Gx.a (by kernel_rfl) fun K hK => ?_
  refine bs_go (by kernel_rfl) #[] (by simp) (bs_zero elemT_22 zeroT_48) fun b hb1 hb2 => ?_
  simp only [XA]
  refine ap_go elemT_22 (by kernel_rfl) zeroT_48 rfl (by omega) (n := 0) (xs := []) (own3 (by simp [upd]) rfl (Nat.le_refl _) (by omega)) (hsrc _) (by omega) (by omega) fun v' H' hres => ?_
  simp only [XA]
  refine hK _ (XWP.ret ?_)
  try simp only [thenX_ret, inBlockX_ret]
  obtain ⟨hown, _, _⟩ := hres
  simp only [List.nil_append, Nat.zero_add] at hown
  obtain ⟨hl3, ⟨rfl, hn⟩ | ⟨g, cap, rfl, hg, hle, hcap⟩⟩ := hown
  ·refine ret_own _ none rfl (fun g r e => by cases e) ?_
   exact .inl ⟨rfl, List.length_eq_zero_iff.1 hn, rfl⟩
  ·refine ret_own _ (some (g, _)) rfl (fun g' r e => ?_) (.inr ⟨g, cells, cap, rfl, rfl, hrow, hle, hcap⟩)
   cases e; exact hg
theorem rowQ_load {H : Heap} {V : View} {b e tot : Nat} {cells : List Value} {xs : List Rat} (hr : H b = some ⟨e, cells, tot⟩) (h : RowAt ratE V cells xs) (i : Nat) (hi : i < xs.length) : ∃ m n d, RatC V (.agg #[m, n, d]) (cf xs i) ∧ (isOne m = true ∧ isOne n = true ∧ isOne d = true) ∧ Loads Tryz.prog H V 48 b (i * 3) (.agg #[m, n, d]) := by
 obtain ⟨v, h1, ⟨m, n, d, rfl, o1⟩, h2⟩ := RowAt.load hr h i hi
 rw [cf_get hi] at h1
 exact ⟨m, n, d, h1, o1, h2⟩
theorem own_addRow {V : View} {v : Value} {l : List Rat} {o : Option (Nat × Row)} (h : (v = .slice none 0 0 ∧ l = [] ∧ o = none) ∨ ∃ g cells c, v = .slice (some ⟨g, 0, none⟩) l.length c ∧ o = some (g, ⟨48, cells, c * 3⟩) ∧ RowAt ratE V cells l ∧ l.length ≤ c ∧ c ≤ maxLen) :
  ∃ cells, Own (addRow (fun _ => none) o) 48 3 v l.length cells ∧ RowAt ratE V cells l := by
 rcases h with ⟨rfl, rfl, rfl⟩ | ⟨g, cells, c, rfl, rfl, h1, h2, h3⟩
 ·exact ⟨[], ⟨rfl, .inl ⟨rfl, rfl⟩⟩, RowAt.nil _⟩
 ·exact ⟨cells, own3 (show upd (fun _ => none) g (some _) g = some _ from upd_at _ _ _) h1.1 h2 (by unfold maxLen at h3; omega), h1⟩
theorem RowAt.drop {α : Type} {E : View → Value → α → Prop} {V : View} {cells : List Value} {xs : List α} (h : RowAt E V cells xs) (k : Nat) : RowAt E V (cells.drop (k * 3)) (xs.drop k) := by
 refine ⟨by rw [List.length_drop, List.length_drop, h.1]; omega, fun i x hi => ?_⟩
 rw [List.getElem?_drop] at hi
 obtain ⟨m, n, d, g1, g2, g3, r⟩ := h.2 (k + i) x hi
 refine ⟨m, n, d, ?_, ?_, ?_, r⟩
 ·show (cells.drop (k * 3))[i * 3]? = _
  rw [List.getElem?_drop, show k * 3 + i * 3 = (k + i) * 3 by omega]; exact g1
 ·show (cells.drop (k * 3))[i * 3 + 1]? = _
  rw [List.getElem?_drop, show k * 3 + (i * 3 + 1) = (k + i) * 3 + 1 by omega]; exact g2
 ·show (cells.drop (k * 3))[i * 3 + 2]? = _
  rw [List.getElem?_drop, show k * 3 + (i * 3 + 2) = (k + i) * 3 + 2 by omega]; exact g3
theorem src_drop {α : Type} {E : View → Value → α → Prop} {H : Heap} {V : View} {b e tot n c k : Nat} {cells : List Value} {xs : List α} (h : RowAt E V cells xs) (hr : H b = some ⟨e, cells, tot⟩) (hn : xs.length = n) (hk : k ≤ n) (hc : n ≤ c) :
  Src H V 3 (sliceV (some ⟨b, 0, none⟩) c 3 k n) (n - k) (cells.drop (k * 3)) := by
 obtain ⟨_, _, _, h1, h2, _⟩ := h.src (c := c) hr hn
 unfold sliceV
 refine ⟨_, c - k, rfl, by rw [List.length_drop, h1]; omega, fun u hu => h2 u (List.mem_of_mem_drop hu), ?_⟩
 by_cases hck : c = k
 ·exact .inl (by omega)
 ·refine .inr ⟨b, 0 + k * 3, ?_, fun j u hj => .inl ⟨_, hr, ?_⟩⟩
  ·rw [if_neg hck, Option.map_some, addr_add]
  ·rw [List.getElem?_drop] at hj
   rw [Nat.zero_add]; exact hj
theorem src_nil3 {H : Heap} {V : View} (k : Nat) : Src H V 3 (sliceV none 0 3 k 0) 0 [] :=
 ⟨_, 0 - k, by unfold sliceV; rw [Nat.zero_sub], rfl, fun u hu => (by cases hu), .inl rfl⟩
theorem listsE_zero {L A : List Raw} {N : Int} (h : listsE L A N = 0) : okR L = true ∧ okR A = true ∧ L.length ≤ 400 ∧ A.length ≤ L.length ∧ 0 ≤ N ∧ N ≤ 400 := by
 unfold listsE at h
 split at h
 ·cases h
 ·rename_i h1
  split at h
  ·cases h
  ·split at h
   ·cases h
   ·refine ⟨?_, ?_, by omega, by omega, by omega, by omega⟩
    ·cases hk : okR L
     ·exact absurd (.inl hk) h1
     ·rfl
    ·cases hk : okR A
     ·exact absurd (.inr hk) h1
     ·rfl
theorem cnext_c (V : View) (v u : Value) (L A : List Raw) (N : Int) (hv : Raws V v L) (hu : Raws V u A) (fL : fitR L) (fA : fitR A) (lL : L.length ≤ 1000000) (lA : A.length ≤ 1000000) (C B : Nat)
  (hC : listsE L A N = 0 → CB C (nxI (qs L) (qs A) N.toNat) ∧ CB B (qs A)) (hfit : C + B + 10 ≤ 17592186044416) :
  Spec Tryz.prog 29 [v, u, .int .i64 N] V fun v' V' => (listsE L A N ≠ 0 → v' = .tuple #[.slice none 0 0, .int .i64 (listsE L A N)]) ∧ (listsE L A N = 0 → ∃ w, v' = .tuple #[w, .int .i64 0] ∧ Rats V' w (nextP (qs L) (qs A) N.toNat)) := by
 obtain ⟨A1, c1, rfl, hc1, hm1⟩ := hv.form
 obtain ⟨A2, c2, rfl, hc2, hm2⟩ := hu.form
 refine (Spec.enter Tryz.func29 rfl fun Γ => ?_)
 simp only [Tryz.ntmps29, List.map_cons, List.map_nil, List.length_cons, List.length_nil, Nat.reduceAdd, Nat.reduceSub, List.replicate_succ, List.replicate_zero, List.cons_append, List.nil_append]
 refine Gx.a (by kernel_rfl) fun K hK => ?_
 simp only [XA]
 refine hK _ ?_
 refine XWP.seq ?_
 refine Gx.a (by kernel_rfl) fun K hK => ?_
 simp only [XA]
 refine call_go (by kernel_rfl) rfl (lists_c _ _ _ L A N hv hu fL fA lL lA) fun v1 V1 hV1 h1 => ?_
 subst h1
 simp only [XA]
 refine hK _ ?_
 by_cases he : listsE L A N = 0
 rotate_left
 ·have b1 : (!decide (listsE L A N = 0)) = true := by rw [decide_eq_false he]; rfl
  refine Gx.a (by kernel_rfl) fun K hK => ?_
  simp only [XA, XB, b1]
  refine hK _ ?_
  refine Gx.t rfl ?_
  refine Gx.a (by kernel_rfl) fun K hK => ?_
  simp only [XA]
  refine hK _ (XWP.ret ?_)
  try simp only [thenX_ret, inBlockX_ret]
  refine ret_go _ rfl ?_
  exact ⟨fun _ => rfl, fun h => absurd h he⟩
 have b1 : (!decide (listsE L A N = 0)) = false := by rw [decide_eq_true he]; rfl
 refine Gx.a (by kernel_rfl) fun K hK => ?_
 simp only [XA, XB, b1]
 refine hK _ ?_
 refine Gx.f rfl ?_
 refine XWP.skip ?_
 have hC := hC he
 obtain ⟨k1, k2, k3, k4, k5, k6⟩ := listsE_zero he
 have hl := (Raws.rats hv k1).up hV1
 have ha := (Raws.rats hu k2).up hV1
 have el := qs_len L
 have ea := qs_len A
 obtain ⟨N, rfl⟩ : ∃ n : Nat, N = n := ⟨N.toNat, by omega⟩
 rw [Int.toNat_natCast] at *
 generalize listsE L A N = E at he
 generalize qs L = l at *
 generalize qs A = a at *
 obtain ⟨hCl, hCa⟩ := hC
 have hCi : ∀ i, i ≤ N → CB C (nxI l a i) := fun i hi => by rw [← nxI_take l a hi]; exact hCl.take _
 refine XWP.cut (fun s => ∃ (V5 : View) (H5 : Heap) (w : Value) (cells : List Value), StIs (fun Z => [.v (.slice A1 L.length c1), .v (.slice A2 A.length c2), .v (.int .i64 (N : Int)), Z 3,Z 4,Z 5,Z 6,Z 7,Z 8, .v w, Z 10,Z 11,Z 12,Z 13,Z 14,Z 15,Z 16,Z 17,Z 18,Z 19,Z 20,Z 21,Z 22,Z 23,Z 24,Z 25,Z 26,Z 27,Z 28,Z 29,Z 30,Z 31,Z 32,Z 33,Z 34,Z 35,Z 36,Z 37,Z 38,Z 39,Z 40,Z 41,Z 42,Z 43,Z 44,Z 45,Z 46,Z 47,Z 48,Z 49,Z 50,Z 51,Z 52,Z 53,Z 54,Z 55,Z 56]) [] H5 V5 s ∧ V1.le V5 ∧ Own H5 48 3 w l.length cells ∧ RowAt ratE V5 cells l) ?_ ?_
 ·refine Gx.c (by kernel_rfl) fun K hK => ?_
  simp only [XA]
  refine call_own (by kernel_rfl) rfl (rclone_o _ _ l hl (by omega)) fun v5 V5 o5 hV5 hs5 h5 => ?_
  obtain ⟨cells, h6, h7⟩ := own_addRow h5
  simp only [XA]
  exact hK _ ⟨V5, _, v5, cells, StIs.of (by exact rfl), hV5, h6, h7⟩
 rintro s ⟨V5, H5, w, cells, hs, hV5, hown, hrow⟩
 obtain ⟨z, rfl⟩ := hs.out
 try dsimp only
 refine XWP.cutD 0 (fun s => ∃ (V6 : View) (H6 : Heap) (w : Value) (cells : List Value), StIs (fun Z => [.v (.slice A1 L.length c1), .v (.slice A2 A.length c2), .v (.int .i64 (N : Int)), Z 3,Z 4,Z 5,Z 6,Z 7,Z 8, .v w, Z 10,Z 11,Z 12,Z 13,Z 14,Z 15,Z 16,Z 17,Z 18,Z 19,Z 20,Z 21,Z 22,Z 23,Z 24,Z 25,Z 26,Z 27,Z 28,Z 29,Z 30,Z 31,Z 32,Z 33,Z 34,Z 35,Z 36,Z 37,Z 38,Z 39,Z 40,Z 41,Z 42,Z 43,Z 44,Z 45,Z 46,Z 47,Z 48,Z 49,Z 50,Z 51,Z 52,Z 53,Z 54,Z 55,Z 56]) [] H6 V6 s ∧ V1.le V6 ∧ Own H6 48 3 w (l.length + N) cells ∧ RowAt ratE V6 cells (nxI l a N)) ?_ ?_
 ·refine Gx.a (by kernel_rfl) fun K hK => ?_
  simp only [XA]
  refine hK _ ?_
  clear hK
  refine XWP.block ?_
  refine XWP.loopD 0 (fun m s => ∃ (i : Nat) (V6 : View) (H6 : Heap) (w : Value) (cells : List Value), StIs (fun Z => [.v (.slice A1 L.length c1), .v (.slice A2 A.length c2), .v (.int .i64 (N : Int)), Z 3,Z 4,Z 5,Z 6,Z 7,Z 8, .v w, Z 10,Z 11,Z 12,Z 13,Z 14,Z 15,Z 16,Z 17,Z 18,Z 19,Z 20,Z 21, .v (.int .i64 (N : Int)), .v (.int .i64 (i : Int)), Z 24,Z 25,Z 26,Z 27,Z 28,Z 29,Z 30,Z 31,Z 32,Z 33,Z 34,Z 35,Z 36,Z 37,Z 38,Z 39,Z 40,Z 41,Z 42,Z 43,Z 44,Z 45,Z 46,Z 47,Z 48,Z 49,Z 50,Z 51,Z 52,Z 53,Z 54,Z 55,Z 56]) [] H6 V6 s ∧ V1.le V6 ∧ m + i = N ∧ Own H6 48 3 w (l.length + i) cells ∧ RowAt ratE V6 cells (nxI l a i)) N ⟨0, V5, H5, w, cells, StIs.of (by exact rfl), hV5, by omega, hown, hrow⟩ ?_
  clear hs z hown hrow
  rintro m s ⟨i, V6, H6, w, cells, hs, hV6, hm, hown, hrow⟩
  obtain ⟨z, rfl⟩ := hs.out
  try dsimp only
  by_cases hi : i < N
  rotate_left
  ·obtain rfl : i = N := by omega
   have b2 : decide ((i : Int) < (i : Int)) = false := decide_eq_false (by omega)
   refine Gx.a (by kernel_rfl) fun K hK => ?_
   simp only [XA, XB, b2]
   refine hK _ ?_
   refine XWP.seq (Gx.f rfl ?_)
   refine XWP.exit ?_
   exact fun f => ⟨V6, H6, w, cells, StIs.of (by exact rfl), hV6, hown, hrow⟩
  have b2 : decide ((i : Int) < (N : Int)) = true := decide_eq_true (by omega)
  refine Gx.a (by kernel_rfl) fun K hK => ?_
  simp only [XA, XB, b2]
  refine hK _ ?_
  refine XWP.seq (Gx.t rfl ?_)
  refine XWP.skip ?_
  refine XWP.seq ?_
  refine XWP.block ?_
  refine Gx.a (by kernel_rfl) fun K hK => ?_
  simp only [XA]
  refine call_go (by kernel_rfl) rfl (qzero_c _) fun v7 V7 hV7 h7 => ?_
  obtain ⟨x7, y7, rfl, o1, o2⟩ := h7.form
  simp only [XA, XB]
  refine st_rat rfl rfl rfl o1 o2 ?_
  simp only [XA]
  refine hK _ ?_
  clear hK
  have hCi' := hCi i (by omega)
  have hlen := nxI_len l a i
  obtain ⟨all, hall⟩ : ∃ all, all = nxI l a i := ⟨_, rfl⟩
  rw [← hall] at hrow hCi' hlen
  have hS : ∀ k, k ≤ 512 → QF (nxS all a k) := fun k hk => (nxS_QB (e := 9) hCi' hCa hk).qf (by omega)
  have hT : ∀ j, QF (cf a j * cf all (all.length - 1 - j)) := fun j => ((hCa.at j).mul (hCi'.at _)).qf (by omega)
  refine XWP.cutD 1 (fun s => ∃ (V8 : View) (m : Bool) (x y : Value), StIs (fun Z => [.v (.slice A1 L.length c1), .v (.slice A2 A.length c2), .v (.int .i64 (N : Int)), Z 3,Z 4,Z 5,Z 6,Z 7,Z 8, .v w, .p 0 0, Z 11,Z 12,Z 13,Z 14,Z 15,Z 16,Z 17,Z 18,Z 19,Z 20,Z 21, .v (.int .i64 (N : Int)), .v (.int .i64 (i : Int)), Z 24,Z 25,Z 26,Z 27,Z 28,Z 29,Z 30,Z 31,Z 32,Z 33,Z 34,Z 35,Z 36,Z 37,Z 38,Z 39,Z 40,Z 41,Z 42,Z 43,Z 44,Z 45,Z 46,Z 47,Z 48,Z 49,Z 50,Z 51,Z 52,Z 53,Z 54,Z 55,Z 56]) [[.bool m, x, y]] H6 V8 s ∧ V6.le V8 ∧ RatC V8 (.agg #[.bool m, x, y]) (nxS all a A.length) ∧ isOne x = true ∧ isOne y = true) ?_ ?_
  ·refine Gx.a (by kernel_rfl) fun K hK => ?_
   simp only [XA, XB]
   refine hK _ ?_
   clear hK
   refine XWP.block ?_
   refine XWP.loopD 1 (fun r s => ∃ (j : Nat) (V8 : View) (m : Bool) (x y : Value), StIs (fun Z => [.v (.slice A1 L.length c1), .v (.slice A2 A.length c2), .v (.int .i64 (N : Int)), Z 3,Z 4,Z 5,Z 6,Z 7,Z 8, .v w, .p 0 0, Z 11,Z 12,Z 13,Z 14,Z 15,Z 16,Z 17,Z 18,Z 19,Z 20,Z 21, .v (.int .i64 (N : Int)), .v (.int .i64 (i : Int)), Z 24,Z 25, .v (.slice A2 A.length c2), .v (.int .i64 (A.length : Int)), .v (.int .i64 (j : Int)), Z 29,Z 30,Z 31,Z 32,Z 33,Z 34,Z 35,Z 36,Z 37,Z 38,Z 39,Z 40,Z 41,Z 42,Z 43,Z 44,Z 45,Z 46,Z 47,Z 48,Z 49,Z 50,Z 51,Z 52,Z 53,Z 54,Z 55,Z 56]) [[.bool m, x, y]] H6 V8 s ∧ V6.le V8 ∧ r + j = A.length ∧ RatC V8 (.agg #[.bool m, x, y]) (nxS all a j) ∧ isOne x = true ∧ isOne y = true) A.length ⟨0, V7, _, x7, y7, StIs.of (by exact rfl), hV7, by omega, h7, o1, o2⟩ ?_
   clear h7 o1 o2
   rintro r s ⟨j, V8, m', x, y, hs, hV8, hr, h8, o1, o2⟩
   obtain ⟨z, rfl⟩ := hs.out
   try dsimp only
   by_cases hj : j < A.length
   rotate_left
   ·obtain rfl : j = A.length := by omega
    have b3 : decide ((A.length : Int) < (A.length : Int)) = false := decide_eq_false (by omega)
    refine Gx.a (by kernel_rfl) fun K hK => ?_
    simp only [XA, XB, b3]
    refine hK _ ?_
    refine XWP.seq (Gx.f rfl ?_)
    refine XWP.exit ?_
    exact fun f => ⟨V8, m', x, y, StIs.of (by exact rfl), hV8, h8, o1, o2⟩
   have b3 : decide ((j : Int) < (A.length : Int)) = true := decide_eq_true (by omega)
   refine Gx.a (by kernel_rfl) fun K hK => ?_
   simp only [XA, XB, b3]
   refine hK _ ?_
   refine XWP.seq (Gx.t rfl ?_)
   refine XWP.skip ?_
   refine XWP.seq ?_
   refine XWP.block ?_
   have ha8 := ha.up (View.le_trans hV6 hV8)
   obtain ⟨b, o, rfl⟩ := SlAt.addr ha8 (by omega)
   obtain ⟨m3, n3, d3, hx3, ⟨p1, p2, p3⟩, hld3⟩ := Rats.get ha8 j (by omega)
   refine Gx.a (by kernel_rfl) fun K hK => ?_
   simp only [XA, XB]
   refine ⟨by omega, by omega, ld_mem (hld3 _) ?_⟩
   simp only [XA, XB]
   refine st_rat rfl rfl p1 p2 p3 ?_
   simp only [XA]
   refine hK _ ?_
   rcases own_parts hown with ⟨_, h0, _⟩ | ⟨g, cap, rfl, hg, hle, hcap, hcl⟩
   ·omega
   have w1 := i64_pred (l.length + i) (by omega) (by omega)
   have w2 := i64_sub (l.length + i - 1) j (by omega) (by omega)
   have hrow8 := hrow.mono ratE_ok hV8
   obtain ⟨m4, n4, d4, hx4, ⟨r1, r2, r3⟩, hld4⟩ := rowQ_load hg hrow8 (l.length + i - 1 - j) (by omega)
   (refine XWP.drw1 [0, 1, 2, 3, 4, 5, 6, 7, 8, 9, 10, 11, 12] (by kernel_rfl) (by kernel_rfl) (by kernel_rfl) fun K hK => ?_) <;> dsimp only [pickOps, List.getElem?_cons_zero, List.getElem?_cons_succ]
   simp only [XA, XB, Nat.reduceAdd, Nat.reduceLeDiff, ↓reduceIte, w1, w2]
   refine ⟨by omega, by omega, ?_⟩
   refine ld_mem hld4 ?_
   simp only [XA]
   refine call_go (by kernel_rfl) rfl (qmul_c _ _ _ _ _ hx3 hx4 ((hCa.at _).qf (by omega)) ((hCi'.at _).qf (by omega))) fun v9 V9 hV9 h9 => ?_
   simp only [XA]
   refine call_go (by kernel_rfl) rfl (qadd_c _ _ _ _ _ (h8.mono hV9) h9 (hS j (by omega)) (by have := hT j; rw [hlen] at this; exact this)) fun v10 V10 hV10 h10 => ?_
   obtain ⟨x10, y10, rfl, o6, o7⟩ := h10.form
   simp only [XA]
   refine st_rat rfl rfl rfl o6 o7 ?_
   simp only [XA]
   refine hK _ ?_
   refine Gx.c (by kernel_rfl) fun K hK => ?_
   simp only [XA, XB, i64_succ j (by omega)]
   exact hK _ ⟨r - 1, by omega, fun f => ⟨j + 1, V10, _, x10, y10, StIs.of (by exact rfl), View.le_trans hV8 (View.le_trans hV9 hV10), by omega, by rw [nxS, hlen]; exact h10, o6, o7⟩⟩
  clear h7 o1 o2
  rintro s ⟨V8, m', x, y, hs, hV8, h8, o1, o2⟩
  obtain ⟨z, rfl⟩ := hs.out
  try dsimp only
  refine Gx.c (by kernel_rfl) fun K hK => ?_
  simp only [XA, XB, Nat.reduceAdd, Nat.reduceLeDiff, ↓reduceIte]
  refine bs_go (by kernel_rfl) #[(0, .agg #[.bool m', x, y])] (by simp [ev_tmp, SV.val]) (bs_rat elemT_22) fun b3 hb3 hb4 => ?_
  simp only [XA, Nat.reduceAdd]
  refine ap_go elemT_22 (by kernel_rfl) zeroT_48 rfl (by omega) (own_upd hown hb3) (src3 (upd_at _ _ _) rfl o1 o2) (by omega) (by omega) fun v' H' hres => ?_
  simp only [XA]
  refine hK _ ?_
  refine Gx.c (by kernel_rfl) fun K hK => ?_
  simp only [XA, XB, i64_succ i (by omega)]
  have hrow' := (hrow.mono ratE_ok hV8).snoc (show isOne (.bool m') = true from rfl) o1 o2 h8
  rw [hall, ← ea, show nxI l a i ++ [nxS (nxI l a i) a a.length] = nxI l a (i + 1) from rfl] at hrow'
  exact hK _ ⟨m - 1, by omega, fun f => ⟨i + 1, V8, _, _, _, StIs.of (by exact rfl), View.le_trans hV6 hV8, by omega, hres.1, hrow'⟩⟩
 rintro s ⟨V6, H6, w, cells, hs, hV6, hown, hrow⟩
 obtain ⟨z, rfl⟩ := hs.out
 try dsimp only
 have hlen := nxI_len l a N
 rcases own_parts hown with ⟨rfl, h0, rfl⟩ | ⟨g, cap, rfl, hg, hle, hcap, hcl⟩
 ·refine Gx.a (by kernel_rfl) fun K hK => ?_
  refine bs_go (by kernel_rfl) #[] (by simp) (bs_zero elemT_22 zeroT_48) fun b hb1 hb2 => ?_
  simp only [XA, XB]
  refine ⟨by omega, by omega, by omega, ?_⟩
  refine ap_go elemT_22 (by kernel_rfl) zeroT_48 rfl (by omega) (n := 0) (xs := []) (own3 (by simp [upd]) rfl (Nat.le_refl _) (by omega)) (src_nil3 _) (by omega) (by omega) fun v' H' hres => ?_
  simp only [XA]
  refine hK _ (XWP.ret ?_)
  try simp only [thenX_ret, inBlockX_ret]
  have hnil : nextP l a N = [] := List.length_eq_zero_iff.1 (by rw [nextP_len]; omega)
  rcases own_parts hres.1 with ⟨rfl, _, _⟩ | ⟨g, cap, rfl, hg, hle, hcap, _⟩
  ·exact ret_go _ rfl ⟨fun h => absurd he h, fun _ => ⟨_, rfl, by rw [hnil]; exact SlAt.nil _⟩⟩
  ·refine ret_pub g _ hg fun o ho hle' => ret_go _ rfl ⟨fun h => absurd he h, fun _ => ⟨_, rfl, ?_⟩⟩
   rw [hnil]
   exact (RowAt.nil _).pub ratE_ok ho hle' rfl hle (by unfold maxLen at hcap; omega)
 ·refine Gx.a (by kernel_rfl) fun K hK => ?_
  refine bs_go (by kernel_rfl) #[] (by simp) (bs_zero elemT_22 zeroT_48) fun b hb1 hb2 => ?_
  have hb1' : H6 b = none := hb1
  have hgb : g ≠ b := fun e => by subst e; rw [hg] at hb1'; cases hb1'
  simp only [XA, XB]
  refine ⟨by omega, by omega, by omega, ?_⟩
  refine ap_go elemT_22 (by kernel_rfl) zeroT_48 rfl (by omega) (n := 0) (xs := []) (own3 (by simp [upd]) rfl (Nat.le_refl _) (by omega)) (src_drop hrow (by simp only [upd, if_neg hgb]; exact hg) hlen (by omega) hle) (by omega) (by omega) fun v' H' hres => ?_
  simp only [XA]
  refine hK _ (XWP.ret ?_)
  try simp only [thenX_ret, inBlockX_ret]
  have hrow' := hrow.drop L.length
  have hnx : (nxI l a N).drop L.length = nextP l a N := by unfold nextP; rw [el]
  rw [hnx] at hrow'
  have hln := nextP_len l a N
  rcases own_parts hres.1 with ⟨rfl, h0', _⟩ | ⟨g', cap', rfl, hg', hle', hcap', _⟩
  ·refine ret_go _ rfl ⟨fun h => absurd he h, fun _ => ⟨_, rfl, ?_⟩⟩
   rw [List.length_eq_zero_iff.1 (show (nextP l a N).length = 0 by omega)]; exact SlAt.nil _
  ·refine ret_pub g' _ hg' fun o ho hle2 => ret_go _ rfl ⟨fun h => absurd he h, fun _ => ⟨_, rfl, ?_⟩⟩
   exact hrow'.pub ratE_ok ho hle2 (by omega) hle' (by unfold maxLen at hcap'; omega)
theorem upd_none_id {H : Heap} {g : Nat} {r : Option Row} (h : H g = none) : upd (upd H g r) g none = H := by
 funext k; unfold upd; split
 ·rename_i e; rw [e, h]
 ·rfl
theorem pub_clone {P : Program} {ops : Array Oper} {rest : List Oper} {K : XS → Prop} {d : Option Tmp} {f : FuncId} {args : List SV} {t : List SV} {bx : List (List Value)} {H : Heap} {V : View} {o : Option (Nat × Row)} {v : Value} {l : List Rat}
  (h : (v = .slice none 0 0 ∧ l = [] ∧ o = none) ∨ ∃ g cells c, v = .slice (some ⟨g, 0, none⟩) l.length c ∧ o = some (g, ⟨48, cells, c * 3⟩) ∧ RowAt ratE V cells l ∧ l.length ≤ c ∧ c ≤ maxLen)
  (hH : ∀ g r, o = some (g, r) → H g = none ∧ V g = none) (hc : callable P f = true) (hv : args.all SV.isV = true) (k : ∀ V', V.le V' → Rats V' v l → clX P ops rest K ⟨t, bx, H, V'⟩ d f args) : clX P ops rest K ⟨t, bx, addRow H o, V⟩ d f args := by
 rcases h with ⟨rfl, rfl, rfl⟩ | ⟨g, cells, c, rfl, rfl, h1, h2, h3⟩
 ·exact k V (View.le_refl V) (SlAt.nil _)
 ·refine call_pub g ⟨48, cells, c * 3⟩ (upd_at _ _ _) (fun ob hob hle => ?_) hc hv
  have e := upd_none_id (r := some ⟨48, cells, c * 3⟩) (hH _ _ rfl).1
  show clX P ops rest K ⟨t, bx, upd (upd H g (some _)) g none, addV V g ob⟩ d f args
  rw [e]
  exact k _ hle (h1.pub ratE_ok hob hle rfl h2 (by unfold maxLen at h3; omega))
theorem cfrac_c (V : View) (v u : Value) (L A : List Raw) (hv : Raws V v L) (hu : Raws V u A) (fL : fitR L) (fA : fitR A) (lL : L.length ≤ 1000000) (lA : A.length ≤ 1000000) (C B : Nat)
  (hC : listsE L A 0 = 0 → CB C (qs L) ∧ CB B (qs A)) (hfit : 401 * (C + B + 1) + C + B + 2 ≤ 17592186044416) :
  Spec Tryz.prog 31 [v, u] V fun v' V' => (listsE L A 0 ≠ 0 → v' = .tuple #[.slice none 0 0, .slice none 0 0, .int .i64 (listsE L A 0)]) ∧ (listsE L A 0 = 0 → ∃ wp wq, v' = .tuple #[wp, wq, .int .i64 0] ∧ Rats V' wp (frP (qs L) (qs A)) ∧ Rats V' wq (trimQ (frQ (qs A)))) := by
 obtain ⟨A1, c1, rfl, hc1, hm1⟩ := hv.form
 obtain ⟨A2, c2, rfl, hc2, hm2⟩ := hu.form
 refine (Spec.enter Tryz.func31 rfl fun Γ => ?_)
 simp only [Tryz.ntmps31, List.map_cons, List.map_nil, List.length_cons, List.length_nil, Nat.reduceAdd, Nat.reduceSub, List.replicate_succ, List.replicate_zero, List.cons_append, List.nil_append]
 refine Gx.a (by kernel_rfl) fun K hK => ?_
 simp only [XA]
 refine hK _ ?_
 refine XWP.seq ?_
 refine Gx.a (by kernel_rfl) fun K hK => ?_
 simp only [XA]
 refine call_go (by kernel_rfl) rfl (lists_c _ _ _ L A 0 hv hu fL fA lL lA) fun v1 V1 hV1 h1 => ?_
 subst h1
 simp only [XA]
 refine hK _ ?_
 by_cases he : listsE L A 0 = 0
 rotate_left
 ·have b1 : (!decide (listsE L A 0 = 0)) = true := by rw [decide_eq_false he]; rfl
  refine Gx.a (by kernel_rfl) fun K hK => ?_
  simp only [XA, XB, b1]
  refine hK _ ?_
  refine Gx.t rfl ?_
  refine Gx.a (by kernel_rfl) fun K hK => ?_
  simp only [XA]
  refine hK _ (XWP.ret ?_)
  try simp only [thenX_ret, inBlockX_ret]
  refine ret_go _ rfl ?_
  exact ⟨fun _ => rfl, fun h => absurd h he⟩
 have b1 : (!decide (listsE L A 0 = 0)) = false := by rw [decide_eq_true he]; rfl
 refine Gx.a (by kernel_rfl) fun K hK => ?_
 simp only [XA, XB, b1]
 refine hK _ ?_
 refine Gx.f rfl ?_
 refine XWP.skip ?_
 obtain ⟨hCl, hCa⟩ := hC he
 obtain ⟨k1, k2, k3, k4, k5, k6⟩ := listsE_zero he
 have hl := (Raws.rats hv k1).up hV1
 have ha := (Raws.rats hu k2).up hV1
 have el := qs_len L
 have ea := qs_len A
 generalize listsE L A 0 = E at he
 generalize qs L = l at *
 generalize qs A = a at *
 refine XWP.cut (fun s => ∃ (V5 : View) (H5 : Heap) (w : Value) (cells : List Value), StIs (fun Z => [.v (.slice A1 L.length c1), .v (.slice A2 A.length c2), Z 2,Z 3,Z 4,Z 5,Z 6,Z 7, .v w, Z 9,Z 10,Z 11,Z 12,Z 13,Z 14,Z 15,Z 16,Z 17,Z 18,Z 19,Z 20,Z 21,Z 22,Z 23,Z 24,Z 25,Z 26,Z 27,Z 28,Z 29,Z 30,Z 31,Z 32,Z 33,Z 34,Z 35,Z 36,Z 37,Z 38,Z 39,Z 40,Z 41,Z 42,Z 43,Z 44,Z 45,Z 46,Z 47,Z 48,Z 49,Z 50]) [] H5 V5 s ∧ V1.le V5 ∧ Own H5 48 3 w 1 cells ∧ RowAt ratE V5 cells [1]) ?_ ?_
 ·refine Gx.c (by kernel_rfl) fun K hK => ?_
  simp only [XA]
  refine call_go (by kernel_rfl) rfl (qone_c _) fun v2 V2 hV2 h2 => ?_
  obtain ⟨x2, y2, rfl, o1, o2⟩ := h2.form
  simp only [XA]
  refine bs_go (by kernel_rfl) #[(0, .agg #[.bool (ng 1), x2, y2])] (by simp [ev_tmp, SV.val]) (bs_rat elemT_22) fun b3 hb3 hb4 => ?_
  simp only [XA, Nat.reduceAdd]
  exact hK _ ⟨V2, _, _, _, StIs.of (by exact rfl), hV2, own3 (upd_at _ _ _) rfl (Nat.le_refl _) (by omega), (RowAt.nil V2).snoc (show isOne (.bool (ng 1)) = true from rfl) o1 o2 h2⟩
 rintro s ⟨V5, H5, w, cells, hs, hV5, hown, hrow⟩
 obtain ⟨z, rfl⟩ := hs.out
 try dsimp only
 refine XWP.cutD 0 (fun s => ∃ (V6 : View) (H6 : Heap) (w : Value) (cells : List Value), StIs (fun Z => [.v (.slice A1 L.length c1), .v (.slice A2 A.length c2), Z 2,Z 3,Z 4,Z 5,Z 6,Z 7, .v w, Z 9,Z 10,Z 11,Z 12,Z 13,Z 14,Z 15,Z 16,Z 17,Z 18,Z 19,Z 20,Z 21,Z 22,Z 23,Z 24,Z 25,Z 26,Z 27,Z 28,Z 29,Z 30,Z 31,Z 32,Z 33,Z 34,Z 35,Z 36,Z 37,Z 38,Z 39,Z 40,Z 41,Z 42,Z 43,Z 44,Z 45,Z 46,Z 47,Z 48,Z 49,Z 50]) [] H6 V6 s ∧ V1.le V6 ∧ Own H6 48 3 w (1 + A.length) cells ∧ RowAt ratE V6 cells (frQ a)) ?_ ?_
 ·refine Gx.a (by kernel_rfl) fun K hK => ?_
  simp only [XA, XB]
  refine hK _ ?_
  clear hK
  refine XWP.block ?_
  refine XWP.loopD 0 (fun m s => ∃ (i : Nat) (V6 : View) (H6 : Heap) (w : Value) (cells : List Value), StIs (fun Z => [.v (.slice A1 L.length c1), .v (.slice A2 A.length c2), Z 2,Z 3,Z 4,Z 5,Z 6,Z 7, .v w, Z 9,Z 10,Z 11,Z 12,Z 13,Z 14,Z 15,Z 16,Z 17,Z 18,Z 19, .v (.slice A2 A.length c2), .v (.int .i64 (A.length : Int)), .v (.int .i64 (i : Int)), Z 23,Z 24,Z 25,Z 26,Z 27,Z 28,Z 29,Z 30,Z 31,Z 32,Z 33,Z 34,Z 35,Z 36,Z 37,Z 38,Z 39,Z 40,Z 41,Z 42,Z 43,Z 44,Z 45,Z 46,Z 47,Z 48,Z 49,Z 50]) [] H6 V6 s ∧ V1.le V6 ∧ m + i = A.length ∧ Own H6 48 3 w (1 + i) cells ∧ RowAt ratE V6 cells ([1] ++ (a.take i).map fun x => -x)) A.length ⟨0, V5, H5, w, cells, StIs.of (by exact rfl), hV5, by omega, hown, hrow⟩ ?_
  clear hown hrow
  rintro m s ⟨i, V6, H6, w, cells, hs, hV6, hm, hown, hrow⟩
  obtain ⟨z, rfl⟩ := hs.out
  try dsimp only
  by_cases hi : i < A.length
  rotate_left
  ·obtain rfl : i = A.length := by omega
   have b2 : decide ((A.length : Int) < (A.length : Int)) = false := decide_eq_false (by omega)
   refine Gx.a (by kernel_rfl) fun K hK => ?_
   simp only [XA, XB, b2]
   refine hK _ ?_
   refine XWP.seq (Gx.f rfl ?_)
   refine XWP.exit ?_
   rw [← ea, List.take_length] at hrow
   exact fun f => ⟨V6, H6, w, cells, StIs.of (by exact rfl), hV6, hown, hrow⟩
  have b2 : decide ((i : Int) < (A.length : Int)) = true := decide_eq_true (by omega)
  refine Gx.a (by kernel_rfl) fun K hK => ?_
  simp only [XA, XB, b2]
  refine hK _ ?_
  refine XWP.seq (Gx.t rfl ?_)
  refine XWP.skip ?_
  refine XWP.seq ?_
  refine XWP.block ?_
  have ha6 := ha.up hV6
  obtain ⟨b, o, rfl⟩ := SlAt.addr ha6 (by omega)
  obtain ⟨m3, n3, d3, hx3, ⟨p1, p2, p3⟩, hld3⟩ := Rats.get ha6 i (by omega)
  refine Gx.a (by kernel_rfl) fun K hK => ?_
  simp only [XA, XB]
  refine ⟨by omega, by omega, ld_mem (hld3 _) ?_⟩
  simp only [XA, XB]
  refine st_rat rfl rfl p1 p2 p3 ?_
  simp only [XA]
  refine hK _ ?_
  refine Gx.c (by kernel_rfl) fun K hK => ?_
  simp only [XA, XB, Nat.reduceAdd, Nat.reduceLeDiff, ↓reduceIte]
  refine call_go (by kernel_rfl) rfl (qneg_c _ _ _ hx3 ((hCa.at _).qf (by omega))) fun v7 V7 hV7 h7 => ?_
  obtain ⟨x7, y7, rfl, o1, o2⟩ := h7.form
  simp only [XA]
  refine bs_go (by kernel_rfl) #[(0, .agg #[.bool (ng (-(cf a i))), x7, y7])] (by simp [ev_tmp, SV.val]) (bs_rat elemT_22) fun b3 hb3 hb4 => ?_
  simp only [XA, Nat.reduceAdd]
  refine ap_go elemT_22 (by kernel_rfl) zeroT_48 rfl (by omega) (own_upd hown hb3) (src3 (upd_at _ _ _) rfl o1 o2) (by omega) (by omega) fun v' H' hres => ?_
  simp only [XA]
  refine hK _ ?_
  refine Gx.c (by kernel_rfl) fun K hK => ?_
  simp only [XA, XB, i64_succ i (by omega)]
  have hrow' := (hrow.mono ratE_ok hV7).snoc (show isOne (.bool (ng (-(cf a i)))) = true from rfl) o1 o2 h7
  rw [List.append_assoc, show (List.map (fun x => -x) (a.take i)) ++ [-(cf a i)] = List.map (fun x => -x) (a.take (i + 1)) by rw [takeQ_snoc (by omega), List.map_append]; rfl] at hrow'
  exact hK _ ⟨m - 1, by omega, fun f => ⟨i + 1, V7, _, _, _, StIs.of (by exact rfl), View.le_trans hV6 hV7, by omega, by rw [show 1 + (i + 1) = 1 + i + 1 by omega]; exact hres.1, hrow'⟩⟩
 clear hown hrow
 rintro s ⟨V6, H6, w, cells, hs, hV6, hown, hrow⟩
 obtain ⟨z, rfl⟩ := hs.out
 try dsimp only
 rcases own_parts hown with ⟨_, h0, _⟩ | ⟨g, cap, rfl, hg, hle, hcap, _⟩
 ·omega
 have hl6 := hl.up hV6
 have ht6 := SlAt.take hl6 (k := A.length) (by omega)
 refine Gx.a (by kernel_rfl) fun K hK => ?_
 simp only [XA, XB]
 refine ⟨by omega, by omega, by omega, ?_⟩
 refine call_own (by kernel_rfl) rfl (rclone_o _ _ (l.take A.length) ht6 (by simp; omega)) fun v8 V8 o8 hV8 hs8 h8 => ?_
 simp only [XA]
 refine pub_clone h8 hs8 (by kernel_rfl) rfl fun V9 hV9 h9 => ?_
 refine call_go (by kernel_rfl) rfl (ctrim_c _ _ _ h9) fun v10 V10 hV10 h10 => ?_
 simp only [XA]
 have hV610 := View.le_trans hV8 (View.le_trans hV9 hV10)
 refine call_pub g ⟨48, cells, cap * 3⟩ hg (fun ob hob hle' => ?_) (by kernel_rfl) rfl
 have hq : Rats _ _ (frQ a) := (hrow.mono ratE_ok hV610).pub ratE_ok hob hle' (n := 1 + A.length) (c := cap) (by rw [frQ_len]; omega) hle (by unfold maxLen at hcap; omega)
 have h10 := h10.up hle'
 refine call_go (by kernel_rfl) rfl (ctrim_c _ _ _ hq) fun v11 V11 hV11 h11 => ?_
 have h10 := h10.up hV11
 have hq := hq.up hV11
 have hlt : (l.take a.length).length ≤ 400 := by rw [List.length_take]; omega
 have cT : CB C (trimQ (l.take a.length)) := (hCl.take _).trim
 have cQ : CB B (trimQ (frQ a)) := (frQ_CB hCa).trim
 have lT := trimQ_len (l.take a.length)
 have lQ := trimQ_len (frQ a)
 have lq := frQ_len a
 have hfit2 : (trimQ (l.take a.length)).length * (C + B + 1) ≤ 400 * (C + B + 1) := Nat.mul_le_mul_right _ (by omega)
 rw [← ea] at h10
 simp only [XA]
 refine call_go (by kernel_rfl) rfl (cmul_c _ _ _ _ _ C B h10 h11 cT cQ (by omega) (by omega)) fun v12 V12 hV12 h12 => ?_
 have hq := hq.up hV12
 obtain ⟨A4, c4, rfl, hc4, hm4⟩ := h12.form
 obtain ⟨M, hM⟩ : ∃ M, M = mulP (trimQ (l.take a.length)) (trimQ (frQ a)) := ⟨_, rfl⟩
 have hP : frP l a = trimQ (M.take (min M.length A.length)) := by unfold frP; rw [← hM, ea]
 rw [← hM] at h12 hc4
 simp only [XA]
 refine hK _ ?_
 rw [← hM]
 refine Gx.a (by kernel_rfl) fun K hK => ?_
 simp only [XA, XB, min_nat]
 refine ⟨by omega, by omega, by omega, ?_⟩
 have ht4 := SlAt.take h12 (k := min M.length A.length) (by omega)
 refine call_go (by kernel_rfl) rfl (ctrim_c _ _ _ ht4) fun v13 V13 hV13 h13 => ?_
 simp only [XA]
 refine call_go (by kernel_rfl) rfl (ctrim_c _ _ _ (hq.up hV13)) fun v14 V14 hV14 h14 => ?_
 simp only [XA]
 refine hK _ (XWP.ret ?_)
 try simp only [thenX_ret, inBlockX_ret]
 refine ret_go _ rfl ?_
 exact ⟨fun h => absurd he h, fun _ => ⟨_, _, rfl, by rw [hP]; exact h13.up hV14, h14⟩⟩

theorem bmOut_CB {B : Nat} {s : BM} (h : CB B s.q) : CB B (bmOut s) := by
 obtain ⟨D, d1, d2, d3⟩ := h
 refine ⟨D, d1, d2, fun i => ?_⟩
 unfold bmOut
 rw [cf_mk]
 split
 ·exact (d3 (i + 1)).neg
 ·exact Over.zero _ _
theorem RowAt.append {α : Type} {E : View → Value → α → Prop} {V : View} {c1 c2 : List Value} {l1 l2 : List α} (h1 : RowAt E V c1 l1) (h2 : RowAt E V c2 l2) : RowAt E V (c1 ++ c2) (l1 ++ l2) := by
 have e1 := h1.1
 have e2 := h2.1
 refine ⟨by rw [List.length_append, List.length_append, e1, e2]; omega, fun i x hi => ?_⟩
 by_cases hlt : i < l1.length
 ·rw [List.getElem?_append_left hlt] at hi
  obtain ⟨m, n, d, g1, g2, g3, r⟩ := h1.2 i x hi
  refine ⟨m, n, d, ?_, ?_, ?_, r⟩
  ·show (c1 ++ c2)[i * 3]? = _
   rw [List.getElem?_append_left (by omega)]; exact g1
  ·show (c1 ++ c2)[i * 3 + 1]? = _
   rw [List.getElem?_append_left (by omega)]; exact g2
  ·show (c1 ++ c2)[i * 3 + 2]? = _
   rw [List.getElem?_append_left (by omega)]; exact g3
 ·rw [List.getElem?_append_right (by omega)] at hi
  obtain ⟨m, n, d, g1, g2, g3, r⟩ := h2.2 (i - l1.length) x hi
  refine ⟨m, n, d, ?_, ?_, ?_, r⟩
  ·show (c1 ++ c2)[i * 3]? = _
   rw [List.getElem?_append_right (by omega), show i * 3 - c1.length = (i - l1.length) * 3 by omega]; exact g1
  ·show (c1 ++ c2)[i * 3 + 1]? = _
   rw [List.getElem?_append_right (by omega), show i * 3 + 1 - c1.length = (i - l1.length) * 3 + 1 by omega]; exact g2
  ·show (c1 ++ c2)[i * 3 + 2]? = _
   rw [List.getElem?_append_right (by omega), show i * 3 + 2 - c1.length = (i - l1.length) * 3 + 2 by omega]; exact g3
end Go.Proofs.YthoboehbadmlmaaGreat
end
section
namespace Go.Proofs.YthoboehbadmlmaaGreat
abbrev Grid := Nat → Nat → Rat
def swp (p t i : Nat) : Nat := if i = p then t else if i = t then p else i
def gsw (G : Grid) (p t : Nat) : Grid := fun i j => G (swp p t i) j
def gcol (G : Grid) (t k : Nat) : Grid := fun i j => if i = t then G t j / G t k else G i j - G i k * (G t j / G t k)
theorem swp_swp (p t i : Nat) : swp p t (swp p t i) = i := by unfold swp; split <;> (try split) <;> (try split) <;> omega
theorem swp_lt {p t i R : Nat} (hp : p < R) (ht : t < R) (hi : i < R) : swp p t i < R := by unfold swp; split <;> (try split) <;> omega
theorem Sm_div (f x : Nat → Rat) (d : Rat) (n : Nat) : Sm (fun j => f j / d * x j) n = Sm (fun j => f j * x j) n / d := by
 induction n with
 | zero => simp only [Sm, Rat.div_def]; grind
 | succ n ih => simp only [Sm, ih, Rat.div_def]; grind
theorem Sm_lin (f g x : Nat → Rat) (c : Rat) (n : Nat) : Sm (fun j => (f j - c * g j) * x j) n = Sm (fun j => f j * x j) n - c * Sm (fun j => g j * x j) n := by
 induction n with
 | zero => simp only [Sm]; grind
 | succ n ih => simp only [Sm, ih]; grind
theorem div_inj {a b d : Rat} (hd : d ≠ 0) (h : a / d = b / d) : a = b := by
 rw [← Rat.div_mul_cancel (a := a) hd, ← Rat.div_mul_cancel (a := b) hd, h]
def gx (G : Grid) (wh : Nat → Int) (n c : Nat) : Rat := if 0 ≤ wh c then G (wh c).toNat n else 0
end Go.Proofs.YthoboehbadmlmaaGreat
end
section
namespace Go.Proofs.YthoboehbadmlmaaGreat
open Go Go.RowKit
attribute [local irreducible] XWP Spec SpecO XPub XCall seqX clX apX stX ldX iaX slX
theorem upd_off {H : Heap} {b k : Nat} {r : Option Row} (h : k ≠ b) : upd H b r k = H k := by unfold upd; rw [if_neg h]
theorem mk_congr {m : Nat} {f g : Nat → Rat} (h : ∀ j, j < m → f j = g j) : mk m f = mk m g := by
 unfold mk
 exact List.map_congr_left fun j hj => h j (List.mem_range.1 hj)
theorem src_one {H : Heap} {V : View} {b e tot : Nat} {a : Value} (hr : H b = some ⟨e, [a], tot⟩) (h1 : isOne a = true) : Src H V 1 (.slice (some ⟨b, 0, none⟩) 1 1) 1 [a] :=
  ⟨_, 1, rfl, rfl, fun u hu => by have : u = a := by simpa using hu
                                  rw [this]; exact h1, .inr ⟨b, 0, rfl, fun j u hj => .inl ⟨_, hr, by rw [Nat.zero_add]; exact hj⟩⟩⟩
theorem own_one {H : Heap} {e sz n : Nat} {v : Value} {xs : List Value} (h : Own H e sz v n xs) : isOne v = true := by
 rcases own_parts h with ⟨rfl, _, _⟩ | ⟨b, cap, rfl, _⟩ <;> rfl
theorem mk_set1 {m j : Nat} {f : Nat → Rat} {x : Rat} (hj : j < m) : (mk m f).set j x = mk m (fun c => if c = j then x else f c) := by
 apply List.ext_getElem?
 intro i
 by_cases hi : i < m
 ·by_cases e : j = i
  ·subst e; rw [List.getElem?_set_self (by rw [mk_len]; exact hj)]; simp [mk, hj]
  ·rw [List.getElem?_set_ne e]
   have e' : ¬ i = j := fun h => e h.symm
   simp [mk, hi, e']
 ·rw [List.getElem?_eq_none (by rw [List.length_set, mk_len]; omega), List.getElem?_eq_none (by rw [mk_len]; omega)]
def ge (B : Nat) : Nat → Nat
 | 0 => B
 | k + 1 => 4 * ge B k + 2
theorem ge_mono (B : Nat) {i j : Nat} (h : i ≤ j) : ge B i ≤ ge B j := by
 induction j with
 | zero => rw [show i = 0 by omega]; exact Nat.le_refl _
 | succ j ih =>
  rcases Nat.eq_or_lt_of_le h with h1 | h1
  ·subst h1; exact Nat.le_refl _
  ·have := ih (by omega)
   simp only [ge]; omega
end Go.Proofs.YthoboehbadmlmaaGreat
end
