/- the exits of a chain step by step satisfy a recurrence no longer than its states, whose generating function at 1 is the chance of the exit (part 7 of 13) -/
import Derived.OrdersHeld
import Derived.Below
import Derived.Tactics
import Derived.KernelRfl
import Derived.RangeFuncCalls
import Derived.RangeFuncFrom
import Derived.RangeFuncLeaves
import Derived.OrdersIn
import Derived.Laws.AppendOwn
import Derived.Laws.MakeOwn
import Derived.Laws.CopyRow
import Derived.Laws.Cells
import Derived.Laws.World
import Derived.Laws.Alloc2
import Derived.Laws.NewBlocks
import Derived.Maps.AppendAt
import Derived.Test.YthoboehbadmlmaaGreatProg
import Init.Data.List.Lemmas
import Init.Omega
import Derived.WalkKit
import Derived.ProofKit
import Derived.OpenShut
import Derived.ChangeOld
import Derived.SizedLaws
import Derived.ChangeSlices
import Derived.ChangeArms
import Derived.Deep.Slices
import Derived.Test.YthoboehbadmlmaaGreatCH6
set_option linter.unusedVariables false
set_option linter.unusedSimpArgs false
section
namespace Go.Proofs.YthoboehbadmlmaaGreat
def scaledP (p : List Rat) : List Rat := pAdd [] p (1 / cf p (p.length - 1)) 0
theorem cf_scaledP (p : List Rat) (i : Nat) : cf (scaledP p) i = cf p i * (1 / cf p (p.length - 1)) := by
 unfold scaledP
 rw [cf_pAdd]
 unfold pAt
 rw [if_pos (Nat.zero_le _), cf_none (by simp), Rat.zero_add, Nat.sub_zero]
theorem one_ne : (1 : Rat) ≠ 0 := by decide
theorem scaledP_len {p : List Rat} (hp : PolQ p) : (scaledP p).length = p.length := by
 have h1 : (scaledP p).length ≤ p.length := by
  have := pAdd_len [] p (1 / cf p (p.length - 1)) 0
  simpa [scaledP] using this
 rcases Nat.eq_zero_or_pos p.length with h0 | h0
 ·have : p = [] := List.length_eq_zero_iff.1 h0
  omega
 ·have hl := hp h0
  have h2 := h1
  rcases Nat.lt_or_ge (scaledP p).length p.length with h3 | h3
  ·have := cf_scaledP p (p.length - 1)
   rw [cf_none (by omega), Rat.mul_comm, Rat.div_mul_cancel hl] at this
   exact absurd this.symm one_ne
  ·omega
theorem scaledP_last {p : List Rat} (hp : PolQ p) (h0 : 0 < p.length) : cf (scaledP p) ((scaledP p).length - 1) = 1 := by
 rw [scaledP_len hp, cf_scaledP, Rat.mul_comm, Rat.div_mul_cancel (hp h0)]
theorem scaledP_pol (p : List Rat) : PolQ (scaledP p) := pAdd_pol _ _ _ _
theorem scaledP_CB {A : Nat} {p : List Rat} (hp : CB A p) : CB (2 * A + 1) (scaledP p) := by
 have hq : QB A (1 / cf p (p.length - 1)) := by
  have := (QB_one 0).div (hp.at (p.length - 1))
  rw [Nat.zero_add] at this; exact this
 exact (CB.padd (CB_nil 0) hp hq 0).mono (by omega)
theorem divF_rest {q : List Rat} (hq : 0 < q.length) (hl : cf q (q.length - 1) ≠ 0) : ∀ (n : Nat) (rest out : List Rat), rest.length < n → PolQ rest → (divF q n rest out).2.length < q.length ∧ PolQ (divF q n rest out).2 := by
 intro n
 induction n with
 | zero => intro rest out h; omega
 | succ n ih =>
  intro rest out h hp
  rw [divF]
  split
  ·rename_i hle
   have := div_less hq hl hle
   exact ih _ _ (by omega) (pAdd_pol _ _ _ _)
  ·rename_i hle
   exact ⟨Nat.lt_of_not_le hle, hp⟩
theorem divP_rest {p q : List Rat} (hq : 0 < q.length) (hl : cf q (q.length - 1) ≠ 0) : (divP p q).2.length < q.length ∧ PolQ (divP p q).2 :=
 divF_rest hq hl _ _ _ (by omega) (pAdd_pol _ _ _ _)
def comF : Nat → List Rat → List Rat → List Rat
 | 0, p, _ => p
 | n + 1, p, q => if 0 < q.length then comF n q (divP p (scaledP q)).2 else p
def comP (p q : List Rat) : List Rat := scaledP (comF (q.length + 1) p q)
theorem com_less {p q : List Rat} (hq : PolQ q) (h0 : 0 < q.length) : (divP p (scaledP q)).2.length < q.length ∧ PolQ (divP p (scaledP q)).2 := by
 have h1 := scaledP_len hq
 have h2 := divP_rest (p := p) (q := scaledP q) (by omega) (by rw [scaledP_last hq h0]; exact one_ne)
 rw [h1] at h2; exact h2
theorem comF_fuel : ∀ (n m : Nat) (p q : List Rat), PolQ q → q.length < n → q.length < m → comF n p q = comF m p q := by
 intro n
 induction n with
 | zero => intro m p q _ h; omega
 | succ n ih =>
  intro m p q hq h1 h2
  obtain ⟨m, rfl⟩ : ∃ k, m = k + 1 := ⟨m - 1, by omega⟩
  rw [comF, comF]
  split
  ·rename_i h0
   obtain ⟨h3, h4⟩ := com_less (p := p) hq h0
   exact ih m _ _ h4 (by omega) (by omega)
  ·rfl
theorem comF_step {p q : List Rat} (hq : PolQ q) (h0 : 0 < q.length) : comF (q.length + 1) p q = comF ((divP p (scaledP q)).2.length + 1) q (divP p (scaledP q)).2 := by
 obtain ⟨h3, h4⟩ := com_less (p := p) hq h0
 rw [comF, if_pos h0]
 exact comF_fuel _ _ _ _ h4 (by omega) (by omega)
theorem comF_end {p q : List Rat} (h : ¬ 0 < q.length) : comF (q.length + 1) p q = p := by rw [comF, if_neg h]
def gb (M r s : Nat) : Nat := 5 ^ r * (2 ^ s * (M + 1))
theorem gb_mono {M r s r' s' : Nat} (h1 : r ≤ r') (h2 : s ≤ s') : gb M r s ≤ gb M r' s' := Nat.mul_le_mul (Nat.pow_le_pow_right (by omega) h1) (Nat.mul_le_mul_right _ (two_mono h2))
theorem gb_zero (M : Nat) : gb M 0 0 = M + 1 := by simp [gb]
theorem gb_step {M r s k N : Nat} (h : N + 1 ≤ gb M r s) : 2 ^ k * (5 * N + 4) + 1 ≤ gb M (r + 1) (s + k) := by
 have e : gb M (r + 1) (s + k) = 5 * (2 ^ k * gb M r s) := by
  unfold gb
  rw [Nat.pow_succ, Nat.pow_add, Nat.mul_comm (5 ^ r) 5, Nat.mul_assoc 5, Nat.mul_comm (2 ^ s) (2 ^ k), Nat.mul_assoc (2 ^ k), Nat.mul_left_comm (2 ^ k) (5 ^ r)]
 rw [e]
 have h1 := Nat.mul_le_mul_left (2 ^ k) h
 have h2 := two_pos k
 rw [Nat.mul_add] at h1 ⊢
 rw [Nat.mul_left_comm (2 ^ k) 5]
 omega
end Go.Proofs.YthoboehbadmlmaaGreat
end
section
namespace Go.Proofs.YthoboehbadmlmaaGreat
open Go Go.RowKit
attribute [local irreducible] XWP Spec SpecO XPub XCall seqX clX apX stX ldX iaX slX
theorem cmul_c (V : View) (v u : Value) (p q : List Rat) (A B : Nat) (hv : Rats V v p) (hu : Rats V u q) (hp : CB A p) (hq : CB B q) (hfit : p.length * (A + B + 1) + A + B + 2 ≤ 17592186044416) (lp : q.length + p.length ≤ 1000000) :
  Spec Tryz.prog 75 [v, u] V fun v' V' => Rats V' v' (mulP p q) := by
 obtain ⟨A1, c1, rfl, hc1, hm1⟩ := hv.form
 obtain ⟨A2, c2, rfl, hc2, hm2⟩ := hu.form
 refine (Spec.enter Tryz.func75 rfl fun Γ => ?_)
 simp only [Tryz.ntmps75, List.map_cons, List.map_nil, List.length_cons, List.length_nil, Nat.reduceAdd, Nat.reduceSub, List.replicate_succ, List.replicate_zero, List.cons_append, List.nil_append]
 refine Gx.a (by kernel_rfl) fun K hK => ?_
 simp only [XA]
 refine hK _ ?_
 refine Gx.a (by kernel_rfl) fun K hK => ?_
 simp only [XA]
 refine hK _ ?_
 clear hK
 refine XWP.cutD 0 (fun s => ∃ (V2 : View) (w : Value), StIs (fun Z => [Z 0,Z 1,Z 2,Z 3,Z 4, .v w, Z 6,Z 7,Z 8,Z 9,Z 10,Z 11,Z 12,Z 13,Z 14,Z 15,Z 16,Z 17,Z 18,Z 19,Z 20,Z 21,Z 22,Z 23,Z 24]) [] (fun _ => none) V2 s ∧ Rats V2 w (mulP p q)) ?_ ?_
 ·refine Gx.a (by kernel_rfl) fun K hK => ?_
  simp only [XA, XB]
  refine hK _ ?_
  clear hK
  refine XWP.block ?_
  refine XWP.loopD 0 (fun n s => ∃ (k : Nat) (V2 : View) (w : Value), StIs (fun Z => [.v (.slice A1 p.length c1), .v (.slice A2 q.length c2), Z 2,Z 3,Z 4, .v w, Z 6,Z 7, .v (.slice A1 p.length c1), .v (.int .i64 (p.length : Int)), .v (.int .i64 (k : Int)), Z 11,Z 12,Z 13,Z 14,Z 15,Z 16,Z 17,Z 18,Z 19,Z 20,Z 21,Z 22,Z 23,Z 24]) [] (fun _ => none) V2 s ∧ V.le V2 ∧ n + k = p.length ∧ Rats V2 w (mulI p q k)) p.length ⟨0, V, _, StIs.of (by exact rfl), View.le_refl _, rfl, SlAt.nil V⟩ ?_
  rintro n s ⟨k, V2, w, hs, hV2, hn, hw⟩
  obtain ⟨z, rfl⟩ := hs.out
  try dsimp only
  by_cases hk : k < p.length
  ·have b1 : decide ((k : Int) < (p.length : Int)) = true := decide_eq_true (by omega)
   refine Gx.a (by kernel_rfl) fun K hK => ?_
   simp only [XA, XB, b1]
   refine hK _ ?_
   refine XWP.seq (Gx.t rfl ?_)
   refine XWP.skip ?_
   refine XWP.seq ?_
   refine XWP.block ?_
   refine Gx.a (by kernel_rfl) fun K hK => ?_
   have hv2 := Rats.up hv hV2
   have hu2 := Rats.up hu hV2
   obtain ⟨b, o, rfl⟩ := SlAt.addr hv2 (by omega)
   obtain ⟨m3, n3, d3, hx3, ⟨p1, p2, p3⟩, hld3⟩ := Rats.get hv2 k hk
   simp only [XA, XB]
   refine ⟨by omega, by omega, ld_mem (hld3 _) ?_⟩
   simp only [XA, XB]
   refine st_rat rfl rfl p1 p2 p3 ?_
   simp only [XA]
   refine hK _ ?_
   clear hK
   refine XWP.post (fun s => ∃ (V3 : View) (w : Value), StIs (fun Z => [.v (.slice (some ⟨b, o, none⟩) p.length c1), .v (.slice A2 q.length c2), Z 2,Z 3,Z 4, .v w, Z 6,Z 7, .v (.slice (some ⟨b, o, none⟩) p.length c1), .v (.int .i64 (p.length : Int)), .v (.int .i64 (k : Int)), Z 11,Z 12,Z 13,Z 14,Z 15,Z 16,Z 17,Z 18,Z 19,Z 20,Z 21,Z 22,Z 23,Z 24]) [[m3, n3, d3]] (fun _ => none) V3 s ∧ V.le V3 ∧ Rats V3 w (mulI p q (k + 1))) ?_ ?_
   ·refine Gx.a (by kernel_rfl) fun K hK => ?_
    simp only [XA, XB, Nat.reduceAdd, Nat.reduceLeDiff, ↓reduceIte]
    refine call_go (by kernel_rfl) rfl (czero_c _ _ _ hx3) fun v4 V4 hV4 h4 => ?_
    subst h4
    by_cases hz : cf p k = 0
    ·have b2 : decide (cf p k = 0) = true := decide_eq_true hz
     simp only [XA, b2]
     refine hK _ ?_
     refine Gx.f rfl ?_
     refine XWP.skip ?_
     refine ⟨V4, w, StIs.of (by exact rfl), View.le_trans hV2 hV4, ?_⟩
     rw [mulI, if_pos hz]; exact hw.up hV4
    ·have b2 : decide (cf p k = 0) = false := decide_eq_false hz
     simp only [XA, b2]
     refine hK _ ?_
     refine Gx.t rfl ?_
     refine Gx.c (by kernel_rfl) fun K hK => ?_
     simp only [XA, XB, Nat.reduceAdd, Nat.reduceLeDiff, ↓reduceIte]
     have hI := mulI_CB hp hq k
     have hl := mulI_len p q k
     have hkm : k * (A + B + 1) + (A + B + 1) ≤ p.length * (A + B + 1) := by
      have := Nat.mul_le_mul_right (A + B + 1) (show k + 1 ≤ p.length from hk)
      rw [Nat.add_mul] at this; omega
     refine call_go (by kernel_rfl) rfl (cadd_c _ _ _ _ _ _ _ k _ _ _ (hw.up hV4) (hu2.up hV4) (hx3.mono hV4) hI.mem hq.mem (hp.at k) (by omega) (by omega) (by omega)) fun v5 V5 hV5 h5 => ?_
     simp only [XA]
     refine hK _ ⟨V5, v5, StIs.of (by exact rfl), View.le_trans hV2 (View.le_trans hV4 hV5), ?_⟩
     rw [mulI, if_neg hz]; exact h5
   ·rintro s ⟨V3, w, hs, hV3, hw⟩
    obtain ⟨z, rfl⟩ := hs.out
    try dsimp only
    refine Gx.c (by kernel_rfl) fun K hK => ?_
    simp only [XA, XB, i64_succ k (by omega)]
    exact hK _ ⟨n - 1, by omega, fun f => ⟨k + 1, V3, w, StIs.of (by exact rfl), hV3, by omega, hw⟩⟩
  ·have b1 : decide ((k : Int) < (p.length : Int)) = false := decide_eq_false (by omega)
   obtain rfl : k = p.length := by omega
   refine Gx.a (by kernel_rfl) fun K hK => ?_
   simp only [XA, XB, b1]
   refine hK _ ?_
   refine XWP.seq (Gx.f rfl ?_)
   refine XWP.exit ?_
   exact fun f => ⟨V2, w, StIs.of (by exact rfl), hw⟩
 rintro s ⟨V2, w, hs, hw⟩
 obtain ⟨z, rfl⟩ := hs.out
 try dsimp only
 refine Gx.a (by kernel_rfl) fun K hK => ?_
 simp only [XA]
 refine hK _ (XWP.ret ?_)
 try simp only [thenX_ret, inBlockX_ret]
 refine ret_go _ rfl ?_
 exact hw
theorem cscaled_c (V : View) (v : Value) (p : List Rat) (A : Nat) (hv : Rats V v p) (hp : CB A p) (h0 : 0 < p.length) (hl : cf p (p.length - 1) ≠ 0) (hfit : 2 * A + 2 ≤ 17592186044416) (lp : p.length ≤ 1000000) :
  Spec Tryz.prog 129 [v] V fun v' V' => Rats V' v' (scaledP p) := by
 obtain ⟨A1, c1, rfl, hc1, hm1⟩ := hv.form
 refine (Spec.enter Tryz.func129 rfl fun Γ => ?_)
 simp only [Tryz.ntmps129, List.map_cons, List.map_nil, List.length_cons, List.length_nil, Nat.reduceAdd, Nat.reduceSub, List.replicate_succ, List.replicate_zero, List.cons_append, List.nil_append]
 refine Gx.a (by kernel_rfl) fun K hK => ?_
 simp only [XA]
 refine hK _ ?_
 refine XWP.cut (fun s => ∃ (V2 : View) (m x y : Value), StIs (fun Z => [.v (.slice A1 p.length c1), Z 1,Z 2, .p 0 0, Z 4,Z 5,Z 6,Z 7,Z 8,Z 9,Z 10,Z 11,Z 12,Z 13,Z 14,Z 15,Z 16,Z 17,Z 18]) [[m, x, y]] (fun _ => none) V2 s ∧ V.le V2 ∧ RatC V2 (.agg #[m, x, y]) (1 / cf p (p.length - 1))) ?_ ?_
 ·(refine XWP.drwT1 (.lin [1, 2, 3, 4, 5, 6] (.two (.lin [0] (.two (.lin [7, 8, 9, 10, 11, 12, 13] .nil) (.lin [11, 7, 8, 9, 10, 12, 13] .nil))) (.lin [11, 0, 7, 8, 9, 10, 12, 13] .nil))) (by kernel_rfl) (by kernel_rfl) (by kernel_rfl) fun K hK => ?_)
  obtain ⟨b, o, rfl⟩ := SlAt.addr hv (by omega)
  obtain ⟨m3, n3, d3, hx3, ⟨p1, p2, p3⟩, hld3⟩ := Rats.get hv (p.length - 1) (by omega)
  have w1 := i64_pred p.length (by omega) (by omega)
  simp only [XA, XB, w1]
  refine ⟨by omega, by omega, ld_mem (hld3 _) ?_⟩
  simp only [XA, XB]
  refine And.intro ?_ ?_
  all_goals refine call_go (by kernel_rfl) rfl (qone_c _) fun v1 V1 hV1 h1 => ?_
  all_goals simp only [XA, XB]
  all_goals try refine And.intro ?_ ?_
  all_goals refine call_go (by kernel_rfl) rfl (qdiv_c _ _ _ _ _ h1 (hx3.mono hV1) QF_one (QF.of (hp.at _) (by omega))) fun v2 V2 hV2 h2 => ?_
  all_goals obtain ⟨r, rfl, hr⟩ := h2.2 hl
  all_goals obtain ⟨x, y, rfl, ox, oy⟩ := hr.form
  all_goals simp only [XA, XB]
  all_goals refine st_rat rfl rfl rfl ox oy ?_
  all_goals simp only [XA]
  all_goals exact hK _ ⟨V2, _, x, y, StIs.of (by exact rfl), View.le_trans hV1 hV2, hr⟩
 rintro s ⟨V2, m, x, y, hs, hV2, hr⟩
 obtain ⟨z, rfl⟩ := hs.out
 try dsimp only
 have hq : QB A (1 / cf p (p.length - 1)) := by
  have := (QB_one 0).div (hp.at (p.length - 1))
  rw [Nat.zero_add] at this; exact this
 refine Gx.a (by kernel_rfl) fun K hK => ?_
 simp only [XA, XB, Nat.reduceAdd, Nat.reduceLeDiff, ↓reduceIte]
 refine call_go (by kernel_rfl) rfl (cadd_c _ _ _ _ [] p _ 0 0 A A (SlAt.nil _) (hv.up hV2) hr (by simp) hp.mem hq (by omega) (by simp) (by omega)) fun v3 V3 hV3 h3 => ?_
 simp only [XA]
 refine hK _ (XWP.ret ?_)
 try simp only [thenX_ret, inBlockX_ret]
 refine ret_go _ rfl ?_
 exact h3
def OutIs (H : Heap) (V : View) (w : Value) (out : List Rat) : Prop := (w = .slice none 0 0 ∧ out = []) ∨ ∃ g cells, w = .slice (some ⟨g, 0, none⟩) out.length out.length ∧ H g = some ⟨48, cells, out.length * 3⟩ ∧ RowAt ratE V cells out
theorem OutIs.up {H : Heap} {V V' : View} {w : Value} {out : List Rat} (h : OutIs H V w out) (hV : V.le V') : OutIs H V' w out := by
 rcases h with h | ⟨g, cells, e, h1, h2⟩
 ·exact .inl h
 ·exact .inr ⟨g, cells, e, h1, h2.mono ratE_ok hV⟩
theorem pAdd_nil_len (p : List Rat) : (pAdd p [] 1 0).length ≤ p.length := by
 have := pAdd_len p [] 1 0
 simpa using this
theorem len_geq (a b : Nat) : decide ((b : Int) ≤ (a : Int)) = decide (b ≤ a) := by rw [decide_eq_decide]; omega
theorem cdiv_c (V : View) (v u : Value) (p q : List Rat) (A B : Nat) (hv : Rats V v p) (hu : Rats V u q) (hp : CB A p) (hq : CB B q) (h0 : 0 < q.length) (hl : cf q (q.length - 1) ≠ 0) (hfit : 2 ^ (p.length - q.length + 1) * (A + 2 * B + 2) ≤ 17592186044416) (lp : p.length ≤ 100000) (lq : q.length ≤ 100000) :
  Spec Tryz.prog 78 [v, u] V fun v' V' => ∃ wq wr, v' = .tuple #[wq, wr] ∧ Rats V' wq (divP p q).1 ∧ Rats V' wr (divP p q).2 ∧ CB (2 ^ (p.length - q.length + 1) * (A + 2 * B + 2)) (divP p q).2 := by
 obtain ⟨A1, c1, rfl, hc1, hm1⟩ := hv.form
 obtain ⟨A2, c2, rfl, hc2, hm2⟩ := hu.form
 have hC0 : A + 2 * B + 2 ≤ 2 ^ (p.length - q.length + 1) * (A + 2 * B + 2) := Nat.le_mul_of_pos_left _ (two_pos _)
 refine (Spec.enter Tryz.func78 rfl fun Γ => ?_)
 simp only [Tryz.ntmps78, List.map_cons, List.map_nil, List.length_cons, List.length_nil, Nat.reduceAdd, Nat.reduceSub, List.replicate_succ, List.replicate_zero, List.cons_append, List.nil_append]
 refine Gx.a (by kernel_rfl) fun K hK => ?_
 simp only [XA]
 refine hK _ ?_
 refine Gx.a (by kernel_rfl) fun K hK => ?_
 simp only [XA]
 refine call_go (by kernel_rfl) rfl (qone_c _) fun v1 V1 hV1 h1 => ?_
 simp only [XA]
 refine call_go (by kernel_rfl) rfl (cadd_c _ _ _ _ p [] 1 0 A 0 0 (Rats.up hv hV1) (SlAt.nil _) h1 hp.mem (by simp) (QB_one 0) (by omega) (by omega) (by simp)) fun v2 V2 hV2 h2 => ?_
 have hV2 := View.le_trans hV1 hV2
 have hr0 : CB (A + 1) (pAdd p [] 1 0) := (CB.padd hp (CB_nil 0) (QB_one 0) 0).mono (by omega)
 have hrl := pAdd_nil_len p
 simp only [XA]
 refine hK _ ?_
 clear hK h1
 obtain ⟨r, hr⟩ : ∃ r, r = pAdd p [] 1 0 := ⟨_, rfl⟩
 obtain ⟨out0, ho0⟩ : ∃ out0, out0 = if q.length ≤ r.length then List.replicate (r.length - q.length + 1) (0 : Rat) else [] := ⟨_, rfl⟩
 have hdiv : divP p q = (trimQ (divF q (r.length + 1) r out0).1, (divF q (r.length + 1) r out0).2) := by rw [hr, ho0, hr]; rfl
 rw [hdiv]
 rw [← hr] at h2 hr0 hrl
 obtain ⟨A3, c3, rfl, hc3, hm3⟩ := h2.form
 refine Gx.a (by kernel_rfl) fun K hK => ?_
 simp only [XA]
 refine hK _ ?_
 refine XWP.cutD 0 (fun s => ∃ (V3 : View) (H5 : Heap) (w : Value), StIs (fun Z => [Z 0, .v (.slice A2 q.length c2), Z 2,Z 3,Z 4,Z 5, .v (.slice A3 r.length c3), .v w, Z 8,Z 9,Z 10,Z 11,Z 12,Z 13,Z 14,Z 15,Z 16,Z 17,Z 18,Z 19,Z 20,Z 21,Z 22,Z 23,Z 24,Z 25,Z 26,Z 27,Z 28,Z 29,Z 30,Z 31,Z 32,Z 33,Z 34,Z 35,Z 36,Z 37,Z 38,Z 39,Z 40,Z 41,Z 42,Z 43,Z 44,Z 45,Z 46,Z 47,Z 48,Z 49,Z 50,Z 51,Z 52,Z 53,Z 54,Z 55,Z 56,Z 57,Z 58,Z 59,Z 60,Z 61,Z 62,Z 63,Z 64,Z 65,Z 66,Z 67,Z 68,Z 69,Z 70,Z 71,Z 72,Z 73,Z 74,Z 75,Z 76,Z 77]) [] H5 V3 s ∧ V2.le V3 ∧ OutIs H5 V3 w out0) ?_ ?_
 ·refine Gx.a (by kernel_rfl) fun K hK => ?_
  by_cases hle : q.length ≤ r.length
  ·have b1 : decide (q.length ≤ r.length) = true := decide_eq_true hle
   simp only [XA, XB, len_geq, b1]
   refine hK _ ?_
   refine Gx.t rfl ?_
   obtain ⟨N, hN⟩ : ∃ N, N = r.length - q.length + 1 := ⟨_, rfl⟩
   have w1 := i64_sub r.length q.length (by omega) (by omega)
   have w2 : IntKind.i64.wrap (((r.length - q.length : Nat) : Int) + 1) = (N : Int) := by rw [i64_succ _ (by omega), hN]
   refine Gx.a (by kernel_rfl) fun K hK => ?_
   simp only [XA, XB, w1, w2]
   refine mk_go rfl rfl elemT_22 zeroT_48 (by omega) (by omega) (by omega) (by omega) rfl (by omega) fun g hg1 hg2 => ?_
   simp only [XA]
   refine hK _ ?_
   refine Gx.a (by kernel_rfl) fun K hK => ?_
   simp only [XA, XB]
   refine hK _ ?_
   clear hK
   refine XWP.block ?_
   refine XWP.loop (fun n s => ∃ (k : Nat) (V3 : View) (H5 : Heap) (cells : List Value), StIs (fun Z => [Z 0, .v (.slice A2 q.length c2), Z 2,Z 3,Z 4,Z 5, .v (.slice A3 r.length c3), .v (.slice (some ⟨g, 0, none⟩) N N), Z 8,Z 9,Z 10,Z 11,Z 12,Z 13,Z 14,Z 15,Z 16,Z 17,Z 18,Z 19,Z 20,Z 21,Z 22,Z 23,Z 24,Z 25,Z 26, .v (.int .i64 (N : Int)), .v (.int .i64 (k : Int)), Z 29,Z 30,Z 31,Z 32,Z 33,Z 34,Z 35,Z 36,Z 37,Z 38,Z 39,Z 40,Z 41,Z 42,Z 43,Z 44,Z 45,Z 46,Z 47,Z 48,Z 49,Z 50,Z 51,Z 52,Z 53,Z 54,Z 55,Z 56,Z 57,Z 58,Z 59,Z 60,Z 61,Z 62,Z 63,Z 64,Z 65,Z 66,Z 67,Z 68,Z 69,Z 70,Z 71,Z 72,Z 73,Z 74,Z 75,Z 76,Z 77]) [] H5 V3 s ∧ V2.le V3 ∧ n + k = N ∧ H5 g = some ⟨48, cells, N * 3⟩ ∧ RowAt (optE ratE) V3 cells (part N (fun _ => 0) k)) N ⟨0, V2, _, _, StIs.of (by exact rfl), View.le_refl _, rfl, by rw [upd_at], by rw [part_zero]; exact RowAt.new _ N⟩ ?_
   rintro n s ⟨k, V3, H5, cells, hs, hV3, hn, hH, hrow⟩
   obtain ⟨z, rfl⟩ := hs.out
   try dsimp only
   by_cases hk : k < N
   ·have b2 : decide ((k : Int) < (N : Int)) = true := decide_eq_true (by omega)
    refine Gx.a (by kernel_rfl) fun K hK => ?_
    simp only [XA, XB, b2]
    refine hK _ ?_
    refine XWP.seq (Gx.t rfl ?_)
    refine XWP.skip ?_
    refine XWP.seq ?_
    refine XWP.block ?_
    refine Gx.a (by kernel_rfl) fun K hK => ?_
    simp only [XA]
    refine hK _ ?_
    refine Gx.c (by kernel_rfl) fun K hK => ?_
    simp only [XA]
    refine call_go (by kernel_rfl) rfl (qzero_c _) fun v4 V4 hV4 h4 => ?_
    obtain ⟨x5, y5, rfl, o5, o6⟩ := h4.form
    have hrow := hrow.mono (optE_ok ratE_ok) hV4
    have hl4 := hrow.1
    rw [part_len] at hl4
    simp only [XA, XB]
    refine ⟨by omega, by omega, ?_⟩
    refine st_rowA shapeT_48 (all3 rfl o5 o6) rfl hH (by dsimp only; omega) ?_
    simp only [XA]
    refine hK _ ?_
    have hrow2 := hrow.set k (by rw [part_len]; omega) (x := some 0) (show isOne (.bool (ng 0)) = true from rfl) o5 o6 h4
    have e := part_step N (fun _ => 0) k
    rw [e] at hrow2
    refine Gx.c (by kernel_rfl) fun K hK => ?_
    simp only [XA, XB, i64_succ k (by omega)]
    exact hK _ ⟨n - 1, by omega, k + 1, V4, _, _, StIs.of (by exact rfl), View.le_trans hV3 hV4, by omega, upd_at _ _ _, hrow2⟩
   ·have b2 : decide ((k : Int) < (N : Int)) = false := decide_eq_false (by omega)
    obtain rfl : k = N := by omega
    refine Gx.a (by kernel_rfl) fun K hK => ?_
    simp only [XA, XB, b2]
    refine hK _ ?_
    refine XWP.seq (Gx.f rfl ?_)
    refine XWP.exit ?_
    have eo : mk k (fun _ => 0) = out0 := by
     rw [ho0, if_pos hle, ← hN]
     unfold mk
     exact List.ext_getElem (by simp) fun i h1 h2 => by simp
    rw [part_all, eo] at hrow
    have el : out0.length = k := by rw [← eo, mk_len]
    refine fun f => ⟨V3, H5, _, StIs.of (by exact rfl), hV3, .inr ⟨g, cells, by rw [el], by rw [el]; exact hH, hrow.all⟩⟩
  ·have b1 : decide (q.length ≤ r.length) = false := decide_eq_false hle
   simp only [XA, XB, len_geq, b1]
   refine hK _ ?_
   refine Gx.f rfl ?_
   refine XWP.skip ?_
   exact fun f => ⟨V2, _, _, StIs.of (by exact rfl), View.le_refl _, .inl ⟨rfl, by rw [ho0, if_neg hle]⟩⟩
 rintro s ⟨V3, H3, w0, hs, hV3, hout⟩
 obtain ⟨z, rfl⟩ := hs.out
 try dsimp only
 have h2 := h2.up hV3
 have hu2 := hu.up (View.le_trans hV2 hV3)
 have hol : out0.length = if q.length ≤ r.length then r.length - q.length + 1 else 0 := by rw [ho0]; split <;> simp
 obtain ⟨fin, hfin⟩ : ∃ fin, fin = divF q (r.length + 1) r out0 := ⟨_, rfl⟩
 rw [← hfin]
 have hpow : 2 ^ (r.length - q.length + 1) * (A + 2 * B + 2) ≤ 2 ^ (p.length - q.length + 1) * (A + 2 * B + 2) := Nat.mul_le_mul_right _ (two_mono (by omega))
 refine XWP.cutD 0 (fun s => ∃ (V4 : View) (H5 : Heap) (wr wo : Value), StIs (fun Z => [Z 0,Z 1,Z 2,Z 3,Z 4,Z 5, .v wr, .v wo, Z 8,Z 9,Z 10,Z 11,Z 12,Z 13,Z 14,Z 15,Z 16,Z 17,Z 18,Z 19,Z 20,Z 21,Z 22,Z 23,Z 24,Z 25,Z 26,Z 27,Z 28,Z 29,Z 30,Z 31,Z 32,Z 33,Z 34,Z 35,Z 36,Z 37,Z 38,Z 39,Z 40,Z 41,Z 42,Z 43,Z 44,Z 45,Z 46,Z 47,Z 48,Z 49,Z 50,Z 51,Z 52,Z 53,Z 54,Z 55,Z 56,Z 57,Z 58,Z 59,Z 60,Z 61,Z 62,Z 63,Z 64,Z 65,Z 66,Z 67,Z 68,Z 69,Z 70,Z 71,Z 72,Z 73,Z 74,Z 75,Z 76,Z 77]) [] H5 V4 s ∧ Rats V4 wr fin.2 ∧ OutIs H5 V4 wo fin.1 ∧ CB (2 ^ (p.length - q.length + 1) * (A + 2 * B + 2)) fin.2 ∧ fin.1.length ≤ 100001) ?_ ?_
 ·refine XWP.block ?_
  refine XWP.loopD 0 (fun n s => ∃ (V4 : View) (H5 : Heap) (wr wo : Value) (rest out : List Rat) (b : Nat), StIs (fun Z => [Z 0, .v (.slice A2 q.length c2), Z 2,Z 3,Z 4,Z 5, .v wr, .v wo, Z 8,Z 9,Z 10,Z 11,Z 12,Z 13,Z 14,Z 15,Z 16,Z 17,Z 18,Z 19,Z 20,Z 21,Z 22,Z 23,Z 24,Z 25,Z 26,Z 27,Z 28,Z 29,Z 30,Z 31,Z 32,Z 33,Z 34,Z 35,Z 36,Z 37,Z 38,Z 39,Z 40,Z 41,Z 42,Z 43,Z 44,Z 45,Z 46,Z 47,Z 48,Z 49,Z 50,Z 51,Z 52,Z 53,Z 54,Z 55,Z 56,Z 57,Z 58,Z 59,Z 60,Z 61,Z 62,Z 63,Z 64,Z 65,Z 66,Z 67,Z 68,Z 69,Z 70,Z 71,Z 72,Z 73,Z 74,Z 75,Z 76,Z 77]) [] H5 V4 s ∧ V3.le V4 ∧ n = rest.length ∧ Rats V4 wr rest ∧ OutIs H5 V4 wo out ∧ out.length = out0.length ∧ rest.length ≤ r.length ∧ CB b rest ∧ b + 2 * B + 1 ≤ 2 ^ (r.length - rest.length) * (A + 2 * B + 2) ∧ b + 2 * B + 1 ≤ 2 ^ (r.length - q.length + 1) * (A + 2 * B + 2) ∧ divF q (rest.length + 1) rest out = fin) r.length ⟨V3, H3, _, w0, r, out0, A + 1, StIs.of (by exact rfl), View.le_refl _, rfl, h2, hout, rfl, Nat.le_refl _, hr0, by rw [Nat.sub_self]; omega, by have := Nat.le_mul_of_pos_left (A + 2 * B + 2) (two_pos (r.length - q.length + 1)); omega, hfin.symm⟩ ?_
  rintro n s ⟨V4, H5, wr, wo, rest, out, b, hs, hV4, hn, hwr, hwo, hlo, hlr, hb, hb1, hb2, hd⟩
  obtain ⟨z, rfl⟩ := hs.out
  try dsimp only
  obtain ⟨A5, c5, rfl, hc5, hm5⟩ := hwr.form
  refine XWP.seq ?_
  by_cases hle : q.length ≤ rest.length
  ·have b1 : decide (q.length ≤ rest.length) = true := decide_eq_true hle
   refine Gx.a (by kernel_rfl) fun K hK => ?_
   simp only [XA, XB, len_geq, b1]
   refine hK _ ?_
   refine Gx.t rfl ?_
   refine XWP.skip ?_
   refine XWP.block ?_
   have hu4 := hu2.up hV4
   have hlr0 : q.length ≤ r.length := by omega
   rw [if_pos hlr0] at hol
   have hfb : 2 * (b + 2 * B + 1) ≤ 2 ^ (r.length - rest.length + 1) * (A + 2 * B + 2) := by rw [Nat.pow_succ, Nat.mul_comm (2 ^ (r.length - rest.length)), Nat.mul_assoc]; omega
   have hfc : 2 ^ (r.length - rest.length + 1) * (A + 2 * B + 2) ≤ 2 ^ (r.length - q.length + 1) * (A + 2 * B + 2) := Nat.mul_le_mul_right _ (two_mono (by omega))
   have hQx : QB (b + B) (topQ rest q) := (hb.at _).div (hq.at _)
   refine XWP.cut (fun s => ∃ (V5 : View) (x y : Value), StIs (fun Z => [Z 0, .v (.slice A2 q.length c2), Z 2,Z 3,Z 4,Z 5, .v (.slice A5 rest.length c5), .v wo, Z 8, .p 0 0, Z 10,Z 11,Z 12,Z 13,Z 14,Z 15,Z 16,Z 17,Z 18,Z 19,Z 20,Z 21,Z 22,Z 23,Z 24,Z 25,Z 26,Z 27,Z 28,Z 29,Z 30,Z 31,Z 32,Z 33,Z 34,Z 35,Z 36,Z 37,Z 38,Z 39,Z 40,Z 41,Z 42,Z 43,Z 44,Z 45,Z 46,Z 47,Z 48,Z 49,Z 50,Z 51,Z 52,Z 53,Z 54,Z 55,Z 56,Z 57,Z 58,Z 59,Z 60,Z 61,Z 62,Z 63,Z 64,Z 65,Z 66,Z 67,Z 68,Z 69,Z 70,Z 71,Z 72,Z 73,Z 74,Z 75,Z 76,Z 77]) [[.bool (ng (topQ rest q)), x, y]] H5 V5 s ∧ V4.le V5 ∧ RatC V5 (.agg #[.bool (ng (topQ rest q)), x, y]) (topQ rest q) ∧ isOne x = true ∧ isOne y = true) ?_ ?_
   ·(refine XWP.drwT1 (.lin [0, 1, 2, 3, 4, 5, 6, 7, 8, 9, 10, 11] (.two (.lin [12, 13, 14, 15, 16, 17, 18] .nil) (.lin [16, 12, 13, 14, 15, 17, 18] .nil))) (by kernel_rfl) (by kernel_rfl) (by kernel_rfl) fun K hK => ?_)
    obtain ⟨b5, o5, rfl⟩ := SlAt.addr hwr (by omega)
    obtain ⟨b6, o6, rfl⟩ := SlAt.addr hu4 (by omega)
    obtain ⟨m3, n3, d3, hx3, ⟨p1, p2, p3⟩, hld3⟩ := Rats.get hwr (rest.length - 1) (by omega)
    obtain ⟨m4, n4, d4, hx4, ⟨r1, r2, r3⟩, hld4⟩ := Rats.get hu4 (q.length - 1) (by omega)
    have w1 := i64_pred rest.length (by omega) (by omega)
    have w2 := i64_pred q.length (by omega) (by omega)
    simp only [XA, XB, w1]
    refine ⟨by omega, by omega, ld_mem (hld3 _) ?_⟩
    simp only [XA, XB, w2]
    refine ⟨by omega, by omega, ld_mem (hld4 _) ?_⟩
    simp only [XA, XB]
    refine And.intro ?_ ?_
    all_goals refine call_go (by kernel_rfl) rfl (qdiv_c _ _ _ _ _ hx3 hx4 (QF.of (hb.at _) (by omega)) (QF.of (hq.at _) (by omega))) fun v6 V6 hV6 h6 => ?_
    all_goals obtain ⟨x7, rfl, hx7⟩ := h6.2 hl
    all_goals obtain ⟨x, y, rfl, ox, oy⟩ := hx7.form
    all_goals simp only [XA, XB]
    all_goals refine st_rat rfl rfl rfl ox oy ?_
    all_goals simp only [XA]
    all_goals exact hK _ ⟨V6, x, y, StIs.of (by exact rfl), hV6, hx7, ox, oy⟩
   rintro s ⟨V5, x, y, hs, hV5, hx, ox, oy⟩
   obtain ⟨z, rfl⟩ := hs.out
   try dsimp only
   have hwo := hwo.up hV5
   have hwr := hwr.up hV5
   have hu5 := hu4.up hV5
   have w3 := i64_sub rest.length q.length (by omega) (by omega)
   rcases hwo with ⟨_, e⟩ | ⟨g, cells, rfl, hH, hrow⟩
   ·rw [e] at hlo; simp at hlo; omega
   have hcl := hrow.1
   refine Gx.a (by kernel_rfl) fun K hK => ?_
   simp only [XA, XB, Nat.reduceAdd, Nat.reduceLeDiff, ↓reduceIte, w3]
   refine ⟨by omega, by omega, ?_⟩
   refine st_rowA shapeT_48 (all3 rfl ox oy) rfl hH (by dsimp only; omega) ?_
   simp only [XA]
   refine hK _ ?_
   have hrow2 := hrow.set (rest.length - q.length) (by omega) (x := topQ rest q) (show isOne (.bool (ng (topQ rest q))) = true from rfl) ox oy hx
   refine Gx.c (by kernel_rfl) fun K hK => ?_
   simp only [XA, XB, Nat.reduceAdd, Nat.reduceLeDiff, ↓reduceIte]
   refine call_go (by kernel_rfl) rfl (qneg_c _ _ _ hx (QF.of hQx (by omega))) fun v6 V6 hV6 h6 => ?_
   simp only [XA, XB, w3]
   refine call_go (by kernel_rfl) rfl (cadd_c _ _ _ _ _ _ _ (rest.length - q.length) _ _ _ (hwr.up hV6) (hu5.up hV6) h6 hb.mem hq.mem hQx.neg (by omega) (by omega) (by omega)) fun v7 V7 hV7 h7 => ?_
   simp only [XA]
   have hlt := div_less h0 hl hle
   have hCB := CB.padd hb hq hQx.neg (rest.length - q.length)
   refine hK _ ⟨_, by rw [hn]; exact hlt, fun f => ⟨V7, _, v7, _, _, out.set (rest.length - q.length) (topQ rest q), _, StIs.of (by exact rfl), View.le_trans hV4 (View.le_trans hV5 (View.le_trans hV6 hV7)), rfl, h7, .inr ⟨g, _, by rw [List.length_set], by rw [List.length_set]; exact upd_at _ _ _, (hrow2.mono ratE_ok hV6).mono ratE_ok hV7⟩, by rw [List.length_set]; exact hlo, by omega, hCB, ?_, ?_, by rw [← divF_step h0 hl hle]; exact hd⟩⟩
   ·have : 2 ^ (r.length - rest.length + 1) * (A + 2 * B + 2) ≤ 2 ^ (r.length - (pAdd rest q (-topQ rest q) (rest.length - q.length)).length) * (A + 2 * B + 2) := Nat.mul_le_mul_right _ (two_mono (by omega))
    omega
   ·omega
  ·have b1 : decide (q.length ≤ rest.length) = false := decide_eq_false hle
   refine Gx.a (by kernel_rfl) fun K hK => ?_
   simp only [XA, XB, len_geq, b1]
   refine hK _ ?_
   refine Gx.f rfl ?_
   refine XWP.exit ?_
   rw [divF_end hle] at hd
   subst hd
   refine fun f => ⟨V4, H5, _, _, StIs.of (by exact rfl), hwr, hwo, hb.mono (by omega), ?_⟩
   show out.length ≤ _
   rw [hlo, hol]; split <;> omega
 rintro s ⟨V4, H5, wr, wo, hs, hwr, hwo, hCB, hfl⟩
 obtain ⟨z, rfl⟩ := hs.out
 try dsimp only
 refine Gx.a (by kernel_rfl) fun K hK => ?_
 simp only [XA]
 rcases hwo with ⟨rfl, e⟩ | ⟨g, cells, rfl, hH, hrow⟩
 ·refine call_go (by kernel_rfl) rfl (ctrim_c _ _ [] (SlAt.nil _)) fun v6 V6 hV6 h6 => ?_
  simp only [XA]
  refine hK _ (XWP.ret ?_)
  try simp only [thenX_ret, inBlockX_ret]
  refine ret_go _ rfl ?_
  rw [e]
  exact ⟨_, _, rfl, h6, hwr.up hV6, hCB⟩
 ·refine call_pub g _ hH (fun o ho hle' => ?_) (by kernel_rfl) rfl
  refine call_go (by kernel_rfl) rfl (ctrim_c _ _ _ (hrow.pub ratE_ok ho hle' rfl (Nat.le_refl _) (by omega))) fun v6 V6 hV6 h6 => ?_
  have hwr := (hwr.up hle').up hV6
  simp only [XA]
  refine hK _ (XWP.ret ?_)
  try simp only [thenX_ret, inBlockX_ret]
  refine ret_go _ rfl ?_
  exact ⟨_, _, rfl, h6, hwr, hCB⟩
theorem rightP_parts {P : List Raw} (h : rightP P = true) : okR P = true ∧ PolQ (qs P) ∧ P.length ≤ 1000 := by
 unfold rightP at h
 rw [Bool.and_eq_true, Bool.and_eq_true, decide_eq_true_eq] at h
 exact ⟨h.1.2, (polB_iff _).1 h.2, h.1.1⟩
def bad2 (P Q : List Raw) : Bool := !(rightP P) || !(rightP Q)
def comFit (a b M : Nat) : Prop := gb M b (max a b + b) ≤ 17592186044416
theorem cCommon_c (V : View) (v u : Value) (P Q : List Raw) (hv : Raws V v P) (hu : Raws V u Q) (fP : fitR P) (fQ : fitR Q) (lP : P.length ≤ 500) (lQ : Q.length ≤ 500) (M : Nat) (hAB : bad2 P Q = false → CB M (qs P) ∧ CB M (qs Q)) (hfit : comFit P.length Q.length M) (hM : 2 * (M + 1) ≤ 17592186044416) :
  Spec Tryz.prog 77 [v, u] V fun v' V' => (bad2 P Q = true → v' = .tuple #[.slice none 0 0, .int .i64 1]) ∧ (bad2 P Q = false → P.length = 0 ∧ Q.length = 0 → v' = .tuple #[.slice none 0 0, .int .i64 31]) ∧ (bad2 P Q = false → ¬ (P.length = 0 ∧ Q.length = 0) → ∃ w, v' = .tuple #[w, .int .i64 0] ∧ Rats V' w (comP (qs P) (qs Q)) ∧ CB (gb M Q.length (max P.length Q.length + Q.length)) (comP (qs P) (qs Q))) := by
 obtain ⟨A1, c1, rfl, hc1, hm1⟩ := hv.form
 obtain ⟨A2, c2, rfl, hc2, hm2⟩ := hu.form
 refine (Spec.enter Tryz.func77 rfl fun Γ => ?_)
 simp only [Tryz.ntmps77, List.map_cons, List.map_nil, List.length_cons, List.length_nil, Nat.reduceAdd, Nat.reduceSub, List.replicate_succ, List.replicate_zero, List.cons_append, List.nil_append]
 refine Gx.a (by kernel_rfl) fun K hK => ?_
 simp only [XA]
 refine hK _ ?_
 refine XWP.seq ?_
 refine Gx.a (by kernel_rfl) fun K hK => ?_
 simp only [XA]
 refine call_go (by kernel_rfl) rfl (cright_c _ _ _ hv fP (by omega)) fun v1 V1 hV1 h1 => ?_
 subst h1
 cases e1 : rightP P
 ·simp only [XA, gateX, ↓reduceIte]
  refine hK _ ?_
  refine Gx.t rfl ?_
  refine Gx.a (by kernel_rfl) fun K hK => ?_
  simp only [XA]
  refine hK _ (XWP.ret ?_)
  try simp only [thenX_ret, inBlockX_ret]
  refine ret_go _ rfl ?_
  have : bad2 P Q = true := by unfold bad2; rw [e1]; rfl
  exact ⟨fun _ => rfl, fun h => (by rw [this] at h; cases h), fun h => by rw [this] at h; cases h⟩
 simp only [XA, gateX, ↓reduceIte, beq_self_eq_true]
 refine call_go (by kernel_rfl) rfl (cright_c _ _ _ (hu.up hV1) fQ (by omega)) fun v2 V2 hV2 h2 => ?_
 subst h2
 cases e2 : rightP Q
 ·simp only [XA, gateX, ↓reduceIte, beq_self_eq_true]
  refine hK _ ?_
  refine Gx.t rfl ?_
  refine Gx.a (by kernel_rfl) fun K hK => ?_
  simp only [XA]
  refine hK _ (XWP.ret ?_)
  try simp only [thenX_ret, inBlockX_ret]
  refine ret_go _ rfl ?_
  have : bad2 P Q = true := by unfold bad2; rw [e1, e2]; rfl
  exact ⟨fun _ => rfl, fun h => (by rw [this] at h; cases h), fun h => by rw [this] at h; cases h⟩
 have hb : bad2 P Q = false := by unfold bad2; rw [e1, e2]; rfl
 simp only [XA, gateX, ↓reduceIte, beq_self_eq_true]
 refine hK _ ?_
 refine Gx.f rfl ?_
 refine XWP.skip ?_
 obtain ⟨k1, k2, k3⟩ := rightP_parts e1
 obtain ⟨k4, k5, k6⟩ := rightP_parts e2
 have hp := (Raws.rats hv k1).up (View.le_trans hV1 hV2)
 have hq := (Raws.rats hu k4).up (View.le_trans hV1 hV2)
 obtain ⟨f1, f2⟩ := hAB hb
 refine XWP.cut (fun s => StIs (fun Z => [.v (.slice A1 P.length c1), .v (.slice A2 Q.length c2), Z 2,Z 3,Z 4,Z 5,Z 6,Z 7,Z 8,Z 9,Z 10,Z 11,Z 12,Z 13,Z 14,Z 15,Z 16,Z 17,Z 18,Z 19,Z 20,Z 21,Z 22,Z 23,Z 24,Z 25,Z 26,Z 27,Z 28,Z 29,Z 30,Z 31,Z 32,Z 33,Z 34,Z 35,Z 36,Z 37]) [] (fun _ => none) V2 s ∧ ¬ (P.length = 0 ∧ Q.length = 0)) ?_ ?_
 ·refine Gx.a (by kernel_rfl) fun K hK => ?_
  by_cases n1 : P.length = 0
  ·have b1 : decide ((P.length : Int) = 0) = true := decide_eq_true (by omega)
   by_cases n2 : Q.length = 0
   ·have b2 : decide ((Q.length : Int) = 0) = true := decide_eq_true (by omega)
    simp only [XA, XB, gateX, ↓reduceIte, beq_self_eq_true, b1, b2]
    refine hK _ ?_
    refine Gx.t rfl ?_
    refine Gx.a (by kernel_rfl) fun K hK => ?_
    simp only [XA]
    refine hK _ (XWP.ret ?_)
    try simp only [thenX_ret, inBlockX_ret]
    refine ret_go _ rfl ?_
    exact ⟨fun h => (by rw [hb] at h; cases h), fun _ _ => rfl, fun _ h => absurd ⟨n1, n2⟩ h⟩
   ·have b2 : decide ((Q.length : Int) = 0) = false := decide_eq_false (by omega)
    simp only [XA, XB, gateX, ↓reduceIte, beq_self_eq_true, b1, b2]
    refine hK _ ?_
    refine Gx.f rfl ?_
    refine XWP.skip ?_
    exact ⟨StIs.of (by exact rfl), fun h => n2 h.2⟩
  ·have b1 : decide ((P.length : Int) = 0) = false := decide_eq_false (by omega)
   simp only [XA, XB, gateX, ↓reduceIte, b1]
   refine hK _ ?_
   refine Gx.f rfl ?_
   refine XWP.skip ?_
   exact ⟨StIs.of (by exact rfl), fun h => n1 h.1⟩
 rintro s ⟨hs, hne⟩
 obtain ⟨z, rfl⟩ := hs.out
 try dsimp only
 have hlP : (qs P).length = P.length := qs_len P
 have hlQ : (qs Q).length = Q.length := qs_len Q
 generalize qs P = p0 at *
 generalize qs Q = q0 at *
 generalize hmx : max P.length Q.length = mx at *
 refine XWP.cut (fun s => ∃ (V4 : View) (w : Value) (N r s' : Nat), StIs (fun Z => [.v w, Z 1,Z 2,Z 3,Z 4,Z 5,Z 6,Z 7,Z 8,Z 9,Z 10,Z 11,Z 12,Z 13,Z 14,Z 15,Z 16,Z 17,Z 18,Z 19,Z 20,Z 21,Z 22,Z 23,Z 24,Z 25,Z 26,Z 27,Z 28,Z 29,Z 30,Z 31,Z 32,Z 33,Z 34,Z 35,Z 36,Z 37]) [] (fun _ => none) V4 s ∧ Rats V4 w (comF (q0.length + 1) p0 q0) ∧ CB N (comF (q0.length + 1) p0 q0) ∧ PolQ (comF (q0.length + 1) p0 q0) ∧ 0 < (comF (q0.length + 1) p0 q0).length ∧ (comF (q0.length + 1) p0 q0).length ≤ 1000 ∧ 2 * N + 2 ≤ gb M Q.length (mx + Q.length)) ?_ ?_
 ·refine XWP.block ?_
  refine XWP.loop (fun n s => ∃ (V4 : View) (wp wq : Value) (p q : List Rat) (N r s' : Nat), StIs (fun Z => [.v wp, .v wq, Z 2,Z 3,Z 4,Z 5,Z 6,Z 7,Z 8,Z 9,Z 10,Z 11,Z 12,Z 13,Z 14,Z 15,Z 16,Z 17,Z 18,Z 19,Z 20,Z 21,Z 22,Z 23,Z 24,Z 25,Z 26,Z 27,Z 28,Z 29,Z 30,Z 31,Z 32,Z 33,Z 34,Z 35,Z 36,Z 37]) [] (fun _ => none) V4 s ∧ n = q.length ∧ Rats V4 wp p ∧ Rats V4 wq q ∧ PolQ p ∧ PolQ q ∧ ¬ (p.length = 0 ∧ q.length = 0) ∧ CB N p ∧ CB N q ∧ N + 1 ≤ gb M r s' ∧ r + q.length ≤ Q.length ∧ s' + p.length ≤ mx + r ∧ (r = 0 ∧ s' = 0 ∧ p.length = P.length ∧ q.length = Q.length ∨ q.length < p.length) ∧ p.length ≤ 1000 ∧ comF (q.length + 1) p q = comF (q0.length + 1) p0 q0) q0.length ⟨V2, _, _, p0, q0, M, 0, 0, StIs.of (by exact rfl), rfl, hp, hq, k2, k5, by rw [hlP, hlQ]; exact hne, f1, f2, by rw [gb_zero]; omega, by omega, by omega, .inl ⟨rfl, rfl, hlP, hlQ⟩, by omega, rfl⟩ ?_
  clear hs z
  rintro n s ⟨V4, wp, wq, p, q, N, r, s', hs, hn, hwp, hwq, hpp, hqq, hne', hNp, hNq, hgb, hr, hs', hor, hpl, hcom⟩
  obtain ⟨z, rfl⟩ := hs.out
  try dsimp only
  obtain ⟨A5, c5, rfl, _, _⟩ := hwq.form
  refine XWP.seq ?_
  by_cases n2 : q.length = 0
  ·have b2 : decide ((0 : Int) < (q.length : Int)) = false := decide_eq_false (by omega)
   refine Gx.a (by kernel_rfl) fun K hK => ?_
   simp only [XA, XB, b2]
   refine hK _ ?_
   refine Gx.f rfl ?_
   refine XWP.exit ?_
   rw [comF_end (by omega)] at hcom
   subst hcom
   refine ⟨V4, wp, N, r, s', StIs.of (by exact rfl), hwp, hNp, hpp, by omega, hpl, ?_⟩
   rcases hor with ⟨h1, h2, h3, h4⟩ | h
   ·subst h1; subst h2
    have h5 : gb M 0 (0 + 1) ≤ gb M Q.length (mx + Q.length) := gb_mono (by omega) (by omega)
    have h6 : gb M 0 (0 + 1) = 2 * (M + 1) := by simp [gb]
    rw [gb_zero] at hgb; omega
   ·have h1 : gb M r (s' + 1) ≤ gb M Q.length (mx + Q.length) := gb_mono (by omega) (by omega)
    have h2 : gb M r (s' + 1) = 2 * gb M r s' := by
     unfold gb
     rw [Nat.pow_succ, Nat.mul_comm (2 ^ s') 2, Nat.mul_assoc 2, Nat.mul_left_comm]
    unfold comFit at hfit
    rw [hmx] at hfit
    omega
  ·have b2 : decide ((0 : Int) < (q.length : Int)) = true := decide_eq_true (by omega)
   refine Gx.a (by kernel_rfl) fun K hK => ?_
   simp only [XA, XB, b2]
   refine hK _ ?_
   refine Gx.t rfl ?_
   refine XWP.skip ?_
   refine XWP.block ?_
   have hk := gb_step (k := p.length - q.length + 1) hgb
   have hgm : gb M (r + 1) (s' + (p.length - q.length + 1)) ≤ gb M Q.length (mx + Q.length) := gb_mono (by omega) (by
    rcases hor with ⟨h1, h2, h3, h4⟩ | h <;> omega)
   unfold comFit at hfit
   rw [hmx] at hfit
   have hA : 5 * N + 4 ≤ 2 ^ (p.length - q.length + 1) * (5 * N + 4) := Nat.le_mul_of_pos_left _ (two_pos _)
   have hsl := scaledP_len hqq
   have hsc := scaledP_CB hNq
   have e5 : N + 2 * (2 * N + 1) + 2 = 5 * N + 4 := by omega
   refine Gx.a (by kernel_rfl) fun K hK => ?_
   simp only [XA]
   refine call_go (by kernel_rfl) rfl (cscaled_c _ _ q N hwq hNq (by omega) (hqq (by omega)) (by omega) (by omega)) fun v5 V5 hV5 h5 => ?_
   simp only [XA]
   refine call_go (by kernel_rfl) rfl (cdiv_c _ _ _ p (scaledP q) N (2 * N + 1) (hwp.up hV5) h5 hNp hsc (by omega) (by rw [scaledP_last hqq (by omega)]; exact one_ne) (by rw [hsl, e5]; omega) (by omega) (by omega)) fun v6 V6 hV6 h6 => ?_
   obtain ⟨wd, wr, rfl, h7, h8, h9⟩ := h6
   rw [hsl, e5] at h9
   simp only [XA]
   refine hK _ ?_
   obtain ⟨hl1, hl2⟩ := com_less (p := p) hqq (by omega)
   refine Gx.c (by kernel_rfl) fun K hK => ?_
   simp only [XA]
   refine hK _ ⟨_, by rw [hn]; exact hl1, V6, _, _, q, _, 2 ^ (p.length - q.length + 1) * (5 * N + 4), r + 1, s' + (p.length - q.length + 1), StIs.of (by exact rfl), rfl, (hwq.up hV5).up hV6, h8, hqq, hl2, fun h => by omega, hNq.mono (by omega), h9, hk, by omega, ?_, .inr hl1, by omega, ?_⟩
   ·rcases hor with ⟨h1, h2, h3, h4⟩ | h <;> omega
   ·rw [← comF_step hqq (by omega)]; exact hcom
 rintro s ⟨V4, w, N, r, s', hs, hw, hN, hpol, hpos, hl1000, hN2⟩
 obtain ⟨z, rfl⟩ := hs.out
 try dsimp only
 have hN3 : 2 * N + 2 ≤ 17592186044416 := by unfold comFit at hfit; rw [hmx] at hfit; omega
 refine Gx.a (by kernel_rfl) fun K hK => ?_
 simp only [XA]
 refine call_go (by kernel_rfl) rfl (cscaled_c _ _ _ N hw hN hpos (hpol hpos) hN3 (by omega)) fun v5 V5 hV5 h5 => ?_
 simp only [XA]
 refine hK _ (XWP.ret ?_)
 try simp only [thenX_ret, inBlockX_ret]
 refine ret_go _ rfl ?_
 exact ⟨fun h => (by rw [hb] at h; cases h), fun _ h => absurd h hne, fun _ _ => ⟨_, rfl, h5, (scaledP_CB hN).mono (by omega)⟩⟩

end Go.Proofs.YthoboehbadmlmaaGreat
end
section
namespace Go.Proofs.YthoboehbadmlmaaGreat
def partF (q : List Rat) : Nat → List Rat → List Rat → List Rat × List Rat
 | 0, quo, rest => (quo, rest)
 | n + 1, quo, rest => if q.length ≤ rest.length then partF q n (pAdd quo [1] (topQ rest q) (rest.length - q.length)) (pAdd rest q (-topQ rest q) (rest.length - q.length)) else (quo, rest)
def partP (p q : List Rat) : List Rat × List Rat := partF q ((trimQ p).length + 1) [] (trimQ p)
theorem partF_fuel {q : List Rat} (hq : 0 < q.length) (hl : cf q (q.length - 1) ≠ 0) : ∀ (n m : Nat) (quo rest : List Rat), rest.length < n → rest.length < m → partF q n quo rest = partF q m quo rest := by
 intro n
 induction n with
 | zero => intro m quo rest h; omega
 | succ n ih =>
  intro m quo rest h1 h2
  obtain ⟨m, rfl⟩ : ∃ k, m = k + 1 := ⟨m - 1, by omega⟩
  rw [partF, partF]
  split
  ·rename_i h
   have := div_less hq hl h
   exact ih m _ _ (by omega) (by omega)
  ·rfl
theorem partF_rest {q : List Rat} (hq : 0 < q.length) (hl : cf q (q.length - 1) ≠ 0) : ∀ (n : Nat) (quo rest : List Rat), rest.length < n → PolQ rest → (partF q n quo rest).2.length < q.length ∧ PolQ (partF q n quo rest).2 := by
 intro n
 induction n with
 | zero => intro quo rest h; omega
 | succ n ih =>
  intro quo rest h hp
  rw [partF]
  split
  ·rename_i hle
   have := div_less hq hl hle
   exact ih _ _ (by omega) (pAdd_pol _ _ _ _)
  ·rename_i hle
   exact ⟨Nat.lt_of_not_le hle, hp⟩
theorem partP_rest {p q : List Rat} (hq : PolQ q) (h0 : 0 < q.length) : (partP p q).2.length < q.length ∧ PolQ (partP p q).2 :=
 partF_rest h0 (hq h0) _ _ _ (by omega) (trimQ_pol _)
def comR : Nat → List Rat → List Rat → List Rat
 | 0, p, _ => p
 | n + 1, p, q => if 0 < q.length then comR n q (partP p q).2 else p
def comRP (p q : List Rat) : List Rat := scaledP (comR (q.length + 1) p q)
theorem mk_succ (n : Nat) (f : Nat → Rat) : mk (n + 1) f = mk n f ++ [f n] := by unfold mk; rw [List.range_succ, List.map_append]; rfl
end Go.Proofs.YthoboehbadmlmaaGreat
end
section
namespace Go.Proofs.YthoboehbadmlmaaGreat
open Go Go.RowKit
attribute [local irreducible] XWP Spec SpecO XPub XCall seqX clX apX stX ldX iaX slX
theorem src3 {H : Heap} {V : View} {b e tot : Nat} {m n d : Value} (hr : H b = some ⟨e, [m, n, d], tot⟩) (h1 : isOne m = true) (h2 : isOne n = true) (h3 : isOne d = true) : Src H V 3 (.slice (some ⟨b, 0, none⟩) 1 1) 1 [m, n, d] :=
 RowAt.src (E := optE ratE) (xs := [none]) (RowAt.snoc (RowAt.nil V) (x := none) h1 h2 h3 trivial) hr rfl


end Go.Proofs.YthoboehbadmlmaaGreat
end
section
namespace Go.Proofs.YthoboehbadmlmaaGreat
structure BM where
 q : List Rat
 last : List Rat
 size : Nat
 ago : Nat
 was : Rat
 deriving DecidableEq
def bm0 : BM := ⟨[1], [1], 0, 1, 1⟩
def bmNext (l : List Rat) (s : BM) (i : Nat) : List Rat := pAdd s.q s.last (-(off l s.q i / s.was)) s.ago
def bmStep (l : List Rat) (s : BM) (i : Nat) : BM :=
 if off l s.q i = 0 then { s with ago := s.ago + 1 } else
 if 2 * s.size ≤ i then ⟨bmNext l s i, s.q, i + 1 - s.size, 1, off l s.q i⟩ else ⟨bmNext l s i, s.last, s.size, s.ago + 1, s.was⟩
def bmI (l : List Rat) : Nat → BM
 | 0 => bm0
 | i + 1 => bmStep l (bmI l i) i
def bmOut (s : BM) : List Rat := mk s.size fun j => -(cf s.q (j + 1))
theorem bm_len (l : List Rat) (i : Nat) : (bmI l i).q.length ≤ i + 1 ∧ (bmI l i).last.length + (bmI l i).ago ≤ i + 2 ∧ (bmI l i).size ≤ i ∧ (bmI l i).was ≠ 0 := by
 induction i with
 | zero => exact ⟨by simp [bmI, bm0], by simp [bmI, bm0], by simp [bmI, bm0], one_ne⟩
 | succ i ih =>
  obtain ⟨h1, h2, h3, h4⟩ := ih
  unfold bmI bmStep
  have h5 := pAdd_len (bmI l i).q (bmI l i).last (-(off l (bmI l i).q i / (bmI l i).was)) (bmI l i).ago
  split
  ·exact ⟨by dsimp only; omega, by dsimp only; omega, by dsimp only; omega, h4⟩
  ·rename_i hd
   split
   ·exact ⟨by unfold bmNext; dsimp only; omega, by dsimp only; omega, by dsimp only; omega, hd⟩
   ·exact ⟨by unfold bmNext; dsimp only; omega, by dsimp only; omega, by dsimp only; omega, h4⟩
structure BMFit (l : List Rat) (s : BM) (i : Nat) : Prop where
 hq : ∀ x ∈ s.q, QF x
 sum : ∀ k, k < min s.q.length (i + 1) → QF (offS l s.q i k) ∧ QF (cf s.q k * cf l (i - k))
 d : QF (off l s.q i)
 was : QF s.was
 by_ : QF (off l s.q i / s.was)
 add : ∃ A B C, (∀ x ∈ s.q, QB A x) ∧ (∀ x ∈ s.last, QB B x) ∧ QB C (off l s.q i / s.was) ∧ A + B + C + 2 ≤ 17592186044416
def bb (B : Nat) : Nat → Nat
 | 0 => 0
 | i + 1 => 4 * bb B i + 2 * B + 1
theorem bb_mono (B : Nat) {i j : Nat} (h : i ≤ j) : bb B i ≤ bb B j := by
  induction j with
  | zero => have : i = 0 := by omega
            subst this; exact Nat.le_refl _
  | succ j ih =>
    rcases Nat.eq_or_lt_of_le h with h1 | h1
    · subst h1; exact Nat.le_refl _
    · have := ih (by omega)
      simp only [bb]; omega
theorem bm_CB {l : List Rat} {B e : Nat} (hl : CB B l) (N : Nat) (he : N ≤ 2 ^ e) (i : Nat) (hi : i ≤ N) : CB (bb (B + e) i) (bmI l i).q ∧ CB (bb (B + e) i) (bmI l i).last ∧ QB (bb (B + e) i + B + e) (bmI l i).was := by
 induction i with
 | zero => exact ⟨CB_one (QB_one 0), CB_one (QB_one 0), QB_one _⟩
 | succ i ih =>
  obtain ⟨h1, h2, h3⟩ := ih (by omega)
  have hm : bb (B + e) i ≤ bb (B + e) (i + 1) := bb_mono (B + e) (Nat.le_succ i)
  have hd : QB (B + bb (B + e) i + e) (off l (bmI l i).q i) := CB.offs hl h1 i _ e (by omega)
  have hby := hd.div h3
  have hn := (CB.padd h1 h2 hby.neg (bmI l i).ago).mono (show _ ≤ bb (B + e) (i + 1) by simp only [bb]; omega)
  rw [bmI]
  unfold bmStep
  split
  ·exact ⟨h1.mono hm, h2.mono hm, h3.mono (by omega)⟩
  ·split
   ·exact ⟨hn, h1.mono hm, hd.mono (by omega)⟩
   ·exact ⟨hn, h2.mono hm, h3.mono (by omega)⟩
theorem bm_fit {l : List Rat} {B e : Nat} (hl : CB B l) (he : l.length ≤ 2 ^ e) (hfit : bb (B + e) l.length + B + e + 2 ≤ 17592186044416) (i : Nat) (hi : i < l.length) : BMFit l (bmI l i) i := by
 obtain ⟨h1, h2, h3⟩ := bm_CB hl l.length he i (by omega)
 have hm := bb_mono (B + e) (show i + 1 ≤ l.length from hi)
 simp only [bb] at hm
 have hS : ∀ k, k ≤ i + 1 → QB (B + bb (B + e) i + e) (offS l (bmI l i).q i k) := fun k hk => CB.offs hl h1 i k e (by omega)
 have hd : QB (B + bb (B + e) i + e) (off l (bmI l i).q i) := hS _ (by omega)
 have hby := hd.div h3
 exact ⟨h1.qf (by omega), fun k hk => ⟨QF.of (hS k (by omega)) (by omega), QF.of ((h1.at k).mul (hl.at (i - k))) (by omega)⟩, QF.of hd (by omega), QF.of h3 (by omega), QF.of hby (by omega), ⟨_, _, _, h1.mem, h2.mem, hby, by omega⟩⟩
end Go.Proofs.YthoboehbadmlmaaGreat
end
section
namespace Go.Proofs.YthoboehbadmlmaaGreat
open Go Go.RowKit
attribute [local irreducible] XWP Spec SpecO XPub XCall seqX clX apX stX ldX iaX slX
theorem upd_pub2 (b c : Nat) (r r' : Option Row) : upd (upd (upd (upd (fun _ => none) b r) c r') b none) c none = fun _ => none := by
 funext k; unfold upd; split
 ·rfl
 ·split
  ·rfl
  ·rfl
theorem crec_c (V : View) (v : Value) (L : List Raw) (hv : Raws V v L) (f : fitR L) (ll : L.length ≤ 400) (hfit : okR L = true → ∀ i, i < L.length → BMFit (qs L) (bmI (qs L) i) i) (hql : okR L = true → ∀ x ∈ qs L, QF x) (hqe : okR L = true → ∀ i, QF (cf (bmI (qs L) L.length).q i)) :
  Spec Tryz.prog 28 [v] V fun v' V' => (okR L = false → v' = .tuple #[.slice none 0 0, .int .i64 1]) ∧ (okR L = true → L.length < 2 * (bmI (qs L) L.length).size → v' = .tuple #[.slice none 0 0, .int .i64 3]) ∧ (okR L = true → 2 * (bmI (qs L) L.length).size ≤ L.length → ∃ w, v' = .tuple #[w, .int .i64 0] ∧ Rats V' w (bmOut (bmI (qs L) L.length))) := by
 obtain ⟨A1, c1, rfl, hc1, hm1⟩ := hv.form
 refine (Spec.enter Tryz.func28 rfl fun Γ => ?_)
 simp only [Tryz.ntmps28, List.map_cons, List.map_nil, List.length_cons, List.length_nil, Nat.reduceAdd, Nat.reduceSub, List.replicate_succ, List.replicate_zero, List.cons_append, List.nil_append]
 refine Gx.a (by kernel_rfl) fun K hK => ?_
 simp only [XA]
 refine hK _ ?_
 refine XWP.seq ?_
 refine Gx.a (by kernel_rfl) fun K hK => ?_
 simp only [XA]
 refine call_go (by kernel_rfl) rfl (fine_c _ _ _ hv f (by omega)) fun v1 V1 hV1 h1 => ?_
 subst h1
 cases hk : okR L
 ·simp only [XA]
  refine hK _ ?_
  refine Gx.t rfl ?_
  refine Gx.a (by kernel_rfl) fun K hK => ?_
  simp only [XA]
  refine hK _ (XWP.ret ?_)
  try simp only [thenX_ret, inBlockX_ret]
  refine ret_go _ rfl ?_
  exact ⟨fun _ => rfl, fun h => (by rw [hk] at h; cases h), fun h => by rw [hk] at h; cases h⟩
 simp only [XA]
 refine hK _ ?_
 refine Gx.f rfl ?_
 refine XWP.skip ?_
 refine XWP.seq ?_
 have b1 : decide ((400 : Int) < (L.length : Int)) = false := decide_eq_false (by omega)
 refine Gx.a (by kernel_rfl) fun K hK => ?_
 simp only [XA, XB, b1]
 refine hK _ ?_
 refine Gx.f rfl ?_
 refine XWP.skip ?_
 have hr := (Raws.rats hv hk).up hV1
 have hfit := hfit hk
 have hql := hql hk
 have hqe := hqe hk
 have hlen : (qs L).length = L.length := qs_len L
 generalize hqs : qs L = l at *
 generalize hN : L.length = N at *
 refine Gx.a (by kernel_rfl) fun K hK => ?_
 simp only [XA]
 refine call_go (by kernel_rfl) rfl (qone_c _) fun v2 V2 hV2 h2 => ?_
 obtain ⟨x2, y2, rfl, o1, o2⟩ := h2.form
 simp only [XA]
 refine bs_go (by kernel_rfl) #[(0, .agg #[.bool (ng 1), x2, y2])] (by simp [ev_tmp, SV.val]) (bs_rat elemT_25) fun b3 hb3 hb4 => ?_
 simp only [XA, Nat.reduceAdd]
 refine call_go (by kernel_rfl) rfl (qone_c _) fun v3 V3 hV3 h3 => ?_
 obtain ⟨x3, y3, rfl, o3, o4⟩ := h3.form
 simp only [XA]
 refine bs_go (by kernel_rfl) #[(0, .agg #[.bool (ng 1), x3, y3])] (by simp [ev_tmp, SV.val]) (bs_rat elemT_25) fun b4 hb5 hb6 => ?_
 have hne : b4 ≠ b3 := fun e => by subst e; simp [upd] at hb5
 simp only [XA, Nat.reduceAdd]
 refine hK _ ?_
 refine Gx.a (by kernel_rfl) fun K hK => ?_
 simp only [XA]
 refine call_pub b3 ⟨48, [.bool (ng 1), x2, y2], 3⟩ (by simp [upd, hne.symm]) (fun ob hob hle3 => ?_) (by kernel_rfl) rfl
 refine call_pub b4 ⟨48, [.bool (ng 1), x3, y3], 3⟩ (by simp [upd, hne]) (fun oc hoc hle4 => ?_) (by kernel_rfl) rfl
 have hq0 : Rats _ _ [1] := Rats.up ((RowAt.snoc (RowAt.nil (E := ratE) V3) (x := 1) (show isOne (.bool (ng 1)) = true from rfl) o1 o2 (h2.mono hV3)).pub ratE_ok hob hle3 (n := 1) (c := 1) rfl (Nat.le_refl _) (by omega)) hle4
 have hl0 : Rats _ _ [1] := (RowAt.snoc (RowAt.nil (E := ratE) _) (x := 1) (show isOne (.bool (ng 1)) = true from rfl) o3 o4 (h3.mono hle3)).pub ratE_ok hoc hle4 (n := 1) (c := 1) rfl (Nat.le_refl _) (by omega)
 refine call_go (by kernel_rfl) rfl (qone_c _) fun v4 V4 hV4 h4 => ?_
 obtain ⟨x4, y4, rfl, o5, o6⟩ := h4.form
 have hr := (((hr.up hV2).up hV3).up hle3).up hle4
 have hr := hr.up hV4
 simp only [XA, XB, upd_pub2]
 refine st_rat rfl rfl rfl o5 o6 ?_
 simp only [XA]
 refine hK _ ?_
 clear hK
 have hq0 := hq0.up hV4
 have hl0 := hl0.up hV4
 have hV4t := View.le_trans hV1 (View.le_trans hV2 (View.le_trans hV3 (View.le_trans hle3 (View.le_trans hle4 hV4))))
 refine XWP.cutD 1 (fun s => ∃ (V5 : View) (wq : Value) (m x y : Value), StIs (fun Z => [.v (.slice A1 N c1), Z 1,Z 2,Z 3, .v wq, Z 5, .v (.int .i64 ((bmI l N).size : Int)), Z 7, .p 0 0, Z 9,Z 10,Z 11,Z 12,Z 13,Z 14,Z 15,Z 16,Z 17,Z 18,Z 19,Z 20,Z 21,Z 22,Z 23,Z 24,Z 25,Z 26,Z 27,Z 28,Z 29,Z 30,Z 31,Z 32,Z 33,Z 34,Z 35,Z 36,Z 37,Z 38,Z 39,Z 40,Z 41,Z 42,Z 43,Z 44,Z 45,Z 46,Z 47,Z 48,Z 49,Z 50,Z 51,Z 52,Z 53,Z 54,Z 55,Z 56,Z 57,Z 58,Z 59,Z 60,Z 61,Z 62,Z 63,Z 64,Z 65,Z 66,Z 67,Z 68,Z 69,Z 70,Z 71,Z 72,Z 73,Z 74,Z 75,Z 76,Z 77,Z 78,Z 79,Z 80,Z 81,Z 82,Z 83,Z 84,Z 85]) [[m, x, y]] (fun _ => none) V5 s ∧ Rats V5 wq (bmI l N).q) ?_ ?_
 ·refine Gx.a (by kernel_rfl) fun K hK => ?_
  simp only [XA, XB]
  refine hK _ ?_
  clear hK
  refine XWP.block ?_
  refine XWP.loopD 1 (fun n s => ∃ (i : Nat) (V5 : View) (wq wl : Value) (m x y : Value), StIs (fun Z => [.v (.slice A1 N c1), Z 1,Z 2,Z 3, .v wq, .v wl, .v (.int .i64 ((bmI l i).size : Int)), .v (.int .i64 ((bmI l i).ago : Int)), .p 0 0, Z 9,Z 10,Z 11,Z 12,Z 13,Z 14,Z 15,Z 16,Z 17,Z 18,Z 19,Z 20,Z 21,Z 22,Z 23,Z 24,Z 25,Z 26,Z 27, .v (.int .i64 (N : Int)), .v (.int .i64 (i : Int)), Z 30,Z 31,Z 32,Z 33,Z 34,Z 35,Z 36,Z 37,Z 38,Z 39,Z 40,Z 41,Z 42,Z 43,Z 44,Z 45,Z 46,Z 47,Z 48,Z 49,Z 50,Z 51,Z 52,Z 53,Z 54,Z 55,Z 56,Z 57,Z 58,Z 59,Z 60,Z 61,Z 62,Z 63,Z 64,Z 65,Z 66,Z 67,Z 68,Z 69,Z 70,Z 71,Z 72,Z 73,Z 74,Z 75,Z 76,Z 77,Z 78,Z 79,Z 80,Z 81,Z 82,Z 83,Z 84,Z 85]) [[m, x, y]] (fun _ => none) V5 s ∧ n + i = N ∧ Rats V5 (.slice A1 N c1) l ∧ Rats V5 wq (bmI l i).q ∧ Rats V5 wl (bmI l i).last ∧ RatC V5 (.agg #[m, x, y]) (bmI l i).was ∧ isOne m = true ∧ isOne x = true ∧ isOne y = true) N ⟨0, _, _, _, _, x4, y4, StIs.of (by exact rfl), rfl, hr, hq0, hl0, h4, rfl, o5, o6⟩ ?_
  clear hr hq0 hl0 h4 o5 o6
  rintro n s ⟨i, V5, wq, wl, m, x, y, hs, hn, hr, hwq, hwl, hwas, om, ox, oy⟩
  obtain ⟨z, rfl⟩ := hs.out
  try dsimp only
  obtain ⟨g1, g2, g3, g4⟩ := bm_len l i
  by_cases hi : i < N
  ·have b2 : decide ((i : Int) < (N : Int)) = true := decide_eq_true (by omega)
   refine Gx.a (by kernel_rfl) fun K hK => ?_
   simp only [XA, XB, b2]
   refine hK _ ?_
   refine XWP.seq (Gx.t rfl ?_)
   refine XWP.skip ?_
   have hF := hfit i hi
   refine XWP.seq ?_
   refine XWP.block ?_
   refine Gx.a (by kernel_rfl) fun K hK => ?_
   simp only [XA]
   refine hK _ ?_
   refine Gx.a (by kernel_rfl) fun K hK => ?_
   simp only [XA]
   refine call_go (by kernel_rfl) rfl (off_c _ _ _ l (bmI l i).q i hr hwq (by omega) (by omega) (by omega) hql hF.hq hF.sum) fun v6 V6 hV6 h6 => ?_
   obtain ⟨x6, y6, rfl, o7, o8⟩ := h6.form
   simp only [XA, XB]
   refine st_rat rfl rfl rfl o7 o8 ?_
   simp only [XA]
   refine hK _ ?_
   refine XWP.seq ?_
   refine Gx.a (by kernel_rfl) fun K hK => ?_
   simp only [XA, XB, Nat.reduceAdd, Nat.reduceLeDiff, ↓reduceIte]
   refine call_go (by kernel_rfl) rfl (czero_c _ _ _ h6) fun v7 V7 hV7 h7 => ?_
   subst h7
   by_cases hz : off l (bmI l i).q i = 0
   ·have b3 : decide (off l (bmI l i).q i = 0) = true := decide_eq_true hz
    have es : bmI l (i + 1) = { bmI l i with ago := (bmI l i).ago + 1 } := by rw [bmI]; unfold bmStep; rw [if_pos hz]
    simp only [XA, b3]
    refine hK _ ?_
    refine Gx.t rfl ?_
    refine Gx.a (by kernel_rfl) fun K hK => ?_
    simp only [XA, XB, i64_succ (bmI l i).ago (by omega)]
    refine hK _ ?_
    refine XWP.exit ?_
    show XWP _ _ _ _ _
    refine Gx.c (by kernel_rfl) fun K hK => ?_
    simp only [XA, XB, i64_succ i (by omega)]
    have hV67 := View.le_trans hV6 hV7
    refine hK _ ⟨n - 1, by omega, fun f => ⟨i + 1, V7, wq, wl, m, x, y, ?_, by omega, hr.up hV67, by rw [es]; exact hwq.up hV67, by rw [es]; exact hwl.up hV67, by rw [es]; exact hwas.mono hV67, om, ox, oy⟩⟩
    rw [es]
    exact StIs.of (by exact rfl)
   ·have b3 : decide (off l (bmI l i).q i = 0) = false := decide_eq_false hz
    simp only [XA, b3]
    refine hK _ ?_
    refine Gx.f rfl ?_
    refine XWP.skip ?_
    refine Gx.a (by kernel_rfl) fun K hK => ?_
    simp only [XA, XB, Nat.reduceAdd, Nat.reduceLeDiff, ↓reduceIte]
    have hV67 := View.le_trans hV6 hV7
    refine call_go (by kernel_rfl) rfl (qdiv_c _ _ _ _ _ (h6.mono hV7) (hwas.mono hV67) hF.d hF.was) fun v8 V8 hV8 h8 => ?_
    obtain ⟨r8, rfl, h8'⟩ := h8.2 g4
    obtain ⟨x8, y8, rfl, o9, o10⟩ := h8'.form
    simp only [XA, XB, Nat.reduceAdd]
    refine st_rat rfl rfl rfl o9 o10 ?_
    simp only [XA]
    refine hK _ ?_
    refine Gx.a (by kernel_rfl) fun K hK => ?_
    simp only [XA, XB, Nat.reduceAdd, Nat.reduceLeDiff, ↓reduceIte]
    refine call_go (by kernel_rfl) rfl (qneg_c _ _ _ h8' hF.by_) fun v9 V9 hV9 h9 => ?_
    simp only [XA]
    have hV69 := View.le_trans hV67 (View.le_trans hV8 hV9)
    obtain ⟨A, B, C, a1, a2, a3, a4⟩ := hF.add
    refine call_go (by kernel_rfl) rfl (cadd_c _ _ _ _ (bmI l i).q (bmI l i).last _ (bmI l i).ago A B C (hwq.up hV69) (hwl.up hV69) h9 a1 a2 a3.neg a4 (by omega) (by omega)) fun v10 V10 hV10 h10 => ?_
    have hV610 := View.le_trans hV69 hV10
    simp only [XA]
    refine hK _ ?_
    clear hK
    have hnx : pAdd (bmI l i).q (bmI l i).last (-(off l (bmI l i).q i / (bmI l i).was)) (bmI l i).ago = bmNext l (bmI l i) i := rfl
    rw [hnx] at h10
    refine XWP.cutD 1 (fun s => ∃ (V11 : View) (wl' : Value) (m' x' y' : Value) (ag : Nat), StIs (fun Z => [.v (.slice A1 N c1), Z 1,Z 2,Z 3, Z 4, .v wl', .v (.int .i64 ((bmI l (i + 1)).size : Int)), .v (.int .i64 (ag : Int)), .p 0 0, Z 9,Z 10,Z 11,Z 12, .v v10, Z 14,Z 15,Z 16,Z 17,Z 18,Z 19,Z 20,Z 21,Z 22,Z 23,Z 24,Z 25,Z 26,Z 27, .v (.int .i64 (N : Int)), .v (.int .i64 (i : Int)), Z 30,Z 31,Z 32,Z 33,Z 34,Z 35,Z 36,Z 37,Z 38,Z 39,Z 40,Z 41,Z 42,Z 43,Z 44,Z 45,Z 46,Z 47,Z 48,Z 49,Z 50,Z 51,Z 52,Z 53,Z 54,Z 55,Z 56,Z 57,Z 58,Z 59,Z 60,Z 61,Z 62,Z 63,Z 64,Z 65,Z 66,Z 67,Z 68,Z 69,Z 70,Z 71,Z 72,Z 73,Z 74,Z 75,Z 76,Z 77,Z 78,Z 79,Z 80,Z 81,Z 82,Z 83,Z 84,Z 85]) [[m', x', y']] (fun _ => none) V11 s ∧ V10.le V11 ∧ (bmI l (i + 1)).q = bmNext l (bmI l i) i ∧ (bmI l (i + 1)).ago = ag + 1 ∧ Rats V11 wl' (bmI l (i + 1)).last ∧ RatC V11 (.agg #[m', x', y']) (bmI l (i + 1)).was ∧ isOne m' = true ∧ isOne x' = true ∧ isOne y' = true) ?_ ?_
    ·refine Gx.a (by kernel_rfl) fun K hK => ?_
     have w1 : IntKind.i64.wrap (2 * ((bmI l i).size : Int)) = ((2 * (bmI l i).size : Nat) : Int) := by rw [wrap_id (by omega) (by omega)]; omega
     by_cases hs2 : 2 * (bmI l i).size ≤ i
     ·have b4 : decide (((2 * (bmI l i).size : Nat) : Int) ≤ (i : Int)) = true := decide_eq_true (by omega)
      have es : bmI l (i + 1) = ⟨bmNext l (bmI l i) i, (bmI l i).q, i + 1 - (bmI l i).size, 1, off l (bmI l i).q i⟩ := by rw [bmI]; unfold bmStep; rw [if_neg hz, if_pos hs2]
      have w2 := i64_succ i (by omega)
      have w3 := i64_sub (i + 1) (bmI l i).size (by omega) (by omega)
      simp only [XA, XB, w1, b4]
      refine hK _ ?_
      refine Gx.t rfl ?_
      (refine XWP.drw1 [0, 1, 2, 3, 4, 5, 6, 7, 8, 9] (by kernel_rfl) (by kernel_rfl) (by kernel_rfl) fun K hK => ?_) <;> dsimp only [pickOps, List.getElem?_cons_zero, List.getElem?_cons_succ]
      simp only [XA, XB, Nat.reduceAdd, Nat.reduceLeDiff, ↓reduceIte, w2, w3]
      refine st_rat rfl rfl rfl o7 o8 ?_
      simp only [XA]
      refine hK _ fun f => ⟨V10, wq, _, x6, y6, 0, ?_, View.le_refl _, by rw [es], by rw [es], by rw [es]; exact hwq.up hV610, by rw [es]; exact h6.mono (View.le_trans hV7 (View.le_trans hV8 (View.le_trans hV9 hV10))), rfl, o7, o8⟩
      rw [es]
      exact StIs.of (by exact rfl)
     ·have b4 : decide (((2 * (bmI l i).size : Nat) : Int) ≤ (i : Int)) = false := decide_eq_false (by omega)
      have es : bmI l (i + 1) = ⟨bmNext l (bmI l i) i, (bmI l i).last, (bmI l i).size, (bmI l i).ago + 1, (bmI l i).was⟩ := by rw [bmI]; unfold bmStep; rw [if_neg hz, if_neg hs2]
      simp only [XA, XB, w1, b4]
      refine hK _ ?_
      refine Gx.f rfl ?_
      refine XWP.skip ?_
      refine fun f => ⟨V10, wl, m, x, y, (bmI l i).ago, ?_, View.le_refl _, by rw [es], by rw [es], by rw [es]; exact hwl.up hV610, by rw [es]; exact hwas.mono hV610, om, ox, oy⟩
      rw [es]
      exact StIs.of (by exact rfl)
    rintro s ⟨V11, wl', m', x', y', ag, hs, hV11, e1, e2, hwl', hwas', om', ox', oy'⟩
    obtain ⟨z, rfl⟩ := hs.out
    try dsimp only
    have g5 := (bm_len l (i + 1)).2.1
    refine Gx.a (by kernel_rfl) fun K hK => ?_
    simp only [XA]
    refine hK _ ?_
    refine Gx.c (by kernel_rfl) fun K hK => ?_
    simp only [XA, XB, i64_succ ag (by omega)]
    refine hK _ ?_
    refine Gx.c (by kernel_rfl) fun K hK => ?_
    simp only [XA, XB, i64_succ i (by omega)]
    refine hK _ ⟨n - 1, by omega, fun f => ⟨i + 1, V11, v10, wl', m', x', y', ?_, by omega, hr.up (View.le_trans hV610 hV11), by rw [e1]; exact h10.up hV11, hwl', hwas', om', ox', oy'⟩⟩
    rw [e2]
    exact StIs.of (by exact rfl)
  ·have b2 : decide ((i : Int) < (N : Int)) = false := decide_eq_false (by omega)
   obtain rfl : i = N := by omega
   refine Gx.a (by kernel_rfl) fun K hK => ?_
   simp only [XA, XB, b2]
   refine hK _ ?_
   refine XWP.seq (Gx.f rfl ?_)
   refine XWP.exit ?_
   exact fun f => ⟨V5, wq, m, x, y, StIs.of (by exact rfl), hwq⟩
 clear hr hq0 hl0 h4 o5 o6
 rintro s ⟨V5, wq, m, x, y, hs, hwq⟩
 obtain ⟨z, rfl⟩ := hs.out
 try dsimp only
 obtain ⟨g1, g2, g3, g4⟩ := bm_len l N
 generalize bmI l N = bm at *
 have w1 : IntKind.i64.wrap (2 * (bm.size : Int)) = ((2 * bm.size : Nat) : Int) := by rw [wrap_id (by omega) (by omega)]; omega
 refine XWP.seq ?_
 by_cases hs2 : N < 2 * bm.size
 ·have b4 : decide ((N : Int) < ((2 * bm.size : Nat) : Int)) = true := decide_eq_true (by omega)
  refine Gx.a (by kernel_rfl) fun K hK => ?_
  simp only [XA, XB, w1, b4]
  refine hK _ ?_
  refine Gx.t rfl ?_
  refine Gx.a (by kernel_rfl) fun K hK => ?_
  simp only [XA]
  refine hK _ (XWP.ret ?_)
  try simp only [thenX_ret, inBlockX_ret]
  refine ret_go _ rfl ?_
  exact ⟨fun h => (by rw [hk] at h; cases h), fun _ _ => rfl, fun _ h => by omega⟩
 have b4 : decide ((N : Int) < ((2 * bm.size : Nat) : Int)) = false := decide_eq_false (by omega)
 refine Gx.a (by kernel_rfl) fun K hK => ?_
 simp only [XA, XB, w1, b4]
 refine hK _ ?_
 refine Gx.f rfl ?_
 refine XWP.skip ?_
 refine Gx.a (by kernel_rfl) fun K hK => ?_
 refine bs_go (by kernel_rfl) #[] (by simp) (bs_zero elemT_22 zeroT_48) fun b hb1 hb2 => ?_
 simp only [XA]
 refine hK _ ?_
 clear hK
 refine XWP.cut (fun s => ∃ (V6 : View) (H5 : Heap) (cells : List Value) (wo : Value), StIs (fun Z => [Z 0,Z 1,Z 2,Z 3,Z 4,Z 5,Z 6,Z 7,Z 8,Z 9,Z 10,Z 11,Z 12,Z 13, .v wo, Z 15,Z 16,Z 17,Z 18,Z 19,Z 20,Z 21,Z 22,Z 23,Z 24,Z 25,Z 26,Z 27,Z 28,Z 29,Z 30,Z 31,Z 32,Z 33,Z 34,Z 35,Z 36,Z 37,Z 38,Z 39,Z 40,Z 41,Z 42,Z 43,Z 44,Z 45,Z 46,Z 47,Z 48,Z 49,Z 50,Z 51,Z 52,Z 53,Z 54,Z 55,Z 56,Z 57,Z 58,Z 59,Z 60,Z 61,Z 62,Z 63,Z 64,Z 65,Z 66,Z 67,Z 68,Z 69,Z 70,Z 71,Z 72,Z 73,Z 74,Z 75,Z 76,Z 77,Z 78,Z 79,Z 80,Z 81,Z 82,Z 83,Z 84,Z 85]) [[m, x, y]] H5 V6 s ∧ Own H5 48 3 wo bm.size cells ∧ RowAt ratE V6 cells (bmOut bm)) ?_ ?_
 ·refine Gx.a (by kernel_rfl) fun K hK => ?_
  simp only [XA]
  refine hK _ ?_
  clear hK
  refine XWP.block ?_
  refine XWP.loop (fun n s => ∃ (j : Nat) (V6 : View) (H5 : Heap) (cells : List Value) (wo : Value), StIs (fun Z => [Z 0,Z 1,Z 2,Z 3, .v wq, Z 5,Z 6,Z 7,Z 8,Z 9,Z 10,Z 11,Z 12,Z 13, .v wo, Z 15,Z 16,Z 17,Z 18,Z 19,Z 20,Z 21,Z 22,Z 23,Z 24,Z 25,Z 26,Z 27,Z 28,Z 29,Z 30,Z 31,Z 32,Z 33,Z 34,Z 35,Z 36,Z 37,Z 38,Z 39,Z 40,Z 41,Z 42,Z 43,Z 44,Z 45,Z 46,Z 47,Z 48,Z 49,Z 50,Z 51,Z 52,Z 53,Z 54,Z 55,Z 56,Z 57,Z 58,Z 59,Z 60,Z 61,Z 62,Z 63,Z 64,Z 65,Z 66,Z 67,Z 68,Z 69,Z 70,Z 71, .v (.int .i64 (bm.size : Int)), .v (.int .i64 (j : Int)), Z 74,Z 75,Z 76,Z 77,Z 78,Z 79,Z 80,Z 81,Z 82,Z 83,Z 84,Z 85]) [[m, x, y]] H5 V6 s ∧ V5.le V6 ∧ n + j = bm.size ∧ Own H5 48 3 wo j cells ∧ RowAt ratE V6 cells (mk j fun j => -(cf bm.q (j + 1)))) bm.size ⟨0, V5, _, [], _, StIs.of (by exact rfl), View.le_refl _, rfl, own3 (by simp [upd]) rfl (Nat.le_refl _) (by omega), RowAt.nil _⟩ ?_
  rintro n s ⟨j, V6, H5, cells, wo, hs, hV6, hn, hown, hrow⟩
  obtain ⟨z, rfl⟩ := hs.out
  try dsimp only
  by_cases hj : j < bm.size
  ·have b5 : decide ((j : Int) < (bm.size : Int)) = true := decide_eq_true (by omega)
   refine Gx.a (by kernel_rfl) fun K hK => ?_
   simp only [XA, XB, b5]
   refine hK _ ?_
   refine XWP.seq (Gx.t rfl ?_)
   refine XWP.skip ?_
   refine XWP.seq ?_
   refine XWP.block ?_
   refine Gx.a (by kernel_rfl) fun K hK => ?_
   simp only [XA]
   refine hK _ ?_
   refine Gx.c (by kernel_rfl) fun K hK => ?_
   simp only [XA, XB, i64_succ j (by omega)]
   refine call_go (by kernel_rfl) rfl (cget_c _ _ _ (j + 1) (hwq.up hV6) (by omega)) fun v7 V7 hV7 h7 => ?_
   simp only [XA]
   refine call_go (by kernel_rfl) rfl (qneg_c _ _ _ h7 (hqe _)) fun v8 V8 hV8 h8 => ?_
   obtain ⟨x8, y8, rfl, o1, o2⟩ := h8.form
   simp only [XA]
   refine bs_go (by kernel_rfl) #[(0, .agg #[.bool (ng (-(cf bm.q (j + 1)))), x8, y8])] (by simp [ev_tmp, SV.val]) (bs_rat elemT_22) fun b3 hb3 hb4 => ?_
   simp only [XA, Nat.reduceAdd]
   refine ap_go elemT_22 (by kernel_rfl) zeroT_48 rfl (by omega) (own_upd hown hb3) (src3 (upd_at _ _ _) rfl o1 o2) (by omega) (by omega) fun v' H' hres => ?_
   simp only [XA]
   refine hK _ ?_
   refine Gx.c (by kernel_rfl) fun K hK => ?_
   simp only [XA, XB, i64_succ j (by omega)]
   have hrow' := (hrow.mono ratE_ok (View.le_trans hV7 hV8)).snoc (x := -(cf bm.q (j + 1))) (show isOne (.bool (ng (-(cf bm.q (j + 1))))) = true from rfl) o1 o2 h8
   have em := mk_succ j fun j => -(cf bm.q (j + 1))
   rw [← em] at hrow'
   exact hK _ ⟨n - 1, by omega, j + 1, V8, _, _, _, StIs.of (by exact rfl), View.le_trans hV6 (View.le_trans hV7 hV8), by omega, hres.1, hrow'⟩
  ·have b5 : decide ((j : Int) < (bm.size : Int)) = false := decide_eq_false (by omega)
   obtain rfl : j = bm.size := by omega
   refine Gx.a (by kernel_rfl) fun K hK => ?_
   simp only [XA, XB, b5]
   refine hK _ ?_
   refine XWP.seq (Gx.f rfl ?_)
   refine XWP.exit ?_
   exact ⟨V6, H5, cells, wo, StIs.of (by exact rfl), hown, hrow⟩
 rintro s ⟨V6, H5, cells, wo, hs, hown, hrow⟩
 obtain ⟨z, rfl⟩ := hs.out
 try dsimp only
 refine Gx.a (by kernel_rfl) fun K hK => ?_
 simp only [XA]
 refine hK _ (XWP.ret ?_)
 try simp only [thenX_ret, inBlockX_ret]
 rcases own_parts hown with ⟨rfl, hn0, rfl⟩ | ⟨g, cap, rfl, hg, hle, hcap, _⟩
 ·refine ret_go _ rfl ⟨fun h => (by rw [hk] at h; cases h), fun _ h => absurd h (by omega), fun _ _ => ⟨_, rfl, ?_⟩⟩
  have : bmOut bm = [] := List.length_eq_zero_iff.1 (by unfold bmOut; rw [mk_len]; exact hn0)
  rw [this]; exact SlAt.nil _
 ·refine ret_pub g _ hg fun o ho hle' => ret_go _ rfl ⟨fun h => (by rw [hk] at h; cases h), fun _ h => absurd h (by omega), fun _ _ => ⟨_, rfl, ?_⟩⟩
  exact hrow.pub ratE_ok ho hle' (mk_len _ _) hle (by unfold maxLen at hcap; omega)
theorem min_3 (n : Nat) : (if (3 : Int) < (n : Int) then (3 : Int) else (n : Int)) = ((min n 3 : Nat) : Int) := by split <;> omega
theorem min_nat (a b : Nat) : (if (b : Int) < (a : Int) then (b : Int) else (a : Int)) = ((min a b : Nat) : Int) := by split <;> omega
theorem lnat_c (V : View) (v : Value) (ds : List Nat) (h : NatAt V v ds) : Spec Tryz.prog 83 [v] V fun v' V' => NatAt V' v' (ds.take 3) := by
 obtain ⟨A, c, rfl, hc, hm⟩ := h.form
 refine (Spec.enter Tryz.func83 rfl fun Γ => ?_)
 simp only [Tryz.ntmps83, List.map_cons, List.map_nil, List.length_cons, List.length_nil, Nat.reduceAdd, Nat.reduceSub, List.replicate_succ, List.replicate_zero, List.cons_append, List.nil_append]
 refine Gx.a (by kernel_rfl) fun K hK => ?_
 simp only [XA]
 refine hK _ ?_
 refine Gx.a (by kernel_rfl) fun K hK => ?_
 simp only [XA, XB, min_3]
 refine ⟨by omega, by omega, by omega, ?_⟩
 refine hK _ (XWP.ret ?_)
 try simp only [thenX_ret, inBlockX_ret]
 refine ret_go _ rfl ?_
 have := NatAt.take h (k := min ds.length 3) (by omega)
 have e : ds.take (min ds.length 3) = ds.take 3 := by
  by_cases h3 : ds.length ≤ 3
  ·rw [Nat.min_eq_left h3, List.take_of_length_le h3, List.take_of_length_le (Nat.le_refl _)]
  ·rw [Nat.min_eq_right (by omega)]
 rw [e] at this
 exact this
def cutR (r : Raw) : Raw := ⟨r.m, r.nd.take 3, r.dd.take 3⟩
def fewL (L : List Raw) (n : Nat) : List Raw := (L.take n).map cutR
def fewR (l : List Raw) : Prop := ∀ r ∈ l, r.nd.length ≤ 3 ∧ r.dd.length ≤ 3
theorem fewL_few (L : List Raw) (n : Nat) : fewR (fewL L n) := fun r hr => by
 obtain ⟨x, _, rfl⟩ := List.mem_map.1 hr
 exact ⟨by simp [cutR]; omega, by simp [cutR]; omega⟩
theorem fewR.fit {l : List Raw} (h : fewR l) : fitR l := fun r hr => ⟨by have := (h r hr).1; omega, by have := (h r hr).2; omega⟩
theorem fewL_len (L : List Raw) (n : Nat) : (fewL L n).length ≤ n := by simp [fewL]; omega
theorem BB_two : BB = 2 ^ 32 := rfl
theorem dig3 {ds : List Nat} (h : Dig ds) (hl : ds.length ≤ 3) : nv ds ≤ 2 ^ 96 := by
 have h1 := nv_lt h
 have h2 : BB ^ ds.length ≤ BB ^ 3 := Nat.pow_le_pow_right (by unfold BB; omega) hl
 have h3 : BB ^ 3 = 2 ^ 96 := by rw [BB_two, ← Nat.pow_mul]
 omega
def digR (l : List Raw) : Prop := ∀ r ∈ l, Dig r.nd ∧ Dig r.dd
theorem Raws.dig {V : View} {v : Value} {l : List Raw} (h : Raws V v l) : digR l := fun r hr => by
 obtain ⟨A, c, rfl, h1, h2, h3⟩ := h
 rcases h3 with rfl | ⟨b, o, arr, ty, fr, e1, e2, h4⟩
 ·cases hr
 ·obtain ⟨i, hi⟩ := List.getElem?_of_mem hr
  obtain ⟨m, n, d, g1, g2, g3, o1, o2, o3, hE⟩ := h4 i r hi
  obtain ⟨n', d', _, k1, k2⟩ := hE
  exact ⟨k1.dig, k2.dig⟩
theorem fewR_QB {l : List Raw} (h : fewR l) (hd : digR l) : ∀ x ∈ qs l, QB 96 x := fun x hx => by
 obtain ⟨r, hr, rfl⟩ := List.mem_map.1 hx
 exact QB_rv _ (dig3 (hd r hr).1 (h r hr).1) (dig3 (hd r hr).2 (h r hr).2)
theorem fewR_CB {l : List Raw} (h : fewR l) (hd : digR l) : CB (l.length * 96) (qs l) := by
 have := CB_of (qs l) (fewR_QB h hd)
 rwa [qs_len] at this
theorem lfew_c (V : View) (v : Value) (L : List Raw) (n : Nat) (hv : Raws V v L) (hn : n ≤ 1000000) : Spec Tryz.prog 34 [v, .int .i64 (n : Int)] V fun v' V' => Raws V' v' (fewL L n) := by
 obtain ⟨A1, c1, rfl, hc1, hm1⟩ := hv.form
 refine (Spec.enter Tryz.func34 rfl fun Γ => ?_)
 simp only [Tryz.ntmps34, List.map_cons, List.map_nil, List.length_cons, List.length_nil, Nat.reduceAdd, Nat.reduceSub, List.replicate_succ, List.replicate_zero, List.cons_append, List.nil_append]
 refine Gx.a (by kernel_rfl) fun K hK => ?_
 simp only [XA]
 refine hK _ ?_
 refine Gx.a (by kernel_rfl) fun K hK => ?_
 refine bs_go (by kernel_rfl) #[] (by simp) (bs_zero elemT_22 zeroT_48) fun b hb1 hb2 => ?_
 simp only [XA]
 refine hK _ ?_
 clear hK
 obtain ⟨N, hN⟩ : ∃ N, N = min L.length n := ⟨_, rfl⟩
 have eN : L.take N = L.take n := by
  rw [hN]
  by_cases h : L.length ≤ n
  ·rw [Nat.min_eq_left h, List.take_of_length_le h, List.take_of_length_le (Nat.le_refl _)]
  ·rw [Nat.min_eq_right (by omega)]
 have hvN := SlAt.take hv (k := N) (by omega)
 have hlN : (L.take N).length = N := by simp; omega
 refine XWP.cutD 0 (fun s => ∃ (V6 : View) (H5 : Heap) (cells : List Value) (wo : Value), StIs (fun Z => [Z 0,Z 1,Z 2,Z 3,Z 4, .v wo, Z 6,Z 7,Z 8,Z 9,Z 10,Z 11,Z 12,Z 13,Z 14,Z 15,Z 16,Z 17,Z 18,Z 19,Z 20,Z 21,Z 22,Z 23,Z 24,Z 25,Z 26,Z 27,Z 28,Z 29,Z 30,Z 31,Z 32,Z 33]) [] H5 V6 s ∧ Own H5 48 3 wo N cells ∧ RowAt rawE V6 cells ((L.take N).map cutR)) ?_ ?_
 ·refine Gx.a (by kernel_rfl) fun K hK => ?_
  simp only [XA, XB, min_nat]
  rw [← hN]
  refine ⟨by omega, by omega, by omega, ?_⟩
  refine hK _ ?_
  clear hK
  refine XWP.block ?_
  refine XWP.loopD 0 (fun m s => ∃ (k : Nat) (V6 : View) (H5 : Heap) (cells : List Value) (wo : Value), StIs (fun Z => [Z 0,Z 1,Z 2,Z 3,Z 4, .v wo, Z 6,Z 7,Z 8,Z 9,Z 10,Z 11,Z 12,Z 13, .v (.slice A1 N c1), .v (.int .i64 (N : Int)), .v (.int .i64 (k : Int)), Z 17,Z 18,Z 19,Z 20,Z 21,Z 22,Z 23,Z 24,Z 25,Z 26,Z 27,Z 28,Z 29,Z 30,Z 31,Z 32,Z 33]) [] H5 V6 s ∧ V.le V6 ∧ m + k = N ∧ Own H5 48 3 wo k cells ∧ RowAt rawE V6 cells ((L.take k).map cutR)) N ⟨0, V, _, [], _, StIs.of (by exact rfl), View.le_refl _, rfl, own3 (by simp [upd]) rfl (Nat.le_refl _) (by omega), RowAt.nil _⟩ ?_
  rintro m s ⟨k, V6, H5, cells, wo, hs, hV6, hm, hown, hrow⟩
  obtain ⟨z, rfl⟩ := hs.out
  try dsimp only
  by_cases hk : k < N
  ·have b1 : decide ((k : Int) < (N : Int)) = true := decide_eq_true (by omega)
   refine Gx.a (by kernel_rfl) fun K hK => ?_
   simp only [XA, XB, b1]
   refine hK _ ?_
   refine XWP.seq (Gx.t rfl ?_)
   refine XWP.skip ?_
   refine XWP.seq ?_
   refine XWP.block ?_
   refine Gx.a (by kernel_rfl) fun K hK => ?_
   have hv6 := Raws.up hvN hV6
   obtain ⟨b', o', rfl⟩ := SlAt.addr hv6 (by omega)
   obtain ⟨x, hx, ⟨m3, n3, d3, rfl, p1, p2, p3⟩, hld⟩ := SlAt.load hv6 k (by omega)
   obtain ⟨n4, d4, e4, hn4, hd4⟩ := hx
   cases e4
   have ek : (L.take N)[k]'(by omega) = L[k]'(by omega) := by simp
   rw [ek] at hn4 hd4
   simp only [XA, XB]
   refine ⟨by omega, by omega, ld_mem (hld _) ?_⟩
   simp only [XA, XB]
   refine st_rat rfl rfl rfl p2 p3 ?_
   simp only [XA]
   refine hK _ ?_
   (refine XWP.drw1 [0, 1, 2, 3, 4, 6, 7, 5, 8, 9, 10, 11, 12] (by kernel_rfl) (by kernel_rfl) (by kernel_rfl) fun K hK => ?_) <;> dsimp only [pickOps, List.getElem?_cons_zero, List.getElem?_cons_succ]
   simp only [XA, XB]
   refine call_go (by kernel_rfl) rfl (lnat_c _ _ _ hn4) fun v7 V7 hV7 h7 => ?_
   simp only [XA]
   refine call_go (by kernel_rfl) rfl (lnat_c _ _ _ (hd4.mono hV7)) fun v8 V8 hV8 h8 => ?_
   have h7 := h7.mono hV8
   simp only [XA]
   rw [ek]
   refine bd_go (by kernel_rfl) #[(0, .bool (L[k]'(by omega)).m), (1, v7), (2, v8)] (by simp [ev_tmp, SV.val]) (bd_rat3 rfl h7.one h8.one) ?_
   simp only [XA]
   refine bs_go (by kernel_rfl) #[(0, .agg #[.bool (L[k]'(by omega)).m, v7, v8])] (by simp [ev_tmp, SV.val]) (bs_rat elemT_22) fun b3 hb3 hb4 => ?_
   simp only [XA, Nat.reduceAdd]
   refine ap_go elemT_22 (by kernel_rfl) zeroT_48 rfl (by omega) (own_upd hown hb3) (src3 (upd_at _ _ _) rfl h7.one h8.one) (by omega) (by omega) fun v' H' hres => ?_
   simp only [XA]
   refine hK _ ?_
   refine Gx.c (by kernel_rfl) fun K hK => ?_
   simp only [XA, XB, i64_succ k (by omega)]
   have hrow' := (hrow.mono rawE_ok (View.le_trans hV7 hV8)).snoc (x := cutR (L[k]'(by omega))) (show isOne (.bool (L[k]'(by omega)).m) = true from rfl) h7.one h8.one ⟨_, _, rfl, h7, h8⟩
   have em : (L.take (k + 1)).map cutR = (L.take k).map cutR ++ [cutR (L[k]'(by omega))] := by rw [List.take_succ_eq_append_getElem (by omega), List.map_append]; rfl
   rw [← em] at hrow'
   exact hK _ ⟨m - 1, by omega, fun f => ⟨k + 1, V8, _, _, _, StIs.of (by exact rfl), View.le_trans hV6 (View.le_trans hV7 hV8), by omega, hres.1, hrow'⟩⟩
  ·have b1 : decide ((k : Int) < (N : Int)) = false := decide_eq_false (by omega)
   obtain rfl : k = N := by omega
   refine Gx.a (by kernel_rfl) fun K hK => ?_
   simp only [XA, XB, b1]
   refine hK _ ?_
   refine XWP.seq (Gx.f rfl ?_)
   refine XWP.exit ?_
   exact fun f => ⟨V6, H5, cells, wo, StIs.of (by exact rfl), hown, hrow⟩
 rintro s ⟨V6, H5, cells, wo, hs, hown, hrow⟩
 obtain ⟨z, rfl⟩ := hs.out
 try dsimp only
 rw [eN] at hrow
 have hl : ((L.take n).map cutR).length = N := by rw [List.length_map, ← eN, hlN]
 refine Gx.a (by kernel_rfl) fun K hK => ?_
 simp only [XA]
 refine hK _ (XWP.ret ?_)
 try simp only [thenX_ret, inBlockX_ret]
 rcases own_parts hown with ⟨rfl, hn0, rfl⟩ | ⟨g, cap, rfl, hg, hle, hcap, _⟩
 ·refine ret_go _ rfl ?_
  have : fewL L n = [] := List.length_eq_zero_iff.1 (by unfold fewL; rw [hl]; exact hn0)
  rw [this]; exact SlAt.nil _
 ·refine ret_pub g _ hg fun o ho hle' => ret_go _ rfl ?_
  exact hrow.pub rawE_ok ho hle' hl hle (by unfold maxLen at hcap; omega)
theorem lsame_c (V : View) (v u : Value) (l m : List Rat) (hv : Rats V v l) (hu : Rats V u m) (hl : ∀ x ∈ l, QF x) (hm : ∀ x ∈ m, QF x) : Spec Tryz.prog 30 [v, u] V fun v' V' => v' = .bool (decide (l = m)) := by
 obtain ⟨A1, c1, rfl, hc1, hm1⟩ := hv.form
 obtain ⟨A2, c2, rfl, hc2, hm2⟩ := hu.form
 refine (Spec.enter Tryz.func30 rfl fun Γ => ?_)
 simp only [Tryz.ntmps30, List.map_cons, List.map_nil, List.length_cons, List.length_nil, Nat.reduceAdd, Nat.reduceSub, List.replicate_succ, List.replicate_zero, List.cons_append, List.nil_append]
 refine Gx.a (by kernel_rfl) fun K hK => ?_
 simp only [XA]
 refine hK _ ?_
 refine XWP.seq ?_
 by_cases hlen : l.length = m.length
 ·have b1 : (!decide ((l.length : Int) = (m.length : Int))) = false := by rw [decide_eq_true (by omega)]; rfl
  refine Gx.a (by kernel_rfl) fun K hK => ?_
  simp only [XA, XB, b1]
  refine hK _ ?_
  refine Gx.f rfl ?_
  refine XWP.skip ?_
  refine XWP.cut (fun s => ∃ V2, StIs (fun Z => [Z 0,Z 1,Z 2,Z 3,Z 4,Z 5,Z 6,Z 7,Z 8,Z 9,Z 10,Z 11,Z 12,Z 13,Z 14,Z 15,Z 16,Z 17,Z 18,Z 19,Z 20,Z 21,Z 22,Z 23,Z 24,Z 25,Z 26]) [] (fun _ => none) V2 s ∧ l = m) ?_ ?_
  ·refine Gx.a (by kernel_rfl) fun K hK => ?_
   simp only [XA, XB]
   refine hK _ ?_
   clear hK
   refine XWP.block ?_
   refine XWP.loop (fun n s => ∃ (k : Nat) (V2 : View), StIs (fun Z => [.v (.slice A1 l.length c1), .v (.slice A2 m.length c2), Z 2,Z 3,Z 4,Z 5,Z 6,Z 7,Z 8,Z 9,Z 10,Z 11, .v (.int .i64 (l.length : Int)), .v (.int .i64 (k : Int)), Z 14,Z 15,Z 16,Z 17,Z 18,Z 19,Z 20,Z 21,Z 22,Z 23,Z 24,Z 25,Z 26]) [] (fun _ => none) V2 s ∧ V.le V2 ∧ n + k = l.length ∧ ∀ i, i < k → cf l i = cf m i) l.length ⟨0, V, StIs.of (by exact rfl), View.le_refl _, rfl, fun i hi => by omega⟩ ?_
   rintro n s ⟨k, V2, hs, hV2, hn, hk⟩
   obtain ⟨z, rfl⟩ := hs.out
   try dsimp only
   by_cases hlt : k < l.length
   ·have b2 : decide ((k : Int) < (l.length : Int)) = true := decide_eq_true (by omega)
    refine Gx.a (by kernel_rfl) fun K hK => ?_
    simp only [XA, XB, b2]
    refine hK _ ?_
    refine XWP.seq (Gx.t rfl ?_)
    refine XWP.skip ?_
    refine XWP.seq ?_
    refine XWP.block ?_
    refine Gx.a (by kernel_rfl) fun K hK => ?_
    simp only [XA]
    refine hK _ ?_
    (refine XWP.drw [0, 1, 2, 3, 4, 5, 6, 7, 8, 9] (by kernel_rfl) (by kernel_rfl) (by kernel_rfl) fun K hK => ?_) <;> dsimp only [pickOps, List.getElem?_cons_zero, List.getElem?_cons_succ]
    have hv2 := Rats.up hv hV2
    have hu2 := Rats.up hu hV2
    obtain ⟨b, o, rfl⟩ := SlAt.addr hv2 (by omega)
    obtain ⟨b', o', rfl⟩ := SlAt.addr hu2 (by omega)
    obtain ⟨m3, n3, d3, hx3, ⟨p1, p2, p3⟩, hld3⟩ := Rats.get hv2 k (by omega)
    obtain ⟨m4, n4, d4, hx4, ⟨r1, r2, r3⟩, hld4⟩ := Rats.get hu2 k (by omega)
    simp only [XA, XB]
    refine ⟨by omega, by omega, ld_mem (hld3 _) ?_⟩
    simp only [XA, XB]
    refine ⟨by omega, by omega, ld_mem (hld4 _) ?_⟩
    simp only [XA]
    have f3 := hl _ (cf_mem hlt)
    have f4 := hm _ (cf_mem (show k < m.length by omega))
    refine call_go (by kernel_rfl) rfl (psame_c _ _ _ _ _ (hx3.toV f3) (hx4.toV f4) f3 f4) fun v5 V5 hV5 h5 => ?_
    subst h5
    by_cases he : cf l k = cf m k
    ·have b3 : decide (cf l k = cf m k) = true := decide_eq_true he
     simp only [XA, b3]
     refine hK _ ?_
     refine Gx.f rfl ?_
     refine XWP.skip ?_
     refine Gx.c (by kernel_rfl) fun K hK => ?_
     simp only [XA, XB, i64_succ k (by omega)]
     refine hK _ ⟨n - 1, by omega, k + 1, V5, StIs.of (by exact rfl), View.le_trans hV2 hV5, by omega, fun i hi => ?_⟩
     by_cases e : i = k
     ·rw [e]; exact he
     ·exact hk i (by omega)
    ·have b3 : decide (cf l k = cf m k) = false := decide_eq_false he
     simp only [XA, b3]
     refine hK _ ?_
     refine Gx.t rfl ?_
     refine Gx.a (by kernel_rfl) fun K hK => ?_
     simp only [XA]
     refine hK _ (XWP.ret ?_)
     try simp only [thenX_ret, inBlockX_ret]
     refine ret_go _ rfl ?_
     rw [decide_eq_false (fun e => he (by rw [e]))]; rfl
   ·have b2 : decide ((k : Int) < (l.length : Int)) = false := decide_eq_false (by omega)
    refine Gx.a (by kernel_rfl) fun K hK => ?_
    simp only [XA, XB, b2]
    refine hK _ ?_
    refine XWP.seq (Gx.f rfl ?_)
    refine XWP.exit ?_
    refine ⟨V2, StIs.of (by exact rfl), List.ext_getElem hlen fun i h1 h2 => ?_⟩
    rw [cf_get h1, cf_get h2]; exact hk i (by omega)
  rintro s ⟨V2, hs, he⟩
  obtain ⟨z, rfl⟩ := hs.out
  try dsimp only
  refine Gx.a (by kernel_rfl) fun K hK => ?_
  simp only [XA]
  refine hK _ (XWP.ret ?_)
  try simp only [thenX_ret, inBlockX_ret]
  refine ret_go _ rfl ?_
  rw [decide_eq_true he]; rfl
 ·have b1 : (!decide ((l.length : Int) = (m.length : Int))) = true := by rw [decide_eq_false (by omega)]; rfl
  refine Gx.a (by kernel_rfl) fun K hK => ?_
  simp only [XA, XB, b1]
  refine hK _ ?_
  refine Gx.t rfl ?_
  refine Gx.a (by kernel_rfl) fun K hK => ?_
  simp only [XA]
  refine hK _ (XWP.ret ?_)
  try simp only [thenX_ret, inBlockX_ret]
  refine ret_go _ rfl ?_
  rw [decide_eq_false (fun e => hlen (by rw [e]))]; rfl

end Go.Proofs.YthoboehbadmlmaaGreat
end
section
namespace Go.Proofs.YthoboehbadmlmaaGreat
theorem pAdd_nil (p : List Rat) : pAdd p [] 1 0 = trimQ p := by
 refine PolQ.ext (pAdd_pol _ _ _ _) (trimQ_pol _) fun i => ?_
 rw [cf_pAdd, cf_trimQ]
 unfold pAt
 rw [if_pos (Nat.zero_le _), cf_none (l := []) (by simp), Rat.zero_mul, Rat.add_zero]
theorem div_part_rest (q : List Rat) : ∀ (n : Nat) (rest out quo : List Rat), (divF q n rest out).2 = (partF q n quo rest).2 := by
 intro n
 induction n with
 | zero => intro rest out quo; rfl
 | succ n ih =>
  intro rest out quo
  rw [divF, partF]
  split
  ·exact ih _ _ _
  ·rfl
theorem cf_set (l : List Rat) (k : Nat) (x : Rat) (i : Nat) (hk : k < l.length) : cf (l.set k x) i = if i = k then x else cf l i := by
 unfold cf
 simp only [List.getD_eq_getElem?_getD]
 by_cases e : i = k
 ·subst e; rw [List.getElem?_set_self hk, if_pos rfl]; rfl
 ·rw [List.getElem?_set_ne (fun h => e h.symm), if_neg e]
theorem cf_one (i : Nat) : cf [1] i = if i = 0 then 1 else 0 := by
 cases i with
 | zero => rfl
 | succ i => rw [cf_none (by simp)]; rfl
theorem div_part_quo {q : List Rat} (hq : 0 < q.length) (hl : cf q (q.length - 1) ≠ 0) : ∀ (n : Nat) (rest out quo : List Rat), PolQ quo → (∀ i, cf out i = cf quo i) → (∀ i, i + q.length ≤ rest.length → cf out i = 0) → (q.length ≤ rest.length → rest.length - q.length < out.length) → trimQ (divF q n rest out).1 = (partF q n quo rest).1 := by
 intro n
 induction n with
 | zero =>
  intro rest out quo hp h1 _ _
  exact PolQ.ext (trimQ_pol _) hp fun i => by rw [cf_trimQ]; exact h1 i
 | succ n ih =>
  intro rest out quo hp h1 h2 h3
  rw [divF, partF]
  split
  ·rename_i hle
   have hlt := div_less hq hl hle
   refine ih _ _ _ (pAdd_pol _ _ _ _) (fun i => ?_) (fun i hi => ?_) (fun h => by rw [List.length_set]; have := h3 hle; omega)
   ·rw [cf_set _ _ _ _ (h3 hle), cf_pAdd]
    unfold pAt
    by_cases e : i = rest.length - q.length
    ·rw [if_pos e, if_pos (by omega), ← h1 i, h2 i (by omega), cf_one, if_pos (by omega), Rat.one_mul, Rat.zero_add]
    ·rw [if_neg e, h1 i]
     split
     ·rw [cf_one, if_neg (by omega), Rat.zero_mul, Rat.add_zero]
     ·rw [Rat.add_zero]
   ·rw [cf_set _ _ _ _ (h3 hle), if_neg (by omega)]
    exact h2 i (by omega)
  ·exact PolQ.ext (trimQ_pol _) hp fun i => by rw [cf_trimQ]; exact h1 i
theorem cf_replicate (n i : Nat) : cf (List.replicate n 0) i = 0 := by
 unfold cf
 simp only [List.getD_eq_getElem?_getD, List.getElem?_replicate]
 split <;> rfl
theorem div_part {p q : List Rat} (hq : 0 < q.length) (hl : cf q (q.length - 1) ≠ 0) : divP p q = partP p q := by
 unfold divP partP
 dsimp only
 rw [pAdd_nil]
 refine Prod.ext ?_ ?_
 ·refine div_part_quo hq hl _ _ _ _ (fun h => by simp at h) (fun i => ?_) (fun i _ => ?_) (fun h => ?_)
  ·split
   ·rw [cf_replicate, cf_none (by simp)]
   ·rfl
  ·split
   ·exact cf_replicate _ _
   ·exact cf_none (by simp)
  ·rw [if_pos h]; simp
 ·exact div_part_rest q _ _ _ _
theorem top_scaled {q : List Rat} (hq : PolQ q) (h0 : 0 < q.length) (rest : List Rat) (k : Nat) : pAdd rest (scaledP q) (-topQ rest (scaledP q)) k = pAdd rest q (-topQ rest q) k := by
 refine PolQ.ext (pAdd_pol _ _ _ _) (pAdd_pol _ _ _ _) fun i => ?_
 rw [cf_pAdd, cf_pAdd]
 unfold pAt
 congr 1
 split
 ·rw [cf_scaledP]
  unfold topQ
  rw [scaledP_last hq h0]
  simp only [Rat.div_def]
  have : (1 : Rat)⁻¹ = 1 := Rat.inv_eq_of_mul_eq_one (Rat.mul_one 1)
  rw [this]
  grind
 ·rfl
theorem scaled_rest {q : List Rat} (hq : PolQ q) (h0 : 0 < q.length) : ∀ (n : Nat) (rest out quo : List Rat), (divF (scaledP q) n rest out).2 = (partF q n quo rest).2 := by
 intro n
 induction n with
 | zero => intro rest out quo; rfl
 | succ n ih =>
  intro rest out quo
  rw [divF, partF, scaledP_len hq]
  split
  ·rw [top_scaled hq h0]; exact ih _ _ _
  ·rfl
theorem com_rest {p q : List Rat} (hq : PolQ q) (h0 : 0 < q.length) : (divP p (scaledP q)).2 = (partP p q).2 := by
 unfold divP partP
 dsimp only
 rw [pAdd_nil]
 exact scaled_rest hq h0 _ _ _ _
theorem com_same : ∀ (n : Nat) (p q : List Rat), PolQ q → comF n p q = comR n p q := by
 intro n
 induction n with
 | zero => intro p q _; rfl
 | succ n ih =>
  intro p q hq
  rw [comF, comR]
  split
  ·rename_i h0
   rw [com_rest hq h0]
   exact ih _ _ (partP_rest hq h0).2
  ·rfl
theorem comP_same {p q : List Rat} (hq : PolQ q) : comP p q = comRP p q := by unfold comP comRP; rw [com_same _ _ _ hq]
def meet (p q : List Rat) (i : Nat) : Nat → Rat
 | 0 => 0
 | k + 1 => meet p q i k + if k ≤ i then cf p k * cf q (i - k) else 0
theorem mul_meet (p q : List Rat) (i k : Nat) : cf (mulI p q k) i = meet p q i k := by
 induction k with
 | zero => exact cf_none (by simp [mulI])
 | succ k ih =>
  rw [mulI, meet]
  split
  ·rename_i h
   rw [ih, h]
   split
   ·rw [Rat.zero_mul, Rat.add_zero]
   ·rw [Rat.add_zero]
  ·rw [cf_pAdd]
   unfold pAt
   rw [ih]
   congr 1
   split
   ·rw [Rat.mul_comm]
   ·rfl
theorem off_meet (p q : List Rat) (i k : Nat) (hk : k ≤ i + 1) : offS q p i k = meet p q i k := by
 induction k with
 | zero => rfl
 | succ k ih => rw [offS, meet, ih (by omega), if_pos (by omega)]
theorem meet_more (p q : List Rat) (i : Nat) {k m : Nat} (hk : k ≤ m) (h : ∀ j, k ≤ j → j < m → i < j ∨ p.length ≤ j) : meet p q i m = meet p q i k := by
  induction m with
  | zero => have : k = 0 := by omega
            rw [this]
  | succ m ih =>
    rcases Nat.eq_or_lt_of_le hk with e | e
    · rw [e]
    · rw [meet, ih (by omega) fun j h1 h2 => h j h1 (by omega)]
      have : (if m ≤ i then cf p m * cf q (i - m) else 0) = 0 := by
        split
        · rcases h m (by omega) (by omega) with h1 | h1
          · omega
          · rw [cf_none h1, Rat.zero_mul]
        · rfl
      rw [this, Rat.add_zero]
theorem meet_all (p q : List Rat) (i : Nat) : meet p q i p.length = meet p q i (i + 1) := by
 rcases Nat.le_total p.length (i + 1) with h | h
 ·exact (meet_more p q i h fun j h1 _ => .inr h1).symm
 ·exact meet_more p q i h fun j h1 _ => .inl (by omega)
theorem cf_mulP (p q : List Rat) (i : Nat) : cf (mulP p q) i = meet p q i p.length := mul_meet p q i _
end Go.Proofs.YthoboehbadmlmaaGreat
end
section
namespace Go.Proofs.YthoboehbadmlmaaGreat
open Go Go.RowKit
set_option linter.unusedSimpArgs false
set_option linter.unusedVariables false
attribute [local irreducible] XWP Spec SpecO XPub XCall seqX clX apX stX ldX iaX slX
theorem bs_rat2 {t : Nat} {a b c a' b' c' : Value} (he : elemT Tryz.prog t = some 48) : BuildsSlice Tryz.prog t 2 #[(0, .agg #[a, b, c]), (1, .agg #[a', b', c'])] 48 [a, b, c, a', b', c'] := by
 obtain ⟨i, zv, hi, hzv, h1, h2, _⟩ := zero_parts zeroT_48
 have hc : zv.cells = #[.bool false, .slice none 0 0, .slice none 0 0] := Array.toList_inj.1 h1
 refine bs_run (cells := #[a, b, c, a', b', c']) he hi hzv (by omega) (by omega) ?_
 rw [h2, hc]
 have : madeCells #[.bool false, .slice none 0 0, .slice none 0 0] (2 * 3) = #[.bool false, .slice none 0 0, .slice none 0 0, .bool false, .slice none 0 0, .slice none 0 0] := Array.toList_inj.1 (by rw [made_flat _ 3 rfl (by omega)]; rfl)
 rw [this, fill_three (off := 0) rfl (by simp), fill_three (off := 3) rfl (by simp)]; rfl
theorem bs_rat4 {t : Nat} {a b c a' b' c' d e f d' e' f' : Value} (he : elemT Tryz.prog t = some 48) : BuildsSlice Tryz.prog t 4 #[(0, .agg #[a, b, c]), (1, .agg #[a', b', c']), (2, .agg #[d, e, f]), (3, .agg #[d', e', f'])] 48 [a, b, c, a', b', c', d, e, f, d', e', f'] := by
 obtain ⟨i, zv, hi, hzv, h1, h2, _⟩ := zero_parts zeroT_48
 have hc : zv.cells = #[.bool false, .slice none 0 0, .slice none 0 0] := Array.toList_inj.1 h1
 refine bs_run (cells := #[a, b, c, a', b', c', d, e, f, d', e', f']) he hi hzv (by omega) (by omega) ?_
 rw [h2, hc]
 have : madeCells #[.bool false, .slice none 0 0, .slice none 0 0] (4 * 3) = #[.bool false, .slice none 0 0, .slice none 0 0, .bool false, .slice none 0 0, .slice none 0 0, .bool false, .slice none 0 0, .slice none 0 0, .bool false, .slice none 0 0, .slice none 0 0] := Array.toList_inj.1 (by rw [made_flat _ 3 rfl (by omega)]; rfl)
 rw [this, fill_three (off := 0) rfl (by simp), fill_three (off := 3) rfl (by simp), fill_three (off := 6) rfl (by simp), fill_three (off := 9) rfl (by simp)]
 simp [Instr.fill]
def fib : List Rat := [1, 1, 1 + 1, 1 + (1 + 1)]
theorem fib_bm : bmOut (bmI fib 4) = [1, 1] ∧ (bmI fib 4).size = 2 := by
 have s1 : bmI fib 1 = ⟨[1, -1], [1], 1, 1, 1⟩ := by
  show bmStep fib ⟨[1], [1], 0, 1, 1⟩ 0 = _
  decide +kernel
 have s2 : bmI fib 2 = ⟨[1, -1], [1], 1, 2, 1⟩ := by rw [bmI, s1]; decide +kernel
 have s3 : bmI fib 3 = ⟨[1, -1, -1], [1, -1], 2, 1, 1⟩ := by rw [bmI, s2]; decide +kernel
 have s4 : bmI fib 4 = ⟨[1, -1, -1], [1, -1], 2, 2, 1⟩ := by rw [bmI, s3]; decide +kernel
 rw [s4]
 decide +kernel
theorem fib_QB : ∀ x ∈ fib, QB 2 x := by
 intro x hx
 have h2 : QB 1 ((1 : Rat) + 1) := (QB_one 0).add (QB_one 0)
 simp only [fib, List.mem_cons, List.not_mem_nil, or_false] at hx
 rcases hx with rfl | rfl | rfl | rfl
 ·exact QB_one 2
 ·exact QB_one 2
 ·exact h2.mono (by omega)
 ·exact (QB_one 0).add h2
theorem fib_CB : CB 8 fib := CB_of fib fib_QB
theorem fib_fit (i : Nat) (hi : i < 4) : BMFit fib (bmI fib i) i := bm_fit (e := 2) fib_CB (by simp [fib]) (by simp [bb, fib]) i (by simpa [fib] using hi)
theorem fib_q (i : Nat) : QF (cf (bmI fib 4).q i) := by
 obtain ⟨h1, _, _⟩ := bm_CB (e := 2) fib_CB 4 (by omega) 4 (by omega)
 exact QF.of (h1.at i) (by simp [bb])
theorem fib_len : fib.length = 4 := rfl
theorem fib_eq : [] ++ [1] ++ [1] ++ [1 + 1] ++ [1 + (1 + 1)] = fib := rfl
theorem fib_rec (V : View) (v : Value) (hl : Rats V v fib) : Spec Tryz.prog 28 [v] V fun v' V' => ∃ w, v' = .tuple #[w, .int .i64 0] ∧ Rats V' w [1, 1] := by
 have eq : qs (fib.map toRaw) = fib := qs_toRaw fib
 have el : (fib.map toRaw).length = 4 := by rw [List.length_map]; exact fib_len
 refine (crec_c V v (fib.map toRaw) (Rats.raws hl) (fitR_toRaw (fun x hx => QF.of (fib_QB x hx) (by omega))) (by omega) (fun _ i hi => ?_) (fun _ x hx => ?_) (fun _ i => ?_)).mono fun v' V' hV h => ?_
 ·rw [eq]; exact fib_fit i (by omega)
 ·rw [eq] at hx; exact QF.of (fib_QB x hx) (by omega)
 ·rw [eq, el]; exact fib_q i
 ·have h5 := h.2.2 (okR_toRaw _)
  rw [eq, el, fib_bm.1, fib_bm.2] at h5
  exact h5 (by omega)
attribute [local irreducible] fib
theorem alive_c (V : View) : Spec Tryz.prog 14 [] V fun v' V' => v' = .bool true := by
 refine (Spec.enter Tryz.func14 rfl fun Γ => ?_)
 simp only [Tryz.ntmps14, List.map_nil, List.length_nil, Nat.reduceSub, List.replicate_succ, List.replicate_zero, List.nil_append]
 refine Gx.a (by kernel_rfl) fun K hK => ?_
 simp only [XA]
 refine hK _ ?_
 refine Gx.a (by kernel_rfl) fun K hK => ?_
 simp only [XA]
 refine call_go (by kernel_rfl) rfl (pone_c _) fun v1 V1 hV1 h1 => ?_
 obtain ⟨x1, y1, rfl, o1, o2⟩ := h1.form
 simp only [XA, XB]
 refine st_rat rfl rfl rfl o1 o2 ?_
 simp only [XA]
 refine hK _ ?_
 (refine XWP.drw [0, 1, 2, 3, 5, 6, 7, 4, 8, 9, 10, 11, 12, 13, 14, 15, 16] (by kernel_rfl) (by kernel_rfl) (by kernel_rfl) fun K hK => ?_) <;> dsimp only [pickOps, List.getElem?_cons_zero, List.getElem?_cons_succ]
 simp only [XA, XB, Nat.reduceAdd, Nat.reduceLeDiff, ↓reduceIte]
 refine call_go (by kernel_rfl) rfl (padd_c _ _ _ _ _ (h1.toV QF_one) (h1.toV QF_one) QF_one QF_one) fun v2 V2 hV2 h2 => ?_
 have h1 := h1.mono hV2
 simp only [XA]
 refine call_go (by kernel_rfl) rfl (padd_c _ _ _ _ _ (h1.toV QF_one) (h1.toV QF_one) QF_one QF_one) fun v3 V3 hV3 h3 => ?_
 have h1 := h1.mono hV3
 have h2 := h2.mono hV3
 have f2 : QF ((1 : Rat) + 1) := QF.of ((QB_one 0).add (QB_one 0)) (by omega)
 simp only [XA]
 refine call_go (by kernel_rfl) rfl (padd_c _ _ _ _ _ (h1.toV QF_one) (h3.toV f2) QF_one f2) fun v4 V4 hV4 h4 => ?_
 have h1 := h1.mono hV4
 have h2 := h2.mono hV4
 obtain ⟨x2, y2, rfl, o3, o4⟩ := h2.form
 obtain ⟨x4, y4, rfl, o5, o6⟩ := h4.form
 simp only [XA]
 refine bs_go (by kernel_rfl) #[(0, .agg #[.bool (ng 1), x1, y1]), (1, .agg #[.bool (ng 1), x1, y1]), (2, .agg #[.bool (ng (1 + 1)), x2, y2]), (3, .agg #[.bool (ng (1 + (1 + 1))), x4, y4])] (by simp [ev_tmp, SV.val]) (bs_rat4 elemT_22) fun b hb1 hb2 => ?_
 simp only [XA, Nat.reduceAdd]
 refine call_pub b ⟨48, [.bool (ng 1), x1, y1, .bool (ng 1), x1, y1, .bool (ng (1 + 1)), x2, y2, .bool (ng (1 + (1 + 1))), x4, y4], 12⟩ (by simp only [upd_at]) (fun o ho hle' => ?_) (by kernel_rfl) rfl
 have hrow := ((((RowAt.nil (E := ratE) V4).snoc (x := 1) (show isOne (.bool (ng 1)) = true from rfl) o1 o2 h1).snoc (x := 1) (show isOne (.bool (ng 1)) = true from rfl) o1 o2 h1).snoc (x := 1 + 1) (show isOne (.bool (ng (1 + 1))) = true from rfl) o3 o4 h2).snoc (x := 1 + (1 + 1)) (show isOne (.bool (ng (1 + (1 + 1)))) = true from rfl) o5 o6 h4
 rw [fib_eq] at hrow
 simp only [List.nil_append, List.cons_append] at hrow
 have hl := hrow.pub ratE_ok ho hle' (n := 4) (c := 4) fib_len (Nat.le_refl _) (by omega)
 refine call_go (by kernel_rfl) rfl (fib_rec _ _ hl) fun v5 V5 hV5 h5 => ?_
 obtain ⟨w, rfl, hw⟩ := h5
 simp only [XA]
 refine hK _ ?_
 have h1 := (h1.mono hle').mono hV5
 refine Gx.a (by kernel_rfl) fun K hK => ?_
 simp only [XA, XB, gateX, Nat.reduceAdd, Nat.reduceLeDiff, ↓reduceIte, beq_self_eq_true, decide_true]
 refine bs_go (by kernel_rfl) #[(0, .agg #[.bool (ng 1), x1, y1]), (1, .agg #[.bool (ng 1), x1, y1])] (by simp [ev_tmp, SV.val]) (bs_rat2 elemT_22) fun b3 hb3 hb4 => ?_
 simp only [XA, gateX, Nat.reduceAdd, ↓reduceIte, beq_self_eq_true]
 refine call_pub b3 ⟨48, [.bool (ng 1), x1, y1, .bool (ng 1), x1, y1], 6⟩ (by simp only [upd_at]) (fun o2' ho2 hle2 => ?_) (by kernel_rfl) rfl
 have hrow2 := (((RowAt.nil (E := ratE) V5).snoc (x := 1) (show isOne (.bool (ng 1)) = true from rfl) o1 o2 h1).snoc (x := 1) (show isOne (.bool (ng 1)) = true from rfl) o1 o2 h1)
 simp only [List.nil_append, List.cons_append] at hrow2
 have q11 : ∀ x ∈ [(1 : Rat), 1], QF x := fun x hx => by
  simp only [List.mem_cons, List.not_mem_nil, or_false, or_self] at hx
  rw [hx]; exact QF_one
 refine call_go (by kernel_rfl) rfl (lsame_c _ _ _ [1, 1] [1, 1] (hw.up hle2) (hrow2.pub ratE_ok ho2 hle2 (n := 2) (c := 2) rfl (Nat.le_refl _) (by omega)) q11 q11) fun v6 V6 hV6 h6 => ?_
 subst h6
 simp only [XA, ↓reduceIte]
 refine hK _ (XWP.ret ?_)
 try simp only [thenX_ret, inBlockX_ret]
 refine ret_go _ rfl ?_
 show Value.bool _ = _
 simp
theorem fewR_qf {l : List Raw} (h : fewR l) (hd : digR l) : ∀ x ∈ qs l, QF x := fun x hx => QF.of (fewR_QB h hd x hx) (by omega)
end Go.Proofs.YthoboehbadmlmaaGreat
end
section
namespace Go.Proofs.YthoboehbadmlmaaGreat
open Go Go.RowKit
attribute [local irreducible] XWP Spec SpecO XPub XCall seqX clX apX stX ldX iaX slX
theorem fewR_CB' {P : List Raw} {n : Nat} (h : fewR P) (hd : digR P) (hl : P.length ≤ n) : CB (n * 96) (qs P) := (fewR_CB h hd).mono (Nat.mul_le_mul_right _ hl)
end Go.Proofs.YthoboehbadmlmaaGreat
end
section
namespace Go.Proofs.YthoboehbadmlmaaGreat
open Go Go.RowKit Go.ChangeShapes
def viewW (w : World) : View := fun k => w.heap[k]?
theorem viewW_sub (w : World) : View.sub (viewW w) w := fun _ _ h => h
theorem cell_view {w : World} {a : Addr} {v : Value} (h : w.cell? a = some v) : a.spot = none ∧ ∃ arr ty fr, viewW w a.block = some (.cells arr ty fr) ∧ arr[a.off]? = some v := by
 unfold World.cell? at h
 split at h
 ·rename_i c t f hb
  split at h
  ·cases h
  ·rename_i hs
   refine ⟨?_, c, t, f, hb, h⟩
   cases hsp : a.spot with
   | none => rfl
   | some x => rw [hsp] at hs; simp at hs
 ·cases h
theorem add_off (a : Addr) (n : Nat) : (a.add n).block = a.block ∧ (a.add n).off = a.off + n := by
 unfold Addr.add; split
 ·rename_i h; subst h; exact ⟨rfl, rfl⟩
 ·exact ⟨rfl, rfl⟩
theorem cells_view {w : World} {a : Addr} {n : Nat} {f : Nat → Value} (hn : 0 < n) (h : ∀ i, i < n → w.cell? (a.add i) = some (f i)) : a.spot = none ∧ ∃ arr ty fr, viewW w a.block = some (.cells arr ty fr) ∧ ∀ i, i < n → arr[a.off + i]? = some (f i) := by
 have h0 := h 0 hn
 have e0 : a.add 0 = a := by simp [Addr.add]
 rw [e0] at h0
 obtain ⟨hs, arr, ty, fr, hb, _⟩ := cell_view h0
 refine ⟨hs, arr, ty, fr, hb, fun i hi => ?_⟩
 obtain ⟨_, arr', ty', fr', hb', hv⟩ := cell_view (h i hi)
 obtain ⟨e1, e2⟩ := add_off a i
 rw [e1, hb] at hb'
 cases hb'
 rw [e2] at hv; exact hv
theorem addr_eta (a : Addr) (h : a.spot = none) : a = ⟨a.block, a.off, none⟩ := by cases a; simp at h; subst h; rfl
section
variable {H : Type} {enc : TypeId × Value → H} {w : World} {base : Nat} {spare : Nat → Bool} {held : Bool}
theorem und_nat : (Tryz.prog).underlying 46 = some (.slice 147) := und_elem elemT_46
theorem und_u32 : (Tryz.prog).underlying 147 = some (.int .u32) := by kernel_rfl
theorem cells_u32 : (Tryz.prog).cellsOf 147 = 1 := by kernel_rfl
theorem cells_rat : (Tryz.prog).cellsOf 48 = 3 := by kernel_rfl
theorem open_nat {fuel : Nat} {v : Value} {x : DataW H × List MemPlace} (h : DataW.trod enc Tryz.prog w base spare held fuel 46 [v] = some x) : ∃ ds, NatAt (viewW w) v ds := by
 rcases open_ints und_nat und_u32 cells_u32 h with ⟨hcs, _⟩ | ⟨a, len, cap, zs, hcs, _, hl, hm, hz, _, hcell, hwz⟩
 ·cases hcs; exact ⟨[], NatAt.nil _⟩
 ·cases hcs
  have hzl : len ≤ zs.length := by rw [hz]; split <;> omega
  have hwf : ∀ z ∈ zs, 0 ≤ z ∧ z < 4294967296 := fun z hz => by
   have := hwz z hz
   simp [Lit.wf, IntKind.min, IntKind.max, IntKind.signed, IntKind.bits] at this
   omega
  refine ⟨(zs.take len).map Int.toNat, some a, cap, by simp [Nat.min_eq_left hzl], by simp; omega, by unfold maxLen at hm; omega, fun d hd => ?_, ?_⟩
  ·obtain ⟨z, hz, rfl⟩ := List.mem_map.1 hd
   have := hwf z (List.mem_of_mem_take hz)
   unfold BB; omega
  ·rcases Nat.eq_zero_or_pos len with h0 | h0
   ·subst h0; exact .inl (by simp)
   ·obtain ⟨hs, arr, ty, fr, hb, hv⟩ := cells_view (f := fun i => .int .u32 (zs.getD i 0)) (by omega) hcell
    refine .inr ⟨a.block, a.off, arr, ty, fr, by rw [← addr_eta a hs], hb, fun i d hd => ?_⟩
    rw [List.getElem?_map, List.getElem?_take] at hd
    split at hd
    ·rename_i hi
     rw [hv i (by omega)]
     have hiz : i < zs.length := by omega
     rw [List.getElem?_eq_getElem hiz] at hd
     simp at hd
     have := hwf zs[i] (List.getElem_mem hiz)
     simp [hiz]
     omega
    ·cases hd
noncomputable def ratFields : Array Field := match (Tryz.prog).underlying 48 with
 | some (.struct fs) => fs
 | _ => #[]
theorem und_rat : (Tryz.prog).underlying 48 = some (.struct ratFields) := by kernel_rfl
theorem ratFields_map : ratFields.toList.map (fun f => (f.type, f.offset)) = [(4, 0), (46, 1), (46, 2)] := by kernel_rfl
theorem und_bool : (Tryz.prog).underlying 4 = some .bool := by kernel_rfl
theorem cells_bool : (Tryz.prog).cellsOf 4 = 1 := by kernel_rfl
theorem cells_nat : (Tryz.prog).cellsOf 46 = 1 := by kernel_rfl
theorem ratField (i : Nat) (t o : Nat) (h : [(4, 0), (46, 1), (46, 2)][i]? = some (t, o)) : ∃ f, ratFields[i]? = some f ∧ f.type = t ∧ f.offset = o := by
 rw [← ratFields_map, List.getElem?_map] at h
 cases hf : ratFields.toList[i]? with
 | none => rw [hf] at h; cases h
 | some f =>
  rw [hf] at h
  simp at h
  exact ⟨f, by rw [← Array.getElem?_toList]; exact hf, h.1, h.2⟩
theorem three_of {α : Type} {l : List α} (h : l.length = 3) : ∃ a b c, l = [a, b, c] := by
 rcases l with _ | ⟨a, _ | ⟨b, _ | ⟨c, _ | ⟨d, l⟩⟩⟩⟩ <;> simp at h
 exact ⟨a, b, c, rfl⟩
theorem open_rat {fuel : Nat} {cs : List Value} {x : DataW H × List MemPlace} (h : DataW.trod enc Tryz.prog w base spare held fuel 48 cs = some x) : ∃ (r : Raw) (n d : Value), cs = [.bool r.m, n, d] ∧ NatAt (viewW w) n r.nd ∧ NatAt (viewW w) d r.dd := by
 obtain ⟨xs, m, _, _, hl, hxl, hf⟩ := DataW.trod_struct und_rat h
 rw [cells_rat] at hl
 have hsz : ratFields.size = 3 := by
  have := congrArg List.length ratFields_map
  simpa using this
 obtain ⟨c0, c1, c2, rfl⟩ := three_of hl
 obtain ⟨f0, a0, t0, o0⟩ := ratField 0 _ _ rfl
 obtain ⟨f1, a1, t1, o1⟩ := ratField 1 _ _ rfl
 obtain ⟨f2, a2, t2, o2⟩ := ratField 2 _ _ rfl
 have h0 := hf 0 f0 a0
 have h1 := hf 1 f1 a1
 have h2 := hf 2 f2 a2
 rw [t0, o0, cells_bool, List.getElem?_eq_getElem (by omega)] at h0
 rw [t1, o1, cells_nat, List.getElem?_eq_getElem (by omega)] at h1
 rw [t2, o2, cells_nat, List.getElem?_eq_getElem (by omega)] at h2
 obtain ⟨b, e, _⟩ := DataW.trod_bool und_bool h0
 have e' : c0 = .bool b := by simpa using e
 subst e'
 obtain ⟨ds, hn⟩ := open_nat h1
 obtain ⟨es, hd⟩ := open_nat h2
 exact ⟨⟨b, ds, es⟩, c1, c2, rfl, hn, hd⟩
theorem choose_list {α : Type} {Q : Nat → α → Prop} : ∀ n, (∀ i, i < n → ∃ x, Q i x) → ∃ xs : List α, xs.length = n ∧ ∀ i x, xs[i]? = some x → Q i x
 | 0, _ => ⟨[], rfl, fun i x h => by simp at h⟩
 | n + 1, h => by
  obtain ⟨xs, hl, hq⟩ := choose_list n fun i hi => h i (by omega)
  obtain ⟨x, hx⟩ := h n (by omega)
  refine ⟨xs ++ [x], by simp [hl], fun i y hi => ?_⟩
  by_cases hlt : i < n
  ·rw [List.getElem?_append_left (by omega)] at hi; exact hq i y hi
  ·rw [List.getElem?_append_right (by omega)] at hi
   have : i = n := by
    rcases Nat.eq_zero_or_pos (i - xs.length) with h0 | h0
    ·omega
    ·rw [List.getElem?_eq_none (by simp; omega)] at hi; cases hi
   subst this
   rw [hl, Nat.sub_self] at hi
   simp at hi
   subst hi; exact hx
theorem open_raws {t fuel : Nat} {v : Value} {x : DataW H × List MemPlace} (ht : elemT Tryz.prog t = some 48) (h : DataW.trod enc Tryz.prog w base spare held fuel t [v] = some x) : ∃ l, Raws (viewW w) v l := by
 rcases Go.Deep.open_slice (und_elem ht) h with ⟨hcs, _⟩ | ⟨a, len, cap, m, n, D, Pl, hcs, _, hl, hm, hmm, _, hel⟩
 ·cases hcs; exact ⟨[], SlAt.nil _⟩
 ·cases hcs
  have hlm : len ≤ m := by rw [hmm]; split <;> omega
  have key : ∀ i, i < len → ∃ r : Raw, ∃ n d : Value, w.cell? (a.add (i * 3)) = some (.bool r.m) ∧ w.cell? (a.add (i * 3 + 1)) = some n ∧ w.cell? (a.add (i * 3 + 2)) = some d ∧ NatAt (viewW w) n r.nd ∧ NatAt (viewW w) d r.dd := fun i hi => by
   obtain ⟨cs', h1, h2⟩ := hel i (by omega)
   obtain ⟨r, n', d, rfl, k1, k2⟩ := open_rat h2
   rw [cells_rat] at h1
   obtain ⟨_, _, h3⟩ := World.cells?_some h1
   have g0 := h3 0 (by omega)
   have g1 := h3 1 (by omega)
   have g2 := h3 2 (by omega)
   rw [Go.Deep.add_add] at g0 g1 g2
   exact ⟨r, n', d, g0, g1, g2, k1, k2⟩
  obtain ⟨l, hll, hq⟩ := choose_list len key
  refine ⟨l, some a, cap, by rw [hll], by omega, by unfold maxLen at hm; omega, ?_⟩
  rcases Nat.eq_zero_or_pos len with h0 | h0
  ·exact .inl (List.length_eq_zero_iff.1 (by omega))
  ·obtain ⟨nn, dd, g0, _⟩ := hq 0 l[0] (List.getElem?_eq_getElem (by omega))
   have e0 : a.add (0 * 3) = a := by simp [Addr.add]
   rw [e0] at g0
   obtain ⟨hs, arr, ty, fr, hb, _⟩ := cell_view g0
   refine .inr ⟨a.block, a.off, arr, ty, fr, by rw [← addr_eta a hs], hb, fun i x hi => ?_⟩
   obtain ⟨n', d, g0, g1, g2, k1, k2⟩ := hq i x hi
   have at_ : ∀ k v, w.cell? (a.add k) = some v → arr[a.off + k]? = some v := fun k v hk => by
    obtain ⟨_, arr', ty', fr', hb', hv⟩ := cell_view hk
    obtain ⟨e1, e2⟩ := add_off a k
    rw [e1, hb] at hb'
    cases hb'
    rw [e2] at hv; exact hv
   exact ⟨.bool x.m, n', d, at_ _ _ g0, at_ _ _ g1, at_ _ _ g2, rfl, k1.one, k2.one, n', d, rfl, k1, k2⟩
end
section
variable {H : Type} {enc : TypeId × Value → H} {w : World} {base : Nat} {spare : Nat → Bool} {held : Bool}
noncomputable def matFields : Array Field := match (Tryz.prog).underlying 24 with
 | some (.struct fs) => fs
 | _ => #[]
theorem und_mat : (Tryz.prog).underlying 24 = some (.struct matFields) := by kernel_rfl
theorem matFields_map : matFields.toList.map (fun f => (f.type, f.offset)) = [(3, 0), (3, 1), (22, 2)] := by kernel_rfl
noncomputable def chnFields : Array Field := match (Tryz.prog).underlying 57 with
 | some (.struct fs) => fs
 | _ => #[]
theorem und_chn : (Tryz.prog).underlying 57 = some (.struct chnFields) := by kernel_rfl
theorem chnFields_map : chnFields.toList.map (fun f => (f.type, f.offset)) = [(24, 0), (24, 3)] := by kernel_rfl
theorem cells_int : (Tryz.prog).cellsOf 3 = 1 := by kernel_rfl
theorem cells_rats : (Tryz.prog).cellsOf 22 = 1 := by kernel_rfl
theorem cells_mat : (Tryz.prog).cellsOf 24 = 3 := by kernel_rfl
theorem cells_chn : (Tryz.prog).cellsOf 57 = 6 := by kernel_rfl
theorem und_int : (Tryz.prog).underlying 3 = some (.int .i64) := by kernel_rfl
theorem fieldOf {fs : Array Field} {m : List (Nat × Nat)} (hm : fs.toList.map (fun f => (f.type, f.offset)) = m) (i : Nat) (t o : Nat) (h : m[i]? = some (t, o)) : ∃ f, fs[i]? = some f ∧ f.type = t ∧ f.offset = o := by
 rw [← hm, List.getElem?_map] at h
 cases hf : fs.toList[i]? with
 | none => rw [hf] at h; cases h
 | some f =>
  rw [hf] at h
  simp at h
  exact ⟨f, by rw [← Array.getElem?_toList]; exact hf, h.1, h.2⟩
theorem open_mat {fuel : Nat} {cs : List Value} {x : DataW H × List MemPlace} (h : DataW.trod enc Tryz.prog w base spare held fuel 24 cs = some x) : ∃ (r c : Int) (s : Value) (l : List Raw), cs = [.int .i64 r, .int .i64 c, s] ∧ Raws (viewW w) s l := by
 obtain ⟨xs, m, _, _, hl, hxl, hf⟩ := DataW.trod_struct und_mat h
 rw [cells_mat] at hl
 have hsz : matFields.size = 3 := by
  have := congrArg List.length matFields_map
  simpa using this
 obtain ⟨v0, v1, v2, rfl⟩ := three_of hl
 obtain ⟨f0, a0, t0, o0⟩ := fieldOf matFields_map 0 _ _ rfl
 obtain ⟨f1, a1, t1, o1⟩ := fieldOf matFields_map 1 _ _ rfl
 obtain ⟨f2, a2, t2, o2⟩ := fieldOf matFields_map 2 _ _ rfl
 have h0 := hf 0 f0 a0
 have h1 := hf 1 f1 a1
 have h2 := hf 2 f2 a2
 rw [t0, o0, cells_int, List.getElem?_eq_getElem (by omega)] at h0
 rw [t1, o1, cells_int, List.getElem?_eq_getElem (by omega)] at h1
 rw [t2, o2, cells_rats, List.getElem?_eq_getElem (by omega)] at h2
 obtain ⟨r, e0, _⟩ := DataW.trod_int und_int h0
 obtain ⟨c, e1, _⟩ := DataW.trod_int und_int h1
 have e0' : v0 = .int .i64 r := by simpa using e0
 have e1' : v1 = .int .i64 c := by simpa using e1
 subst e0'
 subst e1'
 obtain ⟨l, hl2⟩ := open_raws (v := v2) (by kernel_rfl) h2
 exact ⟨r, c, v2, l, rfl, hl2⟩
theorem open_chain {fuel : Nat} {cs : List Value} {x : DataW H × List MemPlace} (h : DataW.trod enc Tryz.prog w base spare held fuel 57 cs = some x) : ∃ (r1 c1 : Int) (s1 : Value) (l1 : List Raw) (r2 c2 : Int) (s2 : Value) (l2 : List Raw), cs = [.int .i64 r1, .int .i64 c1, s1, .int .i64 r2, .int .i64 c2, s2] ∧ Raws (viewW w) s1 l1 ∧ Raws (viewW w) s2 l2 := by
 obtain ⟨xs, m, _, _, hl, hxl, hf⟩ := DataW.trod_struct und_chn h
 rw [cells_chn] at hl
 have hsz : chnFields.size = 2 := by
  have := congrArg List.length chnFields_map
  simpa using this
 obtain ⟨f0, a0, t0, o0⟩ := fieldOf chnFields_map 0 _ _ rfl
 obtain ⟨f1, a1, t1, o1⟩ := fieldOf chnFields_map 1 _ _ rfl
 have h0 := hf 0 f0 a0
 have h1 := hf 1 f1 a1
 rw [t0, o0, cells_mat, List.getElem?_eq_getElem (by omega)] at h0
 rw [t1, o1, cells_mat, List.getElem?_eq_getElem (by omega)] at h1
 obtain ⟨r1, c1, s1, l1, e0, k1⟩ := open_mat h0
 obtain ⟨r2, c2, s2, l2, e1, k2⟩ := open_mat h1
 refine ⟨r1, c1, s1, l1, r2, c2, s2, l2, ?_, k1, k2⟩
 have e := List.take_append_drop 3 cs
 rw [show cs.take 3 = [.int .i64 r1, .int .i64 c1, s1] by simpa using e0] at e
 have e3 : cs.drop 3 = [.int .i64 r2, .int .i64 c2, s2] := by
  have : ((cs.drop 3).take 3) = cs.drop 3 := List.take_of_length_le (by rw [List.length_drop]; omega)
  rw [← this]; exact e1
 rw [e3] at e
 exact e.symm
end
end Go.Proofs.YthoboehbadmlmaaGreat
end
section
namespace Go.Proofs.YthoboehbadmlmaaGreat
def Sm (f : Nat → Rat) : Nat → Rat
 | 0 => 0
 | n + 1 => Sm f n + f n
theorem Sm_congr {f g : Nat → Rat} : ∀ (n : Nat), (∀ j, j < n → f j = g j) → Sm f n = Sm g n
 | 0, _ => rfl
 | n + 1, h => by
  have := Sm_congr n (fun j hj => h j (by omega))
  simp only [Sm, this, h n (by omega)]
theorem Sm_zero {f : Nat → Rat} (n : Nat) (h : ∀ j, j < n → f j = 0) : Sm f n = 0 := by
 induction n with
 | zero => rfl
 | succ n ih =>
  simp only [Sm, ih fun j hj => h j (by omega), h n (by omega)]
  grind
theorem Sm_add (f g : Nat → Rat) (n : Nat) : Sm (fun j => f j + g j) n = Sm f n + Sm g n := by
 induction n with
 | zero => simp only [Sm]; grind
 | succ n ih => simp only [Sm, ih]; grind
theorem Sm_mul (c : Rat) (f : Nat → Rat) (n : Nat) : Sm (fun j => c * f j) n = c * Sm f n := by
 induction n with
 | zero => simp only [Sm]; grind
 | succ n ih => simp only [Sm, ih]; grind
theorem Sm_front (f : Nat → Rat) (n : Nat) : Sm f (n + 1) = f 0 + Sm (fun j => f (j + 1)) n := by
 induction n with
 | zero => simp only [Sm]; grind
 | succ n ih =>
  have e : Sm f (n + 1 + 1) = Sm f (n + 1) + f (n + 1) := rfl
  rw [e, ih]; simp only [Sm]; grind
theorem Sm_rev (f : Nat → Rat) (n : Nat) : Sm (fun j => f (n - 1 - j)) n = Sm f n := by
 induction n with
 | zero => rfl
 | succ n ih =>
  rw [Sm_front]
  have h : Sm (fun j => f (n + 1 - 1 - (j + 1))) n = Sm (fun j => f (n - 1 - j)) n := Sm_congr n fun j hj => by congr 1; omega
  rw [h, ih]
  simp only [Sm, Nat.add_sub_cancel, Nat.sub_zero]; grind
theorem Sm_one {f : Nat → Rat} {n k : Nat} (hk : k < n) (h : ∀ j, j < n → j ≠ k → f j = 0) : Sm f n = f k := by
 induction n with
 | zero => omega
 | succ n ih =>
  by_cases hn : k = n
  ·subst hn
   simp only [Sm, Sm_zero k fun j hj => h j (by omega) (by omega)]; grind
  ·simp only [Sm, ih (by omega) fun j hj => h j (by omega), h n (by omega) (by omega)]; grind
theorem Sm_more {f : Nat → Rat} {n m : Nat} (hn : n ≤ m) (h : ∀ j, n ≤ j → j < m → f j = 0) : Sm f m = Sm f n := by
 induction m with
 | zero => rw [show n = 0 by omega]
 | succ m ih =>
  by_cases hm : n = m + 1
  ·rw [hm]
  ·simp only [Sm, ih (by omega) fun j h1 h2 => h j h1 (by omega), h m (by omega) (by omega)]; grind
theorem Sm_tri (F : Nat → Nat → Rat) (n : Nat) : Sm (fun i => Sm (F i) (i + 1)) n = Sm (fun j => Sm (fun k => F (j + k) j) (n - j)) n := by
 induction n with
 | zero => rfl
 | succ n ih =>
  have e : Sm (fun i => Sm (F i) (i + 1)) (n + 1) = Sm (fun i => Sm (F i) (i + 1)) n + Sm (F n) (n + 1) := rfl
  have h : Sm (fun j => Sm (fun k => F (j + k) j) (n + 1 - j)) (n + 1) = Sm (fun j => Sm (fun k => F (j + k) j) (n - j) + F n j) (n + 1) := Sm_congr _ fun j hj => by
   have hs : n + 1 - j = (n - j) + 1 := by omega
   have hn : j + (n - j) = n := by omega
   rw [hs]; simp only [Sm, hn]
  have h2 : Sm (fun j => Sm (fun k => F (j + k) j) (n - j)) (n + 1) = Sm (fun j => Sm (fun k => F (j + k) j) (n - j)) n := by
   simp only [Sm, Nat.sub_self]; grind
  rw [e, ih, h, Sm_add, h2]
def cv (f g : Nat → Rat) (n : Nat) : Rat := Sm (fun j => f j * g (n - j)) (n + 1)
def un (i : Nat) : Rat := if i = 0 then 1 else 0
def mon (t : Rat) (k i : Nat) : Rat := if i = k then t else 0
theorem cv_comm (f g : Nat → Rat) : cv f g = cv g f := by
 funext n
 unfold cv
 rw [← Sm_rev]
 refine Sm_congr _ fun j hj => ?_
 have h1 : n + 1 - 1 - j = n - j := by omega
 have h2 : n - (n + 1 - 1 - j) = j := by omega
 simp only [h1, show n - (n - j) = j by omega]; grind
theorem cv_assoc (f g h : Nat → Rat) : cv (cv f g) h = cv f (cv g h) := by
 funext n
 unfold cv
 have e1 : Sm (fun i => Sm (fun j => f j * g (i - j)) (i + 1) * h (n - i)) (n + 1) = Sm (fun i => Sm (fun j => f j * g (i - j) * h (n - i)) (i + 1)) (n + 1) := Sm_congr _ fun i _ => by
  rw [show Sm (fun j => f j * g (i - j)) (i + 1) * h (n - i) = h (n - i) * Sm (fun j => f j * g (i - j)) (i + 1) by grind, ← Sm_mul]
  exact Sm_congr _ fun j _ => by grind
 rw [e1, Sm_tri (fun i j => f j * g (i - j) * h (n - i))]
 refine Sm_congr _ fun j hj => ?_
 rw [← Sm_mul, show n + 1 - j = n - j + 1 by omega]
 refine Sm_congr _ fun k hk => ?_
 rw [show j + k - j = k by omega, show n - (j + k) = n - j - k by omega]; grind
theorem cv_add (f g h : Nat → Rat) : cv f (fun i => g i + h i) = fun n => cv f g n + cv f h n := by
 funext n
 unfold cv
 rw [← Sm_add]
 exact Sm_congr _ fun j _ => by grind
theorem cv_smul (c : Rat) (f g : Nat → Rat) : cv f (fun i => c * g i) = fun n => c * cv f g n := by
 funext n
 unfold cv
 rw [← Sm_mul]
 exact Sm_congr _ fun j _ => by grind
theorem cv_sub (f g h : Nat → Rat) : cv f (fun i => g i - h i) = fun n => cv f g n - cv f h n := by
 have e : (fun i => g i - h i) = fun i => g i + (-1) * h i := by funext i; grind
 rw [e, cv_add, cv_smul]; funext n; grind
theorem cv_mon (f : Nat → Rat) (t : Rat) (k n : Nat) : cv f (mon t k) n = if k ≤ n then t * f (n - k) else 0 := by
 unfold cv mon
 by_cases h : k ≤ n
 ·rw [if_pos h, Sm_one (k := n - k) (by omega) fun j hj hne => by rw [if_neg (by omega)]; grind]
  rw [if_pos (by omega)]; grind
 ·rw [if_neg h]
  exact Sm_zero _ fun j hj => by rw [if_neg (by omega)]; grind
theorem cv_un (f : Nat → Rat) : cv f un = f := by
 funext n
 have e : un = mon 1 0 := rfl
 rw [e, cv_mon, if_pos (by omega)]; simp only [Nat.sub_zero]; grind
theorem cv_zero (f : Nat → Rat) : cv f (fun _ => 0) = fun _ => 0 := by
 funext n
 exact Sm_zero _ fun j _ => by grind
theorem meet_cv (p q : List Rat) (i : Nat) : meet p q i (i + 1) = cv (cf p) (cf q) i := by
 have key : ∀ k, k ≤ i + 1 → meet p q i k = Sm (fun j => cf p j * cf q (i - j)) k := by
  intro k
  induction k with
  | zero => intro _; rfl
  | succ k ih =>
   intro hk
   simp only [meet, Sm, ih (by omega), if_pos (show k ≤ i by omega)]
 exact key _ (Nat.le_refl _)
theorem mulP_cv (p q : List Rat) : cf (mulP p q) = cv (cf p) (cf q) := by
 funext i
 rw [cf_mulP, meet_all, meet_cv]
theorem cf_nil : cf [] = fun _ => 0 := by funext i; exact cf_none (by simp)
theorem cf_un : cf [1] = un := by funext i; rw [cf_one]; rfl
theorem pAdd_cv (p q : List Rat) (c : Rat) (up i : Nat) : cf (pAdd p q c up) i = cf p i + cv (cf q) (mon c up) i := by
 rw [cf_pAdd, cv_mon]
 unfold pAt
 split
 ·grind
 ·rfl
theorem pAdd_one (p : List Rat) (c : Rat) (up i : Nat) : cf (pAdd p [1] c up) i = cf p i + mon c up i := by
 rw [pAdd_cv, cf_un, cv_comm, cv_un]
theorem pAdd_0 (p q : List Rat) (c : Rat) (i : Nat) : cf (pAdd p q c 0) i = cf p i + c * cf q i := by
 rw [pAdd_cv, cv_mon, if_pos (by omega), Nat.sub_zero]
theorem mon_neg (t : Rat) (k : Nat) : mon (-t) k = fun i => -1 * mon t k i := by
 funext i; unfold mon; split <;> grind
theorem part_law (q : List Rat) : ∀ (n : Nat) (quo rest : List Rat) (i : Nat), cv (cf q) (cf (partF q n quo rest).1) i + cf (partF q n quo rest).2 i = cv (cf q) (cf quo) i + cf rest i := by
 intro n
 induction n with
 | zero => intro quo rest i; rfl
 | succ n ih =>
  intro quo rest i
  rw [partF]
  split
  ·rw [ih]
   have e1 : cf (pAdd quo [1] (topQ rest q) (rest.length - q.length)) = fun i => cf quo i + mon (topQ rest q) (rest.length - q.length) i := by funext j; exact pAdd_one _ _ _ _
   rw [e1, cv_add, pAdd_cv, mon_neg, cv_smul]
   grind
  ·rfl
theorem partP_law (p q : List Rat) (i : Nat) : cv (cf q) (cf (partP p q).1) i + cf (partP p q).2 i = cf p i := by
 unfold partP
 rw [part_law, cf_nil, cv_zero, cf_trimQ]; grind
def Dv (d p : List Rat) : Prop := ∃ s : List Rat, cf p = cv (cf d) (cf s)
theorem PolQ_nil : PolQ [] := fun h => by simp at h
theorem top_cv {d t : List Rat} (h0 : 0 < d.length) (h1 : 0 < t.length) : cv (cf d) (cf t) (d.length - 1 + (t.length - 1)) = cf d (d.length - 1) * cf t (t.length - 1) := by
 unfold cv
 rw [Sm_one (k := d.length - 1) (by omega)]
 ·rw [Nat.add_sub_cancel_left]
 ·intro j hj hne
  rcases Nat.lt_or_ge j (d.length - 1) with h | h
  ·rw [cf_none (l := t) (by omega)]; grind
  ·rw [cf_none (l := d) (by omega)]; grind
theorem rat_mul_ne {a b : Rat} (ha : a ≠ 0) (hb : b ≠ 0) : a * b ≠ 0 := fun h => by
 rcases Rat.mul_eq_zero.1 h with h | h
 ·exact ha h
 ·exact hb h
theorem part_dv {p d : List Rat} (hd : PolQ d) (h0 : 0 < d.length) (h : Dv d p) : (partP p d).2 = [] := by
 obtain ⟨s, hs⟩ := h
 obtain ⟨hl, hr⟩ := partP_rest (p := p) hd h0
 have key : ∀ i, cf (partP p d).2 i = cv (cf d) (cf (pAdd s (partP p d).1 (-1) 0)) i := fun i => by
  have e : cf (pAdd s (partP p d).1 (-1) 0) = fun i => cf s i - cf (partP p d).1 i := by
   funext i; rw [pAdd_0]; grind
  have := partP_law p d i
  rw [e, cv_sub, ← hs]
  grind
 by_cases ht : 0 < (pAdd s (partP p d).1 (-1) 0).length
 ·have h1 := key (d.length - 1 + ((pAdd s (partP p d).1 (-1) 0).length - 1))
  rw [top_cv h0 ht, cf_none (by omega)] at h1
  exact absurd h1.symm (rat_mul_ne (hd h0) (pAdd_pol _ _ _ _ ht))
 ·have e : pAdd s (partP p d).1 (-1) 0 = [] := List.length_eq_zero_iff.1 (by omega)
  refine PolQ.ext hr PolQ_nil fun i => ?_
  rw [key, e, cf_nil, cv_zero]
theorem Dv.refl (p : List Rat) : Dv p p := ⟨[1], by rw [cf_un, cv_un]⟩
theorem Dv.nil (p : List Rat) : Dv p [] := ⟨[], by rw [cf_nil, cv_zero]⟩
theorem Dv.comb {g p q r a : List Rat} (hq : Dv g q) (hr : Dv g r) (h : ∀ i, cv (cf q) (cf a) i + cf r i = cf p i) : Dv g p := by
 obtain ⟨s, hs⟩ := hq
 obtain ⟨t, ht⟩ := hr
 refine ⟨pAdd (mulP s a) t 1 0, ?_⟩
 have e : cf (pAdd (mulP s a) t 1 0) = fun i => cv (cf s) (cf a) i + cf t i := by
  funext i; rw [pAdd_0, mulP_cv]; grind
 funext i
 rw [e, cv_add, ← cv_assoc, ← hs, ← ht]
 exact (h i).symm
theorem comR_dv : ∀ (n : Nat) (p q : List Rat), PolQ p → PolQ q → q.length < n → Dv (comR n p q) p ∧ Dv (comR n p q) q ∧ PolQ (comR n p q) ∧ (0 < p.length ∨ 0 < q.length → 0 < (comR n p q).length) := by
 intro n
 induction n with
 | zero => intro p q _ _ h; omega
 | succ n ih =>
  intro p q hp hq hn
  rw [comR]
  split
  ·rename_i h0
   obtain ⟨hl, hr⟩ := partP_rest (p := p) hq h0
   obtain ⟨h1, h2, h3, h4⟩ := ih q (partP p q).2 hq hr (by omega)
   exact ⟨h1.comb h2 (partP_law p q), h1, h3, fun _ => h4 (.inl h0)⟩
  ·rename_i h0
   have e : q = [] := List.length_eq_zero_iff.1 (by omega)
   subst e
   exact ⟨Dv.refl p, Dv.nil p, hp, fun h => by simpa using h⟩
theorem Dv.scaled {d p : List Rat} (hd : PolQ d) (h0 : 0 < d.length) (h : Dv d p) : Dv (scaledP d) p := by
 obtain ⟨s, hs⟩ := h
 refine ⟨pAdd [] s (cf d (d.length - 1)) 0, ?_⟩
 have hne := hd h0
 have e1 : cf (pAdd [] s (cf d (d.length - 1)) 0) = fun i => cf d (d.length - 1) * cf s i := by
  funext i; rw [pAdd_0, cf_nil]; grind
 have e2 : cf (scaledP d) = fun i => (1 / cf d (d.length - 1)) * cf d i := by
  funext i; rw [cf_scaledP]; grind
 rw [e1, e2, cv_smul, cv_comm, cv_smul, hs, cv_comm]
 funext i
 grind
theorem comRP_dv {p q : List Rat} (hp : PolQ p) (hq : PolQ q) (h0 : 0 < p.length ∨ 0 < q.length) : Dv (comRP p q) p ∧ Dv (comRP p q) q ∧ PolQ (comRP p q) ∧ 0 < (comRP p q).length ∧ cf (comRP p q) ((comRP p q).length - 1) = 1 := by
 obtain ⟨h1, h2, h3, h4⟩ := comR_dv (q.length + 1) p q hp hq (by omega)
 have h5 := h4 h0
 unfold comRP
 exact ⟨h1.scaled h3 h5, h2.scaled h3 h5, scaledP_pol _, by rw [scaledP_len h3]; exact h5, scaledP_last h3 h5⟩
theorem partF_CB {B : Nat} {q : List Rat} (hq : 0 < q.length) (hl : cf q (q.length - 1) ≠ 0) (hB : CB B q) : ∀ (n k N : Nat) (quo rest : List Rat), rest.length + 1 ≤ q.length + k → CB N quo → CB N rest → PolQ rest →
  CB (2 ^ k * (N + 2 * B + 2)) (partF q n quo rest).1 ∧ CB (2 ^ k * (N + 2 * B + 2)) (partF q n quo rest).2 := by
 intro n
 induction n with
 | zero =>
  intro k N quo rest _ h1 h2 _
  have := Nat.le_mul_of_pos_left (N + 2 * B + 2) (two_pos k)
  exact ⟨h1.mono (by omega), h2.mono (by omega)⟩
 | succ n ih =>
  intro k N quo rest hk h1 h2 hp
  rw [partF]
  split
  ·rename_i hle
   cases k with
   | zero => omega
   | succ k =>
    have ht : QB (N + B) (topQ rest q) := (h2.at _).div (hB.at _)
    have hlt := div_less hq hl hle
    have a1 : CB (2 * N + 2 * B + 1) (pAdd quo [1] (topQ rest q) (rest.length - q.length)) := (CB.padd h1 (CB_one (QB_one 0)) ht _).mono (by omega)
    have a2 : CB (2 * N + 2 * B + 1) (pAdd rest q (-topQ rest q) (rest.length - q.length)) := (CB.padd h2 hB ht.neg _).mono (by omega)
    obtain ⟨c1, c2⟩ := ih k _ _ _ (by omega) a1 a2 (pAdd_pol _ _ _ _)
    have hm : 2 ^ k * (2 * N + 2 * B + 1 + 2 * B + 2) ≤ 2 ^ (k + 1) * (N + 2 * B + 2) := by
     rw [Nat.pow_succ, Nat.mul_assoc]
     exact Nat.mul_le_mul_left _ (by omega)
    exact ⟨c1.mono hm, c2.mono hm⟩
  ·have := Nat.le_mul_of_pos_left (N + 2 * B + 2) (two_pos k)
   exact ⟨h1.mono (by omega), h2.mono (by omega)⟩
theorem partP_CB {A B : Nat} {p q : List Rat} (hq : 0 < q.length) (hl : cf q (q.length - 1) ≠ 0) (hA : CB A p) (hB : CB B q) (hp : PolQ p) {k : Nat} (hk : p.length + 1 ≤ q.length + k) :
  CB (2 ^ k * (A + 2 * B + 2)) (partP p q).1 ∧ CB (2 ^ k * (A + 2 * B + 2)) (partP p q).2 := by
 unfold partP
 rw [hp.trim]
 exact partF_CB hq hl hB _ k A [] p hk (CB_nil _) hA hp
theorem partF_len (q : List Rat) (hq : 0 < q.length) (hl : cf q (q.length - 1) ≠ 0) : ∀ (n m : Nat) (quo rest : List Rat), quo.length ≤ m → rest.length ≤ m → (partF q n quo rest).1.length ≤ m := by
 intro n
 induction n with
 | zero => intro m quo rest h1 _; exact h1
 | succ n ih =>
  intro m quo rest h1 h2
  rw [partF]
  split
  ·rename_i hle
   have := div_less hq hl hle
   have h3 := pAdd_len quo [1] (topQ rest q) (rest.length - q.length)
   simp only [List.length_cons, List.length_nil] at h3
   exact ih _ _ _ (by omega) (by omega)
  ·exact h1
theorem partP_len {p q : List Rat} (hq : 0 < q.length) (hl : cf q (q.length - 1) ≠ 0) : (partP p q).1.length ≤ p.length := by
 have := trimQ_len p
 exact partF_len q hq hl _ _ _ _ (by simp) (by omega)
theorem partF_pol (q : List Rat) : ∀ (n : Nat) (quo rest : List Rat), PolQ quo → PolQ (partF q n quo rest).1 := by
 intro n
 induction n with
 | zero => intro quo rest h; exact h
 | succ n ih =>
  intro quo rest h
  rw [partF]
  split
  ·exact ih _ _ (pAdd_pol _ _ _ _)
  ·exact h
theorem partP_pol (p q : List Rat) : PolQ (partP p q).1 := partF_pol q _ _ _ PolQ_nil
theorem comR_len : ∀ (n : Nat) (p q : List Rat), PolQ q → (comR n p q).length ≤ max p.length q.length := by
 intro n
 induction n with
 | zero => intro p q _; exact Nat.le_max_left _ _
 | succ n ih =>
  intro p q hq
  rw [comR]
  split
  ·rename_i h0
   obtain ⟨hl, hr⟩ := partP_rest (p := p) hq h0
   have := ih q (partP p q).2 hr
   omega
  ·exact Nat.le_max_left _ _
theorem scaledP_le (p : List Rat) : (scaledP p).length ≤ p.length := by
 have := pAdd_len [] p (1 / cf p (p.length - 1)) 0
 simp only [List.length_nil, Nat.zero_max, Nat.add_zero] at this
 exact this
theorem comRP_len (p : List Rat) {q : List Rat} (hq : PolQ q) : (comRP p q).length ≤ max p.length q.length := Nat.le_trans (scaledP_le _) (comR_len _ p q hq)
end Go.Proofs.YthoboehbadmlmaaGreat
end
