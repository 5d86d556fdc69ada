/- KernelMixes answers true at every input: a mixture of two kernels, errors and their order included. (part 10 of 11) -/
import Derived.OrdersHeld
import Derived.Below
import Derived.Tactics
import Derived.KernelRfl
import Derived.RangeFuncCalls
import Derived.RangeFuncFrom
import Derived.RangeFuncLeaves
import Derived.OrdersIn
import Derived.Laws.AppendOwn
import Derived.Laws.MakeOwn
import Derived.Laws.CopyRow
import Derived.Laws.Cells
import Derived.Laws.World
import Derived.Laws.Alloc2
import Derived.Laws.NewBlocks
import Derived.Maps.AppendAt
import Derived.Test.YtobjjdnfgamgcaaProg
import Init.Data.List.Lemmas
import Init.Omega
import Derived.WalkKit
import Derived.ProofKit
import Derived.OpenShut
import Derived.ChangeOld
import Derived.SizedLaws
import Derived.ChangeSlices
import Derived.ChangeArms
import Derived.Deep.Slices
import Derived.MapKept
import Derived.Maps.RangeRun
import Derived.Test.YtobjjdnfgamgcaaMX9
section
namespace Go.Proofs.Ytobjjdnfgamgcaa
open Go Go.RowKit
set_option linter.unusedSimpArgs false
set_option linter.unusedVariables false
attribute [local irreducible] XWP Spec SpecO XPub XCall seqX clX apX stX ldX iaX slX
theorem View.keepAt {Vb V : View} {r : Nat} {o : Obj} (h : Vb.le V) (hr : Vb r = none) : Vb.le (addV V r o) := fun k ob hk => by
  rw [addV_off (fun e => by rw [e, hr] at hk; cases hk)]; exact h k ob hk
def unseen (n : Nat) (seen : Array Nat) : Nat := ((List.range n).filter fun j => decide (j ∉ seen)).length
theorem filter_lt {α : Type} {p q : α → Bool} : ∀ {l : List α} {x : α}, x ∈ l → p x = true → q x = false → (∀ y ∈ l, q y = true → p y = true) → (l.filter q).length < (l.filter p).length
  | [], _, h, _, _, _ => by cases h
  | y :: l, x, h, hp, hq, hqp => by
    have hle : (l.filter q).length ≤ (l.filter p).length := by
      clear h
      induction l with
      | nil => simp
      | cons z l ih =>
        have ih := ih fun y hy => hqp y (by
          rcases List.mem_cons.1 hy with h | h
          · rw [h]; simp
          · simp [h])
        have hz := hqp z (by simp)
        simp only [List.filter_cons]
        cases e : q z
        · simp only [Bool.false_eq_true, if_false]
          split
          · simp only [List.length_cons]; omega
          · exact ih
        · rw [hz e]; simp only [if_true, List.length_cons]; omega
    simp only [List.filter_cons]
    rcases List.mem_cons.1 h with rfl | h
    · rw [hp, hq]
      simp only [Bool.false_eq_true, if_false, if_true, List.length_cons]; omega
    · have ih := filter_lt h hp hq fun y hy => hqp y (List.mem_cons_of_mem _ hy)
      cases e : q y
      · simp only [Bool.false_eq_true, if_false]
        split
        · simp only [List.length_cons]; omega
        · exact ih
      · rw [hqp y (by simp) e]; simp only [if_true, List.length_cons]; omega
theorem unseen_push {n j : Nat} {seen : Array Nat} (hj : j < n) (h : j ∉ seen) : unseen n (seen.push j) < unseen n seen := by
  unfold unseen
  refine filter_lt (x := j) (List.mem_range.2 hj) (decide_eq_true h) (decide_eq_false (by simp)) fun y _ hy => ?_
  have := of_decide_eq_true hy
  exact decide_eq_true fun hm => this (by simp [hm])
theorem forkB_small {f : Nat} {L : List Rn} {a : Nat} (h : L.length ≤ 1) : forkB f L a = true := by
  cases f with
  | zero => unfold forkB; exact decide_eq_true h
  | succ f => unfold forkB; rw [if_pos h]
theorem partB_short {L : List Rn} {a : Nat} (h0 : 0 < L.length) (h : ∀ r ∈ L, r.ds.length ≤ a) : partB L a = none := by
  refine partB_none (k := 0) h0 ?_
  obtain ⟨r, hr⟩ : ∃ r, L[0]? = some r := ⟨_, List.getElem?_eq_getElem h0⟩
  have : partI L a 1 = partStep (draw0 L a) a ([], 0) r := by unfold partI; rw [hr]; rfl
  rw [this]
  unfold partStep
  rw [List.getElem?_eq_none (h r (List.mem_of_getElem? hr))]
set_option maxHeartbeats 2000000 in
set_option maxRecDepth 100000 in
theorem cfork_c : ∀ (f : Nat) (V : View) (v : Value) (L : List Rn) (a : Nat), SlK 9 rnE V v L → 0 < L.length → L.length ≤ 100 → a + f ≤ 200 → (∀ r ∈ L, ∀ d ∈ r.ds, d.good) → (∀ r ∈ L, r.ds.length + 1 ≤ a + f) → Spec Try.prog 17 [v, .int .i64 (a : Int)] V fun v' V' => v' = .bool (forkB f L a) := by
  intro f
  induction f using Nat.strongRecOn with
  | _ f ih =>
  intro V v L a h h0 hl haf hg hlen
  obtain ⟨A, cL, rfl, _, _⟩ := h.form
  refine (Spec.enterR Try.func17 rfl fun Γ hΓ => ?_)
  simp only [Try.ntmps17, List.map_cons, List.map_nil, List.length_cons, List.length_nil, Nat.reduceAdd, Nat.reduceSub, List.replicate_succ, List.replicate_zero, List.cons_append, List.nil_append]
  first | refine Gx.a (by kernel_rfl) fun K hK => ?_ | refine Gx.b (by kernel_rfl) fun K hK => ?_ | refine Gx.c (by kernel_rfl) fun K hK => ?_
  simp only [XU, XA, XB, gateX, Nat.reduceAdd, Nat.reduceLeDiff, Nat.reduceSub, Nat.reduceMul, ↓reduceIte, Int.reduceToNat, Int.reduceLE, beq_self_eq_true]
  refine hK _ ?_
  refine XWP.cut (fun s => ∃ (V2 : View), StIs (fun Z => [Z 0,Z 1,Z 2,Z 3,Z 4,Z 5,Z 6,Z 7,Z 8,Z 9,Z 10,Z 11,Z 12,Z 13,Z 14,Z 15,Z 16,Z 17,Z 18,Z 19,Z 20,Z 21,Z 22,Z 23,Z 24,Z 25,Z 26,Z 27,Z 28,Z 29,Z 30,Z 31,Z 32,Z 33,Z 34,Z 35]) [] (fun _ => none) V2 s ∧ forkB f L a = true) ?_ ?_
  rotate_left
  · rintro s ⟨V2, hs, hf⟩
    obtain ⟨z, rfl⟩ := hs.out
    try dsimp only
    first | refine Gx.a (by kernel_rfl) fun K hK => ?_ | refine Gx.b (by kernel_rfl) fun K hK => ?_ | refine Gx.c (by kernel_rfl) fun K hK => ?_
    simp only [XU, XA, XB, gateX, Nat.reduceAdd, Nat.reduceLeDiff, Nat.reduceSub, Nat.reduceMul, ↓reduceIte, Int.reduceToNat, Int.reduceLE, beq_self_eq_true]
    refine hK _ (XWP.ret ?_)
    try simp only [thenX_ret, inBlockX_ret]
    refine ret_go _ rfl ?_
    rw [hf]; rfl
  first | refine XWP.block ?_ | refine XWP.seq (XWP.block ?_)
  refine XWP.loop (fun q s => ∃ (f' a' : Nat) (V2 : View), StIs (fun Z => [.v (.slice A L.length cL), .v (.int .i64 (a' : Int)), Z 2,Z 3,Z 4,Z 5,Z 6,Z 7,Z 8,Z 9,Z 10,Z 11,Z 12,Z 13,Z 14,Z 15,Z 16,Z 17,Z 18,Z 19,Z 20,Z 21,Z 22,Z 23,Z 24,Z 25,Z 26,Z 27,Z 28,Z 29,Z 30,Z 31,Z 32,Z 33,Z 34,Z 35]) [] (fun _ => none) V2 s ∧ q = f' ∧ f' ≤ f ∧ a' + f' = a + f ∧ V.le V2 ∧ forkB f L a = forkB f' L a') f ⟨f, a, V, StIs.of (by exact rfl), rfl, Nat.le_refl _, rfl, View.le_refl _, rfl⟩ ?_
  rintro q s ⟨f', a', V2, hs, rfl, hff, haf', hV2, hF⟩
  obtain ⟨z, rfl⟩ := hs.out
  try dsimp only
  clear hs
  refine XWP.seq ?_
  by_cases h1 : L.length ≤ 1
  · have b1 : decide ((1 : Int) < (L.length : Int)) = false := decide_eq_false (by omega)
    first | refine Gx.a (by kernel_rfl) fun K hK => ?_ | refine Gx.b (by kernel_rfl) fun K hK => ?_ | refine Gx.c (by kernel_rfl) fun K hK => ?_
    simp only [XU, XA, XB, gateX, Nat.reduceAdd, Nat.reduceLeDiff, Nat.reduceSub, Nat.reduceMul, ↓reduceIte, Int.reduceToNat, Int.reduceLE, beq_self_eq_true, b1]
    refine hK _ ?_
    first | refine Gx.f rfl ?_ | refine XWP.seq (Gx.f rfl ?_)
    refine XWP.exit ?_
    exact ⟨V2, StIs.of (by exact rfl), by rw [hF]; exact forkB_small h1⟩
  have b1 : decide ((1 : Int) < (L.length : Int)) = true := decide_eq_true (by omega)
  first | refine Gx.a (by kernel_rfl) fun K hK => ?_ | refine Gx.b (by kernel_rfl) fun K hK => ?_ | refine Gx.c (by kernel_rfl) fun K hK => ?_
  simp only [XU, XA, XB, gateX, Nat.reduceAdd, Nat.reduceLeDiff, Nat.reduceSub, Nat.reduceMul, ↓reduceIte, Int.reduceToNat, Int.reduceLE, beq_self_eq_true, b1]
  refine hK _ ?_
  first | refine Gx.t rfl ?_ | refine XWP.seq (Gx.t rfl ?_)
  refine XWP.skip ?_
  have hL2 := h.mono rnE_ok hV2
  have hlen' : ∀ r ∈ L, r.ds.length + 1 ≤ a' + q := fun r hr => by have := hlen r hr; omega
  refine XWP.cut (fun s => ∃ (V3 : View) (q' : Nat), StIs (fun Z => [.v (.slice A L.length cL), .v (.int .i64 (a' : Int)), Z 2,Z 3,Z 4,Z 5,Z 6,Z 7,Z 8,Z 9,Z 10,Z 11,Z 12,Z 13,Z 14,Z 15,Z 16,Z 17,Z 18,Z 19,Z 20,Z 21,Z 22,Z 23,Z 24,Z 25,Z 26,Z 27,Z 28,Z 29,Z 30,Z 31,Z 32,Z 33,Z 34,Z 35]) [] (fun _ => none) V3 s ∧ V.le V3 ∧ q = q' + 1 ∧ forkB f L a = forkB q' L (a' + 1)) ?_ ?_
  rotate_left
  · rintro s ⟨V3, q', hs, hV3, rfl, hF'⟩
    obtain ⟨z, rfl⟩ := hs.out
    try dsimp only
    clear hs
    first | refine Gx.a (by kernel_rfl) fun K hK => ?_ | refine Gx.b (by kernel_rfl) fun K hK => ?_ | refine Gx.c (by kernel_rfl) fun K hK => ?_
    simp only [XU, XA, XB, gateX, Nat.reduceAdd, Nat.reduceLeDiff, Nat.reduceSub, Nat.reduceMul, ↓reduceIte, Int.reduceToNat, Int.reduceLE, beq_self_eq_true, i64_succ a' (by omega)]
    exact hK _ ⟨q', by omega, q', a' + 1, V3, StIs.of (by exact rfl), rfl, by omega, by omega, hV3, hF'⟩
  first | refine XWP.block ?_ | refine XWP.seq (XWP.block ?_)
  first | refine Gx.a (by kernel_rfl) fun K hK => ?_ | refine Gx.b (by kernel_rfl) fun K hK => ?_ | refine Gx.c (by kernel_rfl) fun K hK => ?_
  simp only [XU, XA, XB, gateX, Nat.reduceAdd, Nat.reduceLeDiff, Nat.reduceSub, Nat.reduceMul, ↓reduceIte, Int.reduceToNat, Int.reduceLE, beq_self_eq_true]
  refine call_go (by kernel_rfl) rfl (cparted_c _ _ L a' hL2 h0 hl (by omega) hg) fun v4 V4 hV4 h4 => ?_
  have hV04 := View.le_trans hV2 hV4
  cases hp : partB L a' with
  | none =>
    have hfalse : forkB q L a' = false := by
      cases q with
      | zero => unfold forkB; exact decide_eq_false h1
      | succ q => unfold forkB; rw [if_neg h1, hp]
    have e := h4.1 hp
    subst e
    simp only [XU, XA, XB, gateX, Nat.reduceAdd, Nat.reduceLeDiff, Nat.reduceSub, Nat.reduceMul, ↓reduceIte, Int.reduceToNat, Int.reduceLE, beq_self_eq_true]
    refine hK _ ?_
    refine XWP.seq ?_
    first | refine Gx.a (by kernel_rfl) fun K hK => ?_ | refine Gx.b (by kernel_rfl) fun K hK => ?_ | refine Gx.c (by kernel_rfl) fun K hK => ?_
    simp only [XU, XA, XB, gateX, Nat.reduceAdd, Nat.reduceLeDiff, Nat.reduceSub, Nat.reduceMul, ↓reduceIte, Int.reduceToNat, Int.reduceLE, beq_self_eq_true]
    refine hK _ ?_
    first | refine Gx.t rfl ?_ | refine XWP.seq (Gx.t rfl ?_)
    first | refine Gx.a (by kernel_rfl) fun K hK => ?_ | refine Gx.b (by kernel_rfl) fun K hK => ?_ | refine Gx.c (by kernel_rfl) fun K hK => ?_
    simp only [XU, XA, XB, gateX, Nat.reduceAdd, Nat.reduceLeDiff, Nat.reduceSub, Nat.reduceMul, ↓reduceIte, Int.reduceToNat, Int.reduceLE, beq_self_eq_true]
    refine hK _ (XWP.ret ?_)
    try simp only [thenX_ret, inBlockX_ret]
    refine ret_go _ rfl ?_
    rw [hF, hfalse]; rfl
  | some st =>
    obtain ⟨gs, ok⟩ := st
    obtain ⟨g, ml, e, hVg, hgv, hgo⟩ := h4.2 gs ok hp
    subst e
    obtain ⟨q, rfl⟩ : ∃ q', q = q' + 1 := by
      cases q with
      | zero =>
        rw [partB_short h0 fun r hr => by have := hlen' r hr; omega] at hp
        cases hp
      | succ q => exact ⟨q, rfl⟩
    have hFS : forkB (q + 1) L a' = if ok = false then false else if gs.length = 1 then forkB q L (a' + 1) else gs.all fun g => forkB q g.2 (a' + 1) := by
      conv => lhs; unfold forkB
      rw [if_neg h1, hp]
    rw [hFS] at hF
    cases ok with
    | false =>
      simp only [XU, XA, XB, gateX, Nat.reduceAdd, Nat.reduceLeDiff, Nat.reduceSub, Nat.reduceMul, ↓reduceIte, Int.reduceToNat, Int.reduceLE, beq_self_eq_true]
      refine hK _ ?_
      refine XWP.seq ?_
      first | refine Gx.a (by kernel_rfl) fun K hK => ?_ | refine Gx.b (by kernel_rfl) fun K hK => ?_ | refine Gx.c (by kernel_rfl) fun K hK => ?_
      simp only [XU, XA, XB, gateX, Nat.reduceAdd, Nat.reduceLeDiff, Nat.reduceSub, Nat.reduceMul, ↓reduceIte, Int.reduceToNat, Int.reduceLE, beq_self_eq_true]
      refine hK _ ?_
      first | refine Gx.t rfl ?_ | refine XWP.seq (Gx.t rfl ?_)
      first | refine Gx.a (by kernel_rfl) fun K hK => ?_ | refine Gx.b (by kernel_rfl) fun K hK => ?_ | refine Gx.c (by kernel_rfl) fun K hK => ?_
      simp only [XU, XA, XB, gateX, Nat.reduceAdd, Nat.reduceLeDiff, Nat.reduceSub, Nat.reduceMul, ↓reduceIte, Int.reduceToNat, Int.reduceLE, beq_self_eq_true]
      refine hK _ (XWP.ret ?_)
      try simp only [thenX_ret, inBlockX_ret]
      refine ret_go _ rfl ?_
      rw [hF]; rfl
    | true =>
    rw [if_neg (by simp)] at hF
    simp only [XU, XA, XB, gateX, Nat.reduceAdd, Nat.reduceLeDiff, Nat.reduceSub, Nat.reduceMul, ↓reduceIte, Int.reduceToNat, Int.reduceLE, beq_self_eq_true]
    refine hK _ ?_
    refine XWP.seq ?_
    first | refine Gx.a (by kernel_rfl) fun K hK => ?_ | refine Gx.b (by kernel_rfl) fun K hK => ?_ | refine Gx.c (by kernel_rfl) fun K hK => ?_
    simp only [XU, XA, XB, gateX, Nat.reduceAdd, Nat.reduceLeDiff, Nat.reduceSub, Nat.reduceMul, ↓reduceIte, Int.reduceToNat, Int.reduceLE, beq_self_eq_true]
    refine hK _ ?_
    first | refine Gx.f rfl ?_ | refine XWP.seq (Gx.f rfl ?_)
    refine XWP.skip ?_
    refine XWP.seq ?_
    have hml : ml.length = gs.length := by have := congrArg List.length hgv.1; simpa using this
    refine XWP.seq (XWP.regZ (fun i => i == 1) (by kernel_rfl) ?_)
    refine seqZ_x rfl ?_
    simp only [XU, XA, XB, gateX, Nat.reduceAdd, Nat.reduceLeDiff, Nat.reduceSub, Nat.reduceMul, ↓reduceIte, Int.reduceToNat, Int.reduceLE, beq_self_eq_true]
    refine seqZ_z rfl (opz_len rfl mapT rfl hVg ?_)
    simp only [XU, XA, XB, gateX, Nat.reduceAdd, Nat.reduceLeDiff, Nat.reduceSub, Nat.reduceMul, ↓reduceIte, Int.reduceToNat, Int.reduceLE, beq_self_eq_true]
    by_cases hone : gs.length = 1
    · have b2 : decide ((ml.length : Int) = 1) = true := decide_eq_true (by omega)
      refine seqZ_x rfl ?_
      simp only [XU, XA, XB, gateX, Nat.reduceAdd, Nat.reduceLeDiff, Nat.reduceSub, Nat.reduceMul, ↓reduceIte, Int.reduceToNat, Int.reduceLE, beq_self_eq_true, b2]
      refine seqZ_nil ?_
      rw [thenX_normal]
      first | refine Gx.t rfl ?_ | refine XWP.seq (Gx.t rfl ?_)
      refine XWP.exit ?_
      exact ⟨V4, q, StIs.of (by exact rfl), hV04, rfl, by rw [hF, if_pos hone]⟩
    have b2 : decide ((ml.length : Int) = 1) = false := decide_eq_false (by omega)
    refine seqZ_x rfl ?_
    simp only [XU, XA, XB, gateX, Nat.reduceAdd, Nat.reduceLeDiff, Nat.reduceSub, Nat.reduceMul, ↓reduceIte, Int.reduceToNat, Int.reduceLE, beq_self_eq_true, b2]
    refine seqZ_nil ?_
    rw [thenX_normal]
    first | refine Gx.f rfl ?_ | refine XWP.seq (Gx.f rfl ?_)
    refine XWP.skip ?_
    rw [if_neg hone] at hF
    obtain ⟨met, hpm⟩ : ∃ met, PM L a' L.length gs met := by
      rcases part_met L a' L.length (Nat.le_refl _) with ⟨e, _⟩ | ⟨gs', odds', met, e1, _, e3⟩
      · unfold partB at hp; rw [e] at hp; cases hp
      · unfold partB at hp
        rw [e1] at hp
        have e5 : gs' = gs := (Prod.mk.inj (Option.some.inj hp)).1
        subst e5
        exact ⟨met, e3⟩
    have hgrp : ∀ (i : Nat) (k : Int) (rs : List Rn), gs[i]? = some (k, rs) → 0 < rs.length ∧ rs.length ≤ 100 ∧ ∀ r ∈ rs, r ∈ L := fun i k rs hi => by
      obtain ⟨d', _, _, _, _, e5, e⟩ := hpm.ent i k rs hi
      rw [List.take_length] at e
      refine ⟨e5, ?_, fun r hr => by rw [e] at hr; exact (List.mem_filter.1 hr).1⟩
      have h1 := List.length_filter_le (fun r : Rn => decide (r.ds[a']? = some d')) L
      rw [← e] at h1
      omega
    refine XWP.cut (fun s => ∃ (V5 : View), StIs (fun Z => [Z 0,Z 1,Z 2,Z 3,Z 4,Z 5,Z 6,Z 7,Z 8,Z 9,Z 10,Z 11,Z 12,Z 13,Z 14,Z 15,Z 16,Z 17,Z 18,Z 19,Z 20,Z 21,Z 22,Z 23,Z 24,Z 25,Z 26,Z 27,Z 28,Z 29,Z 30,Z 31,Z 32,Z 33,Z 34,Z 35]) [] (fun _ => none) V5 s ∧ forkB f L a = true) ?_ ?_
    rotate_left
    · rintro s ⟨V5, hs, hf⟩
      obtain ⟨z, rfl⟩ := hs.out
      try dsimp only
      first | refine Gx.a (by kernel_rfl) fun K hK => ?_ | refine Gx.b (by kernel_rfl) fun K hK => ?_ | refine Gx.c (by kernel_rfl) fun K hK => ?_
      simp only [XU, XA, XB, gateX, Nat.reduceAdd, Nat.reduceLeDiff, Nat.reduceSub, Nat.reduceMul, ↓reduceIte, Int.reduceToNat, Int.reduceLE, beq_self_eq_true]
      refine hK _ (XWP.ret ?_)
      try simp only [thenX_ret, inBlockX_ret]
      refine ret_go _ rfl ?_
      rw [hf]; rfl
    refine XWP.seq (XWP.regZ (fun i => i == 1) (by kernel_rfl) ?_)
    refine seqZ_x rfl ?_
    simp only [XU, XA, XB, gateX, Nat.reduceAdd, Nat.reduceLeDiff, Nat.reduceSub, Nat.reduceMul, ↓reduceIte, Int.reduceToNat, Int.reduceLE, beq_self_eq_true]
    refine seqZ_z rfl (opz_range rfl hΓ.2 mapT rfl hVg fun r hVr _ hMr => ?_)
    simp only [XU, XA, XB, gateX, Nat.reduceAdd, Nat.reduceLeDiff, Nat.reduceSub, Nat.reduceMul, ↓reduceIte, Int.reduceToNat, Int.reduceLE, beq_self_eq_true]
    refine seqZ_nil ?_
    rw [thenX_normal]
    first | refine XWP.block ?_ | refine XWP.seq (XWP.block ?_)
    refine XWP.loop (fun n s => ∃ (seen : Array Nat) (V5 : View), StIs (fun Z => [.v (.slice A L.length cL), .v (.int .i64 (a' : Int)), Z 2,Z 3,Z 4,Z 5,Z 6,Z 7,Z 8,Z 9,Z 10,Z 11,Z 12,Z 13,Z 14,Z 15,Z 16,Z 17,Z 18,Z 19,Z 20,Z 21,Z 22,Z 23,Z 24,Z 25, .v (.pointer (some ⟨r, 0, none⟩)), Z 27,Z 28,Z 29,Z 30,Z 31,Z 32,Z 33,Z 34,Z 35]) [] (fun _ => none) V5 s ∧ n = unseen ml.length seen ∧ V4.le V5 ∧ V5 r = some (itO g ml.length seen) ∧ ∀ j ∈ seen, ∀ k rs, gs[j]? = some (k, rs) → forkB q rs (a' + 1) = true) (unseen ml.length #[]) ⟨#[], _, StIs.of (by exact rfl), rfl, addV_new hVr, addV_on, fun j hj => by simp at hj⟩ ?_
    rintro n s ⟨seen, V5, hs, rfl, hV5, hVr5, hsn⟩
    obtain ⟨z, rfl⟩ := hs.out
    try dsimp only
    clear hs
    have hVg5 := hV5 _ _ hVg
    refine XWP.seq (XWP.regZ (fun i => i == 0) (by kernel_rfl) ?_)
    refine seqZ_z rfl (opz_next rfl hΓ.2 rfl hVg5 hVr5 hMr (fun hall => ?_) (fun j k w hj hns => ?_))
    · simp only [XU, XA, XB, gateX, Nat.reduceAdd, Nat.reduceLeDiff, Nat.reduceSub, Nat.reduceMul, ↓reduceIte, Int.reduceToNat, Int.reduceLE, beq_self_eq_true]
      refine seqZ_x rfl ?_
      simp only [XU, XA, XB, gateX, Nat.reduceAdd, Nat.reduceLeDiff, Nat.reduceSub, Nat.reduceMul, ↓reduceIte, Int.reduceToNat, Int.reduceLE, beq_self_eq_true]
      refine seqZ_nil ?_
      rw [thenX_normal]
      refine XWP.seq ?_
      first | refine Gx.f rfl ?_ | refine XWP.seq (Gx.f rfl ?_)
      refine XWP.exit ?_
      refine ⟨V5, StIs.of (by exact rfl), ?_⟩
      rw [hF, List.all_eq_true]
      intro p hp
      obtain ⟨j, hj⟩ := List.getElem?_of_mem hp
      have hjl := (List.getElem?_eq_some_iff.1 hj).1
      exact hsn j (hall j (by omega)) p.1 p.2 hj
    · simp only [XU, XA, XB, gateX, Nat.reduceAdd, Nat.reduceLeDiff, Nat.reduceSub, Nat.reduceMul, ↓reduceIte, Int.reduceToNat, Int.reduceLE, beq_self_eq_true]
      refine seqZ_x rfl ?_
      simp only [XU, XA, XB, gateX, Nat.reduceAdd, Nat.reduceLeDiff, Nat.reduceSub, Nat.reduceMul, ↓reduceIte, Int.reduceToNat, Int.reduceLE, beq_self_eq_true]
      refine seqZ_nil ?_
      rw [thenX_normal]
      refine XWP.seq ?_
      first | refine Gx.t rfl ?_ | refine XWP.seq (Gx.t rfl ?_)
      refine XWP.skip ?_
      have hjl := (List.getElem?_eq_some_iff.1 hj).1
      obtain ⟨⟨k', rs⟩, hgj⟩ : ∃ p, gs[j]? = some p := ⟨_, List.getElem?_eq_getElem (by omega)⟩
      have hsl := (hgv.2 j k w k' rs hj hgj).mono rnE_ok (View.keepAt (o := itO g ml.length (seen.push j)) hV5 hVr)
      have hV5' := View.keepAt (o := itO g ml.length (seen.push j)) hV5 hVr
      have hrk : ∃ A' c', w = .slice A' rs.length c' := by
        obtain ⟨A', c', e, _, _⟩ := hsl.form
        exact ⟨A', c', e⟩
      obtain ⟨A', c', rfl⟩ := hrk
      obtain ⟨r1, r2, r3⟩ := hgrp j k' rs hgj
      first | refine XWP.block ?_ | refine XWP.seq (XWP.block ?_)
      refine XWP.seq (XWP.regZ (fun i => i == 0) (by kernel_rfl) ?_)
      refine seqZ_z rfl (opz_entry rfl rfl (hV5' _ _ hVg) addV_on hj ?_)
      simp only [XU, XA, XB, gateX, Nat.reduceAdd, Nat.reduceLeDiff, Nat.reduceSub, Nat.reduceMul, ↓reduceIte, Int.reduceToNat, Int.reduceLE, beq_self_eq_true]
      refine seqZ_x rfl ?_
      simp only [XU, XA, XB, gateX, Nat.reduceAdd, Nat.reduceLeDiff, Nat.reduceSub, Nat.reduceMul, ↓reduceIte, Int.reduceToNat, Int.reduceLE, beq_self_eq_true]
      refine seqZ_x rfl ?_
      simp only [XU, XA, XB, gateX, Nat.reduceAdd, Nat.reduceLeDiff, Nat.reduceSub, Nat.reduceMul, ↓reduceIte, Int.reduceToNat, Int.reduceLE, beq_self_eq_true]
      refine seqZ_nil ?_
      rw [thenX_normal]
      first | refine Gx.a (by kernel_rfl) fun K hK => ?_ | refine Gx.b (by kernel_rfl) fun K hK => ?_ | refine Gx.c (by kernel_rfl) fun K hK => ?_
      simp only [XU, XA, XB, gateX, Nat.reduceAdd, Nat.reduceLeDiff, Nat.reduceSub, Nat.reduceMul, ↓reduceIte, Int.reduceToNat, Int.reduceLE, beq_self_eq_true, i64_succ a' (by omega)]
      refine call_go (by kernel_rfl) rfl (ih q (by omega) _ _ rs (a' + 1) hsl r1 r2 (by omega) (fun x hx => hg x (r3 x hx)) (fun x hx => by have := hlen x (r3 x hx); omega)) fun v6 V6 hV6 h6 => ?_
      subst h6
      cases hfr : forkB q rs (a' + 1)
      · simp only [XU, XA, XB, gateX, Nat.reduceAdd, Nat.reduceLeDiff, Nat.reduceSub, Nat.reduceMul, ↓reduceIte, Int.reduceToNat, Int.reduceLE, beq_self_eq_true]
        refine hK _ ?_
        first | refine Gx.t rfl ?_ | refine XWP.seq (Gx.t rfl ?_)
        first | refine Gx.a (by kernel_rfl) fun K hK => ?_ | refine Gx.b (by kernel_rfl) fun K hK => ?_ | refine Gx.c (by kernel_rfl) fun K hK => ?_
        simp only [XU, XA, XB, gateX, Nat.reduceAdd, Nat.reduceLeDiff, Nat.reduceSub, Nat.reduceMul, ↓reduceIte, Int.reduceToNat, Int.reduceLE, beq_self_eq_true]
        refine hK _ (XWP.ret ?_)
        try simp only [thenX_ret, inBlockX_ret]
        refine ret_go _ rfl ?_
        have : forkB f L a = false := by
          rw [hF, List.all_eq_false]
          exact ⟨_, List.mem_of_getElem? hgj, by rw [hfr]; simp⟩
        rw [this]; rfl
      · simp only [XU, XA, XB, gateX, Nat.reduceAdd, Nat.reduceLeDiff, Nat.reduceSub, Nat.reduceMul, ↓reduceIte, Int.reduceToNat, Int.reduceLE, beq_self_eq_true]
        refine hK _ ?_
        first | refine Gx.f rfl ?_ | refine XWP.seq (Gx.f rfl ?_)
        refine XWP.skip ?_
        refine ⟨_, unseen_push hjl hns, _, V6, StIs.of (by exact rfl), rfl, View.le_trans hV5' hV6, hV6 _ _ addV_on, fun i hi k2 rs2 h2 => ?_⟩
        rcases Array.mem_push.1 hi with hi | rfl
        · exact hsn i hi k2 rs2 h2
        · rw [hgj] at h2
          cases h2
          exact hfr
/-- which lists of executions may be -/
def rightR (l : List Rn) : Bool := decide (1 ≤ l.length) && decide (l.length ≤ 60) && l.all drawsB && forkB 102 l 0
theorem kright_c (V : View) (v : Value) (l : List Rn) (h : SlK 9 rnE V v l) (f : ∀ r ∈ l, r.fits) (ll : l.length ≤ 1000000) : Spec Try.prog 6 [v] V fun v' V' => v' = .bool (rightR l) := by
  obtain ⟨A, cL, rfl, _, _⟩ := h.form
  refine (Spec.enter Try.func6 rfl fun Γ => ?_)
  simp only [Try.ntmps6, List.map_cons, List.map_nil, List.length_cons, List.length_nil, Nat.reduceAdd, Nat.reduceSub, List.replicate_succ, List.replicate_zero, List.cons_append, List.nil_append]
  first | refine Gx.a (by kernel_rfl) fun K hK => ?_ | refine Gx.b (by kernel_rfl) fun K hK => ?_ | refine Gx.c (by kernel_rfl) fun K hK => ?_
  simp only [XU, XA, XB, gateX, Nat.reduceAdd, Nat.reduceLeDiff, Nat.reduceSub, Nat.reduceMul, ↓reduceIte, Int.reduceToNat, Int.reduceLE, beq_self_eq_true]
  refine hK _ ?_
  by_cases h1 : 1 ≤ l.length
  rotate_left
  · have b1 : decide ((1 : Int) ≤ (l.length : Int)) = false := decide_eq_false (by omega)
    first | refine Gx.a (by kernel_rfl) fun K hK => ?_ | refine Gx.b (by kernel_rfl) fun K hK => ?_ | refine Gx.c (by kernel_rfl) fun K hK => ?_
    simp only [XU, XA, XB, gateX, Nat.reduceAdd, Nat.reduceLeDiff, Nat.reduceSub, Nat.reduceMul, ↓reduceIte, Int.reduceToNat, Int.reduceLE, beq_self_eq_true, b1]
    refine hK _ (XWP.ret ?_)
    try simp only [thenX_ret, inBlockX_ret]
    refine ret_go _ rfl ?_
    unfold rightR
    rw [decide_eq_false h1]; rfl
  have b1 : decide ((1 : Int) ≤ (l.length : Int)) = true := decide_eq_true (by omega)
  by_cases h2 : l.length ≤ 60
  rotate_left
  · have b2 : decide ((l.length : Int) ≤ (60 : Int)) = false := decide_eq_false (by omega)
    first | refine Gx.a (by kernel_rfl) fun K hK => ?_ | refine Gx.b (by kernel_rfl) fun K hK => ?_ | refine Gx.c (by kernel_rfl) fun K hK => ?_
    simp only [XU, XA, XB, gateX, Nat.reduceAdd, Nat.reduceLeDiff, Nat.reduceSub, Nat.reduceMul, ↓reduceIte, Int.reduceToNat, Int.reduceLE, beq_self_eq_true, b1, b2]
    refine hK _ (XWP.ret ?_)
    try simp only [thenX_ret, inBlockX_ret]
    refine ret_go _ rfl ?_
    unfold rightR
    rw [decide_eq_false h2]; simp
    rfl
  have b2 : decide ((l.length : Int) ≤ (60 : Int)) = true := decide_eq_true (by omega)
  first | refine Gx.a (by kernel_rfl) fun K hK => ?_ | refine Gx.b (by kernel_rfl) fun K hK => ?_ | refine Gx.c (by kernel_rfl) fun K hK => ?_
  simp only [XU, XA, XB, gateX, Nat.reduceAdd, Nat.reduceLeDiff, Nat.reduceSub, Nat.reduceMul, ↓reduceIte, Int.reduceToNat, Int.reduceLE, beq_self_eq_true, b1, b2]
  refine call_go (by kernel_rfl) rfl (kcontains_c _ _ l h f ll) fun v1 V1 hV1 h1c => ?_
  subst h1c
  cases hd : l.all drawsB
  · simp only [XU, XA, XB, gateX, Nat.reduceAdd, Nat.reduceLeDiff, Nat.reduceSub, Nat.reduceMul, ↓reduceIte, Int.reduceToNat, Int.reduceLE, beq_self_eq_true]
    refine hK _ (XWP.ret ?_)
    try simp only [thenX_ret, inBlockX_ret]
    refine ret_go _ rfl ?_
    unfold rightR
    rw [hd]; simp
    rfl
  simp only [XU, XA, XB, gateX, Nat.reduceAdd, Nat.reduceLeDiff, Nat.reduceSub, Nat.reduceMul, ↓reduceIte, Int.reduceToNat, Int.reduceLE, beq_self_eq_true]
  have hgood : ∀ r ∈ l, ∀ d ∈ r.ds, d.good := fun r hr d hd' => by
    have h1 := List.all_eq_true.1 hd r hr
    unfold drawsB at h1
    simp only [Bool.and_eq_true] at h1
    exact (Dr.goodB_iff d).1 (List.all_eq_true.1 h1.1.2 d hd')
  refine call_go (by kernel_rfl) rfl (cfork_c 102 _ _ l 0 (h.mono rnE_ok hV1) (by omega) (by omega) (by omega) hgood (fun r hr => by have := (f r hr).1; omega)) fun v2 V2 hV2 h2c => ?_
  subst h2c
  simp only [XU, XA, XB, gateX, Nat.reduceAdd, Nat.reduceLeDiff, Nat.reduceSub, Nat.reduceMul, ↓reduceIte, Int.reduceToNat, Int.reduceLE, beq_self_eq_true]
  refine hK _ (XWP.ret ?_)
  try simp only [thenX_ret, inBlockX_ret]
  refine ret_go _ rfl ?_
  unfold rightR
  rw [decide_eq_true h1, decide_eq_true h2, hd]; simp
  rfl
end Go.Proofs.Ytobjjdnfgamgcaa
end
section
namespace Go.Proofs.Ytobjjdnfgamgcaa
open Go Go.RowKit
set_option linter.unusedSimpArgs false
set_option linter.unusedVariables false
attribute [local irreducible] XWP Spec SpecO XPub XCall seqX clX apX stX ldX iaX slX
def qOf (l : List Rn) (k : Nat) : Rat := ((l[k]?).map fun r => priorQ r.ds).getD 0
def sOf (l : List Rn) (k : Nat) : Rat := ((l[k]?).map fun r => r.w.q / priorQ r.ds).getD 0
theorem qOf_at {l : List Rn} {k : Nat} {r : Rn} (h : l[k]? = some r) : qOf l k = priorQ r.ds := by unfold qOf; rw [h]; rfl
theorem sOf_at {l : List Rn} {k : Nat} {r : Rn} (h : l[k]? = some r) : sOf l k = r.w.q / priorQ r.ds := by unfold sOf; rw [h]; rfl
/-- an execution that may be, of few draws and digits -/
structure Rn.small (r : Rn) : Prop where
  len : r.ds.length ≤ 8
  good : ∀ d ∈ r.ds, d.good
  ok : r.w.ok = true
  qb : QB 128 r.w.q
  pos : 0 < r.w.q
theorem Rn.small.fine {r : Rn} (h : r.small) : r.fine := ⟨by have := h.len; omega, h.good, h.ok, h.qb.qf (by omega), h.pos⟩
theorem Rn.small.qp {r : Rn} (h : r.small) : QB 128 (priorQ r.ds) := (priorQ_QB h.good).mono (by have := h.len; omega)
theorem Rn.small.ppos {r : Rn} (h : r.small) : 0 < priorQ r.ds := priorQ_pos h.good
theorem Rn.small.sb {r : Rn} (h : r.small) : QB 256 (r.w.q / priorQ r.ds) := h.qb.div h.qp
theorem Rn.small.spos {r : Rn} (h : r.small) : 0 < r.w.q / priorQ r.ds := by
  rw [Rat.div_def]
  exact Rat.mul_pos h.pos (Rat.inv_pos.2 h.ppos)
theorem QB_lt {A B : Nat} {p q : Rat} (hp : QB A p) (hq : QB B q) : QB (A + B) (ltQ p q) := by
  unfold ltQ
  split
  · exact hq.mono (by omega)
  · exact hp.mono (by omega)
/-- a state where it lies -/
theorem SlK.st {V : View} {b o n c i : Nat} {l : List Rn} {r : Rn} (h : SlK 18 stE V (.slice (some ⟨b, o, none⟩) n c) l) (hi : l[i]? = some r) : ∃ (rc : List Value) (w q s : Value), ElK 9 rnE V rc r ∧ RatC V w r.w.q ∧ RatC V q (priorQ r.ds) ∧ RatC V s (r.w.q / priorQ r.ds) ∧
    ∀ H, Loads Try.prog H V 48 b (o + i * 18) (.agg rc.toArray) ∧ Loads Try.prog H V 31 b (o + i * 18 + 9) w ∧ Loads Try.prog H V 31 b (o + i * 18 + 12) q ∧ Loads Try.prog H V 31 b (o + i * 18 + 15) s := by
  have hl := (List.getElem?_eq_some_iff.1 hi).1
  obtain ⟨cs, ⟨_, _, he⟩, hcell⟩ := SlK.get h i hl
  rw [(List.getElem?_eq_some_iff.1 hi).2] at he
  obtain ⟨v0, v1, v2, v3, v4, v5, v6, v7, v8, m, n', d, q1, q2, q3, s1, s2, s3, rfl, h1, h2, h3, h4⟩ := he
  refine ⟨_, _, _, _, h1, h2, h3, h4, fun H => ⟨loadsK shapeT_48 rfl fun j u hj => ?_, loadsK (cs := [m, n', d]) shapeT_31 rfl fun j u hj => ?_, loadsK (cs := [q1, q2, q3]) shapeT_31 rfl fun j u hj => ?_, loadsK (cs := [s1, s2, s3]) shapeT_31 rfl fun j u hj => ?_⟩⟩
  · refine hcell H j u ?_
    have hj9 := (List.getElem?_eq_some_iff.1 hj).1
    rw [show ([v0, v1, v2, v3, v4, v5, v6, v7, v8, m, n', d, q1, q2, q3, s1, s2, s3] : List Value) = [v0, v1, v2, v3, v4, v5, v6, v7, v8] ++ [m, n', d, q1, q2, q3, s1, s2, s3] from rfl, List.getElem?_append_left hj9]
    exact hj
  · match j, hj with
    | 0, hj => exact hcell H 9 u hj
    | 1, hj => exact hcell H 10 u hj
    | 2, hj => exact hcell H 11 u hj
  · match j, hj with
    | 0, hj => exact hcell H 12 u hj
    | 1, hj => exact hcell H 13 u hj
    | 2, hj => exact hcell H 14 u hj
  · match j, hj with
    | 0, hj => exact hcell H 15 u hj
    | 1, hj => exact hcell H 16 u hj
    | 2, hj => exact hcell H 17 u hj
def anewQ (l : List Rn) (i k : Nat) : Rat := qOf l k * ltQ 1 (sOf l k / sOf l i)
theorem anewQ_QB {l : List Rn} (hs : ∀ r ∈ l, r.small) {i k : Nat} (hi : i < l.length) (hk : k < l.length) : QB 640 (anewQ l i k) := by
  obtain ⟨r, hr⟩ : ∃ r, l[i]? = some r := ⟨_, List.getElem?_eq_getElem hi⟩
  obtain ⟨t, ht⟩ : ∃ r, l[k]? = some r := ⟨_, List.getElem?_eq_getElem hk⟩
  have h1 := hs r (List.mem_of_getElem? hr)
  have h2 := hs t (List.mem_of_getElem? ht)
  unfold anewQ
  rw [qOf_at ht, sOf_at ht, sOf_at hr]
  exact (h2.qp.mul (QB_lt (QB_one 0) (h2.sb.div h1.sb))).mono (by omega)
theorem canew1_c (V : View) (b e i k : Nat) (x : Value) (l : List Rn) (hb : V b = some (.cells ([x] : List Value).toArray e (0, 0))) (hx : SlK 18 stE V x l) (hs : ∀ r ∈ l, r.small) (hi : i < l.length) (hk : k < l.length) :
    Spec Try.prog 52 [.int .i64 (i : Int), .int .i64 (k : Int), .pointer (some ⟨b, 0, none⟩)] V fun v' V' => RatC V' v' (anewQ l i k) := by
  obtain ⟨A, c, rfl, _, _⟩ := hx.form
  obtain ⟨bL, oL, rfl⟩ := SlK.addr hx (by omega)
  obtain ⟨r, hr⟩ : ∃ r, l[i]? = some r := ⟨_, List.getElem?_eq_getElem hi⟩
  obtain ⟨t, ht⟩ : ∃ r, l[k]? = some r := ⟨_, List.getElem?_eq_getElem hk⟩
  have h1 := hs r (List.mem_of_getElem? hr)
  have h2 := hs t (List.mem_of_getElem? ht)
  obtain ⟨rc1, w1, q1, s1, e1, ew1, eq1, es1, ld1⟩ := hx.st hr
  obtain ⟨rc2, w2, q2, s2, e2, ew2, eq2, es2, ld2⟩ := hx.st ht
  have hld := ldV1 (off := 0) hb rfl shapeT_83 (fun _ => none)
  refine (Spec.enter Try.func52 rfl fun Γ => ?_)
  simp only [Try.ntmps52, List.map_cons, List.map_nil, List.length_cons, List.length_nil, Nat.reduceAdd, Nat.reduceSub, List.replicate_succ, List.replicate_zero, List.cons_append, List.nil_append]
  first | refine Gx.a (by kernel_rfl) fun K hK => ?_ | refine Gx.b (by kernel_rfl) fun K hK => ?_ | refine Gx.c (by kernel_rfl) fun K hK => ?_
  simp only [XM, XU, XV, XA, XB, gateX, Nat.reduceAdd, Nat.reduceLeDiff, Nat.reduceSub, Nat.reduceMul, ↓reduceIte, Int.reduceToNat, Int.reduceLE, beq_self_eq_true]
  refine hK _ ?_
  (first | refine XWP.drw [0, 1, 2, 3, 4, 6, 7, 8, 9, 10, 11, 12, 13, 14, 15, 5, 16, 17, 18, 19] (by kernel_rfl) (by kernel_rfl) (by kernel_rfl) fun K hK => ?_ | refine XWP.seq (XWP.drw [0, 1, 2, 3, 4, 6, 7, 8, 9, 10, 11, 12, 13, 14, 15, 5, 16, 17, 18, 19] (by kernel_rfl) (by kernel_rfl) (by kernel_rfl) fun K hK => ?_) | refine XWP.drw1 [0, 1, 2, 3, 4, 6, 7, 8, 9, 10, 11, 12, 13, 14, 15, 5, 16, 17, 18, 19] (by kernel_rfl) (by kernel_rfl) (by kernel_rfl) fun K hK => ?_) <;> dsimp only [pickOps, List.getElem?_cons_zero, List.getElem?_cons_succ]
  simp only [XM, XU, XV, XA, XB, gateX, Nat.reduceAdd, Nat.reduceLeDiff, Nat.reduceSub, Nat.reduceMul, ↓reduceIte, Int.reduceToNat, Int.reduceLE, beq_self_eq_true]
  refine ld_mem hld ?_
  simp only [XM, XU, XV, XA, XB, gateX, Nat.reduceAdd, Nat.reduceLeDiff, Nat.reduceSub, Nat.reduceMul, ↓reduceIte, Int.reduceToNat, Int.reduceLE, beq_self_eq_true]
  refine ⟨by omega, by omega, ld_mem (ld2 _).2.2.1 ?_⟩
  simp only [XM, XU, XV, XA, XB, gateX, Nat.reduceAdd, Nat.reduceLeDiff, Nat.reduceSub, Nat.reduceMul, ↓reduceIte, Int.reduceToNat, Int.reduceLE, beq_self_eq_true]
  refine ld_mem hld ?_
  simp only [XM, XU, XV, XA, XB, gateX, Nat.reduceAdd, Nat.reduceLeDiff, Nat.reduceSub, Nat.reduceMul, ↓reduceIte, Int.reduceToNat, Int.reduceLE, beq_self_eq_true]
  refine ⟨by omega, by omega, ld_mem (ld2 _).2.2.2 ?_⟩
  simp only [XM, XU, XV, XA, XB, gateX, Nat.reduceAdd, Nat.reduceLeDiff, Nat.reduceSub, Nat.reduceMul, ↓reduceIte, Int.reduceToNat, Int.reduceLE, beq_self_eq_true]
  refine ld_mem hld ?_
  simp only [XM, XU, XV, XA, XB, gateX, Nat.reduceAdd, Nat.reduceLeDiff, Nat.reduceSub, Nat.reduceMul, ↓reduceIte, Int.reduceToNat, Int.reduceLE, beq_self_eq_true]
  refine ⟨by omega, by omega, ld_mem (ld1 _).2.2.2 ?_⟩
  simp only [XM, XU, XV, XA, XB, gateX, Nat.reduceAdd, Nat.reduceLeDiff, Nat.reduceSub, Nat.reduceMul, ↓reduceIte, Int.reduceToNat, Int.reduceLE, beq_self_eq_true]
  refine call_go (by kernel_rfl) rfl (qone_c _) fun v3 V3 hV3 h3 => ?_
  simp only [XM, XU, XV, XA, XB, gateX, Nat.reduceAdd, Nat.reduceLeDiff, Nat.reduceSub, Nat.reduceMul, ↓reduceIte, Int.reduceToNat, Int.reduceLE, beq_self_eq_true]
  have n1 : r.w.q / priorQ r.ds ≠ 0 := fun e => by have := h1.spos; rw [e] at this; exact absurd this (by decide)
  refine call_go (by kernel_rfl) rfl (kby_c _ _ _ _ _ (es2.mono hV3) (es1.mono hV3) (h2.sb.qf (by omega)) (h1.sb.qf (by omega)) n1) fun v4 V4 hV4 h4 => ?_
  simp only [XM, XU, XV, XA, XB, gateX, Nat.reduceAdd, Nat.reduceLeDiff, Nat.reduceSub, Nat.reduceMul, ↓reduceIte, Int.reduceToNat, Int.reduceLE, beq_self_eq_true]
  have qb4 := h2.sb.div h1.sb
  refine call_go (by kernel_rfl) rfl (qleast_c _ _ _ _ _ (h3.mono hV4) h4 ((QB_one 0).qf (by omega)) (qb4.qf (by omega))) fun v5 V5 hV5 h5 => ?_
  simp only [XM, XU, XV, XA, XB, gateX, Nat.reduceAdd, Nat.reduceLeDiff, Nat.reduceSub, Nat.reduceMul, ↓reduceIte, Int.reduceToNat, Int.reduceLE, beq_self_eq_true]
  have qb5 := QB_lt (QB_one 0) qb4
  refine call_go (by kernel_rfl) rfl (qmul_c _ _ _ _ _ (((eq2.mono hV3).mono hV4).mono hV5) h5 (h2.qp.qf (by omega)) (qb5.qf (by omega))) fun v6 V6 hV6 h6 => ?_
  obtain ⟨x6, y6, rfl, p1, p2⟩ := h6.form
  simp only [XM, XU, XV, XA, XB, gateX, Nat.reduceAdd, Nat.reduceLeDiff, Nat.reduceSub, Nat.reduceMul, ↓reduceIte, Int.reduceToNat, Int.reduceLE, beq_self_eq_true]
  refine st_rat rfl rfl rfl p1 p2 ?_
  simp only [XM, XU, XV, XA, XB, gateX, Nat.reduceAdd, Nat.reduceLeDiff, Nat.reduceSub, Nat.reduceMul, ↓reduceIte, Int.reduceToNat, Int.reduceLE, beq_self_eq_true]
  refine hK _ (XWP.ret ?_)
  try simp only [thenX_ret, inBlockX_ret]
  refine ret_rat1 rfl rfl rfl ?_
  unfold anewQ
  rw [qOf_at ht, sOf_at ht, sOf_at hr]
  exact h6
theorem ret_mat2C {t i k : Nat} {s : XS} {R : Value → View → Prop} {vs : List Value} {e : Value} (ht : s.t[t]? = some (.p i 0)) (hb : s.bx[i]? = some vs) (hk : s.t[k]? = some (.v e)) (hl : vs.length = 3) (hR : R (.tuple #[.agg vs.toArray, e]) s.V) : XPost Try.prog [.cell t 27, .tmp k] R .ret s := by
  refine ret_go [.agg vs.toArray, e] ?_ hR
  simp [resAll, resV, cellsV, ht, hb, hk, shapeT_27, hl]
theorem right_small {l : List Rn} (h : rightR l = true) (f : ∀ r ∈ l, r.ds.length ≤ 8 ∧ (r.w.ok = true → QB 128 r.w.q)) : 1 ≤ l.length ∧ l.length ≤ 60 ∧ ∀ r ∈ l, r.small := by
  unfold rightR at h
  simp only [Bool.and_eq_true, decide_eq_true_eq] at h
  obtain ⟨⟨⟨h1, h2⟩, h3⟩, _⟩ := h
  refine ⟨h1, h2, fun r hr => ?_⟩
  have hd := List.all_eq_true.1 h3 r hr
  unfold drawsB at hd
  simp only [Bool.and_eq_true, decide_eq_true_eq] at hd
  obtain ⟨⟨⟨⟨_, ok⟩, hp⟩, hg⟩, _⟩ := hd
  obtain ⟨f1, f2⟩ := f r hr
  refine ⟨f1, fun d hd => (Dr.goodB_iff d).1 (List.all_eq_true.1 hg d hd), ok, f2 ok, ?_⟩
  refine Classical.byContradiction fun hn => ?_
  have hle : r.w.q ≤ 0 := Rat.not_lt.1 hn
  by_cases h0 : r.w.q = 0
  · rw [h0] at hp; exact absurd hp (by decide)
  · have : r.w.q < 0 := by grind
    rw [sgI_neg' this] at hp
    omega
theorem canew_c (V : View) (v : Value) (l : List Rn) (h : SlK 9 rnE V v l) (f : ∀ r ∈ l, r.fits) (fs : ∀ r ∈ l, r.ds.length ≤ 8 ∧ (r.w.ok = true → QB 128 r.w.q)) (ll : l.length ≤ 1000000) : Spec Try.prog 23 [v] V fun v' V' => (rightR l = false → v' = .tuple #[.agg #[.int .i64 0, .int .i64 0, .slice none 0 0], .int .i64 1]) ∧ (rightR l = true → ∃ s, v' = .tuple #[.agg #[.int .i64 (l.length : Int), .int .i64 (l.length : Int), s], .int .i64 0] ∧ Rats V' s (flatG (moveG (anewQ l) l.length) l.length l.length)) := by
  obtain ⟨A, cL, rfl, _, _⟩ := h.form
  refine (Spec.enter Try.func23 rfl fun Γ => ?_)
  simp only [Try.ntmps23, List.map_cons, List.map_nil, List.length_cons, List.length_nil, Nat.reduceAdd, Nat.reduceSub, List.replicate_succ, List.replicate_zero, List.cons_append, List.nil_append]
  first | refine Gx.a (by kernel_rfl) fun K hK => ?_ | refine Gx.b (by kernel_rfl) fun K hK => ?_ | refine Gx.c (by kernel_rfl) fun K hK => ?_
  simp only [XM, XU, XV, XA, XB, gateX, Nat.reduceAdd, Nat.reduceLeDiff, Nat.reduceSub, Nat.reduceMul, ↓reduceIte, Int.reduceToNat, Int.reduceLE, beq_self_eq_true]
  refine hK _ ?_
  refine XWP.seq ?_
  first | refine Gx.a (by kernel_rfl) fun K hK => ?_ | refine Gx.b (by kernel_rfl) fun K hK => ?_ | refine Gx.c (by kernel_rfl) fun K hK => ?_
  simp only [XM, XU, XV, XA, XB, gateX, Nat.reduceAdd, Nat.reduceLeDiff, Nat.reduceSub, Nat.reduceMul, ↓reduceIte, Int.reduceToNat, Int.reduceLE, beq_self_eq_true]
  refine call_go (by kernel_rfl) rfl (kright_c _ _ l h f ll) fun v1 V1 hV1 h1 => ?_
  subst h1
  cases hr : rightR l
  · simp only [XM, XU, XV, XA, XB, gateX, Nat.reduceAdd, Nat.reduceLeDiff, Nat.reduceSub, Nat.reduceMul, ↓reduceIte, Int.reduceToNat, Int.reduceLE, beq_self_eq_true]
    refine hK _ ?_
    first | refine Gx.t rfl ?_ | refine XWP.seq (Gx.t rfl ?_)
    first | refine Gx.a (by kernel_rfl) fun K hK => ?_ | refine Gx.b (by kernel_rfl) fun K hK => ?_ | refine Gx.c (by kernel_rfl) fun K hK => ?_
    simp only [XM, XU, XV, XA, XB, gateX, Nat.reduceAdd, Nat.reduceLeDiff, Nat.reduceSub, Nat.reduceMul, ↓reduceIte, Int.reduceToNat, Int.reduceLE, beq_self_eq_true]
    refine bd_go (by kernel_rfl) #[] (by simp) bd_mtx0 ?_
    simp only [XM, XU, XV, XA, XB, gateX, Nat.reduceAdd, Nat.reduceLeDiff, Nat.reduceSub, Nat.reduceMul, ↓reduceIte, Int.reduceToNat, Int.reduceLE, beq_self_eq_true]
    refine st_mat shapeT_27 rfl rfl rfl rfl rfl ?_
    simp only [XM, XU, XV, XA, XB, gateX, Nat.reduceAdd, Nat.reduceLeDiff, Nat.reduceSub, Nat.reduceMul, ↓reduceIte, Int.reduceToNat, Int.reduceLE, beq_self_eq_true]
    refine hK _ (XWP.ret ?_)
    try simp only [thenX_ret, inBlockX_ret]
    exact ret_mat2C rfl rfl rfl rfl ⟨fun _ => rfl, fun h => absurd h (by rw [hr]; simp)⟩
  obtain ⟨g1, g2, g3⟩ := right_small hr fs
  simp only [XM, XU, XV, XA, XB, gateX, Nat.reduceAdd, Nat.reduceLeDiff, Nat.reduceSub, Nat.reduceMul, ↓reduceIte, Int.reduceToNat, Int.reduceLE, beq_self_eq_true]
  refine hK _ ?_
  first | refine Gx.f rfl ?_ | refine XWP.seq (Gx.f rfl ?_)
  refine XWP.skip ?_
  first | refine Gx.a (by kernel_rfl) fun K hK => ?_ | refine Gx.b (by kernel_rfl) fun K hK => ?_ | refine Gx.c (by kernel_rfl) fun K hK => ?_
  simp only [XM, XU, XV, XA, XB, gateX, Nat.reduceAdd, Nat.reduceLeDiff, Nat.reduceSub, Nat.reduceMul, ↓reduceIte, Int.reduceToNat, Int.reduceLE, beq_self_eq_true]
  refine call_go (by kernel_rfl) rfl (cstates_c _ _ l (h.mono rnE_ok hV1) (by omega) (by omega) (fun r hr => (g3 r hr).fine)) fun v2 V2 hV2 h2 => ?_
  obtain ⟨A2, c2, rfl, _, _⟩ := h2.form
  simp only [XM, XU, XV, XA, XB, gateX, Nat.reduceAdd, Nat.reduceLeDiff, Nat.reduceSub, Nat.reduceMul, ↓reduceIte, Int.reduceToNat, Int.reduceLE, beq_self_eq_true]
  refine st_one shapeT_83 rfl rfl (by simp) ?_
  simp only [XM, XU, XV, XA, XB, gateX, Nat.reduceAdd, Nat.reduceLeDiff, Nat.reduceSub, Nat.reduceMul, ↓reduceIte, Int.reduceToNat, Int.reduceLE, beq_self_eq_true]
  refine hK _ ?_
  refine XWP.row1 (bx := [_]) fun b e hb _ => ?_
  simp only [List.map_cons, List.map_nil, rowS_v, rowS_p, List.length_nil, List.length_cons, Nat.reduceAdd, Nat.reduceEqDiff, ↓reduceIte]
  refine XWP.pub b _ (upd_at _ _ _) fun o ho hle => ?_
  have eo := row_obj ho
  subst eo
  have hbv := addV_at V2 b (.cells ([.slice A2 l.length c2] : List Value).toArray e (0, 0))
  have h2 := h2.mono stE_ok hle
  generalize addV V2 b _ = V3 at *
  first | refine Gx.a (by kernel_rfl) fun K hK => ?_ | refine Gx.b (by kernel_rfl) fun K hK => ?_ | refine Gx.c (by kernel_rfl) fun K hK => ?_
  simp only [XM, XU, XV, XA, XB, gateX, Nat.reduceAdd, Nat.reduceLeDiff, Nat.reduceSub, Nat.reduceMul, ↓reduceIte, Int.reduceToNat, Int.reduceLE, beq_self_eq_true]
  refine ld_mem (ldV1 (off := 0) hbv rfl shapeT_83 _) ?_
  simp only [XM, XU, XV, XA, XB, gateX, Nat.reduceAdd, Nat.reduceLeDiff, Nat.reduceSub, Nat.reduceMul, ↓reduceIte, Int.reduceToNat, Int.reduceLE, beq_self_eq_true]
  refine mkf_go [.pointer (some ⟨b, 0, none⟩)] rfl ?_
  simp only [XM, XU, XV, XA, XB, gateX, Nat.reduceAdd, Nat.reduceLeDiff, Nat.reduceSub, Nat.reduceMul, ↓reduceIte, Int.reduceToNat, Int.reduceLE, beq_self_eq_true]
  refine call_go (by kernel_rfl) rfl (cmoves_c V3 A2 l.length c2 52 640 [.pointer (some ⟨b, 0, none⟩)] (anewQ l) g2 (by kernel_rfl) (fun i k hi hk _ => anewQ_QB g3 hi hk) (by omega) fun V' i k hV hi hk _ => canew1_c V' b e i k _ l (hV _ _ hbv) (h2.mono stE_ok hV) g3 hi hk) fun v4 V4 hV4 h4 => ?_
  obtain ⟨s, rfl, hs⟩ := h4
  obtain ⟨As, cs, rfl, _, _⟩ := hs.form
  simp only [XM, XU, XV, XA, XB, gateX, Nat.reduceAdd, Nat.reduceLeDiff, Nat.reduceSub, Nat.reduceMul, ↓reduceIte, Int.reduceToNat, Int.reduceLE, beq_self_eq_true]
  refine st_mat shapeT_27 rfl rfl rfl rfl rfl ?_
  simp only [XM, XU, XV, XA, XB, gateX, Nat.reduceAdd, Nat.reduceLeDiff, Nat.reduceSub, Nat.reduceMul, ↓reduceIte, Int.reduceToNat, Int.reduceLE, beq_self_eq_true]
  refine hK _ (XWP.ret ?_)
  try simp only [thenX_ret, inBlockX_ret]
  exact ret_mat2C rfl rfl rfl rfl ⟨fun h => absurd h (by rw [hr]; simp), fun _ => ⟨_, rfl, hs⟩⟩
end Go.Proofs.Ytobjjdnfgamgcaa
end
section
namespace Go.Proofs.Ytobjjdnfgamgcaa
set_option linter.unusedVariables false
/-- both columns left out -/
def s2 (j k b : Nat) : Nat := if b < min j k then b else if b + 1 < max j k then b + 1 else b + 2
end Go.Proofs.Ytobjjdnfgamgcaa
end
section
namespace Go.Proofs.Ytobjjdnfgamgcaa
set_option linter.unusedVariables false
/-- what the numbers from one on are worth -/
def hv (a : Nat → Rat) (c : Rat) : Nat → Nat → Rat
  | 0, _ => 0
  | t + 1, m => a m + c * hv a c t (m + 1)
def dv (x : Rat) : Nat → Rat
  | 0 => 0
  | k + 1 => x * dv x k + x ^ k
end Go.Proofs.Ytobjjdnfgamgcaa
end
section
namespace Go.Proofs.Ytobjjdnfgamgcaa
set_option linter.unusedVariables false
end Go.Proofs.Ytobjjdnfgamgcaa
end
section
namespace Go.Proofs.Ytobjjdnfgamgcaa
set_option linter.unusedVariables false
end Go.Proofs.Ytobjjdnfgamgcaa
end
section
namespace Go.Proofs.Ytobjjdnfgamgcaa
set_option linter.unusedVariables false
end Go.Proofs.Ytobjjdnfgamgcaa
end
section
namespace Go.Proofs.Ytobjjdnfgamgcaa
open Go Go.RowKit
set_option linter.unusedSimpArgs false
set_option linter.unusedVariables false
attribute [local irreducible] XWP Spec SpecO XPub XCall seqX clX apX stX ldX iaX slX
/-- a square matrix of fractions, by its grid -/
structure SqM (V : View) (s : Value) (n B : Nat) (G : Grid) : Prop where
  hv : Rats V s (flatG G n n)
  hn : n ≤ 60
  hq : ∀ i k, i < n → k < n → QB B (G i k)
theorem SqM.up {V V' : View} {s : Value} {n B : Nat} {G : Grid} (h : SqM V s n B G) (hV : V.le V') : SqM V' s n B G := ⟨h.hv.up hV, h.hn, h.hq⟩
theorem flatG_mem {G : Grid} {R C : Nat} {x : Rat} (h : x ∈ flatG G R C) : ∃ i k, i < R ∧ k < C ∧ x = G i k := by
  unfold flatG mk at h
  obtain ⟨p, hp, rfl⟩ := List.mem_map.1 h
  have hp := List.mem_range.1 hp
  have hC : 0 < C := by
    rcases Nat.eq_zero_or_pos C with e | e
    · rw [e, Nat.mul_zero] at hp; omega
    · exact e
  exact ⟨p / C, p % C, by rw [Nat.div_lt_iff_lt_mul hC]; exact hp, Nat.mod_lt _ hC, rfl⟩
theorem SqM.mem {V : View} {s : Value} {n B : Nat} {G : Grid} (h : SqM V s n B G) : ∀ x ∈ flatG G n n, QB B x := fun x hx => by
  obtain ⟨i, k, hi, hk, rfl⟩ := flatG_mem hx
  exact h.hq i k hi hk
theorem sq_le {n : Nat} (h : n ≤ 60) : n * n ≤ 3600 := Nat.le_trans (Nat.mul_le_mul h h) (by decide)
theorem SqM.right {V : View} {s : Value} {n B : Nat} {G : Grid} (h : SqM V s n B G) : matR (n : Int) (n : Int) ((flatG G n n).map toRaw) = true := by
  unfold matR
  have := h.hn
  rw [okR_toRaw, Bool.and_true, decide_eq_true_eq, List.length_map, flatG_len]
  exact ⟨by omega, by omega, by omega, by omega, Int.natCast_mul n n⟩
theorem cmr_c {V : View} {s : Value} {n B : Nat} {G : Grid} (h : SqM V s n B G) (hB : B ≤ 17592186044416) : Spec Try.prog 58 [.agg #[.int .i64 (n : Int), .int .i64 (n : Int), s]] V fun v' V' => v' = .bool true := by
  have := cmright_c V s (n : Int) (n : Int) ((flatG G n n).map toRaw) (Rats.raws h.hv) (fitR_toRaw fun x hx => (h.mem x hx).qf hB) (by rw [List.length_map, flatG_len]; have := sq_le h.hn; omega)
  rwa [h.right] at this
theorem cmadd1_c (V : View) (b2 b3 e2 e3 n i k B C : Nat) (G H : Grid) (s1 s2 : Value) (h2 : V b2 = some (.cells ([.int .i64 (n : Int), .int .i64 (n : Int), s1] : List Value).toArray e2 (0, 0))) (h3 : V b3 = some (.cells ([.int .i64 (n : Int), .int .i64 (n : Int), s2] : List Value).toArray e3 (0, 0))) (ha : SqM V s1 n B G) (hb : SqM V s2 n C H) (hi : i < n) (hk : k < n) (hB : B ≤ 17592186044416) (hC : C ≤ 17592186044416) :
    Spec Try.prog 72 [.int .i64 (i : Int), .int .i64 (k : Int), .pointer (some ⟨b2, 0, none⟩), .pointer (some ⟨b3, 0, none⟩)] V fun v' V' => RatC V' v' (G i k + H i k) := by
  have hn := ha.hn
  have hnn := sq_le hn
  have hp := pos_lt hi hk
  have w1 := wr_mul (i := i) (C := n) (by omega) (by omega)
  have w2 := wr_add (p := i * n) (k := k) (by omega) (by omega)
  have g1 := flatG_at G hi hk
  have g2 := flatG_at H hi hk
  have la := flatG_len G n n
  have lb := flatG_len H n n
  have hva := ha.hv
  have hvb := hb.hv
  obtain ⟨A1, c1, rfl, hc1, hm1⟩ := hva.form
  obtain ⟨A2, c2, rfl, hc2, hm2⟩ := hvb.form
  obtain ⟨b, o, rfl⟩ := SlAt.addr hva (by omega)
  obtain ⟨b', o', rfl⟩ := SlAt.addr hvb (by omega)
  obtain ⟨x, y, z, hx, ⟨o1, o2, o3⟩, hld⟩ := Rats.get hva (i * n + k) (by omega)
  obtain ⟨x', y', z', hx', ⟨o1', o2', o3'⟩, hld'⟩ := Rats.get hvb (i * n + k) (by omega)
  rw [g1] at hx
  rw [g2] at hx'
  refine (Spec.enter Try.func72 rfl fun Γ => ?_)
  simp only [Try.ntmps72, List.map_cons, List.map_nil, List.length_cons, List.length_nil, Nat.reduceAdd, Nat.reduceSub, List.replicate_succ, List.replicate_zero, List.cons_append, List.nil_append]
  refine Gx.a (by kernel_rfl) fun K hK => ?_
  simp only [XA, XB]
  refine hK _ ?_
  (refine XWP.drw [0, 1, 2, 3, 4, 5, 6, 7, 8, 9, 10, 11, 12, 13, 14, 15, 16, 17, 18, 19, 20, 21] (by kernel_rfl) (by kernel_rfl) (by kernel_rfl) fun K hK => ?_) <;> dsimp only [pickOps, List.getElem?_cons_zero, List.getElem?_cons_succ]
  simp only [XM, XA]
  refine ld_mem (ldV1 h2 (off := 2) rfl shapeT_25 _) ?_
  simp only [XM, XA]
  refine ld_mem (ldV1 h2 (off := 1) rfl shapeT_3 _) ?_
  simp only [XA, XB, w1, w2]
  refine ⟨by omega, by omega, ?_⟩
  refine ld_mem (hld _) ?_
  simp only [XM, XA]
  refine ld_mem (ldV1 h3 (off := 2) rfl shapeT_25 _) ?_
  simp only [XM, XA]
  refine ld_mem (ldV1 h2 (off := 1) rfl shapeT_3 _) ?_
  simp only [XA, XB, w1, w2]
  refine ⟨by omega, by omega, ?_⟩
  refine ld_mem (hld' _) ?_
  simp only [XA]
  refine call_go (by kernel_rfl) rfl (qadd_c _ _ _ _ _ hx hx' ((ha.hq i k hi hk).qf hB) ((hb.hq i k hi hk).qf hC)) fun v1 V1 hV1 h1 => ?_
  obtain ⟨x1, y1, rfl, p1, p2⟩ := h1.form
  simp only [XA]
  refine st_rat rfl rfl rfl p1 p2 ?_
  simp only [XA]
  refine hK _ (XWP.ret ?_)
  try simp only [thenX_ret, inBlockX_ret]
  exact ret_rat1 rfl rfl rfl h1
theorem cmadd_c (V : View) (s1 s2 : Value) (n B C : Nat) (G H : Grid) (ha : SqM V s1 n B G) (hb : SqM V s2 n C H) (hB : B ≤ 17592186044416) (hC : C ≤ 17592186044416) :
    Spec Try.prog 33 [.agg #[.int .i64 (n : Int), .int .i64 (n : Int), s1], .agg #[.int .i64 (n : Int), .int .i64 (n : Int), s2]] V fun v' V' => ∃ w, v' = .tuple #[.agg #[.int .i64 (n : Int), .int .i64 (n : Int), w], .int .i64 0] ∧ Rats V' w (flatG (fun i k => G i k + H i k) n n) := by
  obtain ⟨A1, c1, rfl, hc1, hm1⟩ := ha.hv.form
  obtain ⟨A2, c2, rfl, hc2, hm2⟩ := hb.hv.form
  have hn := ha.hn
  refine (Spec.enter Try.func33 rfl fun Γ => ?_)
  simp only [Try.ntmps33, List.map_cons, List.map_nil, List.length_cons, List.length_nil, Nat.reduceAdd, Nat.reduceSub, List.replicate_succ, List.replicate_zero, List.cons_append, List.nil_append]
  refine Gx.a (by kernel_rfl) fun K hK => ?_
  simp only [XM, XA, Nat.reduceAdd]
  refine hK _ ?_
  refine XWP.row1 (bx := [_, _]) fun b4 e4 hb4 _ => ?_
  simp only [List.map_cons, List.map_nil, rowS_v, rowS_p, List.length_nil, List.length_cons, Nat.reduceAdd, Nat.reduceEqDiff, ↓reduceIte]
  have f4 : upd (fun _ => none) b4 (some ⟨e4, [.int .i64 0, .int .i64 0, .slice none 0 0], 3⟩) b4 = some ⟨e4, [.int .i64 0, .int .i64 0, .slice none 0 0], 3⟩ := upd_at _ _ _
  generalize upd (fun _ => none) b4 (some ⟨e4, [.int .i64 0, .int .i64 0, .slice none 0 0], 3⟩) = H2 at *
  refine XWP.row1 (bx := [_]) fun b3 e3 hb3 _ => ?_
  simp only [List.map_cons, List.map_nil, rowS_v, rowS_p, List.length_nil, List.length_cons, Nat.reduceAdd, Nat.reduceEqDiff, ↓reduceIte]
  refine XWP.pub b3 _ (upd_at _ _ _) fun o3 ho3 hle3 => ?_
  have eo3 := row_obj ho3
  subst eo3
  have n43 := new_ne hb3 f4
  have f4 : upd (upd H2 b3 (some ⟨e3, [.int .i64 (n : Int), .int .i64 (n : Int), .slice A2 (flatG H n n).length c2], 3⟩)) b3 none b4 = some ⟨e4, [.int .i64 0, .int .i64 0, .slice none 0 0], 3⟩ := (upd_off n43).trans ((upd_off n43).trans f4)
  have h3 := addV_at V b3 (.cells ([.int .i64 (n : Int), .int .i64 (n : Int), .slice A2 (flatG H n n).length c2] : List Value).toArray e3 (0, 0))
  generalize upd (upd H2 b3 _) b3 none = H3 at *
  generalize addV V b3 _ = V3 at *
  refine XWP.row1 (bx := []) fun b2 e2 hb2 _ => ?_
  simp only [List.map_cons, List.map_nil, rowS_v, rowS_p, List.length_nil, List.length_cons, Nat.reduceAdd, ↓reduceIte]
  refine XWP.pub b2 _ (upd_at _ _ _) fun o2 ho2 hle2 => ?_
  have eo2 := row_obj ho2
  subst eo2
  have n42 := new_ne hb2 f4
  have f4 : upd (upd H3 b2 (some ⟨e2, [.int .i64 (n : Int), .int .i64 (n : Int), .slice A1 (flatG G n n).length c1], 3⟩)) b2 none b4 = some ⟨e4, [.int .i64 0, .int .i64 0, .slice none 0 0], 3⟩ := (upd_off n42).trans ((upd_off n42).trans f4)
  have h2 := addV_at V3 b2 (.cells ([.int .i64 (n : Int), .int .i64 (n : Int), .slice A1 (flatG G n n).length c1] : List Value).toArray e2 (0, 0))
  generalize upd (upd H3 b2 _) b2 none = H4 at *
  generalize addV V3 b2 _ = V4 at *
  have h3 := hle2 _ _ h3
  have hle := View.le_trans hle3 hle2
  have ha := ha.up hle
  have hb := hb.up hle
  refine XWP.seq ?_
  refine Gx.a (by kernel_rfl) fun K hK => ?_
  simp only [XA]
  refine ld_mem (ldV3 h2 shapeT_27 _) ?_
  simp only [XA]
  refine call_go (by kernel_rfl) rfl (cmr_c ha hB) fun v5 V5 hV5 h5 => ?_
  subst h5
  simp only [XA, gateX, ↓reduceIte, beq_self_eq_true]
  refine ld_mem (ldV3 (hV5 _ _ h3) shapeT_27 _) ?_
  simp only [XA, gateX, ↓reduceIte, beq_self_eq_true]
  refine call_go (by kernel_rfl) rfl (cmr_c (hb.up hV5) hC) fun v6 V6 hV6 h6 => ?_
  subst h6
  simp only [XA, gateX, ↓reduceIte, beq_self_eq_true]
  refine hK _ ?_
  refine Gx.f rfl ?_
  refine XWP.skip ?_
  have hle := View.le_trans hV5 hV6
  have h2 := hle _ _ h2
  have h3 := hle _ _ h3
  have ha := ha.up hle
  have hb := hb.up hle
  refine XWP.seq ?_
  refine Gx.a (by kernel_rfl) fun K hK => ?_
  simp only [XM, XA]
  refine ld_mem (ldV1 h2 (off := 0) rfl shapeT_3 _) ?_
  simp only [XM, XA]
  refine ld_mem (ldV1 h3 (off := 0) rfl shapeT_3 _) ?_
  simp only [XM, XA, XB, gateX, ↓reduceIte, beq_self_eq_true, decide_true]
  refine ld_mem (ldV1 h2 (off := 1) rfl shapeT_3 _) ?_
  simp only [XM, XA, gateX, ↓reduceIte, beq_self_eq_true]
  refine ld_mem (ldV1 h3 (off := 1) rfl shapeT_3 _) ?_
  simp only [XA, XB, gateX, ↓reduceIte, beq_self_eq_true, decide_true]
  refine hK _ ?_
  refine Gx.f rfl ?_
  refine XWP.skip ?_
  refine Gx.a (by kernel_rfl) fun K hK => ?_
  simp only [XM, XA]
  refine ld_mem (ldV1 h2 (off := 0) rfl shapeT_3 _) ?_
  simp only [XM, XA]
  refine ld_mem (ldV1 h2 (off := 1) rfl shapeT_3 _) ?_
  simp only [XA]
  refine mkf_go [.pointer (some ⟨b2, 0, none⟩), .pointer (some ⟨b3, 0, none⟩)] rfl ?_
  simp only [XA]
  refine call_own (by kernel_rfl) rfl (filled_o V6 (lb := [.pointer (some ⟨b2, 0, none⟩), .pointer (some ⟨b3, 0, none⟩)]) n n (fun i k => G i k + H i k) (by kernel_rfl) (by omega) (by omega) fun V' i k hV hi hk => cmadd1_c V' b2 b3 e2 e3 n i k B C G H _ _ (hV _ _ h2) (hV _ _ h3) (ha.up hV) (hb.up hV) hi hk hB hC) fun v12 V12 o12 hV12 hs12 hR12 => ?_
  obtain ⟨sl, cells, rfl, hown, hrow⟩ := hR12
  have f12 := addRow_off f4 fun g' q e => (hs12 g' q e).1
  have hown2 := own_any (H := H4) hown
  have osl := own_isOne hown2
  have hne : sl.ownBlock ≠ some b4 := fun e => by
    rcases own_parts hown with ⟨rfl, _, _⟩ | ⟨g2, cap2, rfl, hg2, _⟩
    · cases e
    · have : g2 = b4 := by simpa [Value.ownBlock] using e
      exact new_ne (hs12 g2 _ (addRow_only hg2)).1 f4 this.symm
  generalize addRow H4 o12 = H12 at *
  simp only [XA]
  refine st_rowA shapeT_27 (all3 rfl rfl osl) rfl f12 (by simp) ?_
  simp only [XA]
  refine hK _ ?_
  have hown3 : Own (upd H12 b4 (some ⟨e4, splice [.int .i64 0, .int .i64 0, .slice none 0 0] 0 [.int .i64 (n : Int), .int .i64 (n : Int), sl], 3⟩)) 31 3 sl (n * n) cells := by
    refine ⟨hown2.1, ?_⟩
    rcases hown2.2 with h | ⟨g2, cap2, rfl, hg2, h⟩
    · exact .inl h
    · exact .inr ⟨g2, cap2, rfl, by rw [upd_off fun e => hne (by rw [e]; rfl)]; exact hg2, h⟩
  refine XWP.pubR ratE_ok hown3 hrow fun H13 V13 hV13 hRw hk13 => ?_
  have f13 := (hk13 b4 hne).trans (upd_at _ _ _)
  refine XWP.ret ?_
  try simp only [thenX_ret, inBlockX_ret]
  exact ret_go _ (by simp [resAll, resV, cellsV, shapeT_27, f13, splice_all]; rfl) ⟨sl, rfl, hRw⟩
end Go.Proofs.Ytobjjdnfgamgcaa
end
section
namespace Go.Proofs.Ytobjjdnfgamgcaa
set_option linter.unusedVariables false
/-- bounds of the numbers under way -/
def fb : Nat → Nat × Nat
  | 0 => (0, 0)
  | k + 1 =>
    let a := 5 * (97 + ((fb k).1 + (fb k).2 + 1) + 1)
    (a, 5 * (a + 1) + 3)
/-- bounds of the values on the way up -/
def hb (C : Nat) : Nat → Nat
  | 0 => 0
  | r + 1 => 5 * (97 + hb C r + 1) + C + 1
end Go.Proofs.Ytobjjdnfgamgcaa
end
section
namespace Go.Proofs.Ytobjjdnfgamgcaa
open Go Go.RowKit
set_option linter.unusedSimpArgs false
set_option linter.unusedVariables false
attribute [local irreducible] XWP Spec SpecO XPub XCall seqX clX apX stX ldX iaX slX
end Go.Proofs.Ytobjjdnfgamgcaa
end
section
namespace Go.Proofs.Ytobjjdnfgamgcaa
set_option linter.unusedVariables false
/-- bounds of the interpolation's lists: its base, and what is told so far -/
def nb : Nat → Nat × Nat
  | 0 => (1, 0)
  | i + 1 => (6 * ((nb i).1 + 6 + 1), (nb i).2 + (nb i).1 + (2200000 + 6 * ((nb i).2 + 22) + 1 + 6 * ((nb i).1 + 22)) + 1)
end Go.Proofs.Ytobjjdnfgamgcaa
end
section
namespace Go.Proofs.Ytobjjdnfgamgcaa
open Go Go.RowKit
set_option linter.unusedSimpArgs false
set_option linter.unusedVariables false
attribute [local irreducible] XWP Spec SpecO XPub XCall seqX clX apX stX ldX iaX slX
theorem RatC.rawAt {V : View} {v : Value} {q : Rat} (h : RatC V v q) : RawAt V v (ng q) (dg q.num.natAbs) (dg q.den) := by
  obtain ⟨n, d, e, h1, h2⟩ := h
  exact ⟨n, d, e, h1, h2⟩
theorem cqr_c {V : View} {v : Value} {q : Rat} (h : RatC V v q) (hq : QF q) : Spec Try.prog 28 [v] V fun v' V' => v' = .bool true := by
  have f := fitR_toRaw (l := [q]) (fun x hx => by rw [List.mem_singleton.1 hx]; exact hq) (toRaw q) (by simp)
  have := qright_c V v _ _ _ h.rawAt f.1 f.2
  have e : rawOk (ng q) (dg q.num.natAbs) (dg q.den) = true := toRaw_ok q
  rwa [e] at this
theorem cscale1_c (V : View) (b2 b3 e2 e3 n i k B C : Nat) (G : Grid) (q : Rat) (s1 x y : Value) (h2 : V b2 = some (.cells ([.int .i64 (n : Int), .int .i64 (n : Int), s1] : List Value).toArray e2 (0, 0))) (h3 : V b3 = some (.cells ([.bool (ng q), x, y] : List Value).toArray e3 (0, 0))) (ha : SqM V s1 n B G) (hb : RatC V (.agg #[.bool (ng q), x, y]) q) (hi : i < n) (hk : k < n) (hB : B ≤ 17592186044416) (hC : QB C q) (hC2 : C ≤ 17592186044416) :
    Spec Try.prog 69 [.int .i64 (i : Int), .int .i64 (k : Int), .pointer (some ⟨b2, 0, none⟩), .pointer (some ⟨b3, 0, none⟩)] V fun v' V' => RatC V' v' (G i k * q) := by
  have hn := ha.hn
  have hnn := sq_le hn
  have hp := pos_lt hi hk
  have w1 := wr_mul (i := i) (C := n) (by omega) (by omega)
  have w2 := wr_add (p := i * n) (k := k) (by omega) (by omega)
  have g1 := flatG_at G hi hk
  have la := flatG_len G n n
  have hva := ha.hv
  obtain ⟨A1, c1, rfl, hc1, hm1⟩ := hva.form
  obtain ⟨b, o, rfl⟩ := SlAt.addr hva (by omega)
  obtain ⟨x0, y0, z0, hx, ⟨o1, o2, o3⟩, hld⟩ := Rats.get hva (i * n + k) (by omega)
  rw [g1] at hx
  refine (Spec.enter Try.func69 rfl fun Γ => ?_)
  simp only [Try.ntmps69, List.map_cons, List.map_nil, List.length_cons, List.length_nil, Nat.reduceAdd, Nat.reduceSub, List.replicate_succ, List.replicate_zero, List.cons_append, List.nil_append]
  refine Gx.a (by kernel_rfl) fun K hK => ?_
  simp only [XA, XB]
  refine hK _ ?_
  (refine XWP.drw [0, 1, 2, 3, 4, 5, 6, 7, 8, 9, 10, 11, 12] (by kernel_rfl) (by kernel_rfl) (by kernel_rfl) fun K hK => ?_) <;> dsimp only [pickOps, List.getElem?_cons_zero, List.getElem?_cons_succ]
  simp only [XM, XA]
  refine ld_mem (ldV1 h2 (off := 2) rfl shapeT_25 _) ?_
  simp only [XM, XA]
  refine ld_mem (ldV1 h2 (off := 1) rfl shapeT_3 _) ?_
  simp only [XA, XB, w1, w2]
  refine ⟨by omega, by omega, ?_⟩
  refine ld_mem (hld _) ?_
  simp only [XA]
  refine ld_mem (ldV3 h3 shapeT_31 _) ?_
  simp only [XA]
  refine call_go (by kernel_rfl) rfl (qmul_c _ _ _ _ _ hx hb ((ha.hq i k hi hk).qf hB) (hC.qf hC2)) fun v1 V1 hV1 h1 => ?_
  obtain ⟨x1, y1, rfl, p1, p2⟩ := h1.form
  simp only [XA]
  refine st_rat rfl rfl rfl p1 p2 ?_
  simp only [XA]
  refine hK _ (XWP.ret ?_)
  try simp only [thenX_ret, inBlockX_ret]
  exact ret_rat1 rfl rfl rfl h1
theorem cscale_c (V : View) (s1 r : Value) (n B C : Nat) (G : Grid) (q : Rat) (ha : SqM V s1 n B G) (hb : RatC V r q) (hB : B ≤ 17592186044416) (hC : QB C q) (hC2 : C ≤ 17592186044416) :
    Spec Try.prog 31 [.agg #[.int .i64 (n : Int), .int .i64 (n : Int), s1], r] V fun v' V' => ∃ w, v' = .tuple #[.agg #[.int .i64 (n : Int), .int .i64 (n : Int), w], .int .i64 0] ∧ Rats V' w (flatG (fun i k => G i k * q) n n) := by
  obtain ⟨A1, c1, rfl, hc1, hm1⟩ := ha.hv.form
  obtain ⟨x, y, rfl, ox, oy⟩ := hb.form
  have hn := ha.hn
  refine (Spec.enter Try.func31 rfl fun Γ => ?_)
  simp only [Try.ntmps31, List.map_cons, List.map_nil, List.length_cons, List.length_nil, Nat.reduceAdd, Nat.reduceSub, List.replicate_succ, List.replicate_zero, List.cons_append, List.nil_append]
  refine Gx.a (by kernel_rfl) fun K hK => ?_
  simp only [XM, XA, Nat.reduceAdd]
  refine hK _ ?_
  refine XWP.row1 (bx := [_, _]) fun b4 e4 hb4 _ => ?_
  simp only [List.map_cons, List.map_nil, rowS_v, rowS_p, List.length_nil, List.length_cons, Nat.reduceAdd, Nat.reduceEqDiff, ↓reduceIte]
  have f4 : upd (fun _ => none) b4 (some ⟨e4, [.int .i64 0, .int .i64 0, .slice none 0 0], 3⟩) b4 = some ⟨e4, [.int .i64 0, .int .i64 0, .slice none 0 0], 3⟩ := upd_at _ _ _
  generalize upd (fun _ => none) b4 (some ⟨e4, [.int .i64 0, .int .i64 0, .slice none 0 0], 3⟩) = H2 at *
  refine XWP.row1 (bx := [_]) fun b3 e3 hb3 _ => ?_
  simp only [List.map_cons, List.map_nil, rowS_v, rowS_p, List.length_nil, List.length_cons, Nat.reduceAdd, Nat.reduceEqDiff, ↓reduceIte]
  refine XWP.pub b3 _ (upd_at _ _ _) fun o3 ho3 hle3 => ?_
  have eo3 := row_obj ho3
  subst eo3
  have n43 := new_ne hb3 f4
  have f4 : upd (upd H2 b3 (some ⟨e3, [.bool (ng q), x, y], 3⟩)) b3 none b4 = some ⟨e4, [.int .i64 0, .int .i64 0, .slice none 0 0], 3⟩ := (upd_off n43).trans ((upd_off n43).trans f4)
  have h3 := addV_at V b3 (.cells ([.bool (ng q), x, y] : List Value).toArray e3 (0, 0))
  generalize upd (upd H2 b3 _) b3 none = H3 at *
  generalize addV V b3 _ = V3 at *
  refine XWP.row1 (bx := []) fun b2 e2 hb2 _ => ?_
  simp only [List.map_cons, List.map_nil, rowS_v, rowS_p, List.length_nil, List.length_cons, Nat.reduceAdd, ↓reduceIte]
  refine XWP.pub b2 _ (upd_at _ _ _) fun o2 ho2 hle2 => ?_
  have eo2 := row_obj ho2
  subst eo2
  have n42 := new_ne hb2 f4
  have f4 : upd (upd H3 b2 (some ⟨e2, [.int .i64 (n : Int), .int .i64 (n : Int), .slice A1 (flatG G n n).length c1], 3⟩)) b2 none b4 = some ⟨e4, [.int .i64 0, .int .i64 0, .slice none 0 0], 3⟩ := (upd_off n42).trans ((upd_off n42).trans f4)
  have h2 := addV_at V3 b2 (.cells ([.int .i64 (n : Int), .int .i64 (n : Int), .slice A1 (flatG G n n).length c1] : List Value).toArray e2 (0, 0))
  generalize upd (upd H3 b2 _) b2 none = H4 at *
  generalize addV V3 b2 _ = V4 at *
  have h3 := hle2 _ _ h3
  have hle := View.le_trans hle3 hle2
  have ha := ha.up hle
  have hb := hb.mono hle
  refine XWP.seq ?_
  refine Gx.a (by kernel_rfl) fun K hK => ?_
  simp only [XA]
  refine ld_mem (ldV3 h2 shapeT_27 _) ?_
  simp only [XA]
  refine call_go (by kernel_rfl) rfl (cmr_c ha hB) fun v5 V5 hV5 h5 => ?_
  subst h5
  simp only [XA, gateX, ↓reduceIte, beq_self_eq_true]
  refine ld_mem (ldV3 (hV5 _ _ h3) shapeT_31 _) ?_
  simp only [XA, gateX, ↓reduceIte, beq_self_eq_true]
  refine call_go (by kernel_rfl) rfl (cqr_c (hb.mono hV5) (hC.qf hC2)) fun v6 V6 hV6 h6 => ?_
  subst h6
  simp only [XA, gateX, ↓reduceIte, beq_self_eq_true]
  refine hK _ ?_
  refine Gx.f rfl ?_
  refine XWP.skip ?_
  have hle := View.le_trans hV5 hV6
  have h2 := hle _ _ h2
  have h3 := hle _ _ h3
  have ha := ha.up hle
  have hb := hb.mono hle
  refine Gx.a (by kernel_rfl) fun K hK => ?_
  simp only [XM, XA]
  refine ld_mem (ldV1 h2 (off := 0) rfl shapeT_3 _) ?_
  simp only [XM, XA]
  refine ld_mem (ldV1 h2 (off := 1) rfl shapeT_3 _) ?_
  simp only [XA]
  refine mkf_go [.pointer (some ⟨b2, 0, none⟩), .pointer (some ⟨b3, 0, none⟩)] rfl ?_
  simp only [XA]
  refine call_own (by kernel_rfl) rfl (filled_o V6 (lb := [.pointer (some ⟨b2, 0, none⟩), .pointer (some ⟨b3, 0, none⟩)]) n n (fun i k => G i k * q) (by kernel_rfl) (by omega) (by omega) fun V' i k hV hi hk => cscale1_c V' b2 b3 e2 e3 n i k B C G q _ x y (hV _ _ h2) (hV _ _ h3) (ha.up hV) (hb.mono hV) hi hk hB hC hC2) fun v12 V12 o12 hV12 hs12 hR12 => ?_
  obtain ⟨sl, cells, rfl, hown, hrow⟩ := hR12
  have f12 := addRow_off f4 fun g' q e => (hs12 g' q e).1
  have hown2 := own_any (H := H4) hown
  have osl := own_isOne hown2
  have hne : sl.ownBlock ≠ some b4 := fun e => by
    rcases own_parts hown with ⟨rfl, _, _⟩ | ⟨g2, cap2, rfl, hg2, _⟩
    · cases e
    · have : g2 = b4 := by simpa [Value.ownBlock] using e
      exact new_ne (hs12 g2 _ (addRow_only hg2)).1 f4 this.symm
  generalize addRow H4 o12 = H12 at *
  simp only [XA]
  refine st_rowA shapeT_27 (all3 rfl rfl osl) rfl f12 (by simp) ?_
  simp only [XA]
  refine hK _ ?_
  have hown3 : Own (upd H12 b4 (some ⟨e4, splice [.int .i64 0, .int .i64 0, .slice none 0 0] 0 [.int .i64 (n : Int), .int .i64 (n : Int), sl], 3⟩)) 31 3 sl (n * n) cells := by
    refine ⟨hown2.1, ?_⟩
    rcases hown2.2 with h | ⟨g2, cap2, rfl, hg2, h⟩
    · exact .inl h
    · exact .inr ⟨g2, cap2, rfl, by rw [upd_off fun e => hne (by rw [e]; rfl)]; exact hg2, h⟩
  refine XWP.pubR ratE_ok hown3 hrow fun H13 V13 hV13 hRw hk13 => ?_
  have f13 := (hk13 b4 hne).trans (upd_at _ _ _)
  refine XWP.ret ?_
  try simp only [thenX_ret, inBlockX_ret]
  exact ret_go _ (by simp [resAll, resV, cellsV, shapeT_27, f13, splice_all]; rfl) ⟨sl, rfl, hRw⟩
end Go.Proofs.Ytobjjdnfgamgcaa
end
section
namespace Go.Proofs.Ytobjjdnfgamgcaa
open Go Go.RowKit
set_option linter.unusedSimpArgs false
set_option linter.unusedVariables false
attribute [local irreducible] XWP Spec SpecO XPub XCall seqX clX apX stX ldX iaX slX
theorem stoB_parts {r c : Int} {L : List Raw} (h : stoB r c L = true) : ∃ n : Nat, r = n ∧ c = n ∧ n ≤ 60 ∧ L.length = n * n ∧ okR L = true ∧ StoG (gridL (qs L) n) n := by
  unfold stoB at h
  rw [Bool.and_eq_true, Bool.and_eq_true, decide_eq_true_eq] at h
  obtain ⟨⟨h1, rfl⟩, h2⟩ := h
  unfold matR at h1
  rw [Bool.and_eq_true, decide_eq_true_eq] at h1
  obtain ⟨⟨k1, k2, _, _, k5⟩, ok⟩ := h1
  obtain ⟨n, rfl⟩ : ∃ n : Nat, r = n := ⟨r.toNat, by omega⟩
  have kl : L.length = n * n := by rw [← Int.natCast_mul] at k5; omega
  rw [Int.toNat_natCast] at h2
  have hrow : ∀ i, i < n → (∀ k, k < n → 0 ≤ cf (qs L) (i * n + k)) ∧ Sm (fun k => cf (qs L) (i * n + k)) n = 1 := fun i hi => by
    have := List.all_eq_true.1 h2 i (List.mem_range.2 hi)
    unfold rowOk at this
    rw [Bool.and_eq_true, decide_eq_true_eq] at this
    refine ⟨fun k hk => ?_, this.2⟩
    have h3 := List.all_eq_true.1 this.1 k (List.mem_range.2 hk)
    rw [Bool.not_eq_true'] at h3
    exact (ng_iff _).1 h3
  exact ⟨n, rfl, rfl, by omega, kl, ok, ⟨fun i k hi hk => (hrow i hi).1 k hk, fun i hi => (hrow i hi).2⟩⟩
end Go.Proofs.Ytobjjdnfgamgcaa
end
section
namespace Go.Proofs.Ytobjjdnfgamgcaa
open Go Go.RowKit
set_option linter.unusedSimpArgs false
set_option linter.unusedVariables false
attribute [local irreducible] XWP Spec SpecO XPub XCall seqX clX apX stX ldX iaX slX
/-- the answer of Mix: its error -/
def mixE (r1 c1 r2 c2 : Int) (L1 L2 : List Raw) (W : Raw) : Int :=
  if stoB r1 c1 L1 = false ∨ stoB r2 c2 L2 = false ∨ W.ok = false ∨ ng W.q = true ∨ 0 < sgI (W.q - 1) then 1 else if r1 = r2 then 0 else 30
/-- .. its matrix -/
def mixL (n : Nat) (L1 L2 : List Raw) (q : Rat) : List Rat := flatG (fun i k => gridL (qs L1) n i k * q + gridL (qs L2) n i k * (1 - q)) n n
theorem mixE_bad {r1 c1 r2 c2 : Int} {L1 L2 : List Raw} {W : Raw} (h : stoB r1 c1 L1 = false ∨ stoB r2 c2 L2 = false ∨ W.ok = false ∨ ng W.q = true ∨ 0 < sgI (W.q - 1)) : mixE r1 c1 r2 c2 L1 L2 W = 1 := if_pos h
theorem SqM.raw {V : View} {s : Value} {n : Nat} {L : List Raw} {B : Nat} (h : Raws V s L) (ok : okR L = true) (hl : L.length = n * n) (hn : n ≤ 60) (hq : ∀ x ∈ qs L, QB B x) : SqM V s n B (gridL (qs L) n) := by
  have hl' : (qs L).length = n * n := by rw [qs_len]; exact hl
  refine ⟨by rw [flatG_gridL hl']; exact h.rats ok, hn, fun i k hi hk => ?_⟩
  have hp := pos_lt hi hk
  exact hq _ (cf_mem (l := qs L) (i := i * n + k) (by omega))
theorem mixL_QB {n B : Nat} {L1 L2 : List Raw} {q : Rat} (h1 : ∀ i k, i < n → k < n → QB B (gridL (qs L1) n i k)) (h2 : ∀ i k, i < n → k < n → QB B (gridL (qs L2) n i k)) (hq : QB B q) : ∀ x ∈ mixL n L1 L2 q, QB (6 * B + 10) x := fun x hx => by
  obtain ⟨i, k, hi, hk, rfl⟩ := flatG_mem hx
  have a1 := (h1 i k hi hk).mul hq
  have a2 := (h2 i k hi hk).mul ((QB_one 0).sub hq)
  exact (a1.add a2).mono (by omega)
set_option maxHeartbeats 4000000 in
set_option maxRecDepth 100000 in
theorem kmix_c (V : View) (s1 s2 u : Value) (r1 c1 r2 c2 : Int) (L1 L2 : List Raw) (W : Raw) (h1 : Raws V s1 L1) (h2 : Raws V s2 L2) (hu : rawE V u W) (f1 : fitR L1) (f2 : fitR L2) (fw : W.fit) (l1 : L1.length ≤ 100000) (l2 : L2.length ≤ 100000) (q1 : okR L1 = true → ∀ x ∈ qs L1, QB 96 x) (q2 : okR L2 = true → ∀ x ∈ qs L2, QB 96 x) (qw : W.ok = true → QB 96 W.q) :
    Spec Try.prog 10 [.agg #[.int .i64 r1, .int .i64 c1, s1], .agg #[.int .i64 r2, .int .i64 c2, s2], u] V fun v' V' =>
      (mixE r1 c1 r2 c2 L1 L2 W ≠ 0 → v' = .tuple #[.agg #[.int .i64 0, .int .i64 0, .slice none 0 0], .int .i64 (mixE r1 c1 r2 c2 L1 L2 W)]) ∧
      (mixE r1 c1 r2 c2 L1 L2 W = 0 → ∃ w, v' = .tuple #[.agg #[.int .i64 r1, .int .i64 r1, w], .int .i64 0] ∧ Rats V' w (mixL r1.toNat L1 L2 W.q)) := by
  have hu0 : RawAt V u W.m W.nd W.dd := hu
  obtain ⟨A1, k1, rfl, _, _⟩ := h1.form
  obtain ⟨A2, k2, rfl, _, _⟩ := h2.form
  obtain ⟨n0, d0, rfl, kn, kd⟩ := hu
  have on := kn.one
  have od := kd.one
  refine (Spec.enter Try.func10 rfl fun Γ => ?_)
  simp only [Try.ntmps10, List.map_cons, List.map_nil, List.length_cons, List.length_nil, Nat.reduceAdd, Nat.reduceSub, List.replicate_succ, List.replicate_zero, List.cons_append, List.nil_append]
  first | refine Gx.a (by kernel_rfl) fun K hK => ?_ | refine Gx.b (by kernel_rfl) fun K hK => ?_ | refine Gx.c (by kernel_rfl) fun K hK => ?_
  simp only [XM, XA, XB, gateX, Nat.reduceAdd, Nat.reduceLeDiff, Nat.reduceSub, Nat.reduceMul, ↓reduceIte, Int.reduceToNat, Int.reduceLE, beq_self_eq_true]
  refine hK _ ?_
  have hbad : ∀ {e : Int}, e = 1 → mixE r1 c1 r2 c2 L1 L2 W = 1 → ∀ V', ((mixE r1 c1 r2 c2 L1 L2 W ≠ 0 → (Value.tuple #[.agg #[.int .i64 0, .int .i64 0, .slice none 0 0], .int .i64 e] : Value) = .tuple #[.agg #[.int .i64 0, .int .i64 0, .slice none 0 0], .int .i64 (mixE r1 c1 r2 c2 L1 L2 W)]) ∧
      (mixE r1 c1 r2 c2 L1 L2 W = 0 → ∃ w, (Value.tuple #[.agg #[.int .i64 0, .int .i64 0, .slice none 0 0], .int .i64 e] : Value) = .tuple #[.agg #[.int .i64 r1, .int .i64 r1, w], .int .i64 0] ∧ Rats V' w (mixL r1.toNat L1 L2 W.q))) := fun he h V' => ⟨fun _ => by rw [h, he], fun h' => by rw [h] at h'; exact absurd h' (by decide)⟩
  refine XWP.cut (fun s => ∃ (V2 : View), StIs (fun Z => [Z 0,Z 1,Z 2, .p 0 0, .p 1 0, .p 2 0, .p 3 0, Z 7,Z 8,Z 9,Z 10,Z 11,Z 12,Z 13,Z 14,Z 15,Z 16,Z 17,Z 18,Z 19,Z 20,Z 21,Z 22,Z 23,Z 24,Z 25,Z 26,Z 27,Z 28,Z 29,Z 30,Z 31,Z 32,Z 33,Z 34,Z 35,Z 36,Z 37,Z 38,Z 39,Z 40,Z 41,Z 42,Z 43,Z 44,Z 45,Z 46,Z 47,Z 48,Z 49,Z 50,Z 51,Z 52,Z 53,Z 54,Z 55,Z 56,Z 57,Z 58,Z 59,Z 60]) [[.int .i64 r1, .int .i64 c1, .slice A1 L1.length k1], [.int .i64 r2, .int .i64 c2, .slice A2 L2.length k2], [.bool W.m, n0, d0], [.int .i64 0, .int .i64 0, .slice none 0 0]] (fun _ => none) V2 s ∧ V.le V2 ∧ stoB r1 c1 L1 = true ∧ stoB r2 c2 L2 = true ∧ W.ok = true ∧ ng W.q = false ∧ ¬ 0 < sgI (W.q - 1)) ?_ ?_
  · (first | refine XWP.drw [0, 1, 2, 3, 4, 5, 6, 7, 8, 9, 10, 11, 12, 13, 14, 15, 16, 17, 18, 19, 20, 21, 22] (by kernel_rfl) (by kernel_rfl) (by kernel_rfl) fun K hK => ?_ | refine XWP.seq (XWP.drw [0, 1, 2, 3, 4, 5, 6, 7, 8, 9, 10, 11, 12, 13, 14, 15, 16, 17, 18, 19, 20, 21, 22] (by kernel_rfl) (by kernel_rfl) (by kernel_rfl) fun K hK => ?_) | refine XWP.drw1 [0, 1, 2, 3, 4, 5, 6, 7, 8, 9, 10, 11, 12, 13, 14, 15, 16, 17, 18, 19, 20, 21, 22] (by kernel_rfl) (by kernel_rfl) (by kernel_rfl) fun K hK => ?_) <;> dsimp only [pickOps, List.getElem?_cons_zero, List.getElem?_cons_succ]
    simp only [XM, XA, XB, gateX, Nat.reduceAdd, Nat.reduceLeDiff, Nat.reduceSub, Nat.reduceMul, ↓reduceIte, Int.reduceToNat, Int.reduceLE, beq_self_eq_true]
    refine call_go (by kernel_rfl) rfl (csto_c _ _ r1 c1 L1 96 h1 f1 l1 q1 (by omega)) fun v1 V1 hV1 g1 => ?_
    subst g1
    cases e1 : stoB r1 c1 L1
    · simp only [XM, XA, XB, gateX, Nat.reduceAdd, Nat.reduceLeDiff, Nat.reduceSub, Nat.reduceMul, ↓reduceIte, Int.reduceToNat, Int.reduceLE, beq_self_eq_true]
      refine hK _ ?_
      first | refine Gx.t rfl ?_ | refine XWP.seq (Gx.t rfl ?_)
      first | refine Gx.a (by kernel_rfl) fun K hK => ?_ | refine Gx.b (by kernel_rfl) fun K hK => ?_ | refine Gx.c (by kernel_rfl) fun K hK => ?_
      simp only [XM, XA, XB, gateX, Nat.reduceAdd, Nat.reduceLeDiff, Nat.reduceSub, Nat.reduceMul, ↓reduceIte, Int.reduceToNat, Int.reduceLE, beq_self_eq_true]
      refine bd_go (by kernel_rfl) #[] (by simp) bd_mtx0 ?_
      simp only [XM, XA, XB, gateX, Nat.reduceAdd, Nat.reduceLeDiff, Nat.reduceSub, Nat.reduceMul, ↓reduceIte, Int.reduceToNat, Int.reduceLE, beq_self_eq_true]
      refine st_mat shapeT_27 rfl rfl rfl rfl rfl ?_
      simp only [XM, XA, XB, gateX, Nat.reduceAdd, Nat.reduceLeDiff, Nat.reduceSub, Nat.reduceMul, ↓reduceIte, Int.reduceToNat, Int.reduceLE, beq_self_eq_true]
      refine hK _ (XWP.ret ?_)
      try simp only [thenX_ret, inBlockX_ret]
      exact ret_mat2C rfl rfl rfl rfl (hbad rfl (mixE_bad (.inl e1)) _)
    simp only [XM, XA, XB, gateX, Nat.reduceAdd, Nat.reduceLeDiff, Nat.reduceSub, Nat.reduceMul, ↓reduceIte, Int.reduceToNat, Int.reduceLE, beq_self_eq_true]
    refine call_go (by kernel_rfl) rfl (csto_c _ _ r2 c2 L2 96 (h2.up hV1) f2 l2 q2 (by omega)) fun v2 V2 hV2 g2 => ?_
    subst g2
    cases e2 : stoB r2 c2 L2
    · simp only [XM, XA, XB, gateX, Nat.reduceAdd, Nat.reduceLeDiff, Nat.reduceSub, Nat.reduceMul, ↓reduceIte, Int.reduceToNat, Int.reduceLE, beq_self_eq_true]
      refine hK _ ?_
      first | refine Gx.t rfl ?_ | refine XWP.seq (Gx.t rfl ?_)
      first | refine Gx.a (by kernel_rfl) fun K hK => ?_ | refine Gx.b (by kernel_rfl) fun K hK => ?_ | refine Gx.c (by kernel_rfl) fun K hK => ?_
      simp only [XM, XA, XB, gateX, Nat.reduceAdd, Nat.reduceLeDiff, Nat.reduceSub, Nat.reduceMul, ↓reduceIte, Int.reduceToNat, Int.reduceLE, beq_self_eq_true]
      refine bd_go (by kernel_rfl) #[] (by simp) bd_mtx0 ?_
      simp only [XM, XA, XB, gateX, Nat.reduceAdd, Nat.reduceLeDiff, Nat.reduceSub, Nat.reduceMul, ↓reduceIte, Int.reduceToNat, Int.reduceLE, beq_self_eq_true]
      refine st_mat shapeT_27 rfl rfl rfl rfl rfl ?_
      simp only [XM, XA, XB, gateX, Nat.reduceAdd, Nat.reduceLeDiff, Nat.reduceSub, Nat.reduceMul, ↓reduceIte, Int.reduceToNat, Int.reduceLE, beq_self_eq_true]
      refine hK _ (XWP.ret ?_)
      try simp only [thenX_ret, inBlockX_ret]
      exact ret_mat2C rfl rfl rfl rfl (hbad rfl (mixE_bad (.inr (.inl e2))) _)
    simp only [XM, XA, XB, gateX, Nat.reduceAdd, Nat.reduceLeDiff, Nat.reduceSub, Nat.reduceMul, ↓reduceIte, Int.reduceToNat, Int.reduceLE, beq_self_eq_true]
    have hV12 := View.le_trans hV1 hV2
    refine call_go (by kernel_rfl) rfl (qright_c _ _ W.m W.nd W.dd (RawAt.mono hu0 hV12) fw.1 fw.2) fun v3 V3 hV3 g3 => ?_
    have g3 : v3 = .bool W.ok := g3
    subst g3
    cases e3 : W.ok
    · simp only [XM, XA, XB, gateX, Nat.reduceAdd, Nat.reduceLeDiff, Nat.reduceSub, Nat.reduceMul, ↓reduceIte, Int.reduceToNat, Int.reduceLE, beq_self_eq_true]
      refine hK _ ?_
      first | refine Gx.t rfl ?_ | refine XWP.seq (Gx.t rfl ?_)
      first | refine Gx.a (by kernel_rfl) fun K hK => ?_ | refine Gx.b (by kernel_rfl) fun K hK => ?_ | refine Gx.c (by kernel_rfl) fun K hK => ?_
      simp only [XM, XA, XB, gateX, Nat.reduceAdd, Nat.reduceLeDiff, Nat.reduceSub, Nat.reduceMul, ↓reduceIte, Int.reduceToNat, Int.reduceLE, beq_self_eq_true]
      refine bd_go (by kernel_rfl) #[] (by simp) bd_mtx0 ?_
      simp only [XM, XA, XB, gateX, Nat.reduceAdd, Nat.reduceLeDiff, Nat.reduceSub, Nat.reduceMul, ↓reduceIte, Int.reduceToNat, Int.reduceLE, beq_self_eq_true]
      refine st_mat shapeT_27 rfl rfl rfl rfl rfl ?_
      simp only [XM, XA, XB, gateX, Nat.reduceAdd, Nat.reduceLeDiff, Nat.reduceSub, Nat.reduceMul, ↓reduceIte, Int.reduceToNat, Int.reduceLE, beq_self_eq_true]
      refine hK _ (XWP.ret ?_)
      try simp only [thenX_ret, inBlockX_ret]
      exact ret_mat2C rfl rfl rfl rfl (hbad rfl (mixE_bad (.inr (.inr (.inl e3)))) _)
    have hV13 := View.le_trans hV12 hV3
    have hwc : RatC V (.agg #[.bool W.m, n0, d0]) W.q := RawAt.rat hu0 e3
    have em : W.m = ng W.q := by
      obtain ⟨x, y, e, _, _⟩ := hwc.form
      simp at e
      exact e.1
    cases e4 : ng W.q
    rotate_left
    · rw [e4] at em
      simp only [XM, XA, XB, gateX, Nat.reduceAdd, Nat.reduceLeDiff, Nat.reduceSub, Nat.reduceMul, ↓reduceIte, Int.reduceToNat, Int.reduceLE, beq_self_eq_true, em]
      refine hK _ ?_
      first | refine Gx.t rfl ?_ | refine XWP.seq (Gx.t rfl ?_)
      first | refine Gx.a (by kernel_rfl) fun K hK => ?_ | refine Gx.b (by kernel_rfl) fun K hK => ?_ | refine Gx.c (by kernel_rfl) fun K hK => ?_
      simp only [XM, XA, XB, gateX, Nat.reduceAdd, Nat.reduceLeDiff, Nat.reduceSub, Nat.reduceMul, ↓reduceIte, Int.reduceToNat, Int.reduceLE, beq_self_eq_true]
      refine bd_go (by kernel_rfl) #[] (by simp) bd_mtx0 ?_
      simp only [XM, XA, XB, gateX, Nat.reduceAdd, Nat.reduceLeDiff, Nat.reduceSub, Nat.reduceMul, ↓reduceIte, Int.reduceToNat, Int.reduceLE, beq_self_eq_true]
      refine st_mat shapeT_27 rfl rfl rfl rfl rfl ?_
      simp only [XM, XA, XB, gateX, Nat.reduceAdd, Nat.reduceLeDiff, Nat.reduceSub, Nat.reduceMul, ↓reduceIte, Int.reduceToNat, Int.reduceLE, beq_self_eq_true]
      refine hK _ (XWP.ret ?_)
      try simp only [thenX_ret, inBlockX_ret]
      exact ret_mat2C rfl rfl rfl rfl (hbad rfl (mixE_bad (.inr (.inr (.inr (.inl e4))))) _)
    rw [e4] at em
    simp only [XM, XA, XB, gateX, Nat.reduceAdd, Nat.reduceLeDiff, Nat.reduceSub, Nat.reduceMul, ↓reduceIte, Int.reduceToNat, Int.reduceLE, beq_self_eq_true, em]
    refine call_go (by kernel_rfl) rfl (qone_c _) fun v4 V4 hV4 g4 => ?_
    simp only [XM, XA, XB, gateX, Nat.reduceAdd, Nat.reduceLeDiff, Nat.reduceSub, Nat.reduceMul, ↓reduceIte, Int.reduceToNat, Int.reduceLE, beq_self_eq_true, em]
    have hwc4 := hwc.mono (View.le_trans hV13 hV4)
    rw [em] at hwc4
    refine call_go (by kernel_rfl) rfl (qcmp_c _ _ _ _ _ hwc4 g4 ((qw e3).qf (by omega)) ((QB_one 0).qf (by omega))) fun v5 V5 hV5 g5 => ?_
    subst g5
    by_cases e5 : 0 < sgI (W.q - 1)
    · have b5 : decide (0 < sgI (W.q - 1)) = true := decide_eq_true e5
      simp only [XM, XA, XB, gateX, Nat.reduceAdd, Nat.reduceLeDiff, Nat.reduceSub, Nat.reduceMul, ↓reduceIte, Int.reduceToNat, Int.reduceLE, beq_self_eq_true, b5]
      refine hK _ ?_
      first | refine Gx.t rfl ?_ | refine XWP.seq (Gx.t rfl ?_)
      first | refine Gx.a (by kernel_rfl) fun K hK => ?_ | refine Gx.b (by kernel_rfl) fun K hK => ?_ | refine Gx.c (by kernel_rfl) fun K hK => ?_
      simp only [XM, XA, XB, gateX, Nat.reduceAdd, Nat.reduceLeDiff, Nat.reduceSub, Nat.reduceMul, ↓reduceIte, Int.reduceToNat, Int.reduceLE, beq_self_eq_true]
      refine bd_go (by kernel_rfl) #[] (by simp) bd_mtx0 ?_
      simp only [XM, XA, XB, gateX, Nat.reduceAdd, Nat.reduceLeDiff, Nat.reduceSub, Nat.reduceMul, ↓reduceIte, Int.reduceToNat, Int.reduceLE, beq_self_eq_true]
      refine st_mat shapeT_27 rfl rfl rfl rfl rfl ?_
      simp only [XM, XA, XB, gateX, Nat.reduceAdd, Nat.reduceLeDiff, Nat.reduceSub, Nat.reduceMul, ↓reduceIte, Int.reduceToNat, Int.reduceLE, beq_self_eq_true]
      refine hK _ (XWP.ret ?_)
      try simp only [thenX_ret, inBlockX_ret]
      exact ret_mat2C rfl rfl rfl rfl (hbad rfl (mixE_bad (.inr (.inr (.inr (.inr e5))))) _)
    · have b5 : decide (0 < sgI (W.q - 1)) = false := decide_eq_false e5
      simp only [XM, XA, XB, gateX, Nat.reduceAdd, Nat.reduceLeDiff, Nat.reduceSub, Nat.reduceMul, ↓reduceIte, Int.reduceToNat, Int.reduceLE, beq_self_eq_true, b5]
      refine hK _ ?_
      first | refine Gx.f rfl ?_ | refine XWP.seq (Gx.f rfl ?_)
      refine XWP.skip ?_
      rw [em]
      exact ⟨V5, StIs.of (by exact rfl), View.le_trans hV13 (View.le_trans hV4 hV5), by first | exact e1 | rfl, by first | exact e2 | rfl, by first | exact e3 | rfl, e4, e5⟩
  rintro s ⟨V2, hs, hV2, e1, e2, e3, e4, e5⟩
  obtain ⟨z, rfl⟩ := hs.out
  try dsimp only
  clear hs
  have hgood : mixE r1 c1 r2 c2 L1 L2 W = if r1 = r2 then 0 else 30 := if_neg (by rw [e1, e2, e3, e4]; simp; omega)
  have hwc : RatC V (.agg #[.bool W.m, n0, d0]) W.q := RawAt.rat hu0 e3
  have em : W.m = ng W.q := by
    obtain ⟨x, y, e, _, _⟩ := hwc.form
    simp at e
    exact e.1
  refine XWP.seq ?_
  by_cases er : r1 = r2
  rotate_left
  · have b6 : (!decide (r1 = r2)) = true := by rw [decide_eq_false er]; rfl
    rw [if_neg er] at hgood
    first | refine Gx.a (by kernel_rfl) fun K hK => ?_ | refine Gx.b (by kernel_rfl) fun K hK => ?_ | refine Gx.c (by kernel_rfl) fun K hK => ?_
    simp only [XM, XA, XB, gateX, Nat.reduceAdd, Nat.reduceLeDiff, Nat.reduceSub, Nat.reduceMul, ↓reduceIte, Int.reduceToNat, Int.reduceLE, beq_self_eq_true, b6]
    refine hK _ ?_
    first | refine Gx.t rfl ?_ | refine XWP.seq (Gx.t rfl ?_)
    first | refine Gx.a (by kernel_rfl) fun K hK => ?_ | refine Gx.b (by kernel_rfl) fun K hK => ?_ | refine Gx.c (by kernel_rfl) fun K hK => ?_
    simp only [XM, XA, XB, gateX, Nat.reduceAdd, Nat.reduceLeDiff, Nat.reduceSub, Nat.reduceMul, ↓reduceIte, Int.reduceToNat, Int.reduceLE, beq_self_eq_true]
    refine bd_go (by kernel_rfl) #[] (by simp) bd_mtx0 ?_
    simp only [XM, XA, XB, gateX, Nat.reduceAdd, Nat.reduceLeDiff, Nat.reduceSub, Nat.reduceMul, ↓reduceIte, Int.reduceToNat, Int.reduceLE, beq_self_eq_true]
    refine st_mat shapeT_27 rfl rfl rfl rfl rfl ?_
    simp only [XM, XA, XB, gateX, Nat.reduceAdd, Nat.reduceLeDiff, Nat.reduceSub, Nat.reduceMul, ↓reduceIte, Int.reduceToNat, Int.reduceLE, beq_self_eq_true]
    refine hK _ (XWP.ret ?_)
    try simp only [thenX_ret, inBlockX_ret]
    exact ret_mat2C rfl rfl rfl rfl ⟨fun _ => by rw [hgood], fun h => by rw [hgood] at h; exact absurd h (by decide)⟩
  have b6 : (!decide (r1 = r2)) = false := by rw [decide_eq_true er]; rfl
  rw [if_pos er] at hgood
  first | refine Gx.a (by kernel_rfl) fun K hK => ?_ | refine Gx.b (by kernel_rfl) fun K hK => ?_ | refine Gx.c (by kernel_rfl) fun K hK => ?_
  simp only [XM, XA, XB, gateX, Nat.reduceAdd, Nat.reduceLeDiff, Nat.reduceSub, Nat.reduceMul, ↓reduceIte, Int.reduceToNat, Int.reduceLE, beq_self_eq_true, b6]
  refine hK _ ?_
  first | refine Gx.f rfl ?_ | refine XWP.seq (Gx.f rfl ?_)
  refine XWP.skip ?_
  subst er
  obtain ⟨n, er, rfl, hn, ll1, ok1, _⟩ := stoB_parts e1
  subst er
  obtain ⟨n', er', rfl, _, ll2, ok2, _⟩ := stoB_parts e2
  have en : n' = n := by omega
  subst en
  have m1 := SqM.raw (h1.up hV2) ok1 ll1 hn (q1 ok1)
  have m2 := SqM.raw (h2.up hV2) ok2 ll2 hn (q2 ok2)
  have hw2 := hwc.mono hV2
  have qw1 : QB 98 (1 - W.q) := ((QB_one 0).sub (qw e3)).mono (by omega)
  first | refine Gx.a (by kernel_rfl) fun K hK => ?_ | refine Gx.b (by kernel_rfl) fun K hK => ?_ | refine Gx.c (by kernel_rfl) fun K hK => ?_
  simp only [XM, XA, XB, gateX, Nat.reduceAdd, Nat.reduceLeDiff, Nat.reduceSub, Nat.reduceMul, ↓reduceIte, Int.reduceToNat, Int.reduceLE, beq_self_eq_true]
  refine call_go (by kernel_rfl) rfl (cscale_c _ _ _ n' 96 96 _ W.q m1 hw2 (by omega) (qw e3) (by omega)) fun v3 V3 hV3 g3 => ?_
  obtain ⟨w3, rfl, g3⟩ := g3
  obtain ⟨A3, k3, rfl, _, _⟩ := g3.form
  simp only [XM, XA, XB, gateX, Nat.reduceAdd, Nat.reduceLeDiff, Nat.reduceSub, Nat.reduceMul, ↓reduceIte, Int.reduceToNat, Int.reduceLE, beq_self_eq_true]
  refine st_mat shapeT_27 rfl rfl rfl rfl rfl ?_
  simp only [XM, XA, XB, gateX, Nat.reduceAdd, Nat.reduceLeDiff, Nat.reduceSub, Nat.reduceMul, ↓reduceIte, Int.reduceToNat, Int.reduceLE, beq_self_eq_true]
  refine hK _ ?_
  rw [em] at *
  refine XWP.cut (fun s => ∃ (V6 : View) (w6 : Value), StIs (fun Z => [Z 0,Z 1,Z 2, .p 0 0, .p 1 0, .p 2 0, .p 3 0, Z 7, .p 4 0, Z 9, .p 5 0, Z 11,Z 12,Z 13,Z 14,Z 15,Z 16,Z 17,Z 18,Z 19,Z 20,Z 21,Z 22,Z 23,Z 24,Z 25,Z 26,Z 27,Z 28,Z 29,Z 30,Z 31,Z 32,Z 33,Z 34,Z 35,Z 36,Z 37,Z 38,Z 39,Z 40,Z 41,Z 42,Z 43,Z 44,Z 45,Z 46,Z 47,Z 48,Z 49,Z 50,Z 51,Z 52,Z 53,Z 54,Z 55,Z 56,Z 57,Z 58,Z 59,Z 60]) [[.int .i64 (n' : Int), .int .i64 (n' : Int), .slice A1 L1.length k1], [.int .i64 (n' : Int), .int .i64 (n' : Int), .slice A2 L2.length k2], [.bool (ng W.q), n0, d0], [.int .i64 0, .int .i64 0, .slice none 0 0], [.int .i64 (n' : Int), .int .i64 (n' : Int), .slice A3 (flatG (fun i k => gridL (qs L1) n' i k * W.q) n' n').length k3], [.int .i64 (n' : Int), .int .i64 (n' : Int), w6]] (fun _ => none) V6 s ∧ V3.le V6 ∧ Rats V6 w6 (flatG (fun i k => gridL (qs L2) n' i k * (1 - W.q)) n' n')) ?_ ?_
  · (first | refine XWP.drwT (.lin [0, 2] (.two (.lin [1] (.two (.lin [3] (.two (.lin [4, 5, 6, 7, 8, 9, 10] .nil) (.lin [8, 4, 5, 6, 7, 9, 10] .nil))) (.lin [8, 3, 4, 5, 6, 7, 9, 10] .nil))) (.lin [8, 1, 3, 4, 5, 6, 7, 9, 10] .nil))) (by kernel_rfl) (by kernel_rfl) (by kernel_rfl) fun K hK => ?_ | refine XWP.seq (XWP.drwT (.lin [0, 2] (.two (.lin [1] (.two (.lin [3] (.two (.lin [4, 5, 6, 7, 8, 9, 10] .nil) (.lin [8, 4, 5, 6, 7, 9, 10] .nil))) (.lin [8, 3, 4, 5, 6, 7, 9, 10] .nil))) (.lin [8, 1, 3, 4, 5, 6, 7, 9, 10] .nil))) (by kernel_rfl) (by kernel_rfl) (by kernel_rfl) fun K hK => ?_) | refine XWP.drwT1 (.lin [0, 2] (.two (.lin [1] (.two (.lin [3] (.two (.lin [4, 5, 6, 7, 8, 9, 10] .nil) (.lin [8, 4, 5, 6, 7, 9, 10] .nil))) (.lin [8, 3, 4, 5, 6, 7, 9, 10] .nil))) (.lin [8, 1, 3, 4, 5, 6, 7, 9, 10] .nil))) (by kernel_rfl) (by kernel_rfl) (by kernel_rfl) fun K hK => ?_)
    simp only [XM, XA, XB, gateX, Nat.reduceAdd, Nat.reduceLeDiff, Nat.reduceSub, Nat.reduceMul, ↓reduceIte, Int.reduceToNat, Int.reduceLE, beq_self_eq_true]
    repeat' first
      | refine And.intro ?_ ?_
      | refine call_go (by kernel_rfl) rfl (qone_c _) fun v4 V4 hV4 g4 => ?_
      | (refine call_go (by kernel_rfl) rfl (qsub_c _ _ _ _ _ g4 ((hw2.mono hV3).mono hV4) ((QB_one 0).qf (by omega)) ((qw e3).qf (by omega))) fun v5 V5 hV5 g5 => ?_)
      | (refine call_go (by kernel_rfl) rfl (cscale_c _ _ _ n' 96 98 _ (1 - W.q) (((m2.up hV3).up hV4).up hV5) g5 (by omega) qw1 (by omega)) fun v6 V6 hV6 g6 => ?_; obtain ⟨w6, rfl, g6⟩ := g6; obtain ⟨A6, k6, rfl, _, _⟩ := g6.form)
      | refine st_mat shapeT_27 rfl rfl rfl rfl rfl ?_
      | exact hK _ ⟨V6, _, StIs.of (by exact rfl), View.le_trans hV4 (View.le_trans hV5 hV6), g6⟩
      | simp only [XM, XA, XB, gateX, Nat.reduceAdd, Nat.reduceLeDiff, Nat.reduceSub, Nat.reduceMul, ↓reduceIte, Int.reduceToNat, Int.reduceLE, beq_self_eq_true]
  rintro s ⟨V6, w6, hs, hV6, g6⟩
  obtain ⟨z, rfl⟩ := hs.out
  try dsimp only
  clear hs
  have n1 : SqM V6 (.slice A3 (flatG (fun i k => gridL (qs L1) n' i k * W.q) n' n').length k3) n' 192 (fun i k => gridL (qs L1) n' i k * W.q) := ⟨g3.up hV6, hn, fun i k hi hk => ((m1.hq i k hi hk).mul (qw e3)).mono (by omega)⟩
  have n2 : SqM V6 w6 n' 194 (fun i k => gridL (qs L2) n' i k * (1 - W.q)) := ⟨g6, hn, fun i k hi hk => ((m2.hq i k hi hk).mul qw1).mono (by omega)⟩
  first | refine Gx.a (by kernel_rfl) fun K hK => ?_ | refine Gx.b (by kernel_rfl) fun K hK => ?_ | refine Gx.c (by kernel_rfl) fun K hK => ?_
  simp only [XM, XA, XB, gateX, Nat.reduceAdd, Nat.reduceLeDiff, Nat.reduceSub, Nat.reduceMul, ↓reduceIte, Int.reduceToNat, Int.reduceLE, beq_self_eq_true]
  refine call_go (by kernel_rfl) rfl (cmadd_c _ _ _ n' 192 194 _ _ n1 n2 (by omega) (by omega)) fun v7 V7 hV7 g7 => ?_
  obtain ⟨w7, rfl, g7⟩ := g7
  obtain ⟨A7, k7, rfl, _, _⟩ := g7.form
  simp only [XM, XA, XB, gateX, Nat.reduceAdd, Nat.reduceLeDiff, Nat.reduceSub, Nat.reduceMul, ↓reduceIte, Int.reduceToNat, Int.reduceLE, beq_self_eq_true]
  refine st_mat shapeT_27 rfl rfl rfl rfl rfl ?_
  simp only [XM, XA, XB, gateX, Nat.reduceAdd, Nat.reduceLeDiff, Nat.reduceSub, Nat.reduceMul, ↓reduceIte, Int.reduceToNat, Int.reduceLE, beq_self_eq_true]
  refine hK _ (XWP.ret ?_)
  try simp only [thenX_ret, inBlockX_ret]
  exact ret_mat2C rfl rfl rfl rfl ⟨fun h => absurd hgood h, fun _ => ⟨_, rfl, g7⟩⟩
end Go.Proofs.Ytobjjdnfgamgcaa
end
section
namespace Go.Proofs.Ytobjjdnfgamgcaa
open Go Go.RowKit
set_option linter.unusedSimpArgs false
set_option linter.unusedVariables false
attribute [local irreducible] XWP Spec SpecO XPub XCall seqX clX apX stX ldX iaX slX
/-- the fields of a number in a list -/
theorem Raws.fld {V : View} {b o n c : Nat} {l : List Raw} (h : Raws V (.slice (some ⟨b, o, none⟩) n c) l) (i : Nat) (hi : i < l.length) : ∃ n1 c1 A1 n2 c2 A2, (∀ H, Loads Try.prog H V 29 b (o + i * 3 + 1) (.slice A1 n1 c1)) ∧ (∀ H, Loads Try.prog H V 29 b (o + i * 3 + 2) (.slice A2 n2 c2)) ∧ n1 = l[i].nd.length ∧ n2 = l[i].dd.length ∧ n1 ≤ c1 ∧ n2 ≤ c2 ∧ c1 ≤ 9223372036854775807 ∧ c2 ≤ 9223372036854775807 := by
  obtain ⟨A', c', e, _, _, h3⟩ := h
  cases e
  rcases h3 with rfl | ⟨b', o', arr, ty, fr, e1, e2, h4⟩
  · simp at hi
  · cases e1
    obtain ⟨m, n, d, g1, g2, g3, o1, o2, o3, n', d', hE, k1, k2⟩ := h4 i l[i] (List.getElem?_eq_getElem hi)
    cases hE
    obtain ⟨A1, c1, rfl, q1, q2⟩ := k1.form
    obtain ⟨A2, c2, rfl, q3, q4⟩ := k2.form
    exact ⟨_, c1, A1, _, c2, A2, fun H => ⟨false, _, shapeT_29, .inr ⟨rfl, .inr ⟨arr, ty, fr, e2, g2⟩⟩⟩, fun H => ⟨false, _, shapeT_29, .inr ⟨rfl, .inr ⟨arr, ty, fr, e2, g3⟩⟩⟩, rfl, rfl, q1, q3, q2, q4⟩
end Go.Proofs.Ytobjjdnfgamgcaa
end
section
namespace Go.Proofs.Ytobjjdnfgamgcaa
open Go Go.RowKit
set_option linter.unusedSimpArgs false
set_option linter.unusedVariables false
attribute [local irreducible] XWP Spec SpecO XPub XCall seqX clX apX stX ldX iaX slX
theorem sgI_lt (q : Rat) : decide (sgI q < 0) = ng q := by
  unfold sgI
  split
  · rename_i h; subst h; rfl
  · cases h : ng q
    · rfl
    · rfl
theorem psum_c (V : View) (v : Value) (l : List Rat) (B : Nat) (h : Rats V v l) (hq : ∀ x ∈ l, QB B x) (ll : l.length ≤ 1000) (hB : 1001 * (B + 1) ≤ 17592186044416) : Spec Try.prog 75 [v] V fun v' V' => RatC V' v' (sumL l l.length) := by
  obtain ⟨A, c, rfl, hc, hm⟩ := h.form
  have hS : ∀ k, k ≤ l.length → QB (1000 * (B + 1)) (sumL l k) := fun k hk => (sumL_QB hq k hk).mono (Nat.mul_le_mul_right _ (by omega))
  have hf : 1000 * (B + 1) ≤ 17592186044416 := by omega
  refine (Spec.enter Try.func75 rfl fun Γ => ?_)
  simp only [Try.ntmps75, List.map_cons, List.map_nil, List.length_cons, List.length_nil, Nat.reduceAdd, Nat.reduceSub, List.replicate_succ, List.replicate_zero, List.cons_append, List.nil_append]
  refine Gx.a (by kernel_rfl) fun K hK => ?_
  simp only [XA, XB]
  refine hK _ ?_
  refine Gx.a (by kernel_rfl) fun K hK => ?_
  simp only [XA]
  refine call_go (by kernel_rfl) rfl (pzero_c _) fun v1 V1 hV1 h1 => ?_
  obtain ⟨x1, y1, rfl, o1, o2⟩ := h1.form
  simp only [XA, XB]
  refine st_rat rfl rfl rfl o1 o2 ?_
  simp only [XA]
  refine hK _ ?_
  refine XWP.cutD 2 (fun s => ∃ (V2 : View) (m : Bool) (x y : Value), StIs (fun Z => [Z 0,Z 1, .p 0 0, .p 1 0, Z 4,Z 5,Z 6,Z 7,Z 8,Z 9,Z 10,Z 11,Z 12,Z 13,Z 14,Z 15,Z 16,Z 17,Z 18]) [[.bool false, .slice none 0 0, .slice none 0 0], [.bool m, x, y]] (fun _ => none) V2 s ∧ RatC V2 (.agg #[.bool m, x, y]) (sumL l l.length) ∧ isOne x = true ∧ isOne y = true) ?_ ?_
  · refine Gx.a (by kernel_rfl) fun K hK => ?_
    simp only [XA]
    refine hK _ ?_
    clear hK
    refine XWP.block ?_
    refine XWP.loopD 2 (fun n s => ∃ (k : Nat) (V2 : View) (m : Bool) (x y : Value), StIs (fun Z => [.v (.slice A l.length c), Z 1, .p 0 0, .p 1 0, .v (.int .i64 (k : Int)), Z 5,Z 6,Z 7,Z 8,Z 9,Z 10,Z 11,Z 12,Z 13,Z 14,Z 15,Z 16,Z 17,Z 18]) [[.bool false, .slice none 0 0, .slice none 0 0], [.bool m, x, y]] (fun _ => none) V2 s ∧ n + k = l.length ∧ V.le V2 ∧ RatC V2 (.agg #[.bool m, x, y]) (sumL l k) ∧ isOne x = true ∧ isOne y = true) l.length ⟨0, V1, _, _, _, StIs.of (by exact rfl), by omega, hV1, h1, o1, o2⟩ ?_
    clear h1 o1 o2
    rintro n s ⟨k, V2, m, x, y, hs, hn, hV2, h2, o1, o2⟩
    obtain ⟨z, rfl⟩ := hs.out
    try dsimp only
    clear hs
    by_cases hk : k < l.length
    rotate_left
    · obtain rfl : k = l.length := by omega
      have b1 : decide ((l.length : Int) < (l.length : Int)) = false := decide_eq_false (by omega)
      refine XWP.seq ?_
      refine Gx.a (by kernel_rfl) fun K hK => ?_
      simp only [XA, XB, b1]
      refine hK _ ?_
      refine Gx.f rfl ?_
      refine XWP.exit ?_
      exact fun f => ⟨V2, m, x, y, StIs.of (by exact rfl), h2, o1, o2⟩
    have b1 : decide ((k : Int) < (l.length : Int)) = true := decide_eq_true (by omega)
    have hv2 := h.up hV2
    obtain ⟨b, o, rfl⟩ := SlAt.addr hv2 (by omega)
    obtain ⟨m3, n3, d3, hx, ⟨p1, p2, p3⟩, hld⟩ := Rats.get hv2 k hk
    refine XWP.seq ?_
    refine Gx.a (by kernel_rfl) fun K hK => ?_
    simp only [XA, XB, b1]
    refine hK _ ?_
    refine Gx.t rfl ?_
    refine XWP.skip ?_
    refine XWP.seq ?_
    refine XWP.block ?_
    (refine XWP.drw1 [0, 1, 2, 3, 4, 5, 6] (by kernel_rfl) (by kernel_rfl) (by kernel_rfl) fun K hK => ?_) <;> dsimp only [pickOps, List.getElem?_cons_zero, List.getElem?_cons_succ]
    simp only [XA, XB, Nat.reduceAdd, Nat.reduceLeDiff, ↓reduceIte]
    refine ⟨by omega, by omega, ld_mem (hld _) ?_⟩
    simp only [XA]
    have q1 := (hS k (by omega)).qf hf
    have q2 := (hq _ (cf_mem hk)).qf (by omega)
    refine call_go (by kernel_rfl) rfl (padd_c _ _ _ _ _ (h2.toV q1) (hx.toV q2) q1 q2) fun v3 V3 hV3 h3 => ?_
    obtain ⟨x3, y3, rfl, o3, o4⟩ := h3.form
    simp only [XA]
    refine st_rat rfl rfl rfl o3 o4 ?_
    simp only [XA]
    refine hK _ ?_
    refine Gx.c (by kernel_rfl) fun K hK => ?_
    simp only [XA, XB, i64_succ k (by omega)]
    exact hK _ ⟨n - 1, by omega, fun f => ⟨k + 1, V3, _, x3, y3, StIs.of (by exact rfl), by omega, View.le_trans hV2 hV3, h3, o3, o4⟩⟩
  rintro s ⟨V2, m, x, y, hs, h2, o1, o2⟩
  obtain ⟨z, rfl⟩ := hs.out
  try dsimp only
  refine Gx.a (by kernel_rfl) fun K hK => ?_
  simp only [XA, XB, Nat.reduceAdd, Nat.reduceLeDiff, ↓reduceIte]
  refine st_rat rfl rfl rfl o1 o2 ?_
  simp only [XA]
  refine hK _ (XWP.ret ?_)
  try simp only [thenX_ret, inBlockX_ret]
  exact ret_rat1 rfl rfl rfl h2
end Go.Proofs.Ytobjjdnfgamgcaa
end
section
namespace Go.Proofs.Ytobjjdnfgamgcaa
open Go Go.RowKit
set_option linter.unusedSimpArgs false
set_option linter.unusedVariables false
attribute [local irreducible] XWP Spec SpecO XPub XCall seqX clX apX stX ldX iaX slX
theorem ratsE_ok : ElOk Rats := fun _ _ _ _ hV h => Rats.up h hV
theorem own_off {H : Heap} {e sz n b : Nat} {v : Value} {xs : List Value} {r : Option Row} (h : Own H e sz v n xs) (hb : v.ownBlock ≠ some b) : Own (upd H b r) e sz v n xs := by
  refine ⟨h.1, ?_⟩
  rcases h.2 with h1 | ⟨g, cap, rfl, hg, h2⟩
  · exact .inl h1
  · exact .inr ⟨g, cap, rfl, (upd_off fun e => hb (by rw [← e]; rfl)).trans hg, h2⟩
/-- a list that is filled from the first on -/
def prt {α : Type} (n : Nat) (f : Nat → α) (k : Nat) : List (Option α) := (List.range n).map fun i => if i < k then some (f i) else none
theorem prt_len {α : Type} (n : Nat) (f : Nat → α) (k : Nat) : (prt n f k).length = n := by simp [prt]
theorem prt_get {α : Type} {n : Nat} {f : Nat → α} {k i : Nat} (hi : i < n) : (prt n f k)[i]? = some (if i < k then some (f i) else none) := by simp [prt, hi]
theorem prt_zero {α : Type} (n : Nat) (f : Nat → α) : prt n f 0 = List.replicate n none := by
  refine List.ext_getElem? fun i => ?_
  by_cases hi : i < n
  · rw [prt_get hi, if_neg (by omega), List.getElem?_replicate, if_pos hi]
  · rw [List.getElem?_eq_none (by rw [prt_len]; omega), List.getElem?_eq_none (by simp; omega)]
theorem prt_step {α : Type} (n : Nat) (f : Nat → α) {k : Nat} (hk : k < n) : (prt n f k).set k (some (f k)) = prt n f (k + 1) := by
  refine List.ext_getElem? fun i => ?_
  by_cases hi : i < n
  · by_cases e : k = i
    · subst e
      rw [List.getElem?_set_self (by rw [prt_len]; exact hi), prt_get hi, if_pos (by omega)]
    · rw [List.getElem?_set_ne e, prt_get hi, prt_get hi]
      by_cases h : i < k
      · rw [if_pos h, if_pos (by omega)]
      · rw [if_neg h, if_neg (by omega)]
  · rw [List.getElem?_eq_none (by rw [List.length_set, prt_len]; omega), List.getElem?_eq_none (by rw [prt_len]; omega)]
theorem R1At.prt_all {α : Type} {E : El α} {V : View} {cells : List Value} {n : Nat} {f : Nat → α} (h : R1At (optE E) V cells (prt n f n)) : R1At E V cells ((List.range n).map f) := by
  refine ⟨by rw [h.1, prt_len]; simp, fun i x hi => ?_⟩
  have hlt : i < n := by
    rcases Nat.lt_or_ge i n with g | g
    · exact g
    · rw [List.getElem?_eq_none (by simpa using g)] at hi; cases hi
  have hx : x = f i := by simpa [hlt] using hi.symm
  obtain ⟨u, a, b, c⟩ := h.2 i (some (f i)) (by rw [prt_get hlt, if_pos hlt])
  exact ⟨u, a, b, by rw [hx]; exact c⟩
/-- the rows of a matrix -/
def rowL (l : List Rat) (C i : Nat) : List Rat := (l.take ((i + 1) * C)).drop (i * C)
theorem drows_c (V : View) (s : Value) (R C : Nat) (l : List Rat) (h : Rats V s l) (ll : l.length = R * C) (hR : R ≤ 60) (hC : C ≤ 60) :
    Spec Try.prog 74 [.agg #[.int .i64 (R : Int), .int .i64 (C : Int), s]] V fun v' V' => Sl1 Rats V' v' ((List.range R).map (rowL l C)) := by
  obtain ⟨A, cp, rfl, hc, hm⟩ := h.form
  have hRC : R * C ≤ 3600 := Nat.le_trans (Nat.mul_le_mul hR hC) (by decide)
  refine (Spec.enter Try.func74 rfl fun Γ => ?_)
  simp only [Try.ntmps74, List.map_cons, List.map_nil, List.length_cons, List.length_nil, Nat.reduceAdd, Nat.reduceSub, List.replicate_succ, List.replicate_zero, List.cons_append, List.nil_append]
  refine Gx.a (by kernel_rfl) fun K hK => ?_
  simp only [XA]
  refine hK _ ?_
  refine Gx.a (by kernel_rfl) fun K hK => ?_
  simp only [XM, XA, XB]
  refine mk_go rfl rfl elemT_99 zeroT_25 (by omega) (by omega) (by omega) (by omega) rfl (by omega) fun go hgo1 hgo2 => ?_
  simp only [XA, flat_one]
  refine hK _ ?_
  clear hK
  refine XWP.cutD 1 (fun s => ∃ (V2 : View) (H2 : Heap) (co : List Value), StIs (fun Z => [Z 0,Z 1,Z 2, .v (.slice (some ⟨go, 0, none⟩) R R), Z 4,Z 5,Z 6,Z 7,Z 8,Z 9,Z 10,Z 11,Z 12,Z 13,Z 14,Z 15,Z 16,Z 17,Z 18,Z 19,Z 20,Z 21,Z 22,Z 23,Z 24,Z 25,Z 26,Z 27,Z 28,Z 29,Z 30,Z 31]) [[.int .i64 (R : Int), .int .i64 (C : Int), .slice A l.length cp]] H2 V2 s ∧ H2 go = some ⟨25, co, R⟩ ∧ R1At Rats V2 co ((List.range R).map (rowL l C))) ?_ ?_
  · refine Gx.a (by kernel_rfl) fun K hK => ?_
    simp only [XN, XA]
    refine hK _ ?_
    clear hK
    refine XWP.block ?_
    refine XWP.loopD 1 (fun q s => ∃ (i : Nat) (V2 : View) (H2 : Heap) (co : List Value), StIs (fun Z => [Z 0, .p 0 0, Z 2, .v (.slice (some ⟨go, 0, none⟩) R R), Z 4,Z 5,Z 6,Z 7,Z 8, .v (.int .i64 (R : Int)), .v (.int .i64 (i : Int)), Z 11,Z 12,Z 13,Z 14,Z 15,Z 16,Z 17,Z 18,Z 19,Z 20,Z 21,Z 22,Z 23,Z 24,Z 25,Z 26,Z 27,Z 28,Z 29,Z 30,Z 31]) [[.int .i64 (R : Int), .int .i64 (C : Int), .slice A l.length cp]] H2 V2 s ∧ q + i = R ∧ V.le V2 ∧ H2 go = some ⟨25, co, R⟩ ∧ R1At (optE Rats) V2 co (prt R (rowL l C) i)) R ⟨0, V, _, _, StIs.of (by exact rfl), by omega, View.le_refl _, upd_at _ _ _, by rw [prt_zero]; exact R1At.rep (u := .slice none 0 0) _ rfl trivial⟩ ?_
    clear hgo1 hgo2
    rintro q s ⟨i, V2, H2, co, hs, hq, hV2, hH, hrow⟩
    obtain ⟨z, rfl⟩ := hs.out
    try dsimp only
    clear hs
    by_cases hi : i < R
    rotate_left
    · obtain rfl : i = R := by omega
      have b1 : decide ((i : Int) < (i : Int)) = false := decide_eq_false (by omega)
      refine Gx.a (by kernel_rfl) fun K hK => ?_
      simp only [XA, XB, b1]
      refine hK _ ?_
      refine XWP.seq (Gx.f rfl ?_)
      refine XWP.exit ?_
      exact fun f => ⟨V2, H2, co, StIs.of (by exact rfl), hH, hrow.prt_all⟩
    have b1 : decide ((i : Int) < (R : Int)) = true := decide_eq_true (by omega)
    refine Gx.a (by kernel_rfl) fun K hK => ?_
    simp only [XA, XB, b1]
    refine hK _ ?_
    refine XWP.seq (Gx.t rfl ?_)
    refine XWP.skip ?_
    have w1 := wr_mul (i := i) (C := C) (by omega) (by omega)
    have w2 := wr_mul (i := i + 1) (C := C) (by omega) (by omega)
    have w3 := i64_succ i (by omega)
    have hle : i * C ≤ (i + 1) * C := Nat.mul_le_mul_right C (by omega)
    have hle2 : (i + 1) * C ≤ l.length := by rw [ll]; exact Nat.mul_le_mul_right C (by omega)
    have hsl : Rats V2 (sliceV A cp 3 (i * C) ((i + 1) * C)) (rowL l C i) := Rats.up (SlAt.drop (SlAt.take h hle2) (by rw [List.length_take, Nat.min_eq_left hle2]; exact hle)) hV2
    have hrl : (rowL l C i).length = C := row_len ll hi
    obtain ⟨cells, hcells, hsrc⟩ := SlAt.src hsl
    rw [hrl] at hsrc
    have hlr := hrow.1
    rw [prt_len] at hlr
    refine XWP.cutD 1 (fun s => ∃ (H3 : Heap) (v' : Value), StIs (fun Z => [Z 0, .p 0 0, Z 2, .v (.slice (some ⟨go, 0, none⟩) R R), Z 4,Z 5,Z 6,Z 7,Z 8, .v (.int .i64 (R : Int)), .v (.int .i64 (i : Int)), Z 11,Z 12,Z 13,Z 14,Z 15,Z 16,Z 17,Z 18,Z 19,Z 20,Z 21,Z 22,Z 23,Z 24,Z 25,Z 26,Z 27,Z 28,Z 29,Z 30,Z 31]) [[.int .i64 (R : Int), .int .i64 (C : Int), .slice A l.length cp]] H3 V2 s ∧ H3 go = some ⟨25, co.set i v', R⟩ ∧ Own H3 31 3 v' C cells ∧ v'.ownBlock ≠ some go) ?_ ?_
    · refine XWP.block ?_
      refine Gx.a (by kernel_rfl) fun K hK => ?_
      simp only [XA]
      refine hK _ ?_
      refine Gx.c (by kernel_rfl) fun K hK => ?_
      simp only [XA]
      refine bs_go (by kernel_rfl) #[] (by simp) (bs_zero elemT_25 zeroT_31) fun b hb1 hb2 => ?_
      simp only [XM, XA, XB, w1, w2, w3]
      refine ⟨by omega, by omega, by omega, ?_⟩
      have hne : go ≠ b := fun e => by rw [e] at hH; rw [show H2 b = none from hb1] at hH; cases hH
      have hgo3 : upd H2 b (some ⟨31, [], 0⟩) go = some ⟨25, co, R⟩ := (upd_off hne).trans hH
      refine ap_go elemT_25 (by kernel_rfl) zeroT_31 rfl (by omega) (own3 (n := 0) (cap := 0) (xs := []) (by simp only [upd_at]) rfl (Nat.le_refl _) (by omega)) (hsrc _) (by omega) (by omega) fun v' H' hres => ?_
      have hk2 := app_keep hres hgo3 (fun e => hne (by simpa [Value.ownBlock] using e.symm))
      have hon := hres.1
      rw [Nat.zero_add, List.nil_append] at hon
      obtain ⟨A', c', rfl⟩ := own_form hon
      simp only [XN, XA, XB]
      refine ⟨by omega, by omega, ?_⟩
      refine st_row shapeT_25 rfl rfl hk2.1 (by dsimp only; omega) ?_
      simp only [XA]
      exact hK _ fun f => ⟨_, .slice A' C c', StIs.of (by exact rfl), by simp only [upd_at], own_off hon hk2.2, hk2.2⟩
    rintro s ⟨H3, v', hs, hH3, hon, hne⟩
    obtain ⟨z, rfl⟩ := hs.out
    try dsimp only
    clear hs
    refine XWP.pubR ratE_ok hon hcells fun H4 V4 hV4 hs4 hk4 => ?_
    have hrow4 := (hrow.mono (optE_ok ratsE_ok) hV4).set i (by rw [prt_len]; exact hi) (x := some (rowL l C i)) (SlAt.one hs4) hs4
    rw [prt_step R (rowL l C) hi] at hrow4
    refine Gx.c (by kernel_rfl) fun K hK => ?_
    simp only [XA, XB, i64_succ i (by omega)]
    exact hK _ ⟨q - 1, by omega, fun f => ⟨i + 1, V4, H4, _, StIs.of (by exact rfl), by omega, View.le_trans hV2 hV4, (hk4 go hne).trans hH3, hrow4⟩⟩
  rintro s ⟨V2, H2, co, hs', hH, hrow⟩
  obtain ⟨z, rfl⟩ := hs'.out
  try dsimp only
  refine Gx.a (by kernel_rfl) fun K hK => ?_
  simp only [XA]
  refine hK _ (XWP.ret ?_)
  try simp only [thenX_ret, inBlockX_ret]
  refine ret_pub go _ hH fun o ho hle' => ret_go _ rfl ?_
  exact hrow.pub ratsE_ok ho hle' (by simp) (Nat.le_refl _) (by omega)
end Go.Proofs.Ytobjjdnfgamgcaa
end
section
namespace Go.Proofs.Ytobjjdnfgamgcaa
open Go Go.RowKit
set_option linter.unusedSimpArgs false
set_option linter.unusedVariables false
attribute [local irreducible] XWP Spec SpecO XPub XCall seqX clX apX stX ldX iaX slX
end Go.Proofs.Ytobjjdnfgamgcaa
end
section
namespace Go.Proofs.Ytobjjdnfgamgcaa
open Go Go.RowKit
set_option linter.unusedSimpArgs false
set_option linter.unusedVariables false
attribute [local irreducible] XWP Spec SpecO XPub XCall seqX clX apX stX ldX iaX slX
end Go.Proofs.Ytobjjdnfgamgcaa
end
section
namespace Go.Proofs.Ytobjjdnfgamgcaa
open Go Go.RowKit
set_option linter.unusedSimpArgs false
set_option linter.unusedVariables false
attribute [local irreducible] XWP Spec SpecO XPub XCall seqX clX apX stX ldX iaX slX
end Go.Proofs.Ytobjjdnfgamgcaa
end
section
namespace Go.Proofs.Ytobjjdnfgamgcaa
open Go Go.RowKit
set_option linter.unusedSimpArgs false
set_option linter.unusedVariables false
attribute [local irreducible] XWP Spec SpecO XPub XCall seqX clX apX stX ldX iaX slX
end Go.Proofs.Ytobjjdnfgamgcaa
end
section
namespace Go.Proofs.Ytobjjdnfgamgcaa
open Go Go.RowKit
set_option linter.unusedSimpArgs false
set_option linter.unusedVariables false
attribute [local irreducible] XWP Spec SpecO XPub XCall seqX clX apX stX ldX iaX slX
end Go.Proofs.Ytobjjdnfgamgcaa
end
section
namespace Go.Proofs.Ytobjjdnfgamgcaa
open Go Go.RowKit
set_option linter.unusedSimpArgs false
set_option linter.unusedVariables false
attribute [local irreducible] XWP Spec SpecO XPub XCall seqX clX apX stX ldX iaX slX
theorem idx_lt {i r k c : Nat} (hi : i < r) (hk : k < c) : i * c + k < r * c := by
  have := Nat.mul_le_mul_right c (show i + 1 ≤ r by omega)
  rw [Nat.add_mul, Nat.one_mul] at this
  omega
end Go.Proofs.Ytobjjdnfgamgcaa
end
section
namespace Go.Proofs.Ytobjjdnfgamgcaa
open Go Go.RowKit
set_option linter.unusedSimpArgs false
set_option linter.unusedVariables false
attribute [local irreducible] XWP Spec SpecO XPub XCall seqX clX apX stX ldX iaX slX
theorem sgI_neg (q : Rat) : decide (sgI q < 0) = ng q := by
  unfold sgI
  by_cases h : q = 0
  · rw [if_pos h, h]; rfl
  · rw [if_neg h]
    cases hn : ng q
    · rw [if_neg (by simp)]; rfl
    · rw [if_pos rfl]; rfl
end Go.Proofs.Ytobjjdnfgamgcaa
end
section
namespace Go.Proofs.Ytobjjdnfgamgcaa
open Go Go.RowKit
set_option linter.unusedSimpArgs false
set_option linter.unusedVariables false
attribute [local irreducible] XWP Spec SpecO XPub XCall seqX clX apX stX ldX iaX slX
theorem stoB_bad {n : Nat} {L : List Raw} {i : Nat} (hi : i < n) (h : rowOk (qs L) n i = false) : stoB (n : Int) (n : Int) L = false := by
  unfold stoB
  have : (List.range (n : Int).toNat).all (rowOk (qs L) (n : Int).toNat) = false := by
    rw [Int.toNat_natCast, List.all_eq_false]
    exact ⟨i, List.mem_range.2 hi, by rw [h]; simp⟩
  rw [this, Bool.and_false]
set_option maxHeartbeats 4000000 in
theorem dsto_c (V : View) (s : Value) (r c : Int) (L : List Raw) (B : Nat) (h : Raws V s L) (f : fitR L) (ll : L.length ≤ 100000) (hq : ∀ x ∈ qs L, QB B x) (hB : 1001 * (B + 1) ≤ 17592186044416) :
    Spec Try.prog 34 [.agg #[.int .i64 r, .int .i64 c, s]] V fun v' V' => v' = .bool (stoB r c L) := by
  obtain ⟨A, cp, rfl, hc, hm⟩ := h.form
  refine (Spec.enter Try.func34 rfl fun Γ => ?_)
  simp only [Try.ntmps34, List.map_cons, List.map_nil, List.length_cons, List.length_nil, Nat.reduceAdd, Nat.reduceSub, List.replicate_succ, List.replicate_zero, List.cons_append, List.nil_append]
  refine Gx.a (by kernel_rfl) fun K hK => ?_
  simp only [XA]
  refine hK _ ?_
  refine XWP.seq ?_
  refine Gx.a (by kernel_rfl) fun K hK => ?_
  simp only [XM, XA, Nat.reduceAdd, Nat.reduceLeDiff, ↓reduceIte]
  refine call_go (by kernel_rfl) rfl (dmright_c _ _ _ _ L h f (by omega)) fun v1 V1 hV1 h1 => ?_
  subst h1
  cases e1 : matR r c L
  · simp only [XA, gateX, ↓reduceIte]
    refine hK _ ?_
    refine Gx.t rfl ?_
    refine Gx.a (by kernel_rfl) fun K hK => ?_
    simp only [XA]
    refine hK _ (XWP.ret ?_)
    try simp only [thenX_ret, inBlockX_ret]
    refine ret_go _ rfl ?_
    unfold stoB
    rw [e1]; rfl
  by_cases e2 : r = c
  rotate_left
  · have b1 : decide (r = c) = false := decide_eq_false e2
    simp only [XM, XA, XB, gateX, ↓reduceIte, beq_self_eq_true, b1]
    refine hK _ ?_
    refine Gx.t rfl ?_
    refine Gx.a (by kernel_rfl) fun K hK => ?_
    simp only [XA]
    refine hK _ (XWP.ret ?_)
    try simp only [thenX_ret, inBlockX_ret]
    refine ret_go _ rfl ?_
    unfold stoB
    rw [e1, b1]; rfl
  subst e2
  have hmat := e1
  unfold matR at e1
  rw [Bool.and_eq_true, decide_eq_true_eq] at e1
  obtain ⟨⟨k1, k2, _, _, k5⟩, ok⟩ := e1
  obtain ⟨n, rfl⟩ : ∃ n : Nat, r = n := ⟨r.toNat, by omega⟩
  have kl : L.length = n * n := by rw [← Int.natCast_mul] at k5; omega
  have hn : n ≤ 60 := by omega
  have hr := (Raws.rats h ok).up hV1
  have hlen := qs_len L
  have lln : (qs L).length = n * n := by omega
  simp only [XM, XA, XB, gateX, ↓reduceIte, beq_self_eq_true, decide_true]
  refine hK _ ?_
  refine Gx.f rfl ?_
  refine XWP.skip ?_
  refine XWP.cutD 1 (fun s => StIs (fun Z => [Z 0,Z 1,Z 2,Z 3,Z 4,Z 5,Z 6,Z 7,Z 8,Z 9,Z 10,Z 11,Z 12,Z 13,Z 14,Z 15,Z 16,Z 17,Z 18,Z 19,Z 20,Z 21,Z 22,Z 23,Z 24,Z 25,Z 26,Z 27,Z 28,Z 29,Z 30,Z 31,Z 32,Z 33,Z 34,Z 35,Z 36,Z 37,Z 38,Z 39]) [[.int .i64 (n : Int), .int .i64 (n : Int), .slice A L.length cp]] (fun _ => none) s.V s ∧ stoB (n : Int) (n : Int) L = true) ?_ ?_
  · refine Gx.a (by kernel_rfl) fun K hK => ?_
    simp only [XM, XA, Nat.reduceAdd, Nat.reduceLeDiff, ↓reduceIte]
    refine call_go (by kernel_rfl) rfl (drows_c _ _ n n (qs L) hr lln hn hn) fun v2 V2 hV2 h2 => ?_
    obtain ⟨A2, c2, rfl, hc2, hm2⟩ := h2.form
    have el : ((List.range n).map (rowL (qs L) n)).length = n := by simp
    rw [el] at h2 hc2 ⊢
    simp only [XN, XA]
    refine hK _ ?_
    clear hK
    refine XWP.block ?_
    refine XWP.loopD 1 (fun q s => ∃ (i : Nat) (V3 : View), StIs (fun Z => [Z 0, .p 0 0, Z 2,Z 3,Z 4,Z 5,Z 6,Z 7,Z 8,Z 9,Z 10,Z 11,Z 12,Z 13,Z 14,Z 15,Z 16,Z 17, .v (.slice A2 n c2), .v (.int .i64 (n : Int)), .v (.int .i64 (i : Int)), Z 21,Z 22,Z 23,Z 24,Z 25,Z 26,Z 27,Z 28,Z 29,Z 30,Z 31,Z 32,Z 33,Z 34,Z 35,Z 36,Z 37,Z 38,Z 39]) [[.int .i64 (n : Int), .int .i64 (n : Int), .slice A L.length cp]] (fun _ => none) V3 s ∧ q + i = n ∧ V2.le V3 ∧ (List.range i).all (rowOk (qs L) n) = true) n ⟨0, V2, StIs.of (by exact rfl), by omega, View.le_refl _, rfl⟩ ?_
    rintro q s ⟨i, V3, hs, hqi, hV3, hall⟩
    obtain ⟨z, rfl⟩ := hs.out
    try dsimp only
    clear hs
    by_cases hi : i < n
    rotate_left
    · obtain rfl : i = n := by omega
      have b1 : decide ((i : Int) < (i : Int)) = false := decide_eq_false (by omega)
      refine Gx.a (by kernel_rfl) fun K hK => ?_
      simp only [XA, XB, b1]
      refine hK _ ?_
      refine XWP.seq (Gx.f rfl ?_)
      refine XWP.exit ?_
      refine fun f => ⟨StIs.of (by exact rfl), ?_⟩
      unfold stoB
      rw [hmat, decide_eq_true rfl, Int.toNat_natCast, hall]; rfl
    have b1 : decide ((i : Int) < (n : Int)) = true := decide_eq_true (by omega)
    refine Gx.a (by kernel_rfl) fun K hK => ?_
    simp only [XA, XB, b1]
    refine hK _ ?_
    refine XWP.seq (Gx.t rfl ?_)
    refine XWP.skip ?_
    obtain ⟨bw, ow, rfl⟩ := h2.addr (by simp; omega)
    obtain ⟨u, g1, _, g2⟩ := Sl1.load (n := n) (h2.mono ratsE_ok hV3) i (by simp; omega)
    have eg : ((List.range n).map (rowL (qs L) n))[i]'(by simp; omega) = rowL (qs L) n i := by simp
    rw [eg] at g1
    have g3 := fun H => g2 H _ _ shapeT_25
    clear g2
    have hrl : (rowL (qs L) n i).length = n := row_len lln hi
    obtain ⟨A3, c3, rfl, hc3, hm3⟩ := SlAt.form g1
    rw [hrl] at g1 hc3 g3
    have hcf : ∀ k, k < n → cf (rowL (qs L) n i) k = cf (qs L) (i * n + k) := fun k hk => cf_row lln hi hk
    have hQr : ∀ x ∈ rowL (qs L) n i, QB B x := fun x hx => hq x (List.mem_of_mem_take (List.mem_of_mem_drop hx))
    generalize rowL (qs L) n i = R at *
    have g1 : Rats V3 (.slice A3 n c3) R := g1
    refine XWP.cutD 1 (fun s => ∃ (V4 : View), StIs (fun Z => [Z 0, .p 0 0, Z 2,Z 3,Z 4,Z 5,Z 6,Z 7,Z 8,Z 9,Z 10,Z 11,Z 12,Z 13,Z 14,Z 15,Z 16,Z 17, .v (.slice (some ⟨bw, ow, none⟩) n c2), .v (.int .i64 (n : Int)), .v (.int .i64 (i : Int)), Z 21,Z 22,Z 23,Z 24,Z 25,Z 26,Z 27,Z 28,Z 29,Z 30,Z 31,Z 32,Z 33,Z 34,Z 35,Z 36,Z 37,Z 38,Z 39]) [[.int .i64 (n : Int), .int .i64 (n : Int), .slice A L.length cp]] (fun _ => none) V4 s ∧ V3.le V4 ∧ rowOk (qs L) n i = true) ?_ ?_
    · refine XWP.block ?_
      refine Gx.a (by kernel_rfl) fun K hK => ?_
      simp only [XN, XA, XB]
      refine ⟨by omega, by omega, ?_⟩
      refine ld_mem (by simpa using g3 _) ?_
      simp only [XA]
      refine hK _ ?_
      refine XWP.cutD 1 (fun s => ∃ (V4 : View), StIs (fun Z => [Z 0, .p 0 0, Z 2,Z 3, .v (.slice A3 n c3), Z 5,Z 6,Z 7,Z 8,Z 9,Z 10,Z 11,Z 12,Z 13,Z 14,Z 15,Z 16,Z 17, .v (.slice (some ⟨bw, ow, none⟩) n c2), .v (.int .i64 (n : Int)), .v (.int .i64 (i : Int)), Z 21,Z 22,Z 23,Z 24,Z 25,Z 26,Z 27,Z 28,Z 29,Z 30,Z 31,Z 32,Z 33,Z 34,Z 35,Z 36,Z 37,Z 38,Z 39]) [[.int .i64 (n : Int), .int .i64 (n : Int), .slice A L.length cp]] (fun _ => none) V4 s ∧ V3.le V4 ∧ (List.range n).all (fun k => !ng (cf (qs L) (i * n + k))) = true) ?_ ?_
      · refine Gx.a (by kernel_rfl) fun K hK => ?_
        simp only [XA, XB]
        refine hK _ ?_
        clear hK
        refine XWP.block ?_
        refine XWP.loopD 1 (fun p s => ∃ (k : Nat) (V4 : View), StIs (fun Z => [Z 0, .p 0 0, Z 2,Z 3, .v (.slice A3 n c3), Z 5,Z 6,Z 7,Z 8,Z 9,Z 10,Z 11,Z 12,Z 13,Z 14,Z 15,Z 16,Z 17, .v (.slice (some ⟨bw, ow, none⟩) n c2), .v (.int .i64 (n : Int)), .v (.int .i64 (i : Int)), Z 21,Z 22,Z 23, .v (.slice A3 n c3), .v (.int .i64 (n : Int)), .v (.int .i64 (k : Int)), Z 27,Z 28,Z 29,Z 30,Z 31,Z 32,Z 33,Z 34,Z 35,Z 36,Z 37,Z 38,Z 39]) [[.int .i64 (n : Int), .int .i64 (n : Int), .slice A L.length cp]] (fun _ => none) V4 s ∧ p + k = n ∧ V3.le V4 ∧ (List.range k).all (fun k => !ng (cf (qs L) (i * n + k))) = true) n ⟨0, V3, StIs.of (by exact rfl), by omega, View.le_refl _, rfl⟩ ?_
        rintro p s ⟨k, V4, hs, hp, hV4, hk⟩
        obtain ⟨z, rfl⟩ := hs.out
        try dsimp only
        clear hs
        by_cases hkn : k < n
        rotate_left
        · obtain rfl : k = n := by omega
          have b3 : decide ((k : Int) < (k : Int)) = false := decide_eq_false (by omega)
          refine Gx.a (by kernel_rfl) fun K hK => ?_
          simp only [XA, XB, b3]
          refine hK _ ?_
          refine XWP.seq (Gx.f rfl ?_)
          refine XWP.exit ?_
          exact fun f => ⟨V4, StIs.of (by exact rfl), hV4, hk⟩
        have b3 : decide ((k : Int) < (n : Int)) = true := decide_eq_true (by omega)
        refine Gx.a (by kernel_rfl) fun K hK => ?_
        simp only [XA, XB, b3]
        refine hK _ ?_
        refine XWP.seq (Gx.t rfl ?_)
        refine XWP.skip ?_
        have hrow3 := g1.up hV4
        obtain ⟨bb, oo, rfl⟩ := SlAt.addr hrow3 (by omega)
        obtain ⟨m3, n3, d3, hx, ⟨p1, p2, p3⟩, hld⟩ := Rats.get hrow3 k (by omega)
        have qx : QF (cf (qs L) (i * n + k)) := by rw [← hcf k hkn]; exact (hQr _ (cf_mem (by omega))).qf (by omega)
        rw [hcf k hkn] at hx
        refine XWP.seq ?_
        refine XWP.block ?_
        refine Gx.a (by kernel_rfl) fun K hK => ?_
        simp only [XA, XB]
        refine ⟨by omega, by omega, ld_mem (hld _) ?_⟩
        simp only [XA, XB]
        refine st_rat rfl rfl p1 p2 p3 ?_
        simp only [XA]
        refine hK _ ?_
        have en := sgI_lt (cf (qs L) (i * n + k))
        refine Gx.a (by kernel_rfl) fun K hK => ?_
        simp only [XA, XB, Nat.reduceAdd, Nat.reduceLeDiff, ↓reduceIte]
        refine call_go (by kernel_rfl) rfl (psign_c _ _ _ (hx.toV qx)) fun v5 V5 hV5 h5 => ?_
        subst h5
        cases hng : ng (cf (qs L) (i * n + k))
        · rw [hng] at en
          simp only [XA, XB, en]
          refine hK _ ?_
          refine Gx.f rfl ?_
          refine XWP.skip ?_
          refine Gx.c (by kernel_rfl) fun K hK => ?_
          simp only [XA, XB, i64_succ k (by omega)]
          exact hK _ ⟨p - 1, by omega, fun f => ⟨k + 1, V5, StIs.of (by exact rfl), by omega, View.le_trans hV4 hV5, by rw [List.range_succ, List.all_append, hk]; simp [hng]⟩⟩
        · rw [hng] at en
          simp only [XA, XB, en]
          refine hK _ ?_
          refine Gx.t rfl ?_
          refine Gx.a (by kernel_rfl) fun K hK => ?_
          simp only [XA]
          refine hK _ (XWP.ret ?_)
          try simp only [thenX_ret, inBlockX_ret]
          refine ret_go _ rfl ?_
          have : rowOk (qs L) n i = false := by
            unfold rowOk
            have : ((List.range n).all fun k => !ng (cf (qs L) (i * n + k))) = false := by
              rw [List.all_eq_false]
              exact ⟨k, List.mem_range.2 hkn, by rw [hng]; simp⟩
            rw [this]; rfl
          rw [stoB_bad hi this]; rfl
      rintro s ⟨V4, hs, hV4, hall2⟩
      obtain ⟨z, rfl⟩ := hs.out
      try dsimp only
      clear hs
      have hrow4 := g1.up hV4
      refine Gx.a (by kernel_rfl) fun K hK => ?_
      simp only [XA]
      refine call_go (by kernel_rfl) rfl (psum_c _ _ _ B hrow4 hQr (by omega) hB) fun v5 V5 hV5 h5 => ?_
      rw [hrl] at h5
      have esum : sumL R n = Sm (fun k => cf (qs L) (i * n + k)) n := Sm_congr n fun k hk => hcf k hk
      have qsum : QF (sumL R n) := (sumL_QB hQr n (by omega)).qf (Nat.le_trans (Nat.mul_le_mul_right _ (show n ≤ 1001 by omega)) hB)
      simp only [XA]
      refine call_go (by kernel_rfl) rfl (pone_c _) fun v6 V6 hV6 h6 => ?_
      simp only [XA]
      refine call_go (by kernel_rfl) rfl (psame_c _ _ _ _ _ ((h5.mono hV6).toV qsum) (h6.toV QF_one) qsum QF_one) fun v7 V7 hV7 h7 => ?_
      subst h7
      rw [esum]
      have hle7 := View.le_trans hV4 (View.le_trans hV5 (View.le_trans hV6 hV7))
      by_cases hs1 : Sm (fun k => cf (qs L) (i * n + k)) n = 1
      · have b3 : decide (Sm (fun k => cf (qs L) (i * n + k)) n = 1) = true := decide_eq_true hs1
        simp only [XA, b3]
        refine hK _ ?_
        refine Gx.f rfl ?_
        refine XWP.skip ?_
        exact fun f => ⟨V7, StIs.of (by exact rfl), hle7, by unfold rowOk; rw [hall2, b3]; rfl⟩
      · have b3 : decide (Sm (fun k => cf (qs L) (i * n + k)) n = 1) = false := decide_eq_false hs1
        simp only [XA, b3]
        refine hK _ ?_
        refine Gx.t rfl ?_
        refine Gx.a (by kernel_rfl) fun K hK => ?_
        simp only [XA]
        refine hK _ (XWP.ret ?_)
        try simp only [thenX_ret, inBlockX_ret]
        refine ret_go _ rfl ?_
        have : rowOk (qs L) n i = false := by unfold rowOk; rw [b3, Bool.and_false]
        rw [stoB_bad hi this]; rfl
    rintro s ⟨V4, hs, hV4, hro⟩
    obtain ⟨z, rfl⟩ := hs.out
    try dsimp only
    refine Gx.c (by kernel_rfl) fun K hK => ?_
    simp only [XA, XB, i64_succ i (by omega)]
    exact hK _ ⟨q - 1, by omega, fun f => ⟨i + 1, V4, StIs.of (by exact rfl), by omega, View.le_trans hV3 hV4, by rw [List.range_succ, List.all_append, hall]; simp [hro]⟩⟩
  rintro s ⟨hs, e⟩
  obtain ⟨t, bx, H, V2⟩ := s
  obtain ⟨z, e3⟩ := hs.out
  cases e3
  try dsimp only
  refine Gx.a (by kernel_rfl) fun K hK => ?_
  simp only [XA]
  refine hK _ (XWP.ret ?_)
  try simp only [thenX_ret, inBlockX_ret]
  refine ret_go _ rfl ?_
  rw [e]; rfl
end Go.Proofs.Ytobjjdnfgamgcaa
end
section
namespace Go.Proofs.Ytobjjdnfgamgcaa
open Go Go.RowKit
set_option linter.unusedSimpArgs false
set_option linter.unusedVariables false
attribute [local irreducible] XWP Spec SpecO XPub XCall seqX clX apX stX ldX iaX slX
theorem dMsame_c (V : View) (s1 s2 : Value) (r1 c1 r2 c2 : Int) (l m : List Rat) (hv : Rats V s1 l) (hu : Rats V s2 m) (hl : ∀ x ∈ l, QF x) (hm : ∀ x ∈ m, QF x) : Spec Try.prog 12 [.agg #[.int .i64 r1, .int .i64 c1, s1], .agg #[.int .i64 r2, .int .i64 c2, s2]] V fun v' V' => v' = .bool (decide (r1 = r2) && decide (c1 = c2) && decide (l = m)) := by
  obtain ⟨A1, q1, rfl, hc1, hm1⟩ := hv.form
  obtain ⟨A2, q2, rfl, hc2, hm2⟩ := hu.form
  refine (Spec.enter Try.func12 rfl fun Γ => ?_)
  simp only [Try.ntmps12, List.map_cons, List.map_nil, List.length_cons, List.length_nil, Nat.reduceAdd, Nat.reduceSub, List.replicate_succ, List.replicate_zero, List.cons_append, List.nil_append]
  refine Gx.a (by kernel_rfl) fun K hK => ?_
  simp only [XA]
  refine hK _ ?_
  refine XWP.seq ?_
  cases b1 : decide (r1 = r2)
  · refine Gx.a (by kernel_rfl) fun K hK => ?_
    simp only [XM, XA, XB, gateX, ↓reduceIte, b1]
    refine hK _ ?_
    refine Gx.t rfl ?_
    refine Gx.a (by kernel_rfl) fun K hK => ?_
    simp only [XA]
    refine hK _ (XWP.ret ?_)
    try simp only [thenX_ret, inBlockX_ret]
    refine ret_go _ rfl ?_
    rfl
  cases b2 : decide (c1 = c2)
  · refine Gx.a (by kernel_rfl) fun K hK => ?_
    simp only [XM, XA, XB, gateX, ↓reduceIte, beq_self_eq_true, b1, b2]
    refine hK _ ?_
    refine Gx.t rfl ?_
    refine Gx.a (by kernel_rfl) fun K hK => ?_
    simp only [XA]
    refine hK _ (XWP.ret ?_)
    try simp only [thenX_ret, inBlockX_ret]
    refine ret_go _ rfl ?_
    rfl
  by_cases hlen : l.length = m.length
  rotate_left
  · have b3 : decide ((l.length : Int) = (m.length : Int)) = false := decide_eq_false (by omega)
    refine Gx.a (by kernel_rfl) fun K hK => ?_
    simp only [XM, XA, XB, gateX, ↓reduceIte, beq_self_eq_true, b1, b2, b3]
    refine hK _ ?_
    refine Gx.t rfl ?_
    refine Gx.a (by kernel_rfl) fun K hK => ?_
    simp only [XA]
    refine hK _ (XWP.ret ?_)
    try simp only [thenX_ret, inBlockX_ret]
    refine ret_go _ rfl ?_
    rw [decide_eq_false (fun e => hlen (by rw [e]))]; rfl
  have b3 : decide ((l.length : Int) = (m.length : Int)) = true := decide_eq_true (by omega)
  refine Gx.a (by kernel_rfl) fun K hK => ?_
  simp only [XM, XA, XB, gateX, ↓reduceIte, beq_self_eq_true, b1, b2, b3]
  refine hK _ ?_
  refine Gx.f rfl ?_
  refine XWP.skip ?_
  refine XWP.cutD 2 (fun s => ∃ V2, StIs (fun Z => [Z 0,Z 1,Z 2,Z 3,Z 4,Z 5,Z 6,Z 7,Z 8,Z 9,Z 10,Z 11,Z 12,Z 13,Z 14,Z 15,Z 16,Z 17,Z 18,Z 19,Z 20,Z 21,Z 22,Z 23,Z 24,Z 25,Z 26,Z 27,Z 28,Z 29,Z 30,Z 31,Z 32,Z 33,Z 34,Z 35,Z 36,Z 37,Z 38,Z 39,Z 40,Z 41,Z 42,Z 43,Z 44,Z 45]) [[.int .i64 r1, .int .i64 c1, .slice A1 l.length q1], [.int .i64 r2, .int .i64 c2, .slice A2 m.length q2]] (fun _ => none) V2 s ∧ l = m) ?_ ?_
  · refine Gx.a (by kernel_rfl) fun K hK => ?_
    simp only [XM, XA, XB]
    refine hK _ ?_
    clear hK
    refine XWP.block ?_
    refine XWP.loopD 2 (fun n s => ∃ (k : Nat) (V2 : View), StIs (fun Z => [Z 0,Z 1, .p 0 0, .p 1 0, Z 4,Z 5,Z 6,Z 7,Z 8,Z 9,Z 10,Z 11,Z 12,Z 13,Z 14,Z 15,Z 16,Z 17,Z 18,Z 19,Z 20,Z 21,Z 22,Z 23,Z 24,Z 25,Z 26,Z 27,Z 28, .v (.int .i64 (l.length : Int)), .v (.int .i64 (k : Int)), Z 31,Z 32,Z 33,Z 34,Z 35,Z 36,Z 37,Z 38,Z 39,Z 40,Z 41,Z 42,Z 43,Z 44,Z 45]) [[.int .i64 r1, .int .i64 c1, .slice A1 l.length q1], [.int .i64 r2, .int .i64 c2, .slice A2 m.length q2]] (fun _ => none) V2 s ∧ V.le V2 ∧ n + k = l.length ∧ ∀ i, i < k → cf l i = cf m i) l.length ⟨0, V, StIs.of (by exact rfl), View.le_refl _, by omega, fun i hi => by omega⟩ ?_
    rintro n s ⟨k, V2, hs, hV2, hn, hk⟩
    obtain ⟨z, rfl⟩ := hs.out
    try dsimp only
    clear hs
    by_cases hlt : k < l.length
    rotate_left
    · have b4 : decide ((k : Int) < (l.length : Int)) = false := decide_eq_false (by omega)
      refine Gx.a (by kernel_rfl) fun K hK => ?_
      simp only [XA, XB, b4]
      refine hK _ ?_
      refine XWP.seq (Gx.f rfl ?_)
      refine XWP.exit ?_
      refine fun f => ⟨V2, StIs.of (by exact rfl), List.ext_getElem hlen fun i h1 h2 => ?_⟩
      rw [cf_get h1, cf_get h2]; exact hk i (by omega)
    have b4 : decide ((k : Int) < (l.length : Int)) = true := decide_eq_true (by omega)
    refine Gx.a (by kernel_rfl) fun K hK => ?_
    simp only [XA, XB, b4]
    refine hK _ ?_
    refine XWP.seq (Gx.t rfl ?_)
    refine XWP.skip ?_
    have hv2 := Rats.up hv hV2
    have hu2 := Rats.up hu hV2
    obtain ⟨b, o, rfl⟩ := SlAt.addr hv2 (by omega)
    obtain ⟨b', o', rfl⟩ := SlAt.addr hu2 (by omega)
    obtain ⟨m3, n3, d3, hx3, ⟨p1, p2, p3⟩, hld3⟩ := Rats.get hv2 k (by omega)
    obtain ⟨m4, n4, d4, hx4, ⟨r1, r2, r3⟩, hld4⟩ := Rats.get hu2 k (by omega)
    refine XWP.seq ?_
    refine XWP.block ?_
    refine Gx.a (by kernel_rfl) fun K hK => ?_
    simp only [XA]
    refine hK _ ?_
    (refine XWP.drw [0, 1, 2, 3, 4, 5, 6, 7, 8, 9, 10, 11] (by kernel_rfl) (by kernel_rfl) (by kernel_rfl) fun K hK => ?_) <;> dsimp only [pickOps, List.getElem?_cons_zero, List.getElem?_cons_succ]
    simp only [XM, XA, XB]
    refine ⟨by omega, by omega, ld_mem (hld3 _) ?_⟩
    simp only [XM, XA, XB]
    refine ⟨by omega, by omega, ld_mem (hld4 _) ?_⟩
    simp only [XA]
    have f3 := hl _ (cf_mem hlt)
    have f4 := hm _ (cf_mem (show k < m.length by omega))
    refine call_go (by kernel_rfl) rfl (psame_c _ _ _ _ _ (hx3.toV f3) (hx4.toV f4) f3 f4) fun v5 V5 hV5 h5 => ?_
    subst h5
    by_cases he : cf l k = cf m k
    · have b5 : decide (cf l k = cf m k) = true := decide_eq_true he
      simp only [XA, b5]
      refine hK _ ?_
      refine Gx.f rfl ?_
      refine XWP.skip ?_
      refine Gx.c (by kernel_rfl) fun K hK => ?_
      simp only [XA, XB, i64_succ k (by omega)]
      refine hK _ ⟨n - 1, by omega, fun f => ⟨k + 1, V5, StIs.of (by exact rfl), View.le_trans hV2 hV5, by omega, fun i hi => ?_⟩⟩
      by_cases e : i = k
      · rw [e]; exact he
      · exact hk i (by omega)
    · have b5 : decide (cf l k = cf m k) = false := decide_eq_false he
      simp only [XA, b5]
      refine hK _ ?_
      refine Gx.t rfl ?_
      refine Gx.a (by kernel_rfl) fun K hK => ?_
      simp only [XA]
      refine hK _ (XWP.ret ?_)
      try simp only [thenX_ret, inBlockX_ret]
      refine ret_go _ rfl ?_
      rw [decide_eq_false (fun e => he (by rw [e]))]; rfl
  rintro s ⟨V2, hs, he⟩
  obtain ⟨z, rfl⟩ := hs.out
  try dsimp only
  refine Gx.a (by kernel_rfl) fun K hK => ?_
  simp only [XA]
  refine hK _ (XWP.ret ?_)
  try simp only [thenX_ret, inBlockX_ret]
  refine ret_go _ rfl ?_
  rw [decide_eq_true he]; rfl
end Go.Proofs.Ytobjjdnfgamgcaa
end
section
namespace Go.Proofs.Ytobjjdnfgamgcaa
open Go Go.RowKit
set_option linter.unusedSimpArgs false
set_option linter.unusedVariables false
attribute [local irreducible] XWP Spec SpecO XPub XCall seqX clX apX stX ldX iaX slX
end Go.Proofs.Ytobjjdnfgamgcaa
end
section
namespace Go.Proofs.Ytobjjdnfgamgcaa
open Go Go.RowKit
set_option linter.unusedSimpArgs false
set_option linter.unusedVariables false
attribute [local irreducible] XWP Spec SpecO XPub XCall seqX clX apX stX ldX iaX slX
end Go.Proofs.Ytobjjdnfgamgcaa
end
section
namespace Go.Proofs.Ytobjjdnfgamgcaa
open Go Go.RowKit
set_option linter.unusedSimpArgs false
set_option linter.unusedVariables false
attribute [local irreducible] XWP Spec SpecO XPub XCall seqX clX apX stX ldX iaX slX
theorem dmr_c {V : View} {s : Value} {n B : Nat} {G : Grid} (h : SqM V s n B G) (hB : B ≤ 17592186044416) : Spec Try.prog 73 [.agg #[.int .i64 (n : Int), .int .i64 (n : Int), s]] V fun v' V' => v' = .bool true := by
  have := dmright_c V s (n : Int) (n : Int) ((flatG G n n).map toRaw) (Rats.raws h.hv) (fitR_toRaw fun x hx => (h.mem x hx).qf hB) (by rw [List.length_map, flatG_len]; have := sq_le h.hn; omega)
  rwa [h.right] at this
theorem dqr_c {V : View} {v : Value} {q : Rat} (h : RatC V v q) (hq : QF q) : Spec Try.prog 18 [v] V fun v' V' => v' = .bool true := by
  have f := fitR_toRaw (l := [q]) (fun x hx => by rw [List.mem_singleton.1 hx]; exact hq) (toRaw q) (by simp)
  have := pright_c V v _ _ _ h.rawAt f.1 f.2
  have e : rawOk (ng q) (dg q.num.natAbs) (dg q.den) = true := toRaw_ok q
  rwa [e] at this
/-- the unit matrix under way: rows before i are done -/
def idP (n i : Nat) : Nat → Rat := fun p => if p / n = p % n ∧ p / n < i then 1 else 0
theorem idP_step {n i : Nat} (hi : i < n) : (mk (n * n) (idP n i)).set (i * n + i) 1 = mk (n * n) (idP n (i + 1)) := by
  obtain ⟨ed, em⟩ := div_at (i := i) hi
  rw [mk_set1 (idx_lt hi hi)]
  refine mk_congr fun p hp => ?_
  unfold idP
  by_cases e : p = i * n + i
  · rw [if_pos e, e, ed, em, if_pos ⟨rfl, by omega⟩]
  · rw [if_neg e]
    have h2 := Nat.div_add_mod p n
    by_cases c : p / n = p % n ∧ p / n < i
    · rw [if_pos c, if_pos ⟨c.1, by omega⟩]
    · rw [if_neg c, if_neg fun h => ?_]
      by_cases e2 : p / n = i
      · rw [← h.1, e2, Nat.mul_comm] at h2
        exact e h2.symm
      · exact c ⟨h.1, by omega⟩
/-- numbers under way -/
def fzP (f : Nat → Rat) (i : Nat) : Nat → Rat := fun p => if p < i then f p else 0
theorem fzP_zero (f : Nat → Rat) (R : Nat) : mk R (fzP f 0) = mk R fun _ => 0 := mk_congr fun j _ => by unfold fzP; rw [if_neg (by omega)]
theorem fzP_all (f : Nat → Rat) (R : Nat) : mk R (fzP f R) = mk R f := mk_congr fun j h => by unfold fzP; rw [if_pos h]
theorem fzP_step (f : Nat → Rat) {R i : Nat} (hi : i < R) : (mk R (fzP f i)).set i (f i) = mk R (fzP f (i + 1)) := by
  rw [mk_set1 hi]
  refine mk_congr fun p _ => ?_
  unfold fzP
  by_cases e : p = i
  · rw [if_pos e, e, if_pos (by omega)]
  · rw [if_neg e]
    by_cases c : p < i
    · rw [if_pos c, if_pos (by omega)]
    · rw [if_neg c, if_neg (by omega)]
end Go.Proofs.Ytobjjdnfgamgcaa
end
