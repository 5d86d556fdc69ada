/- The law BalanceClasses (the closed classes and the stationary distributions are those of the reference, errors included) answers true at every matrix: no premise. (part 12 of 12) -/
import Derived.OrdersHeld
import Derived.Below
import Derived.Tactics
import Derived.KernelRfl
import Derived.RangeFuncCalls
import Derived.RangeFuncFrom
import Derived.RangeFuncLeaves
import Derived.OrdersIn
import Derived.Laws.AppendOwn
import Derived.Laws.MakeOwn
import Derived.Laws.CopyRow
import Derived.Laws.Cells
import Derived.Laws.World
import Derived.Laws.Alloc2
import Derived.Laws.NewBlocks
import Derived.Maps.AppendAt
import Derived.Test.YtkgmicakfmllmaaGreatProg
import Init.Data.List.Lemmas
import Init.Omega
import Derived.WalkKit
import Derived.ProofKit
import Derived.OpenShut
import Derived.ChangeOld
import Derived.SizedLaws
import Derived.ChangeSlices
import Derived.ChangeArms
import Derived.Deep.Slices
import Derived.Test.YtkgmicakfmllmaaGreatRows
import Derived.ShutString
import Derived.Test.YtkgmicakfmllmaaGreatCL11
section
namespace Go.Proofs.YtkgmicakfmllmaaGreat
open Go Go.RowKit
set_option linter.unusedSimpArgs false
set_option linter.unusedVariables false
attribute [local irreducible] XWP Spec SpecO XPub XCall seqX clX apX stX ldX iaX slX
def bothC (w : Nat → Nat → Bool) (i k : Nat) : Bool := (List.range k).all fun k => !w i k || w k i
theorem shut_head {w : Nat → Nat → Bool} {n i : Nat} (hi : i < n) (hii : w i i = true) : shutC w (fun _ => false) n i = (bothC w i n && decide (((List.range n).filter (w i)).getD 0 0 = i)) := by
  have mem : ∀ k, k ∈ (List.range n).filter (w i) ↔ k < n ∧ w i k = true := fun k => by rw [List.mem_filter, List.mem_range]
  have hp : ((List.range n).filter (w i)).Pairwise (· < ·) := List.pairwise_lt_range.filter _
  have hmi := (mem i).2 ⟨hi, hii⟩
  unfold shutC bothC
  generalize (List.range n).filter (w i) = S at *
  rw [Bool.eq_iff_iff, Bool.and_eq_true, decide_eq_true_eq, List.all_eq_true, List.all_eq_true]
  cases S with
  | nil => cases hmi
  | cons a t =>
    have ha := (mem a).1 (by simp)
    have hle : ∀ k, k ∈ a :: t → a ≤ k := fun k hk => by
      rcases List.mem_cons.1 hk with e | e
      · omega
      · exact Nat.le_of_lt (List.rel_of_pairwise_cons hp e)
    show _ ↔ _ ∧ a = i
    constructor
    · intro g
      refine ⟨fun k hk => ?_, ?_⟩
      · have := g k hk
        cases e : w i k
        · rfl
        · rw [e] at this
          simp only [Bool.not_true, Bool.false_or, Bool.and_eq_true] at this
          rw [this.1.1]; rfl
      · have h1 := g a (List.mem_range.2 ha.1)
        rw [ha.2] at h1
        simp only [Bool.not_true, Bool.false_or, Bool.and_eq_true, decide_eq_true_eq] at h1
        have h2 := hle i hmi
        omega
    · rintro ⟨g, rfl⟩ k hk
      have h1 := g k hk
      cases e : w a k
      · rfl
      · rw [e] at h1
        simp only [Bool.not_true, Bool.false_or] at h1
        have h2 := hle k ((mem k).2 ⟨List.mem_range.1 hk, e⟩)
        simp only [h1, Bool.not_true, Bool.false_or, Bool.not_false, Bool.true_and, Bool.and_true, decide_eq_true_eq]
        exact h2
theorem bothC_succ (w : Nat → Nat → Bool) (i k : Nat) : bothC w i (k + 1) = (bothC w i k && (!w i k || w k i)) := by
  unfold bothC; rw [List.range_succ, List.all_append]; simp
set_option maxHeartbeats 4000000 in
theorem dclasses_c (V : View) (s : Value) (n B : Nat) (l : List Rat) (h : Rats V s l) (ll : l.length = n * n) (hn : n ≤ 60) (hS : StoG (gridL l n) n) (ql : ∀ x ∈ l, QB B x) (hB : B ≤ 17592186044416) :
    Spec Tryz.prog 56 [.agg #[.int .i64 (n : Int), .int .i64 (n : Int), s]] V fun v' V' => Sl1 (Sl1 natE) V' v' (clsL l n) := by
  obtain ⟨A, cp, rfl, hc, hm⟩ := h.form
  refine (Spec.enter Tryz.func56 rfl fun Γ => ?_)
  simp only [Tryz.ntmps56, List.map_cons, List.map_nil, List.length_cons, List.length_nil, Nat.reduceAdd, Nat.reduceSub, List.replicate_succ, List.replicate_zero, List.cons_append, List.nil_append]
  refine Gx.a (by kernel_rfl) fun K hK => ?_
  simp only [XA]
  refine hK _ ?_
  refine Gx.a (by kernel_rfl) fun K hK => ?_
  simp only [XM, XA, Nat.reduceAdd, Nat.reduceLeDiff, ↓reduceIte]
  refine call_go (by kernel_rfl) rfl (dreach_c _ _ n B l h ll hn hS ql hB) fun v1 V1 hV1 hw => ?_
  have hww : ∀ i, i < n → wR (eM l n) n i i = true := fun i hi => (wR_iff _ _ _ _).2 (.refl hi)
  have ecl : clsL l n = shutP (wR (eM l n) n) (fun _ => false) n n := rfl
  generalize wR (eM l n) n = w at *
  obtain ⟨A1, c1, rfl, hc1, hm1⟩ := hw.form
  have lw : (mkB n w).length = n := by simp [mkB]
  rw [lw] at hw hc1 ⊢
  simp only [XA]
  refine hK _ ?_
  refine Gx.a (by kernel_rfl) fun K hK => ?_
  simp only [XA]
  refine hK _ ?_
  refine XWP.cutD 1 (fun s => ∃ (V2 : View) (H2 : Heap) (wo : Value) (outs : List Value), StIs (fun Z => [Z 0,Z 1,Z 2,Z 3, .v wo, Z 5,Z 6,Z 7,Z 8,Z 9,Z 10,Z 11,Z 12,Z 13,Z 14,Z 15,Z 16,Z 17,Z 18,Z 19,Z 20,Z 21,Z 22,Z 23,Z 24,Z 25,Z 26,Z 27,Z 28,Z 29,Z 30,Z 31,Z 32,Z 33,Z 34,Z 35,Z 36,Z 37,Z 38,Z 39,Z 40,Z 41,Z 42,Z 43,Z 44,Z 45,Z 46,Z 47,Z 48,Z 49,Z 50,Z 51,Z 52,Z 53,Z 54,Z 55,Z 56]) [[.int .i64 (n : Int), .int .i64 (n : Int), .slice A l.length cp]] H2 V2 s ∧ Own H2 34 1 wo (shutP w (fun _ => false) n n).length outs ∧ R1At (Sl1 natE) V2 outs (shutP w (fun _ => false) n n)) ?_ ?_
  · refine Gx.a (by kernel_rfl) fun K hK => ?_
    simp only [XN, XA]
    refine hK _ ?_
    clear hK
    refine XWP.block ?_
    refine XWP.loopD 1 (fun q s => ∃ (i : Nat) (V2 : View) (H2 : Heap) (wo : Value) (outs : List Value), StIs (fun Z => [Z 0,Z 1,Z 2, .v (.slice A1 n c1), .v wo, Z 5,Z 6,Z 7,Z 8,Z 9,Z 10,Z 11, .v (.int .i64 (n : Int)), .v (.int .i64 (i : Int)), Z 14,Z 15,Z 16,Z 17,Z 18,Z 19,Z 20,Z 21,Z 22,Z 23,Z 24,Z 25,Z 26,Z 27,Z 28,Z 29,Z 30,Z 31,Z 32,Z 33,Z 34,Z 35,Z 36,Z 37,Z 38,Z 39,Z 40,Z 41,Z 42,Z 43,Z 44,Z 45,Z 46,Z 47,Z 48,Z 49,Z 50,Z 51,Z 52,Z 53,Z 54,Z 55,Z 56]) [[.int .i64 (n : Int), .int .i64 (n : Int), .slice A l.length cp]] H2 V2 s ∧ q + i = n ∧ V1.le V2 ∧ Own H2 34 1 wo (shutP w (fun _ => false) n i).length outs ∧ R1At (Sl1 natE) V2 outs (shutP w (fun _ => false) n i)) n ⟨0, V1, _, _, [], StIs.of (by exact rfl), by omega, View.le_refl _, own_nil, R1At.nil _⟩ ?_
    rintro q s ⟨i, V2, H2, wo, outs, hs, hq, hV2, hown, hrow⟩
    obtain ⟨z, rfl⟩ := hs.out
    try dsimp only
    clear hs
    by_cases hi : i < n
    rotate_left
    · obtain rfl : i = n := by omega
      have b1 : decide ((i : Int) < (i : Int)) = false := decide_eq_false (by omega)
      refine Gx.a (by kernel_rfl) fun K hK => ?_
      simp only [XA, XB, b1]
      refine hK _ ?_
      refine XWP.seq (Gx.f rfl ?_)
      refine XWP.exit ?_
      exact fun f => ⟨V2, H2, wo, outs, StIs.of (by exact rfl), hown, hrow⟩
    have b1 : decide ((i : Int) < (n : Int)) = true := decide_eq_true (by omega)
    refine Gx.a (by kernel_rfl) fun K hK => ?_
    simp only [XA, XB, b1]
    refine hK _ ?_
    refine XWP.seq (Gx.t rfl ?_)
    refine XWP.skip ?_
    obtain ⟨ba, oa, rfl⟩ := hw.addr (by omega)
    have hsh := shut_head (n := n) hi (hww i hi)
    refine XWP.cutD 1 (fun s => ∃ (V3 : View) (H3 : Heap) (wo : Value) (outs : List Value), StIs (fun Z => [Z 0,Z 1,Z 2, .v (.slice (some ⟨ba, oa, none⟩) n c1), .v wo, Z 5,Z 6,Z 7,Z 8,Z 9,Z 10,Z 11, .v (.int .i64 (n : Int)), .v (.int .i64 (i : Int)), Z 14,Z 15,Z 16,Z 17,Z 18,Z 19,Z 20,Z 21,Z 22,Z 23,Z 24,Z 25,Z 26,Z 27,Z 28,Z 29,Z 30,Z 31,Z 32,Z 33,Z 34,Z 35,Z 36,Z 37,Z 38,Z 39,Z 40,Z 41,Z 42,Z 43,Z 44,Z 45,Z 46,Z 47,Z 48,Z 49,Z 50,Z 51,Z 52,Z 53,Z 54,Z 55,Z 56]) [[.int .i64 (n : Int), .int .i64 (n : Int), .slice A l.length cp]] H3 V3 s ∧ V2.le V3 ∧ Own H3 34 1 wo (shutP w (fun _ => false) n (i + 1)).length outs ∧ R1At (Sl1 natE) V3 outs (shutP w (fun _ => false) n (i + 1))) ?_ ?_
    · refine XWP.block ?_
      refine Gx.a (by kernel_rfl) fun K hK => ?_
      simp only [XA]
      refine hK _ ?_
      refine Gx.a (by kernel_rfl) fun K hK => ?_
      simp only [XA]
      refine hK _ ?_
      refine Gx.a (by kernel_rfl) fun K hK => ?_
      simp only [XA]
      refine hK _ ?_
      refine XWP.cutD 1 (fun s => ∃ (H3 : Heap) (w6 : Value), StIs (fun Z => [Z 0,Z 1,Z 2, .v (.slice (some ⟨ba, oa, none⟩) n c1), .v wo, .v (.int .i64 (i : Int)), .v w6, .v (.bool (bothC w i n)), Z 8,Z 9,Z 10,Z 11, .v (.int .i64 (n : Int)), .v (.int .i64 (i : Int)), Z 14,Z 15,Z 16,Z 17,Z 18,Z 19,Z 20,Z 21,Z 22,Z 23,Z 24,Z 25,Z 26,Z 27,Z 28,Z 29,Z 30,Z 31,Z 32,Z 33,Z 34,Z 35,Z 36,Z 37,Z 38,Z 39,Z 40,Z 41,Z 42,Z 43,Z 44,Z 45,Z 46,Z 47,Z 48,Z 49,Z 50,Z 51,Z 52,Z 53,Z 54,Z 55,Z 56]) [[.int .i64 (n : Int), .int .i64 (n : Int), .slice A l.length cp]] H3 V2 s ∧ Own H3 34 1 wo (shutP w (fun _ => false) n i).length outs ∧ Own H3 3 1 w6 ((List.range n).filter (w i)).length (ivs ((List.range n).filter (w i)))) ?_ ?_
      · refine Gx.a (by kernel_rfl) fun K hK => ?_
        simp only [XN, XA]
        refine hK _ ?_
        clear hK
        refine XWP.block ?_
        refine XWP.loopD 1 (fun p s => ∃ (k : Nat) (H3 : Heap) (w6 : Value), StIs (fun Z => [Z 0,Z 1,Z 2, .v (.slice (some ⟨ba, oa, none⟩) n c1), .v wo, .v (.int .i64 (i : Int)), .v w6, .v (.bool (bothC w i k)), Z 8,Z 9,Z 10,Z 11, .v (.int .i64 (n : Int)), .v (.int .i64 (i : Int)), Z 14,Z 15,Z 16, .v (.int .i64 (n : Int)), .v (.int .i64 (k : Int)), Z 19,Z 20,Z 21,Z 22,Z 23,Z 24,Z 25,Z 26,Z 27,Z 28,Z 29,Z 30,Z 31,Z 32,Z 33,Z 34,Z 35,Z 36,Z 37,Z 38,Z 39,Z 40,Z 41,Z 42,Z 43,Z 44,Z 45,Z 46,Z 47,Z 48,Z 49,Z 50,Z 51,Z 52,Z 53,Z 54,Z 55,Z 56]) [[.int .i64 (n : Int), .int .i64 (n : Int), .slice A l.length cp]] H3 V2 s ∧ p + k = n ∧ Own H3 34 1 wo (shutP w (fun _ => false) n i).length outs ∧ Own H3 3 1 w6 ((List.range k).filter (w i)).length (ivs ((List.range k).filter (w i)))) n ⟨0, H2, _, StIs.of (by exact rfl), by omega, hown, own_nil⟩ ?_
        clear hown
        rintro p s ⟨k, H3, w6, hs, hp, hown, hown7⟩
        obtain ⟨z, rfl⟩ := hs.out
        try dsimp only
        clear hs
        by_cases hk : k < n
        rotate_left
        · obtain rfl : k = n := by omega
          have b2 : decide ((k : Int) < (k : Int)) = false := decide_eq_false (by omega)
          refine Gx.a (by kernel_rfl) fun K hK => ?_
          simp only [XA, XB, b2]
          refine hK _ ?_
          refine XWP.seq (Gx.f rfl ?_)
          refine XWP.exit ?_
          exact fun f => ⟨H3, w6, StIs.of (by exact rfl), hown, hown7⟩
        have b2 : decide ((k : Int) < (n : Int)) = true := decide_eq_true (by omega)
        refine Gx.a (by kernel_rfl) fun K hK => ?_
        simp only [XA, XB, b2]
        refine hK _ ?_
        refine XWP.seq (Gx.t rfl ?_)
        refine XWP.skip ?_
        obtain ⟨b5, o5, c5, l5, l6⟩ := ways_at (hw.mono (Sl1_ok booE_ok) hV2) hi hk
        obtain ⟨b7, o7, c7, l7, l8⟩ := ways_at (hw.mono (Sl1_ok booE_ok) hV2) hk hi
        have esuc := bothC_succ w i k
        refine XWP.cutD 1 (fun s => ∃ (H3 : Heap) (w6 : Value), StIs (fun Z => [Z 0,Z 1,Z 2, .v (.slice (some ⟨ba, oa, none⟩) n c1), .v wo, .v (.int .i64 (i : Int)), .v w6, .v (.bool (bothC w i (k + 1))), Z 8,Z 9,Z 10,Z 11, .v (.int .i64 (n : Int)), .v (.int .i64 (i : Int)), Z 14,Z 15,Z 16, .v (.int .i64 (n : Int)), .v (.int .i64 (k : Int)), Z 19,Z 20,Z 21,Z 22,Z 23,Z 24,Z 25,Z 26,Z 27,Z 28,Z 29,Z 30,Z 31,Z 32,Z 33,Z 34,Z 35,Z 36,Z 37,Z 38,Z 39,Z 40,Z 41,Z 42,Z 43,Z 44,Z 45,Z 46,Z 47,Z 48,Z 49,Z 50,Z 51,Z 52,Z 53,Z 54,Z 55,Z 56]) [[.int .i64 (n : Int), .int .i64 (n : Int), .slice A l.length cp]] H3 V2 s ∧ Own H3 34 1 wo (shutP w (fun _ => false) n i).length outs ∧ Own H3 3 1 w6 ((List.range (k + 1)).filter (w i)).length (ivs ((List.range (k + 1)).filter (w i)))) ?_ ?_
        · refine XWP.block ?_
          refine Gx.a (by kernel_rfl) fun K hK => ?_
          simp only [XA]
          refine hK _ ?_
          cases hwik : w i k
          · rw [hwik] at l6
            refine Gx.a (by kernel_rfl) fun K hK => ?_
            simp only [XN, XA]
            refine ⟨by omega, by omega, ?_⟩
            refine ld_mem (by simpa using l5 _) ?_
            simp only [XN, XA, XB]
            refine ⟨by omega, by omega, ?_⟩
            refine ld_mem (by simpa using l6 _) ?_
            simp only [XA]
            refine hK _ ?_
            refine Gx.f rfl ?_
            refine XWP.skip ?_
            rw [hwik, Bool.not_false, Bool.true_or, Bool.and_true] at esuc
            rw [esuc]
            exact fun f => ⟨H3, w6, StIs.of (by exact rfl), hown, by rw [List.range_succ, List.filter_append]; simpa [hwik] using hown7⟩
          rw [hwik] at l6
          rw [hwik, Bool.not_true, Bool.false_or] at esuc
          refine Gx.a (by kernel_rfl) fun K hK => ?_
          simp only [XN, XA]
          refine ⟨by omega, by omega, ?_⟩
          refine ld_mem (by simpa using l5 _) ?_
          simp only [XN, XA, XB]
          refine ⟨by omega, by omega, ?_⟩
          refine ld_mem (by simpa using l6 _) ?_
          simp only [XA]
          refine hK _ ?_
          refine Gx.t rfl ?_
          have hlk : ((List.range k).filter (w i)).length ≤ 60 := by
            have := List.length_filter_le (w i) (List.range k)
            rw [List.length_range] at this; omega
          refine Gx.a (by kernel_rfl) fun K hK => ?_
          simp only [XA]
          refine bs_go (by kernel_rfl) #[(0, .int .i64 (k : Int))] (by simp [ev_tmp, SV.val]) (bs_one elemT_34 zeroT_3 rfl) fun bq hbq1 hbq2 => ?_
          simp only [XA]
          have hdj : ∀ b, wo.ownBlock = some b → w6.ownBlock ≠ some b := fun b e1 e2 => by
            rcases own_parts hown with ⟨rfl, _, _⟩ | ⟨g, cap, rfl, hg, _⟩
            · cases e1
            · rcases own_parts hown7 with ⟨rfl, _, _⟩ | ⟨g', cap', rfl, hg', _⟩
              · cases e2
              · have h1 : g = b := by simpa [Value.ownBlock] using e1
                have h2 : g' = b := by simpa [Value.ownBlock] using e2
                rw [h1] at hg; rw [h2, hg] at hg'; cases hg'
          refine ap_go elemT_34 (by kernel_rfl) zeroT_3 rfl (by omega) (own_upd hown7 hbq1) (src_one (upd_at _ _ _) rfl) (by omega) (by omega) fun v' H' hres => ?_
          have howno : Own H' 34 1 wo (shutP w (fun _ => false) n i).length outs := by
            have h0 := own_upd (r := some ⟨3, [.int .i64 (k : Int)], 1⟩) hown hbq1
            refine ⟨h0.1, ?_⟩
            rcases h0.2 with h | ⟨g, cap, e, hg, h⟩
            · exact .inl h
            · exact .inr ⟨g, cap, e, (app_keep hres hg (hdj g (by rw [e]; rfl))).1, h⟩
          simp only [XA]
          refine hK _ ?_
          have ef : (List.range (k + 1)).filter (w i) = (List.range k).filter (w i) ++ [k] := by rw [List.range_succ, List.filter_append]; simp [hwik]
          have eiv : ivs ((List.range k).filter (w i)) ++ [Value.int .i64 (k : Int)] = ivs ((List.range k).filter (w i) ++ [k]) := by simp [ivs]
          have hown8 := hres.1
          rw [eiv] at hown8
          have hown9 : Own H' 3 1 v' ((List.range (k + 1)).filter (w i)).length (ivs ((List.range (k + 1)).filter (w i))) := by rw [ef]; simpa using hown8
          cases hb : bothC w i k
          · rw [hb, Bool.false_and] at esuc
            rw [esuc]
            refine Gx.c (by kernel_rfl) fun K hK => ?_
            simp only [XA, gateX, ↓reduceIte]
            exact hK _ fun f => ⟨H', v', StIs.of (by exact rfl), howno, hown9⟩
          · rw [hb, Bool.true_and] at esuc
            rw [esuc]
            refine Gx.c (by kernel_rfl) fun K hK => ?_
            simp only [XN, XA, gateX, ↓reduceIte, beq_self_eq_true]
            refine ⟨by omega, by omega, ?_⟩
            refine ld_mem (by simpa using l7 _) ?_
            simp only [XN, XA, XB, gateX, ↓reduceIte, beq_self_eq_true]
            refine ⟨by omega, by omega, ?_⟩
            refine ld_mem (by simpa using l8 _) ?_
            simp only [XA, ↓reduceIte]
            exact hK _ fun f => ⟨H', v', StIs.of (by exact rfl), howno, hown9⟩
        rintro s ⟨H3, w6, hs, hown, hown7⟩
        obtain ⟨z, rfl⟩ := hs.out
        try dsimp only
        refine Gx.c (by kernel_rfl) fun K hK => ?_
        simp only [XA, XB, i64_succ k (by omega)]
        exact hK _ ⟨p - 1, by omega, fun f => ⟨k + 1, H3, w6, StIs.of (by exact rfl), by omega, hown, hown7⟩⟩
      clear hown
      rintro s ⟨H3, w6, hs, hown, hown7⟩
      obtain ⟨z, rfl⟩ := hs.out
      try dsimp only
      clear hs
      have hmi : i ∈ (List.range n).filter (w i) := by rw [List.mem_filter, List.mem_range]; exact ⟨hi, hww i hi⟩
      have hpos : 0 < ((List.range n).filter (w i)).length := List.length_pos_of_mem hmi
      have hdj : ∀ b, wo.ownBlock = some b → w6.ownBlock ≠ some b := fun b e1 e2 => by
        rcases own_parts hown with ⟨rfl, _, _⟩ | ⟨g, cap, rfl, hg, _⟩
        · cases e1
        · rcases own_parts hown7 with ⟨rfl, _, _⟩ | ⟨g', cap', rfl, hg', _⟩
          · cases e2
          · have h1 : g = b := by simpa [Value.ownBlock] using e1
            have h2 : g' = b := by simpa [Value.ownBlock] using e2
            rw [h1] at hg; rw [h2, hg] at hg'; cases hg'
      obtain ⟨a0, ha0⟩ : ∃ a0, a0 = ((List.range n).filter (w i)).getD 0 0 := ⟨_, rfl⟩
      have hg0 : (ivs ((List.range n).filter (w i)))[0]? = some (.int .i64 (a0 : Int)) := by
        rw [ha0]
        unfold ivs
        rw [List.getElem?_map, List.getD_eq_getElem?_getD, List.getElem?_eq_getElem hpos]; rfl
      rw [← ha0] at hsh
      refine XWP.cut (fun s => ∃ b : Bool, b = shutC w (fun _ => false) n i ∧ StIs (fun Z => [Z 0,Z 1,Z 2, .v (.slice (some ⟨ba, oa, none⟩) n c1), .v wo, .v (.int .i64 (i : Int)), .v w6, Z 7,Z 8,Z 9,Z 10,Z 11, .v (.int .i64 (n : Int)), .v (.int .i64 (i : Int)), Z 14,Z 15,Z 16,Z 17,Z 18,Z 19,Z 20,Z 21,Z 22,Z 23,Z 24,Z 25,Z 26,Z 27,Z 28,Z 29,Z 30,Z 31,Z 32,Z 33,Z 34,Z 35,Z 36,Z 37,Z 38,Z 39,Z 40,Z 41,Z 42,Z 43,Z 44,Z 45,Z 46,Z 47,Z 48,Z 49, .v (.bool b), Z 51,Z 52,Z 53,Z 54,Z 55,Z 56]) [[.int .i64 (n : Int), .int .i64 (n : Int), .slice A l.length cp]] H3 V2 s) ?_ ?_
      · rcases own_parts hown7 with ⟨_, h0, _⟩ | ⟨g', cap', rfl, hg', _⟩
        · omega
        cases hb : bothC w i n
        · rw [hb, Bool.false_and] at hsh
          refine Gx.c (by kernel_rfl) fun K hK => ?_
          simp only [XA, gateX, ↓reduceIte]
          exact hK _ ⟨_, hsh.symm, StIs.of (by exact rfl)⟩
        · rw [hb, Bool.true_and] at hsh
          by_cases e0 : a0 = i
          · have b3 : decide ((a0 : Int) = (i : Int)) = true := decide_eq_true (by omega)
            rw [decide_eq_true e0] at hsh
            refine Gx.c (by kernel_rfl) fun K hK => ?_
            simp only [XN, XA, XB, gateX, ↓reduceIte, Int.reduceLE, beq_self_eq_true]
            refine ⟨by omega, ?_⟩
            refine ld_mem (ldH1 hg' (by simpa using hg0) shapeT_3) ?_
            simp only [XA, XB, gateX, ↓reduceIte, beq_self_eq_true, b3]
            exact hK _ ⟨_, hsh.symm, StIs.of (by exact rfl)⟩
          · have b3 : decide ((a0 : Int) = (i : Int)) = false := decide_eq_false (by omega)
            rw [decide_eq_false e0] at hsh
            refine Gx.c (by kernel_rfl) fun K hK => ?_
            simp only [XN, XA, XB, gateX, ↓reduceIte, Int.reduceLE, beq_self_eq_true]
            refine ⟨by omega, ?_⟩
            refine ld_mem (ldH1 hg' (by simpa using hg0) shapeT_3) ?_
            simp only [XA, XB, gateX, ↓reduceIte, beq_self_eq_true, b3]
            exact hK _ ⟨_, hsh.symm, StIs.of (by exact rfl)⟩
      rintro s ⟨b, hb, hs⟩
      obtain ⟨z, rfl⟩ := hs.out
      try dsimp only
      clear hs
      cases b
      · refine Gx.f rfl ?_
        refine XWP.skip ?_
        exact fun f => ⟨V2, H3, wo, outs, StIs.of (by exact rfl), View.le_refl _, by rw [shutP_no hb.symm]; exact hown, by rw [shutP_no hb.symm]; exact hrow⟩
      have hyes := hb.symm
      refine Gx.t rfl ?_
      refine XWP.pub1 natE_ok hown7 (R1At.ivs V2 _) fun H4 V4 hV4 hs7 hk4 => ?_
      have hown4 : Own H4 34 1 wo (shutP w (fun _ => false) n i).length outs := by
        refine ⟨hown.1, ?_⟩
        rcases hown.2 with h | ⟨g, cap, e, hg, h⟩
        · exact .inl h
        · exact .inr ⟨g, cap, e, by rw [hk4 g (hdj g (by rw [e]; rfl))]; exact hg, h⟩
      have o7 := hs7.one
      have hle := shutP_len w (fun _ => false) n i
      refine Gx.c (by kernel_rfl) fun K hK => ?_
      simp only [XA]
      refine bs_go (by kernel_rfl) #[(0, w6)] (by simp [ev_tmp, SV.val]) (bs_one elemT_26 zeroT_34 o7) fun bq hbq1 hbq2 => ?_
      simp only [XA]
      refine ap_go elemT_26 (by kernel_rfl) zeroT_34 rfl (by omega) (own_upd hown4 hbq1) (src_one (upd_at _ _ _) o7) (by omega) (by omega) fun v' H' hres => ?_
      simp only [XA]
      have hrow' := (hrow.mono (Sl1_ok natE_ok) hV4).snoc o7 hs7
      have hown8 := hres.1
      rw [← shutP_yes hyes] at hrow'
      have el : (shutP w (fun _ => false) n (i + 1)).length = (shutP w (fun _ => false) n i).length + 1 := by rw [shutP_yes hyes]; simp
      exact hK _ fun f => ⟨V4, H', v', outs ++ [w6], StIs.of (by exact rfl), hV4, by rw [el]; exact hown8, hrow'⟩
    clear hown hrow
    rintro s ⟨V3, H3, wo, outs, hs, hV3, hown, hrow⟩
    obtain ⟨z, rfl⟩ := hs.out
    try dsimp only
    refine Gx.c (by kernel_rfl) fun K hK => ?_
    simp only [XA, XB, i64_succ i (by omega)]
    exact hK _ ⟨q - 1, by omega, fun f => ⟨i + 1, V3, H3, wo, outs, StIs.of (by exact rfl), by omega, View.le_trans hV2 hV3, hown, hrow⟩⟩
  rintro s ⟨V2, H2, wo, outs, hs, hown, hrow⟩
  obtain ⟨z, rfl⟩ := hs.out
  try dsimp only
  refine XWP.pub1 (Sl1_ok natE_ok) hown hrow fun H4 V4 hV4 hs4 _ => ?_
  refine Gx.a (by kernel_rfl) fun K hK => ?_
  simp only [XA]
  refine hK _ (XWP.ret ?_)
  try simp only [thenX_ret, inBlockX_ret]
  exact ret_go _ rfl (by rw [ecl]; exact hs4)
end Go.Proofs.YtkgmicakfmllmaaGreat
end
section
namespace Go.Proofs.YtkgmicakfmllmaaGreat
open Go Go.RowKit
set_option linter.unusedSimpArgs false
set_option linter.unusedVariables false
attribute [local irreducible] XWP Spec SpecO XPub XCall seqX clX apX stX ldX iaX slX
theorem dClasses_c (V : View) (s : Value) (r c : Int) (L : List Raw) (B : Nat) (h : Raws V s L) (f : fitR L) (ll : L.length ≤ 100000) (hq : ∀ x ∈ qs L, QB B x) (hB : 1001 * (B + 1) ≤ 17592186044416) :
    Spec Tryz.prog 14 [.agg #[.int .i64 r, .int .i64 c, s]] V fun v' V' => (stoB r c L = false → v' = .tuple #[.slice none 0 0, .int .i64 1]) ∧ (stoB r c L = true → ∃ w, v' = .tuple #[w, .int .i64 0] ∧ Sl1 (Sl1 natE) V' w (clsL (qs L) r.toNat)) := by
  obtain ⟨A, cp, rfl, hc, hm⟩ := h.form
  refine (Spec.enter Tryz.func14 rfl fun Γ => ?_)
  simp only [Tryz.ntmps14, List.map_cons, List.map_nil, List.length_cons, List.length_nil, Nat.reduceAdd, Nat.reduceSub, List.replicate_succ, List.replicate_zero, List.cons_append, List.nil_append]
  refine Gx.a (by kernel_rfl) fun K hK => ?_
  simp only [XA]
  refine hK _ ?_
  refine XWP.seq ?_
  refine Gx.a (by kernel_rfl) fun K hK => ?_
  simp only [XM, XA, Nat.reduceAdd, Nat.reduceLeDiff, ↓reduceIte]
  refine call_go (by kernel_rfl) rfl (dsto_c _ _ r c L B h f ll hq hB) fun v1 V1 hV1 h1 => ?_
  subst h1
  cases e : stoB r c L
  · simp only [XA]
    refine hK _ ?_
    refine Gx.t rfl ?_
    refine Gx.a (by kernel_rfl) fun K hK => ?_
    simp only [XA]
    refine hK _ (XWP.ret ?_)
    try simp only [thenX_ret, inBlockX_ret]
    refine ret_go _ rfl ?_
    exact ⟨fun _ => rfl, fun h => by rw [e] at h; cases h⟩
  obtain ⟨n, rfl, rfl, hn, kl, ok, hS⟩ := stoB_parts e
  have hr := (Raws.rats h ok).up hV1
  have hlen := qs_len L
  simp only [XA]
  refine hK _ ?_
  refine Gx.f rfl ?_
  refine XWP.skip ?_
  refine Gx.a (by kernel_rfl) fun K hK => ?_
  simp only [XM, XA, Nat.reduceAdd, Nat.reduceLeDiff, ↓reduceIte]
  have hr' : Rats V1 (.slice A L.length cp) (qs L) := hr
  refine call_go (by kernel_rfl) rfl (dclasses_c _ _ n B (qs L) hr' (by omega) hn hS hq (by omega)) fun v2 V2 hV2 h2 => ?_
  simp only [XA]
  refine hK _ (XWP.ret ?_)
  try simp only [thenX_ret, inBlockX_ret]
  refine ret_go _ rfl ?_
  exact ⟨fun h => (by rw [e] at h; cases h), fun _ => ⟨_, rfl, by rw [Int.toNat_natCast]; exact h2⟩⟩
theorem dAlone_c (V : View) (s : Value) (r c : Int) (L : List Raw) (B : Nat) (h : Raws V s L) (f : fitR L) (ll : L.length ≤ 100000) (hq : ∀ x ∈ qs L, QB B x) (hB : 1001 * (B + 1) ≤ 17592186044416) (hB2 : stoB r c L = true → (r.toNat + 1) * ge (B + 1) (r.toNat + 1) ≤ 17592186044416) :
    Spec Tryz.prog 18 [.agg #[.int .i64 r, .int .i64 c, s]] V fun v' V' => (stoB r c L = false → v' = .tuple #[.slice none 0 0, .int .i64 1]) ∧ (stoB r c L = true → ((clsL (qs L) r.toNat).length ≠ 1 → v' = .tuple #[.slice none 0 0, .int .i64 3]) ∧ ∀ C, clsL (qs L) r.toNat = [C] → ∃ w, v' = .tuple #[w, .int .i64 0] ∧ Rats V' w (lawC (qs L) r.toNat C)) := by
  obtain ⟨A, cp, rfl, hc, hm⟩ := h.form
  refine (Spec.enter Tryz.func18 rfl fun Γ => ?_)
  simp only [Tryz.ntmps18, List.map_cons, List.map_nil, List.length_cons, List.length_nil, Nat.reduceAdd, Nat.reduceSub, List.replicate_succ, List.replicate_zero, List.cons_append, List.nil_append]
  refine Gx.a (by kernel_rfl) fun K hK => ?_
  simp only [XA]
  refine hK _ ?_
  refine XWP.seq ?_
  refine Gx.a (by kernel_rfl) fun K hK => ?_
  simp only [XM, XA, Nat.reduceAdd, Nat.reduceLeDiff, ↓reduceIte]
  refine call_go (by kernel_rfl) rfl (dsto_c _ _ r c L B h f ll hq hB) fun v1 V1 hV1 h1 => ?_
  subst h1
  cases e : stoB r c L
  · simp only [XA]
    refine hK _ ?_
    refine Gx.t rfl ?_
    refine Gx.a (by kernel_rfl) fun K hK => ?_
    simp only [XA]
    refine hK _ (XWP.ret ?_)
    try simp only [thenX_ret, inBlockX_ret]
    refine ret_go _ rfl ?_
    exact ⟨fun _ => rfl, fun h => by rw [e] at h; cases h⟩
  have hB3 := hB2 e
  clear hB2
  obtain ⟨n, rfl, rfl, hn, kl, ok, hS⟩ := stoB_parts e
  rw [Int.toNat_natCast] at hB3
  have hr := (Raws.rats h ok).up hV1
  have hlen := qs_len L
  simp only [XA]
  refine hK _ ?_
  refine Gx.f rfl ?_
  refine XWP.skip ?_
  refine Gx.a (by kernel_rfl) fun K hK => ?_
  simp only [XM, XA, Nat.reduceAdd, Nat.reduceLeDiff, ↓reduceIte]
  have hr' : Rats V1 (.slice A L.length cp) (qs L) := hr
  refine call_go (by kernel_rfl) rfl (dclasses_c _ _ n B (qs L) hr' (by omega) hn hS hq (by omega)) fun v2 V2 hV2 h2 => ?_
  obtain ⟨A2, c2, rfl, _, _⟩ := h2.form
  simp only [XA]
  refine hK _ ?_
  refine XWP.seq ?_
  have hcl := clsL_len (qs L) n
  by_cases e1 : (clsL (qs L) n).length = 1
  rotate_left
  · have b1 : decide (((clsL (qs L) n).length : Int) = 1) = false := decide_eq_false (by omega)
    refine Gx.a (by kernel_rfl) fun K hK => ?_
    simp only [XN, XA, XB, b1]
    refine hK _ ?_
    refine Gx.t rfl ?_
    refine Gx.a (by kernel_rfl) fun K hK => ?_
    simp only [XA]
    refine hK _ (XWP.ret ?_)
    try simp only [thenX_ret, inBlockX_ret]
    refine ret_go _ rfl ?_
    exact ⟨fun h => (by rw [e] at h; cases h), fun _ => ⟨fun _ => rfl, fun C hC => by rw [Int.toNat_natCast] at hC; exact absurd (by rw [hC]; rfl) e1⟩⟩
  obtain ⟨C, hC⟩ := List.length_eq_one_iff.1 e1
  have hcls := cls_irr hS (C := C) (by rw [hC]; simp)
  have b1 : decide (((clsL (qs L) n).length : Int) = 1) = true := decide_eq_true (by omega)
  refine Gx.a (by kernel_rfl) fun K hK => ?_
  simp only [XN, XA, XB, b1]
  refine hK _ ?_
  refine Gx.f rfl ?_
  refine XWP.skip ?_
  obtain ⟨b2, o2, rfl⟩ := h2.addr (by omega)
  obtain ⟨u, _, gu⟩ := sl1_at (Sl1_ok natE_ok) h2 (a := 0) (by omega)
  have e0 : (clsL (qs L) n)[0]'(by omega) = C := by simp [hC]
  rw [e0] at gu
  obtain ⟨g1, g2⟩ := gu V2 (View.le_refl _)
  obtain ⟨A3, c3, rfl, _, _⟩ := g1.form
  have hfit : (C.length + 1) * ge (B + 1) (C.length + 1) ≤ 17592186044416 := Nat.le_trans (Nat.mul_le_mul (show C.length + 1 ≤ n + 1 by have := hcls.le; omega) (ge_mono _ (by have := hcls.le; omega))) hB3
  (refine XWP.drw [0, 1, 2, 3, 4, 5, 6] (by kernel_rfl) (by kernel_rfl) (by kernel_rfl) fun K hK => ?_) <;> dsimp only [pickOps, List.getElem?_cons_zero, List.getElem?_cons_succ]
  simp only [XM, XN, XA, Nat.reduceAdd, Nat.reduceLeDiff, ↓reduceIte, Int.reduceLE]
  refine ⟨by omega, ?_⟩
  refine ld_mem (by simpa using g2 _ 34 1 shapeT_34) ?_
  simp only [XA]
  refine call_go (by kernel_rfl) rfl (dsettled_c _ _ _ n B (qs L) C (hr'.up hV2) (by omega) hn g1 hcls.lt hcls.ne (by have := hcls.le; omega) (law_uni hcls.sto hcls.irr) hq hfit) fun v3 V3 hV3 h3 => ?_
  simp only [XA]
  refine hK _ (XWP.ret ?_)
  try simp only [thenX_ret, inBlockX_ret]
  refine ret_go _ rfl ?_
  refine ⟨fun h => (by rw [e] at h; cases h), fun _ => ⟨fun h => by rw [Int.toNat_natCast] at h; exact absurd e1 h, fun D hD => ⟨_, rfl, ?_⟩⟩⟩
  rw [Int.toNat_natCast] at hD ⊢
  rw [hC] at hD
  cases hD
  exact h3
set_option maxHeartbeats 4000000 in
theorem dAll_c (V : View) (s : Value) (r c : Int) (L : List Raw) (B : Nat) (h : Raws V s L) (f : fitR L) (ll : L.length ≤ 100000) (hq : ∀ x ∈ qs L, QB B x) (hB : 1001 * (B + 1) ≤ 17592186044416) (hB2 : stoB r c L = true → (r.toNat + 1) * ge (B + 1) (r.toNat + 1) ≤ 17592186044416) :
    Spec Tryz.prog 20 [.agg #[.int .i64 r, .int .i64 c, s]] V fun v' V' => (stoB r c L = false → v' = .tuple #[.slice none 0 0, .int .i64 1]) ∧ (stoB r c L = true → ∃ w, v' = .tuple #[w, .int .i64 0] ∧ Sl1 Rats V' w (allL (qs L) r.toNat)) := by
  obtain ⟨A, cp, rfl, hc, hm⟩ := h.form
  refine (Spec.enter Tryz.func20 rfl fun Γ => ?_)
  simp only [Tryz.ntmps20, List.map_cons, List.map_nil, List.length_cons, List.length_nil, Nat.reduceAdd, Nat.reduceSub, List.replicate_succ, List.replicate_zero, List.cons_append, List.nil_append]
  refine Gx.a (by kernel_rfl) fun K hK => ?_
  simp only [XA]
  refine hK _ ?_
  refine XWP.seq ?_
  refine Gx.a (by kernel_rfl) fun K hK => ?_
  simp only [XM, XA, Nat.reduceAdd, Nat.reduceLeDiff, ↓reduceIte]
  refine call_go (by kernel_rfl) rfl (dsto_c _ _ r c L B h f ll hq hB) fun v1 V1 hV1 h1 => ?_
  subst h1
  cases e : stoB r c L
  · simp only [XA]
    refine hK _ ?_
    refine Gx.t rfl ?_
    refine Gx.a (by kernel_rfl) fun K hK => ?_
    simp only [XA]
    refine hK _ (XWP.ret ?_)
    try simp only [thenX_ret, inBlockX_ret]
    refine ret_go _ rfl ?_
    exact ⟨fun _ => rfl, fun h => by rw [e] at h; cases h⟩
  have hB3 := hB2 e
  clear hB2
  obtain ⟨n, rfl, rfl, hn, kl, ok, hS⟩ := stoB_parts e
  rw [Int.toNat_natCast] at hB3
  have hr := (Raws.rats h ok).up hV1
  have hlen := qs_len L
  have hcn := clsL_len (qs L) n
  have hcls := fun C => cls_irr hS (C := C)
  simp only [XA]
  refine hK _ ?_
  refine Gx.f rfl ?_
  refine XWP.skip ?_
  have hr' : Rats V1 (.slice A L.length cp) (qs L) := hr
  refine Gx.a (by kernel_rfl) fun K hK => ?_
  simp only [XA]
  refine hK _ ?_
  refine XWP.cutD 1 (fun s => ∃ (V2 : View) (H2 : Heap) (wo : Value) (outs : List Value), StIs (fun Z => [Z 0,Z 1,Z 2,Z 3, .v wo, Z 5,Z 6,Z 7,Z 8,Z 9,Z 10,Z 11,Z 12,Z 13,Z 14,Z 15,Z 16,Z 17,Z 18,Z 19,Z 20,Z 21,Z 22,Z 23,Z 24]) [[.int .i64 (n : Int), .int .i64 (n : Int), .slice A L.length cp]] H2 V2 s ∧ Own H2 22 1 wo (allL (qs L) n).length outs ∧ R1At Rats V2 outs (allL (qs L) n)) ?_ ?_
  · refine Gx.a (by kernel_rfl) fun K hK => ?_
    simp only [XM, XA, Nat.reduceAdd, Nat.reduceLeDiff, ↓reduceIte]
    refine call_go (by kernel_rfl) rfl (dclasses_c _ _ n B (qs L) hr' (by omega) hn hS hq (by omega)) fun v2 V2 hV2 hw => ?_
    obtain ⟨A2, c2, rfl, _, _⟩ := hw.form
    obtain ⟨Ks, hK0⟩ : ∃ Ks, Ks = clsL (qs L) n := ⟨_, rfl⟩
    have eAll : allL (qs L) n = Ks.map (lawC (qs L) n) := by rw [hK0]; rfl
    rw [← hK0] at hw hcn hcls ⊢
    simp only [XN, XA]
    refine hK _ ?_
    clear hK
    refine XWP.block ?_
    refine XWP.loopD 1 (fun q s => ∃ (i : Nat) (V3 : View) (H3 : Heap) (wo : Value) (outs : List Value), StIs (fun Z => [Z 0, .p 0 0, Z 2,Z 3, .v wo, Z 5,Z 6,Z 7,Z 8,Z 9,Z 10, .v (.slice A2 Ks.length c2), .v (.int .i64 (Ks.length : Int)), .v (.int .i64 (i : Int)), Z 14,Z 15,Z 16,Z 17,Z 18,Z 19,Z 20,Z 21,Z 22,Z 23,Z 24]) [[.int .i64 (n : Int), .int .i64 (n : Int), .slice A L.length cp]] H3 V3 s ∧ q + i = Ks.length ∧ V2.le V3 ∧ Own H3 22 1 wo i outs ∧ R1At Rats V3 outs ((Ks.take i).map (lawC (qs L) n))) Ks.length ⟨0, V2, _, _, [], StIs.of (by exact rfl), by omega, View.le_refl _, own_nil, R1At.nil _⟩ ?_
    rintro q s ⟨i, V3, H3, wo, outs, hs, hqi, hV3, hown, hrow⟩
    obtain ⟨z, rfl⟩ := hs.out
    try dsimp only
    clear hs
    by_cases hi : i < Ks.length
    rotate_left
    · obtain rfl : i = Ks.length := by omega
      have b1 : decide ((Ks.length : Int) < (Ks.length : Int)) = false := decide_eq_false (by omega)
      refine Gx.a (by kernel_rfl) fun K hK => ?_
      simp only [XA, XB, b1]
      refine hK _ ?_
      refine XWP.seq (Gx.f rfl ?_)
      refine XWP.exit ?_
      rw [List.take_length] at hrow
      exact fun f => ⟨V3, H3, wo, outs, StIs.of (by exact rfl), by rw [eAll, List.length_map]; exact hown, by rw [eAll]; exact hrow⟩
    have b1 : decide ((i : Int) < (Ks.length : Int)) = true := decide_eq_true (by omega)
    refine Gx.a (by kernel_rfl) fun K hK => ?_
    simp only [XA, XB, b1]
    refine hK _ ?_
    refine XWP.seq (Gx.t rfl ?_)
    refine XWP.skip ?_
    obtain ⟨bw, ow, rfl⟩ := hw.addr (by omega)
    obtain ⟨u, _, gu⟩ := sl1_at (Sl1_ok natE_ok) hw hi
    obtain ⟨g1, g2⟩ := gu V3 hV3
    have hm := List.getElem_mem hi
    obtain ⟨C, hCe⟩ : ∃ C, C = Ks[i] := ⟨_, rfl⟩
    rw [← hCe] at g1 hm
    have hc := hcls C hm
    obtain ⟨A3, c3, rfl, _, _⟩ := g1.form
    have hfit : (C.length + 1) * ge (B + 1) (C.length + 1) ≤ 17592186044416 := Nat.le_trans (Nat.mul_le_mul (show C.length + 1 ≤ n + 1 by have := hc.le; omega) (ge_mono _ (by have := hc.le; omega))) hB3
    refine XWP.cutD 1 (fun s => ∃ (V4 : View) (H4 : Heap) (wo : Value) (outs : List Value), StIs (fun Z => [Z 0, .p 0 0, Z 2,Z 3, .v wo, Z 5,Z 6,Z 7,Z 8,Z 9,Z 10, .v (.slice (some ⟨bw, ow, none⟩) Ks.length c2), .v (.int .i64 (Ks.length : Int)), .v (.int .i64 (i : Int)), Z 14,Z 15,Z 16,Z 17,Z 18,Z 19,Z 20,Z 21,Z 22,Z 23,Z 24]) [[.int .i64 (n : Int), .int .i64 (n : Int), .slice A L.length cp]] H4 V4 s ∧ V3.le V4 ∧ Own H4 22 1 wo (i + 1) outs ∧ R1At Rats V4 outs ((Ks.take (i + 1)).map (lawC (qs L) n))) ?_ ?_
    · refine XWP.block ?_
      refine Gx.a (by kernel_rfl) fun K hK => ?_
      simp only [XN, XA]
      refine ⟨by omega, by omega, ?_⟩
      refine ld_mem (by simpa using g2 _ 34 1 shapeT_34) ?_
      simp only [XA]
      refine hK _ ?_
      refine Gx.c (by kernel_rfl) fun K hK => ?_
      simp only [XM, XA, Nat.reduceAdd, Nat.reduceLeDiff, ↓reduceIte]
      refine call_go (by kernel_rfl) rfl (dsettled_c _ _ _ n B (qs L) C ((hr'.up hV2).up hV3) (by omega) hn g1 hc.lt hc.ne (by have := hc.le; omega) (law_uni hc.sto hc.irr) hq hfit) fun v3 V4 hV4 r3 => ?_
      have o3 := rats_one r3
      simp only [XA]
      refine bs_go (by kernel_rfl) #[(0, v3)] (by simp [ev_tmp, SV.val]) (bs_one elemT_38 zeroT_22 o3) fun bq hbq1 hbq2 => ?_
      simp only [XA]
      refine ap_go elemT_38 (by kernel_rfl) zeroT_22 rfl (by omega) (own_upd hown hbq1) (src_one (upd_at _ _ _) o3) (by omega) (by omega) fun v' H' hres => ?_
      simp only [XA]
      have et : Ks.take (i + 1) = Ks.take i ++ [C] := by rw [List.take_add_one, List.getElem?_eq_getElem hi, ← hCe]; rfl
      have hrow' := (hrow.mono rats_ok hV4).snoc o3 r3
      exact hK _ fun f => ⟨V4, H', v', outs ++ [v3], StIs.of (by exact rfl), hV4, hres.1, by rw [et, List.map_append]; exact hrow'⟩
    clear hown hrow
    rintro s ⟨V4, H4, wo, outs, hs, hV4, hown, hrow⟩
    obtain ⟨z, rfl⟩ := hs.out
    try dsimp only
    refine Gx.c (by kernel_rfl) fun K hK => ?_
    simp only [XA, XB, i64_succ i (by omega)]
    exact hK _ ⟨q - 1, by omega, fun f => ⟨i + 1, V4, H4, wo, outs, StIs.of (by exact rfl), by omega, View.le_trans hV3 hV4, hown, hrow⟩⟩
  rintro s ⟨V2, H2, wo, outs, hs, hown, hrow⟩
  obtain ⟨z, rfl⟩ := hs.out
  try dsimp only
  refine XWP.pub1 rats_ok hown hrow fun H4 V4 hV4 hs4 _ => ?_
  refine Gx.a (by kernel_rfl) fun K hK => ?_
  simp only [XA]
  refine hK _ (XWP.ret ?_)
  try simp only [thenX_ret, inBlockX_ret]
  exact ret_go _ rfl ⟨fun h => (by rw [e] at h; cases h), fun _ => ⟨_, rfl, by rw [Int.toNat_natCast]; exact hs4⟩⟩
end Go.Proofs.YtkgmicakfmllmaaGreat
end
section
namespace Go.Proofs.YtkgmicakfmllmaaGreat
set_option linter.unusedVariables false
end Go.Proofs.YtkgmicakfmllmaaGreat
end
section
namespace Go.Proofs.YtkgmicakfmllmaaGreat
set_option linter.unusedVariables false
theorem cls_getD {l : List Rat} {n a : Nat} (ha : a < (clsL l n).length) : (clsL l n).getD a [] ∈ clsL l n := by
  rw [List.getD_eq_getElem?_getD, List.getElem?_eq_getElem ha]; exact List.getElem_mem ha
end Go.Proofs.YtkgmicakfmllmaaGreat
end
section
namespace Go.Proofs.YtkgmicakfmllmaaGreat
end Go.Proofs.YtkgmicakfmllmaaGreat
end
section
namespace Go.Proofs.YtkgmicakfmllmaaGreat
theorem allL_len (l : List Rat) (n : Nat) : (allL l n).length = (clsL l n).length := List.length_map ..
end Go.Proofs.YtkgmicakfmllmaaGreat
end
section
namespace Go.Proofs.YtkgmicakfmllmaaGreat
open Go Go.RowKit
set_option linter.unusedSimpArgs false
set_option linter.unusedVariables false
attribute [local irreducible] XWP Spec SpecO XPub XCall seqX clX apX stX ldX iaX slX
def clE (r c : Int) (M : List Raw) : Int := if stoB r c M = true then 0 else 1
noncomputable def clV (r c : Int) (M : List Raw) : List (List Nat) := if stoB r c M = true then clsL (qs M) r.toNat else []
theorem cls_norm {r c : Int} {M : List Raw} {v : Value} {V : View} (h : (stoB r c M = false → v = .tuple #[.slice none 0 0, .int .i64 1]) ∧ (stoB r c M = true → ∃ w, v = .tuple #[w, .int .i64 0] ∧ Sl1 (Sl1 natE) V w (clsL (qs M) r.toNat))) : ∃ w, v = .tuple #[w, .int .i64 (clE r c M)] ∧ Sl1 (Sl1 natE) V w (clV r c M) := by
  unfold clE clV
  cases e : stoB r c M
  · rw [if_neg (by simp), if_neg (by simp)]; exact ⟨_, h.1 e, Sl1.nil _⟩
  · rw [if_pos rfl, if_pos rfl]; exact h.2 e
noncomputable def alE (r c : Int) (M : List Raw) : Int := if stoB r c M = true then (if (clsL (qs M) r.toNat).length = 1 then 0 else 3) else 1
noncomputable def alV (r c : Int) (M : List Raw) : List Rat := if stoB r c M = true then (if (clsL (qs M) r.toNat).length = 1 then lawC (qs M) r.toNat ((clsL (qs M) r.toNat).getD 0 []) else []) else []
theorem alone_norm {r c : Int} {M : List Raw} {v : Value} {V : View} (h1 : stoB r c M = false → v = .tuple #[.slice none 0 0, .int .i64 1]) (h2 : stoB r c M = true → ((clsL (qs M) r.toNat).length ≠ 1 → v = .tuple #[.slice none 0 0, .int .i64 3]) ∧ ∀ C, clsL (qs M) r.toNat = [C] → ∃ w, v = .tuple #[w, .int .i64 0] ∧ Rats V w (lawC (qs M) r.toNat C)) : ∃ w, v = .tuple #[w, .int .i64 (alE r c M)] ∧ Rats V w (alV r c M) := by
  unfold alE alV
  cases e : stoB r c M
  · rw [if_neg (by simp), if_neg (by simp)]; exact ⟨_, h1 e, SlAt.nil _⟩
  · rw [if_pos rfl, if_pos rfl]
    by_cases g : (clsL (qs M) r.toNat).length = 1
    · rw [if_pos g, if_pos g]
      obtain ⟨C, hC⟩ := List.length_eq_one_iff.1 g
      obtain ⟨w, e1, e2⟩ := (h2 e).2 C hC
      refine ⟨w, e1, ?_⟩
      have : (clsL (qs M) r.toNat).getD 0 [] = C := by rw [hC]; rfl
      rw [this]; exact e2
    · rw [if_neg g, if_neg g]; exact ⟨_, (h2 e).1 g, SlAt.nil _⟩
noncomputable def aaV (r c : Int) (M : List Raw) : List (List Rat) := if stoB r c M = true then allL (qs M) r.toNat else []
theorem all_norm {r c : Int} {M : List Raw} {v : Value} {V : View} (h1 : stoB r c M = false → v = .tuple #[.slice none 0 0, .int .i64 1]) (h2 : stoB r c M = true → ∃ w, v = .tuple #[w, .int .i64 0] ∧ Sl1 Rats V w (allL (qs M) r.toNat)) : ∃ w, v = .tuple #[w, .int .i64 (clE r c M)] ∧ Sl1 Rats V w (aaV r c M) := by
  unfold clE aaV
  cases e : stoB r c M
  · rw [if_neg (by simp), if_neg (by simp)]; exact ⟨_, h1 e, Sl1.nil _⟩
  · rw [if_pos rfl, if_pos rfl]; exact h2 e
/-- the same numbers, twice -/
theorem numbers34_c (V : View) (v u : Value) (l : List Nat) (hv : Sl1 natE V v l) (hu : Sl1 natE V u l) (ll : l.length ≤ 1000) : Spec Tryz.prog 16 [v, u] V fun v' V' => v' = .bool true := by
  obtain ⟨A1, c1, rfl, hc1, hm1⟩ := hv.form
  obtain ⟨A2, c2, rfl, hc2, hm2⟩ := hu.form
  have b0 : decide ((l.length : Int) = (l.length : Int)) = true := decide_eq_true rfl
  refine (Spec.enter Tryz.func16 rfl fun Γ => ?_)
  simp only [Tryz.ntmps16, List.map_cons, List.map_nil, List.length_cons, List.length_nil, Nat.reduceAdd, Nat.reduceSub, List.replicate_succ, List.replicate_zero, List.cons_append, List.nil_append]
  refine Gx.a (by kernel_rfl) fun K hK => ?_
  simp only [XA]
  refine hK _ ?_
  refine XWP.seq ?_
  refine Gx.a (by kernel_rfl) fun K hK => ?_
  simp only [XN, XA, XB, decide_true]
  refine hK _ ?_
  refine Gx.f rfl ?_
  refine XWP.skip ?_
  refine XWP.cutD 0 (fun s => ∃ V2, StIs (fun Z => [Z 0,Z 1,Z 2,Z 3,Z 4,Z 5,Z 6,Z 7,Z 8,Z 9,Z 10,Z 11,Z 12,Z 13,Z 14,Z 15,Z 16,Z 17,Z 18,Z 19,Z 20,Z 21,Z 22,Z 23,Z 24,Z 25]) [] (fun _ => none) V2 s) ?_ ?_
  · refine Gx.a (by kernel_rfl) fun K hK => ?_
    simp only [XN, XA]
    refine hK _ ?_
    clear hK
    refine XWP.block ?_
    refine XWP.loopD 0 (fun q s => ∃ (i : Nat), StIs (fun Z => [.v (.slice A1 l.length c1), .v (.slice A2 l.length c2), Z 2,Z 3,Z 4,Z 5,Z 6,Z 7,Z 8,Z 9,Z 10,Z 11, .v (.int .i64 (l.length : Int)), .v (.int .i64 (i : Int)), Z 14,Z 15,Z 16,Z 17,Z 18,Z 19,Z 20,Z 21,Z 22,Z 23,Z 24,Z 25]) [] (fun _ => none) V s ∧ q + i = l.length) l.length ⟨0, StIs.of (by exact rfl), by omega⟩ ?_
    rintro q s ⟨i, hs, hq⟩
    obtain ⟨z, rfl⟩ := hs.out
    try dsimp only
    clear hs
    by_cases hi : i < l.length
    rotate_left
    · obtain rfl : i = l.length := by omega
      have b1 : decide ((l.length : Int) < (l.length : Int)) = false := decide_eq_false (by omega)
      refine Gx.a (by kernel_rfl) fun K hK => ?_
      simp only [XA, XB, b1]
      refine hK _ ?_
      refine XWP.seq (Gx.f rfl ?_)
      refine XWP.exit ?_
      exact fun f => ⟨V, StIs.of (by exact rfl)⟩
    have b1 : decide ((i : Int) < (l.length : Int)) = true := decide_eq_true (by omega)
    refine Gx.a (by kernel_rfl) fun K hK => ?_
    simp only [XA, XB, b1]
    refine hK _ ?_
    refine XWP.seq (Gx.t rfl ?_)
    refine XWP.skip ?_
    obtain ⟨b3, o3, rfl⟩ := hv.addr (by omega)
    obtain ⟨b4, o4, rfl⟩ := hu.addr (by omega)
    obtain ⟨u1, _, g1⟩ := sl1_at natE_ok hv hi
    obtain ⟨u2, _, g2⟩ := sl1_at natE_ok hu hi
    obtain ⟨e1, l1⟩ := g1 V (View.le_refl _)
    obtain ⟨e2, l2⟩ := g2 V (View.le_refl _)
    cases e1
    cases e2
    have b2 : decide (((l[i] : Nat) : Int) = ((l[i] : Nat) : Int)) = true := decide_eq_true rfl
    refine XWP.seq ?_
    refine XWP.block ?_
    refine Gx.a (by kernel_rfl) fun K hK => ?_
    simp only [XA]
    refine hK _ ?_
    (refine XWP.drw [0, 1, 2, 3, 4, 5, 6, 7, 8] (by kernel_rfl) (by kernel_rfl) (by kernel_rfl) fun K hK => ?_) <;> dsimp only [pickOps, List.getElem?_cons_zero, List.getElem?_cons_succ]
    simp only [XN, XA, XB]
    refine ⟨by omega, by omega, ?_⟩
    refine ld_mem (by simpa using l1 _ 3 1 shapeT_3) ?_
    simp only [XN, XA, XB]
    refine ⟨by omega, by omega, ?_⟩
    refine ld_mem (by simpa using l2 _ 3 1 shapeT_3) ?_
    simp only [XA, XB, decide_true]
    refine hK _ ?_
    refine Gx.f rfl ?_
    refine XWP.skip ?_
    refine Gx.c (by kernel_rfl) fun K hK => ?_
    simp only [XA, XB, i64_succ i (by omega)]
    exact hK _ ⟨q - 1, by omega, fun f => ⟨i + 1, StIs.of (by exact rfl), by omega⟩⟩
  rintro s ⟨V2, hs⟩
  obtain ⟨z, rfl⟩ := hs.out
  try dsimp only
  refine Gx.a (by kernel_rfl) fun K hK => ?_
  simp only [XA]
  refine hK _ (XWP.ret ?_)
  try simp only [thenX_ret, inBlockX_ret]
  refine ret_go _ rfl ?_
  rfl
theorem ge17 : ge 97 17 ≤ 17592186044416 := by decide
theorem ge9 : 9 * ge 97 9 ≤ 17592186044416 := by decide
set_option maxHeartbeats 8000000 in
theorem classes34_c (V : View) (s : Value) (r c : Int) (M : List Raw) (hs : Raws V s M) : Spec Tryz.prog 3 [.agg #[.int .i64 r, .int .i64 c, s]] V fun v' V' => v' = .bool true := by
  obtain ⟨A1, c1, rfl, _, _⟩ := hs.form
  refine (Spec.enter Tryz.func3 rfl fun Γ => ?_)
  simp only [Tryz.ntmps3, List.map_cons, List.map_nil, List.length_cons, List.length_nil, Nat.reduceAdd, Nat.reduceSub, List.replicate_succ, List.replicate_zero, List.cons_append, List.nil_append]
  refine Gx.a (by kernel_rfl) fun K hK => ?_
  simp only [XA]
  refine hK _ ?_
  refine XWP.seq ?_
  refine Gx.a (by kernel_rfl) fun K hK => ?_
  simp only [XM, XA, Nat.reduceAdd, Nat.reduceLeDiff, ↓reduceIte]
  refine call_go (by kernel_rfl) rfl (fine34_c _ _ r c M hs) fun v1 V1 hV1 k1 => ?_
  subst k1
  cases e1 : fineB r c M
  · simp only [XA]
    refine hK _ ?_
    refine Gx.t rfl ?_
    refine Gx.a (by kernel_rfl) fun K hK => ?_
    simp only [XA]
    refine hK _ (XWP.ret ?_)
    try simp only [thenX_ret, inBlockX_ret]
    refine ret_go _ rfl ?_
    rfl
  obtain ⟨f1, f2, f3, f4⟩ := fineB_few e1
  have fM := f4.fit
  have qM := fewR_QB f4 (Raws.dig hs)
  have hn8 : stoB r c M = true → r.toNat ≤ 8 := fun e => by
    obtain ⟨n, rfl, _, _⟩ := stoB_parts e
    rw [Int.toNat_natCast]; omega
  have hg1 : stoB r c M = true → ge (96 + 1) (2 * r.toNat + 1) ≤ 17592186044416 := fun e => Nat.le_trans (ge_mono 97 (show 2 * r.toNat + 1 ≤ 17 by have := hn8 e; omega)) ge17
  have hg2 : stoB r c M = true → (r.toNat + 1) * ge (96 + 1) (r.toNat + 1) ≤ 17592186044416 := fun e => Nat.le_trans (Nat.mul_le_mul (show r.toNat + 1 ≤ 9 by have := hn8 e; omega) (ge_mono 97 (show r.toNat + 1 ≤ 9 by have := hn8 e; omega))) ge9
  have hs := hs.up hV1
  simp only [XA]
  refine hK _ ?_
  refine Gx.f rfl ?_
  refine XWP.skip ?_
  refine Gx.a (by kernel_rfl) fun K hK => ?_
  simp only [XM, XA, Nat.reduceAdd, Nat.reduceLeDiff, ↓reduceIte]
  refine call_go (by kernel_rfl) rfl (bClasses_c _ _ r c M 96 hs fM (by omega) (fun _ => qM) (by omega)) fun v2 V2 hV2 k2 => ?_
  obtain ⟨w3, rfl, h3⟩ := cls_norm k2
  obtain ⟨A3, c3, rfl, _, _⟩ := h3.form
  simp only [XA]
  refine hK _ ?_
  have hs := hs.up hV2
  refine Gx.a (by kernel_rfl) fun K hK => ?_
  simp only [XM, XA, Nat.reduceAdd, Nat.reduceLeDiff, ↓reduceIte]
  refine call_go (by kernel_rfl) rfl (of34_c _ _ _ _ rfl rfl rfl) fun v4 V4 hV4 h4 => ?_
  subst h4
  simp only [XA]
  refine call_go (by kernel_rfl) rfl (dClasses_c _ _ r c M 96 (hs.up hV4) fM (by omega) qM (by omega)) fun v5 V5 hV5 k5 => ?_
  obtain ⟨w5, rfl, h5⟩ := cls_norm k5
  obtain ⟨A5, c5, rfl, _, _⟩ := h5.form
  simp only [XA]
  refine hK _ ?_
  have hle := View.le_trans hV4 hV5
  have hs := hs.up hle
  have h3 := h3.mono (Sl1_ok natE_ok) hle
  have hml : (clV r c M).length ≤ 8 := by
    unfold clV
    split
    · rename_i e; exact Nat.le_trans (clsL_len _ _) (hn8 e)
    · exact Nat.zero_le _
  have hmem : ∀ i (hi : i < (clV r c M).length), ((clV r c M)[i]).length ≤ 8 := fun i hi => by
    have hm : (clV r c M)[i] ∈ clV r c M := List.getElem_mem hi
    generalize (clV r c M)[i] = C at *
    unfold clV at hm
    split at hm
    · rename_i e
      obtain ⟨n, rfl, rfl, hn, _, _, hS⟩ := stoB_parts e
      rw [Int.toNat_natCast] at hm
      have := (cls_irr hS hm).le
      have := hn8 e
      rw [Int.toNat_natCast] at this
      omega
    · cases hm
  have bE : decide (clE r c M = clE r c M) = true := decide_eq_true rfl
  obtain ⟨m, hm⟩ : ∃ m, m = (clV r c M).length := ⟨_, rfl⟩
  rw [← hm] at h3 h5 hml ⊢
  have bM : decide ((m : Int) = (m : Int)) = true := decide_eq_true rfl
  refine XWP.seq ?_
  refine Gx.a (by kernel_rfl) fun K hK => ?_
  simp only [XN, XA, XB, gateX, ↓reduceIte, beq_self_eq_true, decide_true]
  refine hK _ ?_
  refine Gx.f rfl ?_
  refine XWP.skip ?_
  refine XWP.cutD 1 (fun s => ∃ (V6 : View), StIs (fun Z => [Z 0, .p 0 0, Z 2,Z 3,Z 4,Z 5,Z 6,Z 7,Z 8,Z 9,Z 10,Z 11,Z 12,Z 13,Z 14,Z 15,Z 16,Z 17,Z 18,Z 19,Z 20,Z 21,Z 22,Z 23,Z 24,Z 25,Z 26,Z 27,Z 28,Z 29,Z 30,Z 31,Z 32,Z 33,Z 34,Z 35,Z 36,Z 37,Z 38,Z 39,Z 40,Z 41,Z 42,Z 43,Z 44,Z 45,Z 46,Z 47,Z 48,Z 49,Z 50,Z 51,Z 52,Z 53,Z 54,Z 55,Z 56,Z 57,Z 58,Z 59,Z 60,Z 61,Z 62,Z 63,Z 64,Z 65,Z 66,Z 67,Z 68,Z 69,Z 70,Z 71,Z 72,Z 73,Z 74,Z 75,Z 76,Z 77,Z 78,Z 79,Z 80,Z 81,Z 82,Z 83,Z 84,Z 85,Z 86,Z 87,Z 88,Z 89,Z 90,Z 91,Z 92,Z 93,Z 94,Z 95,Z 96,Z 97,Z 98,Z 99,Z 100,Z 101,Z 102,Z 103,Z 104,Z 105,Z 106,Z 107,Z 108,Z 109,Z 110,Z 111,Z 112,Z 113,Z 114,Z 115,Z 116]) [[.int .i64 r, .int .i64 c, .slice A1 M.length c1]] (fun _ => none) V6 s ∧ V5.le V6) ?_ ?_
  · refine Gx.a (by kernel_rfl) fun K hK => ?_
    simp only [XN, XA]
    refine hK _ ?_
    clear hK
    refine XWP.block ?_
    refine XWP.loopD 1 (fun q s => ∃ (i : Nat) (V6 : View), StIs (fun Z => [Z 0, .p 0 0, Z 2, .v (.slice A3 m c3), Z 4, .v (.slice A5 m c5), Z 6,Z 7,Z 8,Z 9,Z 10,Z 11,Z 12,Z 13,Z 14,Z 15,Z 16,Z 17,Z 18,Z 19,Z 20,Z 21,Z 22,Z 23,Z 24,Z 25,Z 26,Z 27,Z 28,Z 29,Z 30,Z 31,Z 32,Z 33,Z 34,Z 35,Z 36,Z 37,Z 38,Z 39,Z 40,Z 41, .v (.int .i64 (m : Int)), .v (.int .i64 (i : Int)), Z 44,Z 45,Z 46,Z 47,Z 48,Z 49,Z 50,Z 51,Z 52,Z 53,Z 54,Z 55,Z 56,Z 57,Z 58,Z 59,Z 60,Z 61,Z 62,Z 63,Z 64,Z 65,Z 66,Z 67,Z 68,Z 69,Z 70,Z 71,Z 72,Z 73,Z 74,Z 75,Z 76,Z 77,Z 78,Z 79,Z 80,Z 81,Z 82,Z 83,Z 84,Z 85,Z 86,Z 87,Z 88,Z 89,Z 90,Z 91,Z 92,Z 93,Z 94,Z 95,Z 96,Z 97,Z 98,Z 99,Z 100,Z 101,Z 102,Z 103,Z 104,Z 105,Z 106,Z 107,Z 108,Z 109,Z 110,Z 111,Z 112,Z 113,Z 114,Z 115,Z 116]) [[.int .i64 r, .int .i64 c, .slice A1 M.length c1]] (fun _ => none) V6 s ∧ q + i = m ∧ V5.le V6) m ⟨0, V5, StIs.of (by exact rfl), by omega, View.le_refl _⟩ ?_
    rintro q s ⟨i, V6, hst, hq, hV6⟩
    obtain ⟨z, rfl⟩ := hst.out
    try dsimp only
    clear hst
    by_cases hi : i < m
    rotate_left
    · obtain rfl : i = m := by omega
      have b1 : decide ((i : Int) < (i : Int)) = false := decide_eq_false (by omega)
      refine Gx.a (by kernel_rfl) fun K hK => ?_
      simp only [XA, XB, b1]
      refine hK _ ?_
      refine XWP.seq (Gx.f rfl ?_)
      refine XWP.exit ?_
      exact fun f => ⟨V6, StIs.of (by exact rfl), hV6⟩
    have b1 : decide ((i : Int) < (m : Int)) = true := decide_eq_true (by omega)
    refine Gx.a (by kernel_rfl) fun K hK => ?_
    simp only [XA, XB, b1]
    refine hK _ ?_
    refine XWP.seq (Gx.t rfl ?_)
    refine XWP.skip ?_
    have hi' : i < (clV r c M).length := by omega
    obtain ⟨b3, o3, rfl⟩ := h3.addr (by omega)
    obtain ⟨b5, o5, rfl⟩ := h5.addr (by omega)
    obtain ⟨u3, _, g3⟩ := sl1_at (Sl1_ok natE_ok) h3 hi'
    obtain ⟨u5, _, g5⟩ := sl1_at (Sl1_ok natE_ok) h5 hi'
    have hl8 := hmem i hi'
    obtain ⟨e3, l3⟩ := g3 V6 hV6
    obtain ⟨e5, l5⟩ := g5 V6 hV6
    generalize (clV r c M)[i] = C at *
    obtain ⟨AC3, cC3, rfl, _, _⟩ := e3.form
    obtain ⟨AC5, cC5, rfl, _, _⟩ := e5.form
    refine XWP.seq ?_
    refine XWP.block ?_
    refine Gx.a (by kernel_rfl) fun K hK => ?_
    simp only [XA]
    refine hK _ ?_
    (refine XWP.drw [0, 1, 2, 3, 4, 5, 6, 7, 8, 9] (by kernel_rfl) (by kernel_rfl) (by kernel_rfl) fun K hK => ?_) <;> dsimp only [pickOps, List.getElem?_cons_zero, List.getElem?_cons_succ]
    simp only [XN, XA]
    refine ⟨by omega, by omega, ?_⟩
    refine ld_mem (by simpa using l3 _ 34 1 shapeT_34) ?_
    simp only [XN, XA]
    refine ⟨by omega, by omega, ?_⟩
    refine ld_mem (by simpa using l5 _ 34 1 shapeT_34) ?_
    simp only [XA]
    refine call_go (by kernel_rfl) rfl (numbers34_c _ _ _ C e3 e5 (by omega)) fun v7 V7 hV7 h7 => ?_
    subst h7
    simp only [XA]
    refine hK _ ?_
    refine Gx.f rfl ?_
    refine XWP.skip ?_
    refine Gx.c (by kernel_rfl) fun K hK => ?_
    simp only [XA, XB, i64_succ i (by omega)]
    exact hK _ ⟨q - 1, by omega, fun f => ⟨i + 1, V7, StIs.of (by exact rfl), by omega, View.le_trans hV6 hV7⟩⟩
  rintro s ⟨V6, hst, hV6⟩
  obtain ⟨z, rfl⟩ := hst.out
  try dsimp only
  clear hst
  have hs := hs.up hV6
  clear h3 h5 k2 k5 hmem
  refine Gx.a (by kernel_rfl) fun K hK => ?_
  simp only [XM, XA, Nat.reduceAdd, Nat.reduceLeDiff, ↓reduceIte]
  refine call_go (by kernel_rfl) rfl (balone1_c _ _ r c M 96 hs fM (by omega) (fun _ => qM) (by omega) hg1) fun v7 V7 hV7 k7 => ?_
  have hok : ∀ e : stoB r c M = true, ∀ C ∈ clsL (qs M) r.toNat, LawOk (qs M) r.toNat 96 C := fun e => (k7.2 e).1
  obtain ⟨w8, rfl, h8⟩ := alone_norm k7.1 fun e => (k7.2 e).2
  obtain ⟨A8, c8, rfl, _, _⟩ := h8.form
  simp only [XA]
  refine hK _ ?_
  have hs := hs.up hV7
  refine Gx.a (by kernel_rfl) fun K hK => ?_
  simp only [XM, XA, Nat.reduceAdd, Nat.reduceLeDiff, ↓reduceIte]
  refine call_go (by kernel_rfl) rfl (of34_c _ _ _ _ rfl rfl rfl) fun v9 V9 hV9 h9 => ?_
  subst h9
  simp only [XA]
  refine call_go (by kernel_rfl) rfl (dAlone_c _ _ r c M 96 (hs.up hV9) fM (by omega) qM (by omega) hg2) fun v10 V10 hV10 k10 => ?_
  obtain ⟨w10, rfl, h10⟩ := alone_norm k10.1 k10.2
  obtain ⟨A10, c10, rfl, _, _⟩ := h10.form
  simp only [XA]
  refine hK _ ?_
  have hle := View.le_trans hV9 hV10
  have hs := hs.up hle
  have h8 := h8.up hle
  refine Gx.a (by kernel_rfl) fun K hK => ?_
  simp only [XM, XA, Nat.reduceAdd, Nat.reduceLeDiff, ↓reduceIte]
  refine call_go (by kernel_rfl) rfl (ball_c _ _ r c M 96 hs fM (by omega) (fun _ => qM) (by omega) hg1) fun v11 V11 hV11 k11 => ?_
  obtain ⟨w12, rfl, h12⟩ := all_norm k11.1 fun e => by
    obtain ⟨w, a1, _, a3⟩ := k11.2 e
    exact ⟨w, a1, a3⟩
  obtain ⟨A12, c12, rfl, _, _⟩ := h12.form
  simp only [XA]
  refine hK _ ?_
  have hs := hs.up hV11
  refine Gx.a (by kernel_rfl) fun K hK => ?_
  simp only [XM, XA, Nat.reduceAdd, Nat.reduceLeDiff, ↓reduceIte]
  refine call_go (by kernel_rfl) rfl (of34_c _ _ _ _ rfl rfl rfl) fun v13 V13 hV13 h13 => ?_
  subst h13
  simp only [XA]
  refine call_go (by kernel_rfl) rfl (dAll_c _ _ r c M 96 (hs.up hV13) fM (by omega) qM (by omega) hg2) fun v14 V14 hV14 k14 => ?_
  obtain ⟨w14, rfl, h14⟩ := all_norm k14.1 k14.2
  obtain ⟨A14, c14, rfl, _, _⟩ := h14.form
  simp only [XA]
  refine hK _ ?_
  have hle := View.le_trans hV13 hV14
  have h12 := h12.mono rats_ok hle
  have h8 := h8.up (View.le_trans hV11 hle)
  have h10 := h10.up (View.le_trans hV11 hle)
  clear k7 k10 k11 k14
  have qlaw : ∀ e : stoB r c M = true, ∀ C ∈ clsL (qs M) r.toNat, ∀ x ∈ lawC (qs M) r.toNat C, QF x := fun e C hC => by
    have hk := hok e C hC
    have h8' := hn8 e
    obtain ⟨n, rfl, rfl, hn, _, _, hS⟩ := stoB_parts e
    rw [Int.toNat_natCast] at *
    have hl := (cls_irr hS hC).le
    refine scat_mem QF_zero _ fun j hj => (hk.qb j hj).qf ?_
    have h1 : ge (96 + 1) (2 * C.length) ≤ ge 97 16 := ge_mono 97 (by omega)
    have h2 : 2 * ge 97 16 ≤ 17592186044416 := by decide
    omega
  have qal : ∀ x ∈ alV r c M, QF x := by
    unfold alV
    split
    · rename_i e
      split
      · rename_i g
        exact qlaw e _ (cls_getD (by omega))
      · intro x hx; cases hx
    · intro x hx; cases hx
  have qaa : ∀ i (hi : i < (aaV r c M).length), ∀ x ∈ (aaV r c M)[i], QF x := fun i hi => by
    have hm2 : (aaV r c M)[i] ∈ aaV r c M := List.getElem_mem hi
    generalize (aaV r c M)[i] = P at *
    unfold aaV at hm2
    split at hm2
    · rename_i e
      unfold allL at hm2
      obtain ⟨C, hC, rfl⟩ := List.mem_map.1 hm2
      exact qlaw e C hC
    · cases hm2
  have haa8 : (aaV r c M).length ≤ 8 := by
    unfold aaV
    split
    · rename_i e
      rw [allL_len]; exact Nat.le_trans (clsL_len _ _) (hn8 e)
    · exact Nat.zero_le _
  have bA : decide (alE r c M = alE r c M) = true := decide_eq_true rfl
  obtain ⟨a, ha⟩ : ∃ a, a = (aaV r c M).length := ⟨_, rfl⟩
  rw [← ha] at h12 h14 haa8 ⊢
  have bL : decide ((a : Int) = (a : Int)) = true := decide_eq_true rfl
  clear hok qlaw
  refine XWP.seq ?_
  refine Gx.a (by kernel_rfl) fun K hK => ?_
  simp only [XA, XB, gateX, ↓reduceIte, beq_self_eq_true, decide_true]
  refine call_go (by kernel_rfl) rfl (same34_c _ _ _ _ _ h8 h10 qal qal) fun v15 V15 hV15 k15 => ?_
  rw [decide_eq_true rfl] at k15
  subst k15
  have h12 := h12.mono rats_ok hV15
  have h14 := h14.mono rats_ok hV15
  simp only [XN, XA, XB, gateX, ↓reduceIte, beq_self_eq_true, decide_true]
  refine hK _ ?_
  refine Gx.f rfl ?_
  refine XWP.skip ?_
  refine XWP.cutD 1 (fun s => ∃ (V16 : View), StIs (fun Z => [Z 0,Z 1,Z 2,Z 3,Z 4,Z 5,Z 6,Z 7,Z 8,Z 9,Z 10,Z 11,Z 12,Z 13,Z 14,Z 15,Z 16,Z 17,Z 18,Z 19,Z 20,Z 21,Z 22,Z 23,Z 24,Z 25,Z 26,Z 27,Z 28,Z 29,Z 30,Z 31,Z 32,Z 33,Z 34,Z 35,Z 36,Z 37,Z 38,Z 39,Z 40,Z 41,Z 42,Z 43,Z 44,Z 45,Z 46,Z 47,Z 48,Z 49,Z 50,Z 51,Z 52,Z 53,Z 54,Z 55,Z 56,Z 57,Z 58,Z 59,Z 60,Z 61,Z 62,Z 63,Z 64,Z 65,Z 66,Z 67,Z 68,Z 69,Z 70,Z 71,Z 72,Z 73,Z 74,Z 75,Z 76,Z 77,Z 78,Z 79,Z 80,Z 81,Z 82,Z 83,Z 84,Z 85,Z 86,Z 87,Z 88,Z 89,Z 90,Z 91,Z 92,Z 93,Z 94,Z 95,Z 96,Z 97,Z 98,Z 99,Z 100,Z 101,Z 102,Z 103,Z 104,Z 105,Z 106,Z 107,Z 108,Z 109,Z 110,Z 111,Z 112,Z 113,Z 114,Z 115,Z 116]) [[.int .i64 r, .int .i64 c, .slice A1 M.length c1]] (fun _ => none) V16 s) ?_ ?_
  · refine Gx.a (by kernel_rfl) fun K hK => ?_
    simp only [XN, XA]
    refine hK _ ?_
    clear hK
    refine XWP.block ?_
    refine XWP.loopD 1 (fun q s => ∃ (i : Nat) (V16 : View), StIs (fun Z => [Z 0,Z 1,Z 2,Z 3,Z 4,Z 5,Z 6,Z 7,Z 8,Z 9,Z 10,Z 11, .v (.slice A12 a c12), Z 13, .v (.slice A14 a c14), Z 15,Z 16,Z 17,Z 18,Z 19,Z 20,Z 21,Z 22,Z 23,Z 24,Z 25,Z 26,Z 27,Z 28,Z 29,Z 30,Z 31,Z 32,Z 33,Z 34,Z 35,Z 36,Z 37,Z 38,Z 39,Z 40,Z 41,Z 42,Z 43,Z 44,Z 45,Z 46,Z 47,Z 48,Z 49,Z 50,Z 51,Z 52,Z 53,Z 54,Z 55,Z 56,Z 57,Z 58,Z 59,Z 60,Z 61,Z 62,Z 63,Z 64,Z 65,Z 66,Z 67,Z 68,Z 69,Z 70,Z 71,Z 72,Z 73,Z 74,Z 75,Z 76,Z 77,Z 78,Z 79,Z 80,Z 81,Z 82,Z 83,Z 84,Z 85,Z 86,Z 87,Z 88,Z 89,Z 90,Z 91,Z 92,Z 93,Z 94,Z 95,Z 96,Z 97,Z 98,Z 99,Z 100, .v (.int .i64 (a : Int)), .v (.int .i64 (i : Int)), Z 103,Z 104,Z 105,Z 106,Z 107,Z 108,Z 109,Z 110,Z 111,Z 112,Z 113,Z 114,Z 115,Z 116]) [[.int .i64 r, .int .i64 c, .slice A1 M.length c1]] (fun _ => none) V16 s ∧ q + i = a ∧ V15.le V16) a ⟨0, V15, StIs.of (by exact rfl), by omega, View.le_refl _⟩ ?_
    rintro q s ⟨i, V16, hst, hq, hV16⟩
    obtain ⟨z, rfl⟩ := hst.out
    try dsimp only
    clear hst
    by_cases hi : i < a
    rotate_left
    · obtain rfl : i = a := by omega
      have b1 : decide ((i : Int) < (i : Int)) = false := decide_eq_false (by omega)
      refine Gx.a (by kernel_rfl) fun K hK => ?_
      simp only [XA, XB, b1]
      refine hK _ ?_
      refine XWP.seq (Gx.f rfl ?_)
      refine XWP.exit ?_
      exact fun f => ⟨V16, StIs.of (by exact rfl)⟩
    have b1 : decide ((i : Int) < (a : Int)) = true := decide_eq_true (by omega)
    refine Gx.a (by kernel_rfl) fun K hK => ?_
    simp only [XA, XB, b1]
    refine hK _ ?_
    refine XWP.seq (Gx.t rfl ?_)
    refine XWP.skip ?_
    have hi' : i < (aaV r c M).length := by omega
    obtain ⟨b12, o12, rfl⟩ := h12.addr (by omega)
    obtain ⟨b14, o14, rfl⟩ := h14.addr (by omega)
    obtain ⟨u12, _, g12⟩ := sl1_at rats_ok h12 hi'
    obtain ⟨u14, _, g14⟩ := sl1_at rats_ok h14 hi'
    have qP := qaa i hi'
    obtain ⟨e12, l12⟩ := g12 V16 hV16
    obtain ⟨e14, l14⟩ := g14 V16 hV16
    generalize (aaV r c M)[i] = P at *
    obtain ⟨AP, cP, rfl, _, _⟩ := SlAt.form e12
    obtain ⟨AR, cR, rfl, _, _⟩ := SlAt.form e14
    refine XWP.seq ?_
    refine XWP.block ?_
    refine Gx.a (by kernel_rfl) fun K hK => ?_
    simp only [XA]
    refine hK _ ?_
    (refine XWP.drw [0, 1, 2, 3, 4, 5, 6, 7, 8, 9] (by kernel_rfl) (by kernel_rfl) (by kernel_rfl) fun K hK => ?_) <;> dsimp only [pickOps, List.getElem?_cons_zero, List.getElem?_cons_succ]
    simp only [XN, XA, XB]
    refine ⟨by omega, by omega, ?_⟩
    refine ld_mem (by simpa using l12 _ 22 1 shapeT_22) ?_
    simp only [XN, XA, XB]
    refine ⟨by omega, by omega, ?_⟩
    refine ld_mem (by simpa using l14 _ 22 1 shapeT_22) ?_
    simp only [XA]
    refine call_go (by kernel_rfl) rfl (same34_c _ _ _ _ _ e12 e14 qP qP) fun v17 V17 hV17 h17 => ?_
    rw [decide_eq_true rfl] at h17
    subst h17
    simp only [XA]
    refine hK _ ?_
    refine Gx.f rfl ?_
    refine XWP.skip ?_
    refine Gx.c (by kernel_rfl) fun K hK => ?_
    simp only [XA, XB, i64_succ i (by omega)]
    exact hK _ ⟨q - 1, by omega, fun f => ⟨i + 1, V17, StIs.of (by exact rfl), by omega, View.le_trans hV16 hV17⟩⟩
  rintro s ⟨V16, hst⟩
  obtain ⟨z, rfl⟩ := hst.out
  try dsimp only
  refine Gx.a (by kernel_rfl) fun K hK => ?_
  simp only [XA]
  refine call_go (by kernel_rfl) rfl (alive34_c _) fun v18 V18 hV18 k18 => ?_
  subst k18
  simp only [XA]
  refine hK _ (XWP.ret ?_)
  try simp only [thenX_ret, inBlockX_ret]
  refine ret_go _ rfl ?_
  rfl
end Go.Proofs.YtkgmicakfmllmaaGreat
end
section
namespace Go.Proofs.YtkgmicakfmllmaaGreat.balanceClasses
open Go.ChangeShapes Go.WideShapes Go.ChangeAt Go.RowKit
set_option linter.unusedVariables false
theorem own : ownKnob Tryz.prog.godebug = none := by kernel_rfl
theorem laidOut : laidOutB Tryz.prog = true := by kernel_rfl
set_option maxRecDepth 100000 in
theorem lifted (os : Os) (started : os.Started) (H : Type) (enc : TypeId × Value → H) :
    ReturnsInHanded {} Tryz.checked os 3 .any (Rows.balanceClassesSpec.pre6 enc Tryz.prog Tryz.f3 Rows.balanceClassesRow.domain false) (Rows.balanceClassesSpec.post enc Tryz.prog Tryz.f3 false true false false) := by
  refine returnsInHanded_of_change_sized (C := Tryz.checked) own started (by kernel_rfl) Tryz.func3
    (ChangeSpec.witness6 (enc := enc) (C := Tryz.checked) false ⟨#[], #[.agg #[.int .i64 0, .int .i64 0, .slice none 0 0]], []⟩ 8 (by kernel_rfl) (by kernel_rfl) (by kernel_rfl) (by kernel_rfl)) ?_
  intro W base args ds gs before hval0 hW hcnd hsz0 _
  have hval : ∀ (j : Nat) t v, Tryz.f3.params[j]? = some t → args[j]? = some v → Value.okWide Tryz.prog W .any base t v := hval0
  have hW' := hW
  obtain ⟨p, q, hA0, hV, rfl, hfz, hnd⟩ := hW
  have hA : DataW.TrodAll enc Tryz.prog W 0 (fun _ => true) true Tryz.f3.params.toList args.toList ds p := hA0
  rw [Tryz.params3] at hA hval
  obtain ⟨v0, vs0, d0, ds0, p0, q0, hargs, rfl, rfl, h0, r0⟩ := trodAll_cons hA
  obtain ⟨rfl, rfl, rfl⟩ := trodAll_nil r0
  obtain rfl : args = #[v0] := by cases args; simp_all
  obtain ⟨rfl, rfl⟩ := trodVars_none hV
  obtain ⟨c0, rfl, _⟩ := okWide_struct und_mat (hval 0 24 v0 rfl rfl)
  have k0 := h0
  have lt0 : ∀ x ∈ p0, x.block < W.heap.size := by obtain ⟨m, hm⟩ := k0; exact DataW.trod_lt m _ _ _ hm
  obtain ⟨fuel0, hf0⟩ := h0
  obtain ⟨r0r, r0c, s0, L0, j0, hL0⟩ := open_mat hf0
  obtain rfl : c0 = #[.int .i64 r0r, .int .i64 r0c, s0] := by cases c0; simpa [Value.cells] using j0
  clear hA0 hval0 hsz0
  refine (classes34_c (viewW W) _ r0r r0c L0 hL0 W (viewW_sub W)).mono fun e W' ⟨v, V', he, _, _, _, bel, hv⟩ => ?_
  subst hv
  subst he
  exact ⟨_, rfl, _, _, _, [], _, [], hW', trodAll_mk1 (shut_bool Tryz.underlying4 _), (trodAll_cons_mk (Below.trod laidOut (by kernel_rfl) (of_decide_eq_true (by kernel_rfl)) k0 bel lt0) trodAll_mk0), rfl, bel.frame _, fun h => by cases h⟩
theorem over : Rows.balanceClassesRow.holds Tryz.pinned (OpenSpec.ofChange Rows.balanceClassesSpec) :=
  OpenClaim.holds_of_wide 3 Tryz.f3 rfl rfl rfl rfl rfl rfl rfl ⟨rfl, rfl, rfl, rfl, rfl⟩ rfl rfl rfl rfl rfl (by kernel_rfl) Tryz.func3 (by kernel_rfl)
    (of_decide_eq_true (by kernel_rfl)) (by unfold Func.isWrapper; first | (rw [if_pos (by decide +kernel)]; kernel_rfl) | (rw [if_neg (by decide +kernel)]; exact ⟨rfl, rfl⟩))
    (fun os started H enc _ => lifted os started H enc)
theorem proved : Rows.BalanceClassesSaid := over
#print axioms proved
end Go.Proofs.YtkgmicakfmllmaaGreat.balanceClasses
namespace Go.Proofs.YtkgmicakfmllmaaGreat
/-- The row, under a short name, for the claim. -/
theorem balanceClasses_holds : Rows.BalanceClassesSaid := balanceClasses.proved
end Go.Proofs.YtkgmicakfmllmaaGreat
end
