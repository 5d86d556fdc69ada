/- The law RecurSeries answers true at every input (part 11 of 12) -/
import Derived.OrdersHeld
import Derived.Below
import Derived.Tactics
import Derived.KernelRfl
import Derived.Laws.AppendOwn
import Derived.Laws.MakeOwn
import Derived.Laws.CopyRow
import Derived.Laws.Cells
import Derived.Laws.World
import Derived.Laws.Alloc2
import Derived.Laws.NewBlocks
import Derived.Maps.AppendAt
import Derived.Test.YthoboehbadmlmaaProg
import Init.Data.List.Lemmas
import Init.Omega
import Derived.WalkKit
import Derived.ProofKit
import Derived.OpenShut
import Derived.ChangeOld
import Derived.SizedLaws
import Derived.ChangeSlices
import Derived.ChangeArms
import Derived.Deep.Slices
import Derived.Test.YthoboehbadmlmaaSer10
section
namespace Go.Proofs.Ythoboehbadmlmaa
open Go Go.RowKit
set_option linter.unusedSimpArgs false
set_option linter.unusedVariables false
attribute [local irreducible] XWP Spec SpecO XPub XCall seqX clX apX stX ldX iaX slX
def divR (P Q : List Raw) : Int × List Rat × List Rat := if bad2 P Q = true then (1, [], []) else if Q.length = 0 then (31, [], []) else (0, (partP (qs P) (qs Q)).1, (partP (qs P) (qs Q)).2)
def comR' (P Q : List Raw) : Int × List Rat := if bad2 P Q = true then (1, []) else if P.length = 0 ∧ Q.length = 0 then (31, []) else (0, comRP (qs P) (qs Q))
theorem bad2_false {P Q : List Raw} (h : bad2 P Q = false) : rightP P = true ∧ rightP Q = true := by
  unfold bad2 at h
  rw [Bool.or_eq_false_iff] at h
  exact ⟨by simpa using h.1, by simpa using h.2⟩
theorem pow_fit {a b A B n : Nat} (hn : n ≤ 9) (ha : a ≤ n) (hA : A ≤ 864) (hB : B ≤ 864) : 2 ^ (a - b + 1) * (A + 2 * B + 2) ≤ 17592186044416 := by
  have h1 : 2 ^ (a - b + 1) ≤ 2 ^ 10 := two_mono (by omega)
  have h2 := Nat.mul_le_mul h1 (show A + 2 * B + 2 ≤ 2594 by omega)
  omega
theorem fewR_CB' {P : List Raw} {n : Nat} (h : fewR P) (hd : digR P) (hl : P.length ≤ n) : CB (n * 96) (qs P) := (fewR_CB h hd).mono (Nat.mul_le_mul_right _ hl)
theorem cDiv2_c (V : View) (v u : Value) (P Q : List Raw) (n : Nat) (hn : n ≤ 9) (hv : Raws V v P) (hu : Raws V u Q) (fP : fewR P) (fQ : fewR Q) (lP : P.length ≤ n) (lQ : Q.length ≤ n) :
    Spec Try.prog 21 [v, u] V fun v' V' => ∃ wq wr, v' = .tuple #[wq, wr, .int .i64 (divR P Q).1] ∧ Rats V' wq (divR P Q).2.1 ∧ Rats V' wr (divR P Q).2.2 := by
  have dP := Raws.dig hv
  have dQ := Raws.dig hu
  refine (cDiv_c V v u P Q hv hu fP.fit fQ.fit (by omega) (by omega) (n * 96) (n * 96) (fun _ => ⟨fewR_CB' fP dP lP, fewR_CB' fQ dQ lQ⟩) (pow_fit hn lP (by omega) (by omega))).mono fun v' V' hV h => ?_
  unfold divR
  by_cases hb : bad2 P Q = true
  · rw [if_pos hb]
    exact ⟨_, _, h.1 hb, SlAt.nil _, SlAt.nil _⟩
  · have hb' : bad2 P Q = false := by simpa using hb
    rw [if_neg hb]
    by_cases h0 : Q.length = 0
    · rw [if_pos h0]
      exact ⟨_, _, h.2.1 hb' h0, SlAt.nil _, SlAt.nil _⟩
    · rw [if_neg h0]
      obtain ⟨wq, wr, e, h1, h2, _⟩ := h.2.2 hb' h0
      have hp := (rightP_parts (bad2_false hb').2).2.1
      have hl : 0 < (qs Q).length := by rw [qs_len]; omega
      rw [div_part hl (hp hl)] at h1 h2
      exact ⟨wq, wr, e, h1, h2⟩
theorem dDiv2_c (V : View) (v u : Value) (P Q : List Raw) (n : Nat) (hn : n ≤ 9) (hv : Raws V v P) (hu : Raws V u Q) (fP : fewR P) (fQ : fewR Q) (lP : P.length ≤ n) (lQ : Q.length ≤ n) :
    Spec Try.prog 22 [v, u] V fun v' V' => ∃ wq wr, v' = .tuple #[wq, wr, .int .i64 (divR P Q).1] ∧ Rats V' wq (divR P Q).2.1 ∧ Rats V' wr (divR P Q).2.2 ∧ (∀ x ∈ (divR P Q).2.1, QF x) ∧ (∀ x ∈ (divR P Q).2.2, QF x) := by
  have dP := Raws.dig hv
  have dQ := Raws.dig hu
  have hfit := pow_fit (a := P.length) (b := Q.length) (A := n * 96) (B := n * 96) hn lP (by omega) (by omega)
  refine (dDiv_c V v u P Q hv hu fP.fit fQ.fit (fun _ => fewR_qf fP dP) (fun _ => fewR_qf fQ dQ) (by omega) (by omega) (n * 96) (n * 96) (fun _ => ⟨fewR_CB' fP dP lP, fewR_CB' fQ dQ lQ⟩) hfit).mono fun v' V' hV h => ?_
  unfold divR
  by_cases hb : bad2 P Q = true
  · rw [if_pos hb]
    exact ⟨_, _, h.1 hb, SlAt.nil _, SlAt.nil _, by simp, by simp⟩
  · have hb' : bad2 P Q = false := by simpa using hb
    rw [if_neg hb]
    by_cases h0 : Q.length = 0
    · rw [if_pos h0]
      exact ⟨_, _, h.2.1 hb' h0, SlAt.nil _, SlAt.nil _, by simp, by simp⟩
    · rw [if_neg h0]
      obtain ⟨wq, wr, e, h1, h2, h3, h4⟩ := h.2.2 hb' h0
      exact ⟨wq, wr, e, h1, h2, h4.qf hfit, h3.qf hfit⟩
theorem comFit7 {a b M : Nat} (ha : a ≤ 7) (hb : b ≤ 7) (hM : M ≤ 672) : comFit a b M := by
  unfold comFit
  have h1 : gb M b (max a b + b) ≤ gb M 7 14 := gb_mono hb (by omega)
  have h2 : gb M 7 14 ≤ gb 672 7 14 := Nat.mul_le_mul_left _ (Nat.mul_le_mul_left _ (by omega))
  have h3 : gb 672 7 14 ≤ 17592186044416 := by decide
  omega
theorem cCommon2_c (V : View) (v u : Value) (P Q : List Raw) (hv : Raws V v P) (hu : Raws V u Q) (fP : fewR P) (fQ : fewR Q) (lP : P.length ≤ 7) (lQ : Q.length ≤ 7) :
    Spec Try.prog 23 [v, u] V fun v' V' => ∃ w, v' = .tuple #[w, .int .i64 (comR' P Q).1] ∧ Rats V' w (comR' P Q).2 ∧ (∀ x ∈ (comR' P Q).2, QF x) := by
  have dP := Raws.dig hv
  have dQ := Raws.dig hu
  refine (cCommon_c V v u P Q hv hu fP.fit fQ.fit (by omega) (by omega) 672 (fun _ => ⟨(fewR_CB' fP dP lP).mono (by omega), (fewR_CB' fQ dQ lQ).mono (by omega)⟩) (comFit7 lP lQ (Nat.le_refl _)) (by omega)).mono fun v' V' hV h => ?_
  unfold comR'
  by_cases hb : bad2 P Q = true
  · rw [if_pos hb]
    exact ⟨_, h.1 hb, SlAt.nil _, by simp⟩
  · have hb' : bad2 P Q = false := by simpa using hb
    rw [if_neg hb]
    by_cases h0 : P.length = 0 ∧ Q.length = 0
    · rw [if_pos h0]
      exact ⟨_, h.2.1 hb' h0, SlAt.nil _, by simp⟩
    · rw [if_neg h0]
      obtain ⟨w, e, h1, h2⟩ := h.2.2 hb' h0
      rw [comP_same (rightP_parts (bad2_false hb').2).2.1] at h1 h2
      exact ⟨w, e, h1, h2.qf (comFit7 lP lQ (Nat.le_refl _))⟩
theorem dCommon2_c (V : View) (v u : Value) (P Q : List Raw) (hv : Raws V v P) (hu : Raws V u Q) (fP : fewR P) (fQ : fewR Q) (lP : P.length ≤ 7) (lQ : Q.length ≤ 7) :
    Spec Try.prog 24 [v, u] V fun v' V' => ∃ w, v' = .tuple #[w, .int .i64 (comR' P Q).1] ∧ Rats V' w (comR' P Q).2 := by
  have dP := Raws.dig hv
  have dQ := Raws.dig hu
  refine (dCommon_c V v u P Q hv hu fP.fit fQ.fit (fun _ => fewR_qf fP dP) (fun _ => fewR_qf fQ dQ) (by omega) (by omega) 672 (fun _ => ⟨(fewR_CB' fP dP lP).mono (by omega), (fewR_CB' fQ dQ lQ).mono (by omega)⟩) (comFit7 lP lQ (Nat.le_refl _)) (by omega)).mono fun v' V' hV h => ?_
  unfold comR'
  by_cases hb : bad2 P Q = true
  · rw [if_pos hb]
    exact ⟨_, h.1 hb, SlAt.nil _⟩
  · have hb' : bad2 P Q = false := by simpa using hb
    rw [if_neg hb]
    by_cases h0 : P.length = 0 ∧ Q.length = 0
    · rw [if_pos h0]
      exact ⟨_, h.2.1 hb' h0, SlAt.nil _⟩
    · rw [if_neg h0]
      obtain ⟨w, e, h1, h2⟩ := h.2.2 hb' h0
      exact ⟨w, e, h1⟩
theorem divides_c (V : View) (v u : Value) (P0 Q0 : List Raw) (hv : Raws V v P0) (hu : Raws V u Q0) : Spec Try.prog 5 [v, u] V fun v' V' => v' = .bool true := by
  refine (Spec.enter Try.func5 rfl fun Γ => ?_)
  simp only [Try.ntmps5, List.map_cons, List.map_nil, List.length_cons, List.length_nil, Nat.reduceAdd, Nat.reduceSub, List.replicate_succ, List.replicate_zero, List.cons_append, List.nil_append]
  first | refine XWP.reg (by kernel_rfl) fun K hK => ?_ | refine XWP.seq (XWP.reg (by kernel_rfl) fun K hK => ?_) | refine XWP.reg1 (by kernel_rfl) fun K hK => ?_
  simp only [XA, XB, gateX, Nat.reduceAdd, Nat.reduceLeDiff, Nat.reduceSub, Nat.reduceMul, ↓reduceIte, Int.reduceToNat, Int.reduceLE, beq_self_eq_true]
  refine hK _ ?_
  first | refine XWP.reg (by kernel_rfl) fun K hK => ?_ | refine XWP.seq (XWP.reg (by kernel_rfl) fun K hK => ?_) | refine XWP.reg1 (by kernel_rfl) fun K hK => ?_
  simp only [XA, XB, gateX, Nat.reduceAdd, Nat.reduceLeDiff, Nat.reduceSub, Nat.reduceMul, ↓reduceIte, Int.reduceToNat, Int.reduceLE, beq_self_eq_true]
  refine call_go (by kernel_rfl) rfl (lpoly_c _ _ P0 7 hv (by omega)) fun v1 V1 hV1 h1 => ?_
  simp only [XA, XB, gateX, Nat.reduceAdd, Nat.reduceLeDiff, Nat.reduceSub, Nat.reduceMul, ↓reduceIte, Int.reduceToNat, Int.reduceLE, beq_self_eq_true]
  refine call_go (by kernel_rfl) rfl (lpoly_c _ _ Q0 7 (hu.up hV1) (by omega)) fun v2 V2 hV2 h2 => ?_
  obtain ⟨P, hP, lP, fP⟩ := h1
  obtain ⟨Q, hQ, lQ, fQ⟩ := h2
  have hP := hP.up hV2
  simp only [XA, XB, gateX, Nat.reduceAdd, Nat.reduceLeDiff, Nat.reduceSub, Nat.reduceMul, ↓reduceIte, Int.reduceToNat, Int.reduceLE, beq_self_eq_true]
  refine hK _ ?_
  first | refine XWP.reg (by kernel_rfl) fun K hK => ?_ | refine XWP.seq (XWP.reg (by kernel_rfl) fun K hK => ?_) | refine XWP.reg1 (by kernel_rfl) fun K hK => ?_
  simp only [XA, XB, gateX, Nat.reduceAdd, Nat.reduceLeDiff, Nat.reduceSub, Nat.reduceMul, ↓reduceIte, Int.reduceToNat, Int.reduceLE, beq_self_eq_true]
  refine call_go (by kernel_rfl) rfl (cDiv2_c _ _ _ P Q 7 (by omega) hP hQ fP fQ lP lQ) fun v3 V3 hV3 h3 => ?_
  obtain ⟨wq, wr, rfl, h4, h5⟩ := h3
  simp only [XA, XB, gateX, Nat.reduceAdd, Nat.reduceLeDiff, Nat.reduceSub, Nat.reduceMul, ↓reduceIte, Int.reduceToNat, Int.reduceLE, beq_self_eq_true]
  refine hK _ ?_
  first | refine XWP.reg (by kernel_rfl) fun K hK => ?_ | refine XWP.seq (XWP.reg (by kernel_rfl) fun K hK => ?_) | refine XWP.reg1 (by kernel_rfl) fun K hK => ?_
  simp only [XA, XB, gateX, Nat.reduceAdd, Nat.reduceLeDiff, Nat.reduceSub, Nat.reduceMul, ↓reduceIte, Int.reduceToNat, Int.reduceLE, beq_self_eq_true]
  refine call_go (by kernel_rfl) rfl (dDiv2_c _ _ _ P Q 7 (by omega) (hP.up hV3) (hQ.up hV3) fP fQ lP lQ) fun v6 V6 hV6 h6 => ?_
  obtain ⟨xq, xr, rfl, h7, h8, f1, f2⟩ := h6
  simp only [XA, XB, gateX, Nat.reduceAdd, Nat.reduceLeDiff, Nat.reduceSub, Nat.reduceMul, ↓reduceIte, Int.reduceToNat, Int.reduceLE, beq_self_eq_true]
  refine hK _ ?_
  have hV36 := View.le_trans hV3 hV6
  first | refine XWP.reg (by kernel_rfl) fun K hK => ?_ | refine XWP.seq (XWP.reg (by kernel_rfl) fun K hK => ?_) | refine XWP.reg1 (by kernel_rfl) fun K hK => ?_
  simp only [XA, XB, gateX, Nat.reduceAdd, Nat.reduceLeDiff, Nat.reduceSub, Nat.reduceMul, ↓reduceIte, Int.reduceToNat, Int.reduceLE, beq_self_eq_true]
  refine call_go (by kernel_rfl) rfl (cCommon2_c _ _ _ P Q (hP.up hV36) (hQ.up hV36) fP fQ lP lQ) fun v9 V9 hV9 h9 => ?_
  obtain ⟨wc, rfl, h10, f3⟩ := h9
  simp only [XA, XB, gateX, Nat.reduceAdd, Nat.reduceLeDiff, Nat.reduceSub, Nat.reduceMul, ↓reduceIte, Int.reduceToNat, Int.reduceLE, beq_self_eq_true]
  refine hK _ ?_
  have hV39 := View.le_trans hV36 hV9
  first | refine XWP.reg (by kernel_rfl) fun K hK => ?_ | refine XWP.seq (XWP.reg (by kernel_rfl) fun K hK => ?_) | refine XWP.reg1 (by kernel_rfl) fun K hK => ?_
  simp only [XA, XB, gateX, Nat.reduceAdd, Nat.reduceLeDiff, Nat.reduceSub, Nat.reduceMul, ↓reduceIte, Int.reduceToNat, Int.reduceLE, beq_self_eq_true]
  refine call_go (by kernel_rfl) rfl (dCommon2_c _ _ _ P Q (hP.up hV39) (hQ.up hV39) fP fQ lP lQ) fun v11 V11 hV11 h11 => ?_
  obtain ⟨xc, rfl, h12⟩ := h11
  simp only [XA, XB, gateX, Nat.reduceAdd, Nat.reduceLeDiff, Nat.reduceSub, Nat.reduceMul, ↓reduceIte, Int.reduceToNat, Int.reduceLE, beq_self_eq_true]
  refine hK _ ?_
  have hA := View.le_trans hV6 (View.le_trans hV9 hV11)
  have hB := View.le_trans hV9 hV11
  first | refine XWP.reg (by kernel_rfl) fun K hK => ?_ | refine XWP.seq (XWP.reg (by kernel_rfl) fun K hK => ?_) | refine XWP.reg1 (by kernel_rfl) fun K hK => ?_
  simp only [XA, XB, gateX, Nat.reduceAdd, Nat.reduceLeDiff, Nat.reduceSub, Nat.reduceMul, ↓reduceIte, Int.reduceToNat, Int.reduceLE, beq_self_eq_true]
  refine call_go (by kernel_rfl) rfl (lsameP_c _ _ _ _ _ _ _ (h4.up hA) (h7.up hB) f1 f1) fun v13 V13 hV13 h13 => ?_
  subst h13
  have t1 : (decide ((divR P Q).1 = (divR P Q).1) && decide ((divR P Q).2.1 = (divR P Q).2.1)) = true := by simp
  have t2 : decide ((divR P Q).2.2 = (divR P Q).2.2) = true := by simp
  have t3 : (decide ((comR' P Q).1 = (comR' P Q).1) && decide ((comR' P Q).2 = (comR' P Q).2)) = true := by simp
  simp only [XA, XB, gateX, Nat.reduceAdd, Nat.reduceLeDiff, Nat.reduceSub, Nat.reduceMul, ↓reduceIte, Int.reduceToNat, Int.reduceLE, beq_self_eq_true, t1]
  refine call_go (by kernel_rfl) rfl (lsame_c _ _ _ _ _ ((h5.up hA).up hV13) ((h8.up hB).up hV13) f2 f2) fun v14 V14 hV14 h14 => ?_
  subst h14
  simp only [XA, XB, gateX, Nat.reduceAdd, Nat.reduceLeDiff, Nat.reduceSub, Nat.reduceMul, ↓reduceIte, Int.reduceToNat, Int.reduceLE, beq_self_eq_true, t2]
  have hC := View.le_trans hV13 hV14
  refine call_go (by kernel_rfl) rfl (lsameP_c _ _ _ _ _ _ _ ((h10.up hV11).up hC) (h12.up hC) f3 f3) fun v15 V15 hV15 h15 => ?_
  subst h15
  simp only [XA, XB, gateX, Nat.reduceAdd, Nat.reduceLeDiff, Nat.reduceSub, Nat.reduceMul, ↓reduceIte, Int.reduceToNat, Int.reduceLE, beq_self_eq_true, t3]
  refine call_go (by kernel_rfl) rfl (alive_c _) fun v16 V16 hV16 h16 => ?_
  subst h16
  simp only [XA, XB, gateX, Nat.reduceAdd, Nat.reduceLeDiff, Nat.reduceSub, Nat.reduceMul, ↓reduceIte, Int.reduceToNat, Int.reduceLE, beq_self_eq_true]
  refine hK _ (XWP.ret ?_)
  try simp only [thenX_ret, inBlockX_ret]
  refine ret_go _ rfl ?_
  rfl
end Go.Proofs.Ythoboehbadmlmaa
end
section
namespace Go.Proofs.Ythoboehbadmlmaa
open Go Go.RowKit Go.ChangeShapes
set_option linter.unusedVariables false
/-- the whole world, as what is published -/
def viewW (w : World) : View := fun k => w.heap[k]?
theorem viewW_sub (w : World) : View.sub (viewW w) w := fun _ _ h => h
theorem cell_view {w : World} {a : Addr} {v : Value} (h : w.cell? a = some v) : a.spot = none ∧ ∃ arr ty fr, viewW w a.block = some (.cells arr ty fr) ∧ arr[a.off]? = some v := by
  unfold World.cell? at h
  split at h
  · rename_i c t f hb
    split at h
    · cases h
    · rename_i hs
      refine ⟨?_, c, t, f, hb, h⟩
      cases hsp : a.spot with
      | none => rfl
      | some x => rw [hsp] at hs; simp at hs
  · cases h
theorem add_off (a : Addr) (n : Nat) : (a.add n).block = a.block ∧ (a.add n).off = a.off + n := by
  unfold Addr.add; split
  · rename_i h; subst h; exact ⟨rfl, rfl⟩
  · exact ⟨rfl, rfl⟩
theorem cells_view {w : World} {a : Addr} {n : Nat} {f : Nat → Value} (hn : 0 < n) (h : ∀ i, i < n → w.cell? (a.add i) = some (f i)) : a.spot = none ∧ ∃ arr ty fr, viewW w a.block = some (.cells arr ty fr) ∧ ∀ i, i < n → arr[a.off + i]? = some (f i) := by
  have h0 := h 0 hn
  have e0 : a.add 0 = a := by simp [Addr.add]
  rw [e0] at h0
  obtain ⟨hs, arr, ty, fr, hb, _⟩ := cell_view h0
  refine ⟨hs, arr, ty, fr, hb, fun i hi => ?_⟩
  obtain ⟨_, arr', ty', fr', hb', hv⟩ := cell_view (h i hi)
  obtain ⟨e1, e2⟩ := add_off a i
  rw [e1, hb] at hb'
  cases hb'
  rw [e2] at hv; exact hv
theorem addr_eta (a : Addr) (h : a.spot = none) : a = ⟨a.block, a.off, none⟩ := by cases a; simp at h; subst h; rfl
section
variable {H : Type} {enc : TypeId × Value → H} {w : World} {base : Nat} {spare : Nat → Bool} {held : Bool}
theorem und_nat : (Try.prog).underlying 32 = some (.slice 129) := und_elem elemT_32
theorem und_u32 : (Try.prog).underlying 129 = some (.int .u32) := by kernel_rfl
theorem cells_u32 : (Try.prog).cellsOf 129 = 1 := by kernel_rfl
theorem cells_rat : (Try.prog).cellsOf 34 = 3 := by kernel_rfl
theorem open_nat {fuel : Nat} {v : Value} {x : DataW H × List MemPlace} (h : DataW.trod enc Try.prog w base spare held fuel 32 [v] = some x) : ∃ ds, NatAt (viewW w) v ds := by
  rcases open_ints und_nat und_u32 cells_u32 h with ⟨hcs, _⟩ | ⟨a, len, cap, zs, hcs, _, hl, hm, hz, _, hcell, hwz⟩
  · cases hcs; exact ⟨[], NatAt.nil _⟩
  · cases hcs
    have hzl : len ≤ zs.length := by rw [hz]; split <;> omega
    have hwf : ∀ z ∈ zs, 0 ≤ z ∧ z < 4294967296 := fun z hz => by
      have := hwz z hz
      simp [Lit.wf, IntKind.min, IntKind.max, IntKind.signed, IntKind.bits] at this
      omega
    refine ⟨(zs.take len).map Int.toNat, some a, cap, by simp [Nat.min_eq_left hzl], by simp; omega, by unfold maxLen at hm; omega, fun d hd => ?_, ?_⟩
    · obtain ⟨z, hz, rfl⟩ := List.mem_map.1 hd
      have := hwf z (List.mem_of_mem_take hz)
      unfold BB; omega
    · rcases Nat.eq_zero_or_pos len with h0 | h0
      · subst h0; exact .inl (by simp)
      · obtain ⟨hs, arr, ty, fr, hb, hv⟩ := cells_view (f := fun i => .int .u32 (zs.getD i 0)) (by omega) hcell
        refine .inr ⟨a.block, a.off, arr, ty, fr, by rw [← addr_eta a hs], hb, fun i d hd => ?_⟩
        rw [List.getElem?_map, List.getElem?_take] at hd
        split at hd
        · rename_i hi
          rw [hv i (by omega)]
          have hiz : i < zs.length := by omega
          rw [List.getElem?_eq_getElem hiz] at hd
          simp at hd
          have := hwf zs[i] (List.getElem_mem hiz)
          simp [hiz]
          omega
        · cases hd
noncomputable def ratFields : Array Field := match (Try.prog).underlying 34 with
  | some (.struct fs) => fs
  | _ => #[]
theorem und_rat : (Try.prog).underlying 34 = some (.struct ratFields) := by kernel_rfl
theorem ratFields_map : ratFields.toList.map (fun f => (f.type, f.offset)) = [(4, 0), (32, 1), (32, 2)] := by kernel_rfl
theorem und_bool : (Try.prog).underlying 4 = some .bool := by kernel_rfl
theorem cells_bool : (Try.prog).cellsOf 4 = 1 := by kernel_rfl
theorem cells_nat : (Try.prog).cellsOf 32 = 1 := by kernel_rfl
theorem ratField (i : Nat) (t o : Nat) (h : [(4, 0), (32, 1), (32, 2)][i]? = some (t, o)) : ∃ f, ratFields[i]? = some f ∧ f.type = t ∧ f.offset = o := by
  rw [← ratFields_map, List.getElem?_map] at h
  cases hf : ratFields.toList[i]? with
  | none => rw [hf] at h; cases h
  | some f =>
    rw [hf] at h
    simp at h
    exact ⟨f, by rw [← Array.getElem?_toList]; exact hf, h.1, h.2⟩
theorem three_of {α : Type} {l : List α} (h : l.length = 3) : ∃ a b c, l = [a, b, c] := by
  rcases l with _ | ⟨a, _ | ⟨b, _ | ⟨c, _ | ⟨d, l⟩⟩⟩⟩ <;> simp at h
  exact ⟨a, b, c, rfl⟩
theorem open_rat {fuel : Nat} {cs : List Value} {x : DataW H × List MemPlace} (h : DataW.trod enc Try.prog w base spare held fuel 34 cs = some x) : ∃ (r : Raw) (n d : Value), cs = [.bool r.m, n, d] ∧ NatAt (viewW w) n r.nd ∧ NatAt (viewW w) d r.dd := by
  obtain ⟨xs, m, _, _, hl, hxl, hf⟩ := DataW.trod_struct und_rat h
  rw [cells_rat] at hl
  have hsz : ratFields.size = 3 := by
    have := congrArg List.length ratFields_map
    simpa using this
  obtain ⟨c0, c1, c2, rfl⟩ := three_of hl
  obtain ⟨f0, a0, t0, o0⟩ := ratField 0 _ _ rfl
  obtain ⟨f1, a1, t1, o1⟩ := ratField 1 _ _ rfl
  obtain ⟨f2, a2, t2, o2⟩ := ratField 2 _ _ rfl
  have h0 := hf 0 f0 a0
  have h1 := hf 1 f1 a1
  have h2 := hf 2 f2 a2
  rw [t0, o0, cells_bool, List.getElem?_eq_getElem (by omega)] at h0
  rw [t1, o1, cells_nat, List.getElem?_eq_getElem (by omega)] at h1
  rw [t2, o2, cells_nat, List.getElem?_eq_getElem (by omega)] at h2
  obtain ⟨b, e, _⟩ := DataW.trod_bool und_bool h0
  have e' : c0 = .bool b := by simpa using e
  subst e'
  obtain ⟨ds, hn⟩ := open_nat h1
  obtain ⟨es, hd⟩ := open_nat h2
  exact ⟨⟨b, ds, es⟩, c1, c2, rfl, hn, hd⟩
theorem choose_list {α : Type} {Q : Nat → α → Prop} : ∀ n, (∀ i, i < n → ∃ x, Q i x) → ∃ xs : List α, xs.length = n ∧ ∀ i x, xs[i]? = some x → Q i x
  | 0, _ => ⟨[], rfl, fun i x h => by simp at h⟩
  | n + 1, h => by
    obtain ⟨xs, hl, hq⟩ := choose_list n fun i hi => h i (by omega)
    obtain ⟨x, hx⟩ := h n (by omega)
    refine ⟨xs ++ [x], by simp [hl], fun i y hi => ?_⟩
    by_cases hlt : i < n
    · rw [List.getElem?_append_left (by omega)] at hi; exact hq i y hi
    · rw [List.getElem?_append_right (by omega)] at hi
      have : i = n := by
        rcases Nat.eq_zero_or_pos (i - xs.length) with h0 | h0
        · omega
        · rw [List.getElem?_eq_none (by simp; omega)] at hi; cases hi
      subst this
      rw [hl, Nat.sub_self] at hi
      simp at hi
      subst hi; exact hx
theorem open_raws {t fuel : Nat} {v : Value} {x : DataW H × List MemPlace} (ht : elemT Try.prog t = some 34) (h : DataW.trod enc Try.prog w base spare held fuel t [v] = some x) : ∃ l, Raws (viewW w) v l := by
  rcases Go.Deep.open_slice (und_elem ht) h with ⟨hcs, _⟩ | ⟨a, len, cap, m, n, D, Pl, hcs, _, hl, hm, hmm, _, hel⟩
  · cases hcs; exact ⟨[], SlAt.nil _⟩
  · cases hcs
    have hlm : len ≤ m := by rw [hmm]; split <;> omega
    have key : ∀ i, i < len → ∃ r : Raw, ∃ n d : Value, w.cell? (a.add (i * 3)) = some (.bool r.m) ∧ w.cell? (a.add (i * 3 + 1)) = some n ∧ w.cell? (a.add (i * 3 + 2)) = some d ∧ NatAt (viewW w) n r.nd ∧ NatAt (viewW w) d r.dd := fun i hi => by
      obtain ⟨cs', h1, h2⟩ := hel i (by omega)
      obtain ⟨r, n', d, rfl, k1, k2⟩ := open_rat h2
      rw [cells_rat] at h1
      obtain ⟨_, _, h3⟩ := World.cells?_some h1
      have g0 := h3 0 (by omega)
      have g1 := h3 1 (by omega)
      have g2 := h3 2 (by omega)
      rw [Go.Deep.add_add] at g0 g1 g2
      exact ⟨r, n', d, g0, g1, g2, k1, k2⟩
    obtain ⟨l, hll, hq⟩ := choose_list len key
    refine ⟨l, some a, cap, by rw [hll], by omega, by unfold maxLen at hm; omega, ?_⟩
    rcases Nat.eq_zero_or_pos len with h0 | h0
    · exact .inl (List.length_eq_zero_iff.1 (by omega))
    · obtain ⟨nn, dd, g0, _⟩ := hq 0 l[0] (List.getElem?_eq_getElem (by omega))
      have e0 : a.add (0 * 3) = a := by simp [Addr.add]
      rw [e0] at g0
      obtain ⟨hs, arr, ty, fr, hb, _⟩ := cell_view g0
      refine .inr ⟨a.block, a.off, arr, ty, fr, by rw [← addr_eta a hs], hb, fun i x hi => ?_⟩
      obtain ⟨n', d, g0, g1, g2, k1, k2⟩ := hq i x hi
      have at_ : ∀ k v, w.cell? (a.add k) = some v → arr[a.off + k]? = some v := fun k v hk => by
        obtain ⟨_, arr', ty', fr', hb', hv⟩ := cell_view hk
        obtain ⟨e1, e2⟩ := add_off a k
        rw [e1, hb] at hb'
        cases hb'
        rw [e2] at hv; exact hv
      exact ⟨.bool x.m, n', d, at_ _ _ g0, at_ _ _ g1, at_ _ _ g2, rfl, k1.one, k2.one, n', d, rfl, k1, k2⟩
end
end Go.Proofs.Ythoboehbadmlmaa
end
section
namespace Go.Proofs.Ythoboehbadmlmaa
def Sm (f : Nat → Rat) : Nat → Rat
  | 0 => 0
  | n + 1 => Sm f n + f n
theorem Sm_congr {f g : Nat → Rat} : ∀ (n : Nat), (∀ j, j < n → f j = g j) → Sm f n = Sm g n
  | 0, _ => rfl
  | n + 1, h => by
    have := Sm_congr n (fun j hj => h j (by omega))
    simp only [Sm, this, h n (by omega)]
theorem Sm_zero {f : Nat → Rat} (n : Nat) (h : ∀ j, j < n → f j = 0) : Sm f n = 0 := by
  induction n with
  | zero => rfl
  | succ n ih =>
    simp only [Sm, ih fun j hj => h j (by omega), h n (by omega)]
    grind
theorem Sm_add (f g : Nat → Rat) (n : Nat) : Sm (fun j => f j + g j) n = Sm f n + Sm g n := by
  induction n with
  | zero => simp only [Sm]; grind
  | succ n ih => simp only [Sm, ih]; grind
theorem Sm_mul (c : Rat) (f : Nat → Rat) (n : Nat) : Sm (fun j => c * f j) n = c * Sm f n := by
  induction n with
  | zero => simp only [Sm]; grind
  | succ n ih => simp only [Sm, ih]; grind
theorem Sm_front (f : Nat → Rat) (n : Nat) : Sm f (n + 1) = f 0 + Sm (fun j => f (j + 1)) n := by
  induction n with
  | zero => simp only [Sm]; grind
  | succ n ih =>
    have e : Sm f (n + 1 + 1) = Sm f (n + 1) + f (n + 1) := rfl
    rw [e, ih]; simp only [Sm]; grind
theorem Sm_rev (f : Nat → Rat) (n : Nat) : Sm (fun j => f (n - 1 - j)) n = Sm f n := by
  induction n with
  | zero => rfl
  | succ n ih =>
    rw [Sm_front]
    have h : Sm (fun j => f (n + 1 - 1 - (j + 1))) n = Sm (fun j => f (n - 1 - j)) n := Sm_congr n fun j hj => by congr 1; omega
    rw [h, ih]
    simp only [Sm, Nat.add_sub_cancel, Nat.sub_zero]; grind
theorem Sm_one {f : Nat → Rat} {n k : Nat} (hk : k < n) (h : ∀ j, j < n → j ≠ k → f j = 0) : Sm f n = f k := by
  induction n with
  | zero => omega
  | succ n ih =>
    by_cases hn : k = n
    · subst hn
      simp only [Sm, Sm_zero k fun j hj => h j (by omega) (by omega)]; grind
    · simp only [Sm, ih (by omega) fun j hj => h j (by omega), h n (by omega) (by omega)]; grind
theorem Sm_more {f : Nat → Rat} {n m : Nat} (hn : n ≤ m) (h : ∀ j, n ≤ j → j < m → f j = 0) : Sm f m = Sm f n := by
  induction m with
  | zero => rw [show n = 0 by omega]
  | succ m ih =>
    by_cases hm : n = m + 1
    · rw [hm]
    · simp only [Sm, ih (by omega) fun j h1 h2 => h j h1 (by omega), h m (by omega) (by omega)]; grind
theorem Sm_tri (F : Nat → Nat → Rat) (n : Nat) : Sm (fun i => Sm (F i) (i + 1)) n = Sm (fun j => Sm (fun k => F (j + k) j) (n - j)) n := by
  induction n with
  | zero => rfl
  | succ n ih =>
    have e : Sm (fun i => Sm (F i) (i + 1)) (n + 1) = Sm (fun i => Sm (F i) (i + 1)) n + Sm (F n) (n + 1) := rfl
    have h : Sm (fun j => Sm (fun k => F (j + k) j) (n + 1 - j)) (n + 1) = Sm (fun j => Sm (fun k => F (j + k) j) (n - j) + F n j) (n + 1) := Sm_congr _ fun j hj => by
      have hs : n + 1 - j = (n - j) + 1 := by omega
      have hn : j + (n - j) = n := by omega
      rw [hs]; simp only [Sm, hn]
    have h2 : Sm (fun j => Sm (fun k => F (j + k) j) (n - j)) (n + 1) = Sm (fun j => Sm (fun k => F (j + k) j) (n - j)) n := by
      simp only [Sm, Nat.sub_self]; grind
    rw [e, ih, h, Sm_add, h2]
/-- the product of two series -/
def cv (f g : Nat → Rat) (n : Nat) : Rat := Sm (fun j => f j * g (n - j)) (n + 1)
def un (i : Nat) : Rat := if i = 0 then 1 else 0
def mon (t : Rat) (k i : Nat) : Rat := if i = k then t else 0
theorem cv_comm (f g : Nat → Rat) : cv f g = cv g f := by
  funext n
  unfold cv
  rw [← Sm_rev]
  refine Sm_congr _ fun j hj => ?_
  have h1 : n + 1 - 1 - j = n - j := by omega
  have h2 : n - (n + 1 - 1 - j) = j := by omega
  simp only [h1, show n - (n - j) = j by omega]; grind
theorem cv_assoc (f g h : Nat → Rat) : cv (cv f g) h = cv f (cv g h) := by
  funext n
  unfold cv
  have e1 : Sm (fun i => Sm (fun j => f j * g (i - j)) (i + 1) * h (n - i)) (n + 1) = Sm (fun i => Sm (fun j => f j * g (i - j) * h (n - i)) (i + 1)) (n + 1) := Sm_congr _ fun i _ => by
    rw [show Sm (fun j => f j * g (i - j)) (i + 1) * h (n - i) = h (n - i) * Sm (fun j => f j * g (i - j)) (i + 1) by grind, ← Sm_mul]
    exact Sm_congr _ fun j _ => by grind
  rw [e1, Sm_tri (fun i j => f j * g (i - j) * h (n - i))]
  refine Sm_congr _ fun j hj => ?_
  rw [← Sm_mul, show n + 1 - j = n - j + 1 by omega]
  refine Sm_congr _ fun k hk => ?_
  rw [show j + k - j = k by omega, show n - (j + k) = n - j - k by omega]; grind
theorem cv_add (f g h : Nat → Rat) : cv f (fun i => g i + h i) = fun n => cv f g n + cv f h n := by
  funext n
  unfold cv
  rw [← Sm_add]
  exact Sm_congr _ fun j _ => by grind
theorem cv_smul (c : Rat) (f g : Nat → Rat) : cv f (fun i => c * g i) = fun n => c * cv f g n := by
  funext n
  unfold cv
  rw [← Sm_mul]
  exact Sm_congr _ fun j _ => by grind
theorem cv_sub (f g h : Nat → Rat) : cv f (fun i => g i - h i) = fun n => cv f g n - cv f h n := by
  have e : (fun i => g i - h i) = fun i => g i + (-1) * h i := by funext i; grind
  rw [e, cv_add, cv_smul]; funext n; grind
theorem cv_mon (f : Nat → Rat) (t : Rat) (k n : Nat) : cv f (mon t k) n = if k ≤ n then t * f (n - k) else 0 := by
  unfold cv mon
  by_cases h : k ≤ n
  · rw [if_pos h, Sm_one (k := n - k) (by omega) fun j hj hne => by rw [if_neg (by omega)]; grind]
    rw [if_pos (by omega)]; grind
  · rw [if_neg h]
    exact Sm_zero _ fun j hj => by rw [if_neg (by omega)]; grind
theorem cv_un (f : Nat → Rat) : cv f un = f := by
  funext n
  have e : un = mon 1 0 := rfl
  rw [e, cv_mon, if_pos (by omega)]; simp only [Nat.sub_zero]; grind
theorem cv_zero (f : Nat → Rat) : cv f (fun _ => 0) = fun _ => 0 := by
  funext n
  exact Sm_zero _ fun j _ => by grind
theorem meet_cv (p q : List Rat) (i : Nat) : meet p q i (i + 1) = cv (cf p) (cf q) i := by
  have key : ∀ k, k ≤ i + 1 → meet p q i k = Sm (fun j => cf p j * cf q (i - j)) k := by
    intro k
    induction k with
    | zero => intro _; rfl
    | succ k ih =>
      intro hk
      simp only [meet, Sm, ih (by omega), if_pos (show k ≤ i by omega)]
  exact key _ (Nat.le_refl _)
theorem mulP_cv (p q : List Rat) : cf (mulP p q) = cv (cf p) (cf q) := by
  funext i
  rw [cf_mulP, meet_all, meet_cv]
end Go.Proofs.Ythoboehbadmlmaa
end
section
namespace Go.Proofs.Ythoboehbadmlmaa
theorem cf_nil : cf [] = fun _ => 0 := by funext i; exact cf_none (by simp)
theorem cf_un : cf [1] = un := by funext i; rw [cf_one]; rfl
theorem pAdd_cv (p q : List Rat) (c : Rat) (up i : Nat) : cf (pAdd p q c up) i = cf p i + cv (cf q) (mon c up) i := by
  rw [cf_pAdd, cv_mon]
  unfold pAt
  split
  · grind
  · rfl
theorem pAdd_one (p : List Rat) (c : Rat) (up i : Nat) : cf (pAdd p [1] c up) i = cf p i + mon c up i := by
  rw [pAdd_cv, cf_un, cv_comm, cv_un]
theorem pAdd_0 (p q : List Rat) (c : Rat) (i : Nat) : cf (pAdd p q c 0) i = cf p i + c * cf q i := by
  rw [pAdd_cv, cv_mon, if_pos (by omega), Nat.sub_zero]
theorem mon_neg (t : Rat) (k : Nat) : mon (-t) k = fun i => -1 * mon t k i := by
  funext i; unfold mon; split <;> grind
theorem part_law (q : List Rat) : ∀ (n : Nat) (quo rest : List Rat) (i : Nat), cv (cf q) (cf (partF q n quo rest).1) i + cf (partF q n quo rest).2 i = cv (cf q) (cf quo) i + cf rest i := by
  intro n
  induction n with
  | zero => intro quo rest i; rfl
  | succ n ih =>
    intro quo rest i
    rw [partF]
    split
    · rw [ih]
      have e1 : cf (pAdd quo [1] (topQ rest q) (rest.length - q.length)) = fun i => cf quo i + mon (topQ rest q) (rest.length - q.length) i := by funext j; exact pAdd_one _ _ _ _
      rw [e1, cv_add, pAdd_cv, mon_neg, cv_smul]
      grind
    · rfl
theorem partP_law (p q : List Rat) (i : Nat) : cv (cf q) (cf (partP p q).1) i + cf (partP p q).2 i = cf p i := by
  unfold partP
  rw [part_law, cf_nil, cv_zero, cf_trimQ]; grind
/-- what Add (Mul q a) r hands back, is p -/
theorem part_back {p q : List Rat} (hp : PolQ p) : pAdd (mulP q (partP p q).1) (partP p q).2 1 0 = p := by
  refine PolQ.ext (pAdd_pol _ _ _ _) hp fun i => ?_
  rw [pAdd_0, mulP_cv]
  have := partP_law p q i
  grind
def Dv (d p : List Rat) : Prop := ∃ s : List Rat, cf p = cv (cf d) (cf s)
theorem PolQ_nil : PolQ [] := fun h => by simp at h
theorem top_cv {d t : List Rat} (h0 : 0 < d.length) (h1 : 0 < t.length) : cv (cf d) (cf t) (d.length - 1 + (t.length - 1)) = cf d (d.length - 1) * cf t (t.length - 1) := by
  unfold cv
  rw [Sm_one (k := d.length - 1) (by omega)]
  · rw [Nat.add_sub_cancel_left]
  · intro j hj hne
    rcases Nat.lt_or_ge j (d.length - 1) with h | h
    · rw [cf_none (l := t) (by omega)]; grind
    · rw [cf_none (l := d) (by omega)]; grind
theorem rat_mul_ne {a b : Rat} (ha : a ≠ 0) (hb : b ≠ 0) : a * b ≠ 0 := fun h => by
  rcases Rat.mul_eq_zero.1 h with h | h
  · exact ha h
  · exact hb h
theorem part_dv {p d : List Rat} (hd : PolQ d) (h0 : 0 < d.length) (h : Dv d p) : (partP p d).2 = [] := by
  obtain ⟨s, hs⟩ := h
  obtain ⟨hl, hr⟩ := partP_rest (p := p) hd h0
  have key : ∀ i, cf (partP p d).2 i = cv (cf d) (cf (pAdd s (partP p d).1 (-1) 0)) i := fun i => by
    have e : cf (pAdd s (partP p d).1 (-1) 0) = fun i => cf s i - cf (partP p d).1 i := by
      funext i; rw [pAdd_0]; grind
    have := partP_law p d i
    rw [e, cv_sub, ← hs]
    grind
  by_cases ht : 0 < (pAdd s (partP p d).1 (-1) 0).length
  · have h1 := key (d.length - 1 + ((pAdd s (partP p d).1 (-1) 0).length - 1))
    rw [top_cv h0 ht, cf_none (by omega)] at h1
    exact absurd h1.symm (rat_mul_ne (hd h0) (pAdd_pol _ _ _ _ ht))
  · have e : pAdd s (partP p d).1 (-1) 0 = [] := List.length_eq_zero_iff.1 (by omega)
    refine PolQ.ext hr PolQ_nil fun i => ?_
    rw [key, e, cf_nil, cv_zero]
theorem Dv.refl (p : List Rat) : Dv p p := ⟨[1], by rw [cf_un, cv_un]⟩
theorem Dv.nil (p : List Rat) : Dv p [] := ⟨[], by rw [cf_nil, cv_zero]⟩
theorem Dv.comb {g p q r a : List Rat} (hq : Dv g q) (hr : Dv g r) (h : ∀ i, cv (cf q) (cf a) i + cf r i = cf p i) : Dv g p := by
  obtain ⟨s, hs⟩ := hq
  obtain ⟨t, ht⟩ := hr
  refine ⟨pAdd (mulP s a) t 1 0, ?_⟩
  have e : cf (pAdd (mulP s a) t 1 0) = fun i => cv (cf s) (cf a) i + cf t i := by
    funext i; rw [pAdd_0, mulP_cv]; grind
  funext i
  rw [e, cv_add, ← cv_assoc, ← hs, ← ht]
  exact (h i).symm
theorem comR_dv : ∀ (n : Nat) (p q : List Rat), PolQ p → PolQ q → q.length < n → Dv (comR n p q) p ∧ Dv (comR n p q) q ∧ PolQ (comR n p q) ∧ (0 < p.length ∨ 0 < q.length → 0 < (comR n p q).length) := by
  intro n
  induction n with
  | zero => intro p q _ _ h; omega
  | succ n ih =>
    intro p q hp hq hn
    rw [comR]
    split
    · rename_i h0
      obtain ⟨hl, hr⟩ := partP_rest (p := p) hq h0
      obtain ⟨h1, h2, h3, h4⟩ := ih q (partP p q).2 hq hr (by omega)
      exact ⟨h1.comb h2 (partP_law p q), h1, h3, fun _ => h4 (.inl h0)⟩
    · rename_i h0
      have e : q = [] := List.length_eq_zero_iff.1 (by omega)
      subst e
      exact ⟨Dv.refl p, Dv.nil p, hp, fun h => by simpa using h⟩
theorem Dv.scaled {d p : List Rat} (hd : PolQ d) (h0 : 0 < d.length) (h : Dv d p) : Dv (scaledP d) p := by
  obtain ⟨s, hs⟩ := h
  refine ⟨pAdd [] s (cf d (d.length - 1)) 0, ?_⟩
  have hne := hd h0
  have e1 : cf (pAdd [] s (cf d (d.length - 1)) 0) = fun i => cf d (d.length - 1) * cf s i := by
    funext i; rw [pAdd_0, cf_nil]; grind
  have e2 : cf (scaledP d) = fun i => (1 / cf d (d.length - 1)) * cf d i := by
    funext i; rw [cf_scaledP]; grind
  rw [e1, e2, cv_smul, cv_comm, cv_smul, hs, cv_comm]
  funext i
  grind
theorem comRP_dv {p q : List Rat} (hp : PolQ p) (hq : PolQ q) (h0 : 0 < p.length ∨ 0 < q.length) : Dv (comRP p q) p ∧ Dv (comRP p q) q ∧ PolQ (comRP p q) ∧ 0 < (comRP p q).length ∧ cf (comRP p q) ((comRP p q).length - 1) = 1 := by
  obtain ⟨h1, h2, h3, h4⟩ := comR_dv (q.length + 1) p q hp hq (by omega)
  have h5 := h4 h0
  unfold comRP
  exact ⟨h1.scaled h3 h5, h2.scaled h3 h5, scaledP_pol _, by rw [scaledP_len h3]; exact h5, scaledP_last h3 h5⟩
theorem comRP_mul {p q : List Rat} (hq : PolQ q) (h0 : 0 < q.length) (h : Dv q p) : comRP p q = scaledP q := by
  unfold comRP
  rw [comR, if_pos h0, part_dv hq h0 h]
  cases hn : q.length with
  | zero => omega
  | succ n => rw [comR, if_neg (by simp)]
theorem mulP_dv (p q : List Rat) : Dv q (mulP p q) := ⟨p, by rw [mulP_cv, cv_comm]⟩
theorem scaled_dv (q : List Rat) : Dv q (scaledP q) := by
  refine ⟨pAdd [] [1] (1 / cf q (q.length - 1)) 0, ?_⟩
  have e : cf (pAdd [] [1] (1 / cf q (q.length - 1)) 0) = fun i => (1 / cf q (q.length - 1)) * un i := by
    funext i; rw [pAdd_0, cf_nil, cf_un]; grind
  rw [e, cv_smul, cv_un]
  funext i
  rw [cf_scaledP]; grind
end Go.Proofs.Ythoboehbadmlmaa
end
section
namespace Go.Proofs.Ythoboehbadmlmaa
theorem partF_CB {B : Nat} {q : List Rat} (hq : 0 < q.length) (hl : cf q (q.length - 1) ≠ 0) (hB : CB B q) : ∀ (n k N : Nat) (quo rest : List Rat), rest.length + 1 ≤ q.length + k → CB N quo → CB N rest → PolQ rest →
    CB (2 ^ k * (N + 2 * B + 2)) (partF q n quo rest).1 ∧ CB (2 ^ k * (N + 2 * B + 2)) (partF q n quo rest).2 := by
  intro n
  induction n with
  | zero =>
    intro k N quo rest _ h1 h2 _
    have := Nat.le_mul_of_pos_left (N + 2 * B + 2) (two_pos k)
    exact ⟨h1.mono (by omega), h2.mono (by omega)⟩
  | succ n ih =>
    intro k N quo rest hk h1 h2 hp
    rw [partF]
    split
    · rename_i hle
      cases k with
      | zero => omega
      | succ k =>
        have ht : QB (N + B) (topQ rest q) := (h2.at _).div (hB.at _)
        have hlt := div_less hq hl hle
        have a1 : CB (2 * N + 2 * B + 1) (pAdd quo [1] (topQ rest q) (rest.length - q.length)) := (CB.padd h1 (CB_one (QB_one 0)) ht _).mono (by omega)
        have a2 : CB (2 * N + 2 * B + 1) (pAdd rest q (-topQ rest q) (rest.length - q.length)) := (CB.padd h2 hB ht.neg _).mono (by omega)
        obtain ⟨c1, c2⟩ := ih k _ _ _ (by omega) a1 a2 (pAdd_pol _ _ _ _)
        have hm : 2 ^ k * (2 * N + 2 * B + 1 + 2 * B + 2) ≤ 2 ^ (k + 1) * (N + 2 * B + 2) := by
          rw [Nat.pow_succ, Nat.mul_assoc]
          exact Nat.mul_le_mul_left _ (by omega)
        exact ⟨c1.mono hm, c2.mono hm⟩
    · have := Nat.le_mul_of_pos_left (N + 2 * B + 2) (two_pos k)
      exact ⟨h1.mono (by omega), h2.mono (by omega)⟩
theorem partP_CB {A B : Nat} {p q : List Rat} (hq : 0 < q.length) (hl : cf q (q.length - 1) ≠ 0) (hA : CB A p) (hB : CB B q) (hp : PolQ p) {k : Nat} (hk : p.length + 1 ≤ q.length + k) :
    CB (2 ^ k * (A + 2 * B + 2)) (partP p q).1 ∧ CB (2 ^ k * (A + 2 * B + 2)) (partP p q).2 := by
  unfold partP
  rw [hp.trim]
  exact partF_CB hq hl hB _ k A [] p hk (CB_nil _) hA hp
theorem partF_len (q : List Rat) (hq : 0 < q.length) (hl : cf q (q.length - 1) ≠ 0) : ∀ (n m : Nat) (quo rest : List Rat), quo.length ≤ m → rest.length ≤ m → (partF q n quo rest).1.length ≤ m := by
  intro n
  induction n with
  | zero => intro m quo rest h1 _; exact h1
  | succ n ih =>
    intro m quo rest h1 h2
    rw [partF]
    split
    · rename_i hle
      have := div_less hq hl hle
      have h3 := pAdd_len quo [1] (topQ rest q) (rest.length - q.length)
      simp only [List.length_cons, List.length_nil] at h3
      exact ih _ _ _ (by omega) (by omega)
    · exact h1
theorem partP_len {p q : List Rat} (hq : 0 < q.length) (hl : cf q (q.length - 1) ≠ 0) : (partP p q).1.length ≤ p.length := by
  have := trimQ_len p
  exact partF_len q hq hl _ _ _ _ (by simp) (by omega)
theorem partF_pol (q : List Rat) : ∀ (n : Nat) (quo rest : List Rat), PolQ quo → PolQ (partF q n quo rest).1 := by
  intro n
  induction n with
  | zero => intro quo rest h; exact h
  | succ n ih =>
    intro quo rest h
    rw [partF]
    split
    · exact ih _ _ (pAdd_pol _ _ _ _)
    · exact h
theorem partP_pol (p q : List Rat) : PolQ (partP p q).1 := partF_pol q _ _ _ PolQ_nil
theorem mulP_len (p q : List Rat) : (mulP p q).length ≤ p.length + q.length - 1 := by
  rw [mul_prod]
  unfold prodP
  refine Nat.le_trans (trimQ_len _) ?_
  rw [mk_len]; exact Nat.le_refl _
theorem mulP_CB {A B : Nat} {p q : List Rat} (hp : CB A p) (hq : CB B q) : CB (p.length * (A + B + 1)) (mulP p q) := mulI_CB hp hq _
theorem comR_len : ∀ (n : Nat) (p q : List Rat), PolQ q → (comR n p q).length ≤ max p.length q.length := by
  intro n
  induction n with
  | zero => intro p q _; exact Nat.le_max_left _ _
  | succ n ih =>
    intro p q hq
    rw [comR]
    split
    · rename_i h0
      obtain ⟨hl, hr⟩ := partP_rest (p := p) hq h0
      have := ih q (partP p q).2 hr
      omega
    · exact Nat.le_max_left _ _
theorem scaledP_le (p : List Rat) : (scaledP p).length ≤ p.length := by
  have := pAdd_len [] p (1 / cf p (p.length - 1)) 0
  simp only [List.length_nil, Nat.zero_max, Nat.add_zero] at this
  exact this
theorem comRP_len (p : List Rat) {q : List Rat} (hq : PolQ q) : (comRP p q).length ≤ max p.length q.length := Nat.le_trans (scaledP_le _) (comR_len _ p q hq)
end Go.Proofs.Ythoboehbadmlmaa
end
section
namespace Go.Proofs.Ythoboehbadmlmaa
open Go Go.RowKit
set_option linter.unusedSimpArgs false
set_option linter.unusedVariables false
attribute [local irreducible] XWP Spec SpecO XPub XCall seqX clX apX stX ldX iaX slX
theorem right_toRaw {l : List Rat} (h : PolQ l) (hl : l.length ≤ 500) : rightP (l.map toRaw) = true := by
  unfold rightP
  rw [okR_toRaw, qs_toRaw, (polB_iff l).2 h, List.length_map, decide_eq_true (by omega)]; rfl
theorem bad_toRaw {p q : List Rat} (hp : PolQ p) (hq : PolQ q) (lp : p.length ≤ 500) (lq : q.length ≤ 500) : bad2 (p.map toRaw) (q.map toRaw) = false := by
  unfold bad2
  rw [right_toRaw hp lp, right_toRaw hq lq]; rfl
theorem CB.fitR {A : Nat} {l : List Rat} (h : CB A l) (hA : A ≤ 17592186044416) : fitR (l.map toRaw) := fitR_toRaw (h.qf hA)
theorem divq_c (V : View) (v u : Value) (p q : List Rat) (A B : Nat) (hv : Rats V v p) (hu : Rats V u q) (hp : PolQ p) (hq : PolQ q) (h0 : 0 < q.length) (hA : CB A p) (hB : CB B q) (lp : p.length ≤ 500) (lq : q.length ≤ 500) (hfit : 2 ^ (p.length - q.length + 1) * (A + 2 * B + 2) ≤ 17592186044416) :
    Spec Try.prog 21 [v, u] V fun v' V' => ∃ wq wr, v' = .tuple #[wq, wr, .int .i64 0] ∧ Rats V' wq (partP p q).1 ∧ Rats V' wr (partP p q).2 := by
  have hle := Nat.le_trans (Nat.le_mul_of_pos_left (A + 2 * B + 2) (two_pos (p.length - q.length + 1))) hfit
  have lp' : (p.map toRaw).length = p.length := List.length_map _
  have lq' : (q.map toRaw).length = q.length := List.length_map _
  refine (cDiv_c V v u (p.map toRaw) (q.map toRaw) (Rats.raws hv) (Rats.raws hu) (hA.fitR (by omega)) (hB.fitR (by omega)) (by omega) (by omega) A B (fun _ => by rw [qs_toRaw, qs_toRaw]; exact ⟨hA, hB⟩) (by rw [lp', lq']; exact hfit)).mono fun v' V' _ h => ?_
  obtain ⟨wq, wr, e, h1, h2, _⟩ := h.2.2 (bad_toRaw hp hq lp lq) (by omega)
  rw [qs_toRaw, qs_toRaw, div_part h0 (hq h0)] at h1 h2
  exact ⟨wq, wr, e, h1, h2⟩
theorem mulq_c (V : View) (v u : Value) (p q : List Rat) (A B : Nat) (hv : Rats V v p) (hu : Rats V u q) (hp : PolQ p) (hq : PolQ q) (hA : CB A p) (hB : CB B q) (lp : p.length ≤ 500) (lq : q.length ≤ 500) (hfit : p.length * (A + B + 1) + A + B + 2 ≤ 17592186044416) :
    Spec Try.prog 28 [v, u] V fun v' V' => ∃ w, v' = .tuple #[w, .int .i64 0] ∧ Rats V' w (mulP p q) := by
  have lp' : (p.map toRaw).length = p.length := List.length_map _
  have lq' : (q.map toRaw).length = q.length := List.length_map _
  refine (cMul_c V v u (p.map toRaw) (q.map toRaw) (Rats.raws hv) (Rats.raws hu) (hA.fitR (by omega)) (hB.fitR (by omega)) (by omega) (by omega) A B (fun _ => by rw [qs_toRaw, qs_toRaw]; exact ⟨hA, hB⟩) (by rw [lp']; exact hfit)).mono fun v' V' _ h => ?_
  obtain ⟨w, e, h1⟩ := h.2 (bad_toRaw hp hq lp lq)
  rw [qs_toRaw, qs_toRaw] at h1
  exact ⟨w, e, h1⟩
theorem addq_c (V : View) (v u : Value) (p q : List Rat) (A B : Nat) (hv : Rats V v p) (hu : Rats V u q) (hp : PolQ p) (hq : PolQ q) (hA : CB A p) (hB : CB B q) (lp : p.length ≤ 500) (lq : q.length ≤ 500) (hfit : A + B + 2 ≤ 17592186044416) :
    Spec Try.prog 26 [v, u] V fun v' V' => ∃ w, v' = .tuple #[w, .int .i64 0] ∧ Rats V' w (pAdd p q 1 0) := by
  have lp' : (p.map toRaw).length = p.length := List.length_map _
  have lq' : (q.map toRaw).length = q.length := List.length_map _
  refine (cAdd_c V v u (p.map toRaw) (q.map toRaw) (Rats.raws hv) (Rats.raws hu) (hA.fitR (by omega)) (hB.fitR (by omega)) (by omega) (by omega) A B (fun _ => by rw [qs_toRaw, qs_toRaw]; exact ⟨hA, hB⟩) hfit).mono fun v' V' _ h => ?_
  obtain ⟨w, e, h1⟩ := h.2 (bad_toRaw hp hq lp lq)
  rw [qs_toRaw, qs_toRaw] at h1
  exact ⟨w, e, h1⟩
theorem comq_c (V : View) (v u : Value) (p q : List Rat) (M : Nat) (hv : Rats V v p) (hu : Rats V u q) (hp : PolQ p) (hq : PolQ q) (h0 : 0 < q.length) (hA : CB M p) (hB : CB M q) (lp : p.length ≤ 500) (lq : q.length ≤ 500) (hfit : comFit p.length q.length M) (hM : 2 * (M + 1) ≤ 17592186044416) :
    Spec Try.prog 23 [v, u] V fun v' V' => ∃ w, v' = .tuple #[w, .int .i64 0] ∧ Rats V' w (comRP p q) ∧ CB (gb M q.length (max p.length q.length + q.length)) (comRP p q) := by
  have lp' : (p.map toRaw).length = p.length := List.length_map _
  have lq' : (q.map toRaw).length = q.length := List.length_map _
  refine (cCommon_c V v u (p.map toRaw) (q.map toRaw) (Rats.raws hv) (Rats.raws hu) (hA.fitR (by omega)) (hB.fitR (by omega)) (by omega) (by omega) M (fun _ => by rw [qs_toRaw, qs_toRaw]; exact ⟨hA, hB⟩) (by rw [lp', lq']; exact hfit) hM).mono fun v' V' _ h => ?_
  obtain ⟨w, e, h1, h2⟩ := h.2.2 (bad_toRaw hp hq lp lq) (by omega)
  rw [qs_toRaw, qs_toRaw, comP_same hq] at h1 h2
  rw [lp', lq'] at h2
  exact ⟨w, e, h1, h2⟩
theorem gb6 {a b : Nat} (ha : a ≤ 6) (hb : b ≤ 6) : gb 576 b (max a b + b) ≤ 36928000000 := by
  have h1 : gb 576 b (max a b + b) ≤ gb 576 6 12 := gb_mono hb (by omega)
  have h2 : gb 576 6 12 = 36928000000 := by decide
  omega
theorem comFit11 {a b : Nat} (ha : a ≤ 11) (hb : b ≤ 6) : comFit a b 6918 := by
  unfold comFit
  have h1 : gb 6918 b (max a b + b) ≤ gb 6918 6 17 := gb_mono hb (by omega)
  have h2 : gb 6918 6 17 ≤ 17592186044416 := by decide
  omega
theorem pow6 {a b : Nat} (X : Nat) (ha : a ≤ 6) (hb : 0 < b) : 2 ^ (a - b + 1) * X ≤ 64 * X := Nat.mul_le_mul_right _ (by
  have : 2 ^ (a - b + 1) ≤ 2 ^ 6 := two_mono (by omega)
  omega)
theorem back_c (V : View) (v u : Value) (P0 Q0 : List Raw) (hv : Raws V v P0) (hu : Raws V u Q0) : Spec Try.prog 8 [v, u] V fun v' V' => v' = .bool true := by
  refine (Spec.enter Try.func8 rfl fun Γ => ?_)
  simp only [Try.ntmps8, List.map_cons, List.map_nil, List.length_cons, List.length_nil, Nat.reduceAdd, Nat.reduceSub, List.replicate_succ, List.replicate_zero, List.cons_append, List.nil_append]
  first | refine XWP.reg (by kernel_rfl) fun K hK => ?_ | refine XWP.seq (XWP.reg (by kernel_rfl) fun K hK => ?_) | refine XWP.reg1 (by kernel_rfl) fun K hK => ?_
  simp only [XA, XB, gateX, Nat.reduceAdd, Nat.reduceLeDiff, Nat.reduceSub, Nat.reduceMul, ↓reduceIte, Int.reduceToNat, Int.reduceLE, beq_self_eq_true]
  refine hK _ ?_
  first | refine XWP.reg (by kernel_rfl) fun K hK => ?_ | refine XWP.seq (XWP.reg (by kernel_rfl) fun K hK => ?_) | refine XWP.reg1 (by kernel_rfl) fun K hK => ?_
  simp only [XA, XB, gateX, Nat.reduceAdd, Nat.reduceLeDiff, Nat.reduceSub, Nat.reduceMul, ↓reduceIte, Int.reduceToNat, Int.reduceLE, beq_self_eq_true]
  refine call_go (by kernel_rfl) rfl (lpoly_c _ _ P0 6 hv (by omega)) fun v1 V1 hV1 h1 => ?_
  simp only [XA, XB, gateX, Nat.reduceAdd, Nat.reduceLeDiff, Nat.reduceSub, Nat.reduceMul, ↓reduceIte, Int.reduceToNat, Int.reduceLE, beq_self_eq_true]
  refine call_go (by kernel_rfl) rfl (lpoly_c _ _ Q0 6 (hu.up hV1) (by omega)) fun v2 V2 hV2 h2 => ?_
  obtain ⟨P, hP, lP, fP⟩ := h1
  obtain ⟨Q, hQ, lQ, fQ⟩ := h2
  have hP := hP.up hV2
  have dP := Raws.dig hP
  have dQ := Raws.dig hQ
  obtain ⟨A1, c1, rfl, hc1, hm1⟩ := hP.form
  obtain ⟨A2, c2, rfl, hc2, hm2⟩ := hQ.form
  simp only [XA, XB, gateX, Nat.reduceAdd, Nat.reduceLeDiff, Nat.reduceSub, Nat.reduceMul, ↓reduceIte, Int.reduceToNat, Int.reduceLE, beq_self_eq_true]
  refine hK _ ?_
  refine XWP.seq ?_
  first | refine XWP.reg (by kernel_rfl) fun K hK => ?_ | refine XWP.seq (XWP.reg (by kernel_rfl) fun K hK => ?_) | refine XWP.reg1 (by kernel_rfl) fun K hK => ?_
  simp only [XA, XB, gateX, Nat.reduceAdd, Nat.reduceLeDiff, Nat.reduceSub, Nat.reduceMul, ↓reduceIte, Int.reduceToNat, Int.reduceLE, beq_self_eq_true]
  refine call_go (by kernel_rfl) rfl (dright_c _ _ _ hP fP.fit (by omega) (fun _ => fewR_qf fP dP)) fun v3 V3 hV3 h3 => ?_
  subst h3
  cases e1 : rightP P
  · simp only [XA, XB, gateX, Nat.reduceAdd, Nat.reduceLeDiff, Nat.reduceSub, Nat.reduceMul, ↓reduceIte, Int.reduceToNat, Int.reduceLE, beq_self_eq_true]
    refine hK _ ?_
    first | refine XWP.cond (t := true) rfl (fun _ => ?_) (fun h => by cases h) | refine XWP.seq (XWP.cond (t := true) rfl (fun _ => ?_) (fun h => by cases h))
    first | refine XWP.reg (by kernel_rfl) fun K hK => ?_ | refine XWP.seq (XWP.reg (by kernel_rfl) fun K hK => ?_) | refine XWP.reg1 (by kernel_rfl) fun K hK => ?_
    simp only [XA, XB, gateX, Nat.reduceAdd, Nat.reduceLeDiff, Nat.reduceSub, Nat.reduceMul, ↓reduceIte, Int.reduceToNat, Int.reduceLE, beq_self_eq_true]
    refine call_go (by kernel_rfl) rfl (alive_c _) fun v4 V4 hV4 h4 => ?_
    subst h4
    simp only [XA, XB, gateX, Nat.reduceAdd, Nat.reduceLeDiff, Nat.reduceSub, Nat.reduceMul, ↓reduceIte, Int.reduceToNat, Int.reduceLE, beq_self_eq_true]
    refine hK _ (XWP.ret ?_)
    try simp only [thenX_ret, inBlockX_ret]
    refine ret_go _ rfl ?_
    rfl
  simp only [XA, XB, gateX, Nat.reduceAdd, Nat.reduceLeDiff, Nat.reduceSub, Nat.reduceMul, ↓reduceIte, Int.reduceToNat, Int.reduceLE, beq_self_eq_true]
  refine call_go (by kernel_rfl) rfl (dright_c _ _ _ (hQ.up hV3) fQ.fit (by omega) (fun _ => fewR_qf fQ dQ)) fun v4 V4 hV4 h4 => ?_
  subst h4
  cases e2 : rightP Q
  · simp only [XA, XB, gateX, Nat.reduceAdd, Nat.reduceLeDiff, Nat.reduceSub, Nat.reduceMul, ↓reduceIte, Int.reduceToNat, Int.reduceLE, beq_self_eq_true]
    refine hK _ ?_
    first | refine XWP.cond (t := true) rfl (fun _ => ?_) (fun h => by cases h) | refine XWP.seq (XWP.cond (t := true) rfl (fun _ => ?_) (fun h => by cases h))
    first | refine XWP.reg (by kernel_rfl) fun K hK => ?_ | refine XWP.seq (XWP.reg (by kernel_rfl) fun K hK => ?_) | refine XWP.reg1 (by kernel_rfl) fun K hK => ?_
    simp only [XA, XB, gateX, Nat.reduceAdd, Nat.reduceLeDiff, Nat.reduceSub, Nat.reduceMul, ↓reduceIte, Int.reduceToNat, Int.reduceLE, beq_self_eq_true]
    refine call_go (by kernel_rfl) rfl (alive_c _) fun v5 V5 hV5 h5 => ?_
    subst h5
    simp only [XA, XB, gateX, Nat.reduceAdd, Nat.reduceLeDiff, Nat.reduceSub, Nat.reduceMul, ↓reduceIte, Int.reduceToNat, Int.reduceLE, beq_self_eq_true]
    refine hK _ (XWP.ret ?_)
    try simp only [thenX_ret, inBlockX_ret]
    refine ret_go _ rfl ?_
    rfl
  by_cases n0 : Q.length = 0
  · have b0 : decide ((Q.length : Int) = 0) = true := decide_eq_true (by omega)
    simp only [XA, XB, gateX, Nat.reduceAdd, Nat.reduceLeDiff, Nat.reduceSub, Nat.reduceMul, ↓reduceIte, Int.reduceToNat, Int.reduceLE, beq_self_eq_true, b0]
    refine hK _ ?_
    first | refine XWP.cond (t := true) rfl (fun _ => ?_) (fun h => by cases h) | refine XWP.seq (XWP.cond (t := true) rfl (fun _ => ?_) (fun h => by cases h))
    first | refine XWP.reg (by kernel_rfl) fun K hK => ?_ | refine XWP.seq (XWP.reg (by kernel_rfl) fun K hK => ?_) | refine XWP.reg1 (by kernel_rfl) fun K hK => ?_
    simp only [XA, XB, gateX, Nat.reduceAdd, Nat.reduceLeDiff, Nat.reduceSub, Nat.reduceMul, ↓reduceIte, Int.reduceToNat, Int.reduceLE, beq_self_eq_true]
    refine call_go (by kernel_rfl) rfl (alive_c _) fun v5 V5 hV5 h5 => ?_
    subst h5
    simp only [XA, XB, gateX, Nat.reduceAdd, Nat.reduceLeDiff, Nat.reduceSub, Nat.reduceMul, ↓reduceIte, Int.reduceToNat, Int.reduceLE, beq_self_eq_true]
    refine hK _ (XWP.ret ?_)
    try simp only [thenX_ret, inBlockX_ret]
    refine ret_go _ rfl ?_
    rfl
  have b0 : decide ((Q.length : Int) = 0) = false := decide_eq_false (by omega)
  simp only [XA, XB, gateX, Nat.reduceAdd, Nat.reduceLeDiff, Nat.reduceSub, Nat.reduceMul, ↓reduceIte, Int.reduceToNat, Int.reduceLE, beq_self_eq_true, b0]
  refine hK _ ?_
  first | refine XWP.cond (t := false) rfl (fun h => by cases h) (fun _ => ?_) | refine XWP.seq (XWP.cond (t := false) rfl (fun h => by cases h) (fun _ => ?_))
  refine XWP.skip ?_
  have hV4 := View.le_trans hV3 hV4
  obtain ⟨k1, k2, k3⟩ := rightP_parts e1
  obtain ⟨k4, k5, k6⟩ := rightP_parts e2
  have rp := (Raws.rats hP k1).up hV4
  have rq := (Raws.rats hQ k4).up hV4
  have aP : CB 576 (qs P) := (fewR_CB' fP dP lP).mono (by omega)
  have aQ : CB 576 (qs Q) := (fewR_CB' fQ dQ lQ).mono (by omega)
  have lp := qs_len P
  have lq := qs_len Q
  generalize qs P = p at rp aP k2 lp
  generalize qs Q = q at rq aQ k5 lq
  have q0 : 0 < q.length := by omega
  have hl := k5 q0
  first | refine XWP.reg (by kernel_rfl) fun K hK => ?_ | refine XWP.seq (XWP.reg (by kernel_rfl) fun K hK => ?_) | refine XWP.reg1 (by kernel_rfl) fun K hK => ?_
  simp only [XA, XB, gateX, Nat.reduceAdd, Nat.reduceLeDiff, Nat.reduceSub, Nat.reduceMul, ↓reduceIte, Int.reduceToNat, Int.reduceLE, beq_self_eq_true]
  refine call_go (by kernel_rfl) rfl (divq_c _ _ _ p q 576 576 rp rq k2 k5 q0 aP aQ (by omega) (by omega) (Nat.le_trans (pow6 _ (by omega) q0) (by omega))) fun v5 V5 hV5 h5 => ?_
  obtain ⟨wa, wr, rfl, ha, hr⟩ := h5
  simp only [XA, XB, gateX, Nat.reduceAdd, Nat.reduceLeDiff, Nat.reduceSub, Nat.reduceMul, ↓reduceIte, Int.reduceToNat, Int.reduceLE, beq_self_eq_true]
  refine hK _ ?_
  obtain ⟨ca0, cr0⟩ := partP_CB q0 hl aP aQ k2 (k := 6) (by omega)
  have ca : CB 110720 (partP p q).1 := ca0.mono (by decide)
  have cr : CB 110720 (partP p q).2 := cr0.mono (by decide)
  have la := partP_len (p := p) q0 hl
  obtain ⟨lr, pr⟩ := partP_rest (p := p) k5 q0
  have pa := partP_pol p q
  have eback := part_back (q := q) k2
  clear ca0 cr0
  generalize (partP p q).1 = a at ha ca la pa eback
  generalize (partP p q).2 = r at hr cr lr pr eback
  first | refine XWP.reg (by kernel_rfl) fun K hK => ?_ | refine XWP.seq (XWP.reg (by kernel_rfl) fun K hK => ?_) | refine XWP.reg1 (by kernel_rfl) fun K hK => ?_
  simp only [XA, XB, gateX, Nat.reduceAdd, Nat.reduceLeDiff, Nat.reduceSub, Nat.reduceMul, ↓reduceIte, Int.reduceToNat, Int.reduceLE, beq_self_eq_true]
  refine call_go (by kernel_rfl) rfl (mulq_c _ _ _ q a 576 110720 (rq.up hV5) ha k5 pa aQ ca (by omega) (by omega) (by omega)) fun v6 V6 hV6 h6 => ?_
  obtain ⟨wb, rfl, hb⟩ := h6
  simp only [XA, XB, gateX, Nat.reduceAdd, Nat.reduceLeDiff, Nat.reduceSub, Nat.reduceMul, ↓reduceIte, Int.reduceToNat, Int.reduceLE, beq_self_eq_true]
  refine hK _ ?_
  have cb : CB 700000 (mulP q a) := (mulP_CB aQ ca).mono (by omega)
  have lb := mulP_len q a
  first | refine XWP.reg (by kernel_rfl) fun K hK => ?_ | refine XWP.seq (XWP.reg (by kernel_rfl) fun K hK => ?_) | refine XWP.reg1 (by kernel_rfl) fun K hK => ?_
  simp only [XA, XB, gateX, Nat.reduceAdd, Nat.reduceLeDiff, Nat.reduceSub, Nat.reduceMul, ↓reduceIte, Int.reduceToNat, Int.reduceLE, beq_self_eq_true]
  refine call_go (by kernel_rfl) rfl (addq_c _ _ _ (mulP q a) r 700000 110720 hb (hr.up hV6) (mulP_pol _ _) pr cb cr (by omega) (by omega) (by omega)) fun v7 V7 hV7 h7 => ?_
  obtain ⟨wc, rfl, hc⟩ := h7
  rw [eback] at hc
  simp only [XA, XB, gateX, Nat.reduceAdd, Nat.reduceLeDiff, Nat.reduceSub, Nat.reduceMul, ↓reduceIte, Int.reduceToNat, Int.reduceLE, beq_self_eq_true]
  refine hK _ ?_
  have hV57 := View.le_trans hV5 (View.le_trans hV6 hV7)
  have hr := hr.up (View.le_trans hV6 hV7)
  have rp := rp.up hV57
  have rq := rq.up hV57
  first | refine XWP.reg (by kernel_rfl) fun K hK => ?_ | refine XWP.seq (XWP.reg (by kernel_rfl) fun K hK => ?_) | refine XWP.reg1 (by kernel_rfl) fun K hK => ?_
  simp only [XA, XB, gateX, Nat.reduceAdd, Nat.reduceLeDiff, Nat.reduceSub, Nat.reduceMul, ↓reduceIte, Int.reduceToNat, Int.reduceLE, beq_self_eq_true]
  refine call_go (by kernel_rfl) rfl (comq_c _ _ _ p q 576 rp rq k2 k5 q0 aP aQ (by omega) (by omega) (Nat.le_trans (gb6 (by omega) (by omega)) (by omega)) (by omega)) fun v8 V8 hV8 h8 => ?_
  obtain ⟨wg, rfl, hg, cg0⟩ := h8
  simp only [XA, XB, gateX, Nat.reduceAdd, Nat.reduceLeDiff, Nat.reduceSub, Nat.reduceMul, ↓reduceIte, Int.reduceToNat, Int.reduceLE, beq_self_eq_true]
  refine hK _ ?_
  have cg : CB 36928000000 (comRP p q) := cg0.mono (gb6 (by omega) (by omega))
  obtain ⟨d1, d2, pg, lg, lastg⟩ := comRP_dv k2 k5 (.inr q0)
  have lgl := comRP_len p k5
  have z1 := part_dv pg lg d1
  have z2 := part_dv pg lg d2
  clear cg0 d1 d2
  generalize comRP p q = g at hg cg pg lg lastg lgl z1 z2
  have rp := rp.up hV8
  have rq := rq.up hV8
  have hr := hr.up hV8
  have hc := hc.up hV8
  first | refine XWP.reg (by kernel_rfl) fun K hK => ?_ | refine XWP.seq (XWP.reg (by kernel_rfl) fun K hK => ?_) | refine XWP.reg1 (by kernel_rfl) fun K hK => ?_
  simp only [XA, XB, gateX, Nat.reduceAdd, Nat.reduceLeDiff, Nat.reduceSub, Nat.reduceMul, ↓reduceIte, Int.reduceToNat, Int.reduceLE, beq_self_eq_true]
  refine call_go (by kernel_rfl) rfl (divq_c _ _ _ p g 576 36928000000 rp hg k2 pg lg aP cg (by omega) (by omega) (Nat.le_trans (pow6 _ (by omega) lg) (by omega))) fun v9 V9 hV9 h9 => ?_
  obtain ⟨wx0, wx, rfl, _, hx⟩ := h9
  rw [z1] at hx
  simp only [XA, XB, gateX, Nat.reduceAdd, Nat.reduceLeDiff, Nat.reduceSub, Nat.reduceMul, ↓reduceIte, Int.reduceToNat, Int.reduceLE, beq_self_eq_true]
  refine hK _ ?_
  have rp := rp.up hV9
  have rq := rq.up hV9
  have hr := hr.up hV9
  have hc := hc.up hV9
  have hg := hg.up hV9
  first | refine XWP.reg (by kernel_rfl) fun K hK => ?_ | refine XWP.seq (XWP.reg (by kernel_rfl) fun K hK => ?_) | refine XWP.reg1 (by kernel_rfl) fun K hK => ?_
  simp only [XA, XB, gateX, Nat.reduceAdd, Nat.reduceLeDiff, Nat.reduceSub, Nat.reduceMul, ↓reduceIte, Int.reduceToNat, Int.reduceLE, beq_self_eq_true]
  refine call_go (by kernel_rfl) rfl (divq_c _ _ _ q g 576 36928000000 rq hg k5 pg lg aQ cg (by omega) (by omega) (Nat.le_trans (pow6 _ (by omega) lg) (by omega))) fun v10 V10 hV10 h10 => ?_
  obtain ⟨wy0, wy, rfl, _, hy⟩ := h10
  rw [z2] at hy
  simp only [XA, XB, gateX, Nat.reduceAdd, Nat.reduceLeDiff, Nat.reduceSub, Nat.reduceMul, ↓reduceIte, Int.reduceToNat, Int.reduceLE, beq_self_eq_true]
  refine hK _ ?_
  have rp := rp.up hV10
  have rq := rq.up hV10
  first | refine XWP.reg (by kernel_rfl) fun K hK => ?_ | refine XWP.seq (XWP.reg (by kernel_rfl) fun K hK => ?_) | refine XWP.reg1 (by kernel_rfl) fun K hK => ?_
  simp only [XA, XB, gateX, Nat.reduceAdd, Nat.reduceLeDiff, Nat.reduceSub, Nat.reduceMul, ↓reduceIte, Int.reduceToNat, Int.reduceLE, beq_self_eq_true]
  refine call_go (by kernel_rfl) rfl (mulq_c _ _ _ p q 576 576 rp rq k2 k5 aP aQ (by omega) (by omega) (by omega)) fun v11 V11 hV11 h11 => ?_
  obtain ⟨wm, rfl, hm⟩ := h11
  simp only [XA, XB, gateX, Nat.reduceAdd, Nat.reduceLeDiff, Nat.reduceSub, Nat.reduceMul, ↓reduceIte, Int.reduceToNat, Int.reduceLE, beq_self_eq_true]
  refine hK _ ?_
  have rq := rq.up hV11
  have cm : CB 6918 (mulP p q) := (mulP_CB aP aQ).mono (by omega)
  have lm := mulP_len p q
  first | refine XWP.reg (by kernel_rfl) fun K hK => ?_ | refine XWP.seq (XWP.reg (by kernel_rfl) fun K hK => ?_) | refine XWP.reg1 (by kernel_rfl) fun K hK => ?_
  simp only [XA, XB, gateX, Nat.reduceAdd, Nat.reduceLeDiff, Nat.reduceSub, Nat.reduceMul, ↓reduceIte, Int.reduceToNat, Int.reduceLE, beq_self_eq_true]
  refine call_go (by kernel_rfl) rfl (comq_c _ _ _ (mulP p q) q 6918 hm rq (mulP_pol _ _) k5 q0 cm (aQ.mono (by omega)) (by omega) (by omega) (comFit11 (by omega) (by omega)) (by omega)) fun v12 V12 hV12 h12 => ?_
  obtain ⟨ww, rfl, hw, _⟩ := h12
  rw [comRP_mul k5 q0 (mulP_dv p q)] at hw
  simp only [XA, XB, gateX, Nat.reduceAdd, Nat.reduceLeDiff, Nat.reduceSub, Nat.reduceMul, ↓reduceIte, Int.reduceToNat, Int.reduceLE, beq_self_eq_true]
  refine hK _ ?_
  have rq := rq.up hV12
  have cw : CB 1153 (scaledP q) := (scaledP_CB aQ).mono (by omega)
  have lw := scaledP_len k5
  first | refine XWP.reg (by kernel_rfl) fun K hK => ?_ | refine XWP.seq (XWP.reg (by kernel_rfl) fun K hK => ?_) | refine XWP.reg1 (by kernel_rfl) fun K hK => ?_
  simp only [XA, XB, gateX, Nat.reduceAdd, Nat.reduceLeDiff, Nat.reduceSub, Nat.reduceMul, ↓reduceIte, Int.reduceToNat, Int.reduceLE, beq_self_eq_true]
  refine call_go (by kernel_rfl) rfl (divq_c _ _ _ (scaledP q) q 1153 576 hw rq (scaledP_pol _) k5 q0 cw aQ (by omega) (by omega) (Nat.le_trans (pow6 _ (by omega) q0) (by omega))) fun v13 V13 hV13 h13 => ?_
  obtain ⟨wz0, wz, rfl, _, hz⟩ := h13
  rw [part_dv k5 q0 (scaled_dv q)] at hz
  simp only [XA, XB, gateX, Nat.reduceAdd, Nat.reduceLeDiff, Nat.reduceSub, Nat.reduceMul, ↓reduceIte, Int.reduceToNat, Int.reduceLE, beq_self_eq_true]
  refine hK _ ?_
  have u1 := View.le_trans hV10 (View.le_trans hV11 (View.le_trans hV12 hV13))
  have u2 := View.le_trans hV11 (View.le_trans hV12 hV13)
  have rp := rp.up u2
  have rq := rq.up hV13
  have hr := hr.up u1
  have hc := hc.up u1
  have hg := hg.up u1
  have hx := hx.up u1
  have hy := hy.up u2
  have hw := hw.up hV13
  obtain ⟨Ar, cr', rfl, _, _⟩ := hr.form
  obtain ⟨Ax, cx', rfl, _, _⟩ := hx.form
  obtain ⟨Ay, cy', rfl, _, _⟩ := hy.form
  obtain ⟨Aw, cw', rfl, _, _⟩ := hw.form
  obtain ⟨Az, cz', rfl, _, _⟩ := hz.form
  obtain ⟨Ag, cg', rfl, _, _⟩ := hg.form
  (first | refine XWP.drw [0, 1, 2, 3, 4, 5, 6, 7, 8, 9, 10, 11, 12, 13, 14, 15, 16, 17, 18, 19, 20, 21, 22, 23, 24, 25, 26, 27, 28, 29, 30, 31, 32, 33, 34, 35, 36, 37, 38, 39, 40, 41, 42, 43, 44, 45, 46, 47, 48, 49, 50, 51, 52, 53, 54, 55, 56, 57, 58, 59, 60, 61, 62, 63] (by kernel_rfl) (by kernel_rfl) (by kernel_rfl) fun K hK => ?_ | refine XWP.seq (XWP.drw [0, 1, 2, 3, 4, 5, 6, 7, 8, 9, 10, 11, 12, 13, 14, 15, 16, 17, 18, 19, 20, 21, 22, 23, 24, 25, 26, 27, 28, 29, 30, 31, 32, 33, 34, 35, 36, 37, 38, 39, 40, 41, 42, 43, 44, 45, 46, 47, 48, 49, 50, 51, 52, 53, 54, 55, 56, 57, 58, 59, 60, 61, 62, 63] (by kernel_rfl) (by kernel_rfl) (by kernel_rfl) fun K hK => ?_) | refine XWP.drw1 [0, 1, 2, 3, 4, 5, 6, 7, 8, 9, 10, 11, 12, 13, 14, 15, 16, 17, 18, 19, 20, 21, 22, 23, 24, 25, 26, 27, 28, 29, 30, 31, 32, 33, 34, 35, 36, 37, 38, 39, 40, 41, 42, 43, 44, 45, 46, 47, 48, 49, 50, 51, 52, 53, 54, 55, 56, 57, 58, 59, 60, 61, 62, 63] (by kernel_rfl) (by kernel_rfl) (by kernel_rfl) fun K hK => ?_) <;> dsimp only [pickOps, List.getElem?_cons_zero, List.getElem?_cons_succ]
  have b1 : decide ((r.length : Int) < (Q.length : Int)) = true := decide_eq_true (by omega)
  have b2 : decide (((scaledP q).length : Int) = (Q.length : Int)) = true := decide_eq_true (by omega)
  simp only [XA, XB, gateX, Nat.reduceAdd, Nat.reduceLeDiff, Nat.reduceSub, Nat.reduceMul, ↓reduceIte, Int.reduceToNat, Int.reduceLE, beq_self_eq_true, decide_true]
  refine call_go (by kernel_rfl) rfl (lsame_c _ _ _ p p hc rp (aP.qf (by omega)) (aP.qf (by omega))) fun v14 V14 hV14 h14 => ?_
  subst h14
  have b3 : decide (IntKind.i64.wrap (((0 : Nat) : Int) + ((0 : Nat) : Int)) = 0) = true := by decide
  have b4 : decide (((0 : Nat) : Int) = 0) = true := by decide
  have w1 := i64_pred g.length lg (by omega)
  obtain ⟨bg, og, rfl⟩ := SlAt.addr hg lg
  have hg := hg.up hV14
  obtain ⟨m3, n3, d3, hx3, ⟨p1, p2, p3⟩, hld3⟩ := Rats.get hg (g.length - 1) (by omega)
  simp only [XA, XB, gateX, Nat.reduceAdd, Nat.reduceLeDiff, Nat.reduceSub, Nat.reduceMul, ↓reduceIte, Int.reduceToNat, Int.reduceLE, beq_self_eq_true, decide_true, b1, b2, b3, b4, w1, List.length_nil]
  refine ⟨by omega, by omega, ld_mem (hld3 _) ?_⟩
  simp only [XA, XB, gateX, Nat.reduceAdd, Nat.reduceLeDiff, Nat.reduceSub, Nat.reduceMul, ↓reduceIte, Int.reduceToNat, Int.reduceLE, beq_self_eq_true, decide_true]
  refine call_go (by kernel_rfl) rfl (pone_c _) fun v15 V15 hV15 h15 => ?_
  simp only [XA, XB, gateX, Nat.reduceAdd, Nat.reduceLeDiff, Nat.reduceSub, Nat.reduceMul, ↓reduceIte, Int.reduceToNat, Int.reduceLE, beq_self_eq_true]
  refine call_go (by kernel_rfl) rfl (psame_c _ _ _ _ 1 ((hx3.mono hV15).toV ((cg.at _).qf (by omega))) (h15.toV QF_one) ((cg.at _).qf (by omega)) QF_one) fun v16 V16 hV16 h16 => ?_
  subst h16
  rw [lastg]
  simp only [XA, XB, gateX, Nat.reduceAdd, Nat.reduceLeDiff, Nat.reduceSub, Nat.reduceMul, ↓reduceIte, Int.reduceToNat, Int.reduceLE, beq_self_eq_true, decide_true]
  refine call_go (by kernel_rfl) rfl (alive_c _) fun v17 V17 hV17 h17 => ?_
  subst h17
  simp only [XA, XB, gateX, Nat.reduceAdd, Nat.reduceLeDiff, Nat.reduceSub, Nat.reduceMul, ↓reduceIte, Int.reduceToNat, Int.reduceLE, beq_self_eq_true]
  refine hK _ (XWP.ret ?_)
  try simp only [thenX_ret, inBlockX_ret]
  refine ret_go _ rfl ?_
  rfl
end Go.Proofs.Ythoboehbadmlmaa
end
section
namespace Go.Proofs.Ythoboehbadmlmaa
theorem off_cv {l q : List Rat} (i : Nat) : off l q i = cv (cf q) (cf l) i := by
  unfold off
  rw [off_meet q l i _ (by omega), ← meet_cv]
  rcases Nat.le_total q.length (i + 1) with h | h
  · rw [Nat.min_eq_left h]
    exact (meet_more q l i h fun j h1 _ => .inr h1).symm
  · rw [Nat.min_eq_right h]
/-- q, of degree at most L, takes the numbers of l from place L up to n to zero -/
def Gen (l : Nat → Rat) (q : Nat → Rat) (L n : Nat) : Prop := q 0 = 1 ∧ (∀ j, L < j → q j = 0) ∧ ∀ k, L ≤ k → k < n → cv q l k = 0
theorem cv_mid (last l : Nat → Rat) (c : Rat) (a k : Nat) : cv (cv last (mon c a)) l k = if a ≤ k then c * cv last l (k - a) else 0 := by
  have e : cv (cv last (mon c a)) l = cv (cv last l) (mon c a) := by
    rw [cv_assoc, cv_comm (mon c a) l, ← cv_assoc]
  rw [e, cv_mon]
theorem cv_addl (f g h : Nat → Rat) : cv (fun i => f i + g i) h = fun n => cv f h n + cv g h n := by
  rw [cv_comm, cv_add, cv_comm h f, cv_comm h g]
/-- what holds of the state behind i numbers -/
def BMInv (l : Nat → Rat) (s : BM) (i : Nat) : Prop :=
  Gen l (cf s.q) s.size i ∧ s.was ≠ 0 ∧
  ((s.size = 0 ∧ s.last = [1] ∧ s.ago = i + 1) ∨
   ∃ m L', m < i ∧ s.ago = i - m ∧ s.size + L' = m + 1 ∧ cf s.last 0 = 1 ∧ (∀ j, L' < j → cf s.last j = 0) ∧ (∀ k, L' ≤ k → k < m → cv (cf s.last) l k = 0) ∧ cv (cf s.last) l m = s.was)
theorem mon_gt {c : Rat} {a j : Nat} (h : j ≠ a) : mon c a j = 0 := by unfold mon; rw [if_neg h]
theorem bm_inv (l : List Rat) (i : Nat) : BMInv (cf l) (bmI l i) i := by
  induction i with
  | zero =>
    refine ⟨⟨by rw [show (bmI l 0).q = [1] from rfl, cf_one]; rfl, fun j hj => ?_, fun k _ h => by omega⟩, one_ne, .inl ⟨rfl, rfl, rfl⟩⟩
    rw [show (bmI l 0).q = [1] from rfl, cf_one]
    have : (bmI l 0).size = 0 := rfl
    rw [if_neg (by omega)]
  | succ i ih =>
    obtain ⟨⟨g0, g1, g2⟩, hw, hor⟩ := ih
    rw [bmI]
    generalize bmI l i = s at *
    unfold bmStep
    rw [off_cv]
    split
    · rename_i hd
      refine ⟨⟨g0, g1, fun k h1 h2 => ?_⟩, hw, ?_⟩
      · rcases Nat.eq_or_lt_of_le (Nat.lt_succ_iff.1 h2) with h | h
        · rw [h]; exact hd
        · exact g2 k h1 h
      · rcases hor with ⟨a1, a2, a3⟩ | ⟨m, L', a1, a2, a3, a4⟩
        · exact .inl ⟨a1, a2, by dsimp only; omega⟩
        · exact .inr ⟨m, L', by omega, by dsimp only; omega, a3, a4⟩
    · rename_i hd
      have hq : cf (bmNext l s i) = fun j => cf s.q j + cv (cf s.last) (mon (-(cv (cf s.q) (cf l) i / s.was)) s.ago) j := by
        funext j
        unfold bmNext
        rw [pAdd_cv, off_cv]
      have hz : ∀ k, cv (cf (bmNext l s i)) (cf l) k = cv (cf s.q) (cf l) k + if s.ago ≤ k then -(cv (cf s.q) (cf l) i / s.was) * cv (cf s.last) (cf l) (k - s.ago) else 0 := fun k => by
        rw [hq, cv_addl]
        show _ + cv (cv (cf s.last) (mon _ s.ago)) (cf l) k = _
        rw [cv_mid]
      have hj : ∀ j, cf (bmNext l s i) j = cf s.q j + if s.ago ≤ j then -(cv (cf s.q) (cf l) i / s.was) * cf s.last (j - s.ago) else 0 := fun j => by
        rw [hq]
        show _ + cv (cf s.last) (mon _ s.ago) j = _
        rw [cv_mon]
      rcases hor with ⟨a1, a2, a3⟩ | ⟨m, L', a1, a2, a3, a4, a5, a6, a7⟩
      · rw [if_pos (by omega)]
        refine ⟨⟨?_, fun j h => ?_, fun k h1 h2 => ?_⟩, hd, .inr ⟨i, 0, by omega, by dsimp only; omega, by dsimp only; omega, g0, fun j h => g1 j (by omega), fun k h1 h2 => g2 k (by omega) h2, rfl⟩⟩
        · dsimp only; rw [hj, if_neg (by omega), g0]; grind
        · dsimp only at h ⊢
          rw [hj, g1 j (by omega), a2, cf_one]
          split
          · rw [if_neg (by omega)]; grind
          · grind
        · dsimp only at h1; omega
      · have hlast0 : ∀ L2, (∀ k, L2 ≤ k → s.size ≤ k) → (∀ k, L2 ≤ k → k < i + 1 → s.ago ≤ k → L' ≤ k - s.ago) → ∀ k, L2 ≤ k → k < i + 1 → cv (cf (bmNext l s i)) (cf l) k = 0 := fun L2 hA hB k h1 h2 => by
          rw [hz]
          rcases Nat.eq_or_lt_of_le (Nat.lt_succ_iff.1 h2) with h | h
          · subst h
            rw [if_pos (by omega), show k - s.ago = m by omega, a7]
            have : cv (cf s.q) (cf l) k / s.was * s.was = cv (cf s.q) (cf l) k := Rat.div_mul_cancel hw
            grind
          · rw [g2 k (hA k h1) h]
            split
            · rename_i ha
              rw [a6 (k - s.ago) (hB k h1 h2 ha) (by omega)]; grind
            · grind
        have h0 : cf (bmNext l s i) 0 = 1 := by rw [hj, if_neg (by omega), g0]; grind
        split
        · rename_i h2s
          refine ⟨⟨h0, fun j h => ?_, hlast0 _ (fun k h => by dsimp only at h; omega) (fun k h1 h2 h3 => by dsimp only at h1; omega)⟩, hd, .inr ⟨i, s.size, by omega, by dsimp only; omega, by dsimp only; omega, g0, g1, g2, rfl⟩⟩
          dsimp only at h ⊢
          rw [hj, g1 j (by omega)]
          split
          · rw [a5 _ (by omega)]; grind
          · grind
        · rename_i h2s
          refine ⟨⟨h0, fun j h => ?_, hlast0 _ (fun k h => by dsimp only at h; omega) (fun k h1 h2 h3 => by dsimp only at h1; omega)⟩, hw, .inr ⟨m, L', by omega, by dsimp only; omega, a3, a4, a5, a6, a7⟩⟩
          dsimp only at h ⊢
          rw [hj, g1 j (by omega)]
          split
          · rw [a5 _ (by omega)]; grind
          · grind
theorem bm_gen (l : List Rat) (i : Nat) : Gen (cf l) (cf (bmI l i).q) (bmI l i).size i := (bm_inv l i).1
/-- two that generate a sequence up to i go on alike, if both lengths together are at most i -/
theorem gen_both {l q r : Nat → Rat} {L R i : Nat} (hq : Gen l q L i) (hr : Gen l r R (i + 1)) (h : L + R ≤ i) : cv q l i = 0 := by
  obtain ⟨q0, q1, q2⟩ := hq
  obtain ⟨r0, r1, r2⟩ := hr
  have e1 : cv r (cv q l) i = cv q l i := by
    unfold cv
    rw [Sm_one (k := 0) (by omega) fun j hj hne => ?_]
    · rw [r0]; simp only [Nat.sub_zero]; grind
    · by_cases hjR : j ≤ R
      · have := q2 (i - j) (by omega) (by omega)
        unfold cv at this
        rw [this]; grind
      · rw [r1 j (by omega)]; grind
  have e2 : cv q (cv r l) i = 0 := by
    refine Sm_zero _ fun j hj => ?_
    by_cases hjL : j ≤ L
    · rw [r2 (i - j) (by omega) (by omega)]; grind
    · rw [q1 j (by omega)]; grind
  have e3 : cv r (cv q l) = cv q (cv r l) := by rw [← cv_assoc, cv_comm r q, cv_assoc]
  rw [← e1, e3, e2]
/-- the length is the least -/
theorem bm_least (l : List Rat) {r : Nat → Rat} {R : Nat} (n : Nat) (hr : Gen (cf l) r R n) (i : Nat) (hi : i ≤ n) : (bmI l i).size ≤ R := by
  induction i with
  | zero => exact Nat.zero_le _
  | succ i ih =>
    have ih := ih (by omega)
    have hg := bm_gen l i
    rw [bmI]
    unfold bmStep
    split
    · exact ih
    · rename_i hd
      split
      · dsimp only
        rw [off_cv] at hd
        by_cases h : (bmI l i).size + R ≤ i
        · exact absurd (gen_both hg ⟨hr.1, hr.2.1, fun k h1 h2 => hr.2.2 k h1 (by omega)⟩ h) hd
        · omega
      · exact ih
end Go.Proofs.Ythoboehbadmlmaa
end
section
namespace Go.Proofs.Ythoboehbadmlmaa
open Go Go.RowKit
set_option linter.unusedSimpArgs false
set_option linter.unusedVariables false
attribute [local irreducible] XWP Spec SpecO XPub XCall seqX clX apX stX ldX iaX slX
def listsE (L A : List Raw) (n : Int) : Int :=
  if okR L = false ∨ okR A = false then 1 else if 400 < (L.length : Int) ∨ 400 < (A.length : Int) ∨ 400 < n then 2 else if (L.length : Int) < (A.length : Int) ∨ n < 0 then 1 else 0
theorem lists_c (V : View) (v u : Value) (L A : List Raw) (n : Int) (hv : Raws V v L) (hu : Raws V u A) (fL : fitR L) (fA : fitR A) (lL : L.length ≤ 1000000) (lA : A.length ≤ 1000000) :
    Spec Try.prog 61 [v, u, .int .i64 n] V fun v' V' => v' = .int .i64 (listsE L A n) := by
  obtain ⟨A1, c1, rfl, hc1, hm1⟩ := hv.form
  obtain ⟨A2, c2, rfl, hc2, hm2⟩ := hu.form
  unfold listsE
  refine (Spec.enter Try.func61 rfl fun Γ => ?_)
  simp only [Try.ntmps61, List.map_cons, List.map_nil, List.length_cons, List.length_nil, Nat.reduceAdd, Nat.reduceSub, List.replicate_succ, List.replicate_zero, List.cons_append, List.nil_append]
  first | refine XWP.reg (by kernel_rfl) fun K hK => ?_ | refine XWP.seq (XWP.reg (by kernel_rfl) fun K hK => ?_) | refine XWP.reg1 (by kernel_rfl) fun K hK => ?_
  simp only [XA, XB, gateX, Nat.reduceAdd, Nat.reduceLeDiff, Nat.reduceSub, Nat.reduceMul, ↓reduceIte, Int.reduceToNat, Int.reduceLE, beq_self_eq_true]
  refine hK _ ?_
  refine XWP.seq ?_
  first | refine XWP.block ?_ | refine XWP.seq (XWP.block ?_)
  first | refine XWP.reg (by kernel_rfl) fun K hK => ?_ | refine XWP.seq (XWP.reg (by kernel_rfl) fun K hK => ?_) | refine XWP.reg1 (by kernel_rfl) fun K hK => ?_
  simp only [XA, XB, gateX, Nat.reduceAdd, Nat.reduceLeDiff, Nat.reduceSub, Nat.reduceMul, ↓reduceIte, Int.reduceToNat, Int.reduceLE, beq_self_eq_true]
  refine call_go (by kernel_rfl) rfl (fine_c _ _ _ hv fL lL) fun v1 V1 hV1 h1 => ?_
  subst h1
  cases e1 : okR L
  · simp only [XA, XB, gateX, Nat.reduceAdd, Nat.reduceLeDiff, Nat.reduceSub, Nat.reduceMul, ↓reduceIte, Int.reduceToNat, Int.reduceLE, beq_self_eq_true]
    refine hK _ ?_
    first | refine XWP.cond (t := true) rfl (fun _ => ?_) (fun h => by cases h) | refine XWP.seq (XWP.cond (t := true) rfl (fun _ => ?_) (fun h => by cases h))
    first | refine XWP.reg (by kernel_rfl) fun K hK => ?_ | refine XWP.seq (XWP.reg (by kernel_rfl) fun K hK => ?_) | refine XWP.reg1 (by kernel_rfl) fun K hK => ?_
    simp only [XA, XB, gateX, Nat.reduceAdd, Nat.reduceLeDiff, Nat.reduceSub, Nat.reduceMul, ↓reduceIte, Int.reduceToNat, Int.reduceLE, beq_self_eq_true]
    refine hK _ (XWP.ret ?_)
    try simp only [thenX_ret, inBlockX_ret]
    refine ret_go _ rfl ?_
    rw [if_pos (.inl e1)]; rfl
  simp only [XA, XB, gateX, Nat.reduceAdd, Nat.reduceLeDiff, Nat.reduceSub, Nat.reduceMul, ↓reduceIte, Int.reduceToNat, Int.reduceLE, beq_self_eq_true]
  refine call_go (by kernel_rfl) rfl (fine_c _ _ _ (hu.up hV1) fA lA) fun v2 V2 hV2 h2 => ?_
  subst h2
  cases e2 : okR A
  · simp only [XA, XB, gateX, Nat.reduceAdd, Nat.reduceLeDiff, Nat.reduceSub, Nat.reduceMul, ↓reduceIte, Int.reduceToNat, Int.reduceLE, beq_self_eq_true]
    refine hK _ ?_
    first | refine XWP.cond (t := true) rfl (fun _ => ?_) (fun h => by cases h) | refine XWP.seq (XWP.cond (t := true) rfl (fun _ => ?_) (fun h => by cases h))
    first | refine XWP.reg (by kernel_rfl) fun K hK => ?_ | refine XWP.seq (XWP.reg (by kernel_rfl) fun K hK => ?_) | refine XWP.reg1 (by kernel_rfl) fun K hK => ?_
    simp only [XA, XB, gateX, Nat.reduceAdd, Nat.reduceLeDiff, Nat.reduceSub, Nat.reduceMul, ↓reduceIte, Int.reduceToNat, Int.reduceLE, beq_self_eq_true]
    refine hK _ (XWP.ret ?_)
    try simp only [thenX_ret, inBlockX_ret]
    refine ret_go _ rfl ?_
    rw [if_pos (.inr e2)]; rfl
  simp only [XA, XB, gateX, Nat.reduceAdd, Nat.reduceLeDiff, Nat.reduceSub, Nat.reduceMul, ↓reduceIte, Int.reduceToNat, Int.reduceLE, beq_self_eq_true]
  refine hK _ ?_
  first | refine XWP.cond (t := false) rfl (fun h => by cases h) (fun _ => ?_) | refine XWP.seq (XWP.cond (t := false) rfl (fun h => by cases h) (fun _ => ?_))
  have g0 : ¬(okR L = false ∨ okR A = false) := by rw [e1, e2]; simp
  by_cases g1 : (400 : Int) < (L.length : Int) ∨ 400 < (A.length : Int) ∨ 400 < n
  · by_cases d1 : (400 : Int) < (L.length : Int)
    · have b1 : decide ((400 : Int) < (L.length : Int)) = true := decide_eq_true d1
      first | refine XWP.reg (by kernel_rfl) fun K hK => ?_ | refine XWP.seq (XWP.reg (by kernel_rfl) fun K hK => ?_) | refine XWP.reg1 (by kernel_rfl) fun K hK => ?_
      simp only [XA, XB, gateX, Nat.reduceAdd, Nat.reduceLeDiff, Nat.reduceSub, Nat.reduceMul, ↓reduceIte, Int.reduceToNat, Int.reduceLE, beq_self_eq_true, b1]
      refine hK _ ?_
      first | refine XWP.cond (t := true) rfl (fun _ => ?_) (fun h => by cases h) | refine XWP.seq (XWP.cond (t := true) rfl (fun _ => ?_) (fun h => by cases h))
      first | refine XWP.reg (by kernel_rfl) fun K hK => ?_ | refine XWP.seq (XWP.reg (by kernel_rfl) fun K hK => ?_) | refine XWP.reg1 (by kernel_rfl) fun K hK => ?_
      simp only [XA, XB, gateX, Nat.reduceAdd, Nat.reduceLeDiff, Nat.reduceSub, Nat.reduceMul, ↓reduceIte, Int.reduceToNat, Int.reduceLE, beq_self_eq_true]
      refine hK _ (XWP.ret ?_)
      try simp only [thenX_ret, inBlockX_ret]
      refine ret_go _ rfl ?_
      rw [if_neg g0, if_pos g1]; rfl
    · have b1 : decide ((400 : Int) < (L.length : Int)) = false := decide_eq_false d1
      by_cases d2 : (400 : Int) < (A.length : Int)
      · have b2 : decide ((400 : Int) < (A.length : Int)) = true := decide_eq_true d2
        first | refine XWP.reg (by kernel_rfl) fun K hK => ?_ | refine XWP.seq (XWP.reg (by kernel_rfl) fun K hK => ?_) | refine XWP.reg1 (by kernel_rfl) fun K hK => ?_
        simp only [XA, XB, gateX, Nat.reduceAdd, Nat.reduceLeDiff, Nat.reduceSub, Nat.reduceMul, ↓reduceIte, Int.reduceToNat, Int.reduceLE, beq_self_eq_true, b1, b2]
        refine hK _ ?_
        first | refine XWP.cond (t := true) rfl (fun _ => ?_) (fun h => by cases h) | refine XWP.seq (XWP.cond (t := true) rfl (fun _ => ?_) (fun h => by cases h))
        first | refine XWP.reg (by kernel_rfl) fun K hK => ?_ | refine XWP.seq (XWP.reg (by kernel_rfl) fun K hK => ?_) | refine XWP.reg1 (by kernel_rfl) fun K hK => ?_
        simp only [XA, XB, gateX, Nat.reduceAdd, Nat.reduceLeDiff, Nat.reduceSub, Nat.reduceMul, ↓reduceIte, Int.reduceToNat, Int.reduceLE, beq_self_eq_true]
        refine hK _ (XWP.ret ?_)
        try simp only [thenX_ret, inBlockX_ret]
        refine ret_go _ rfl ?_
        rw [if_neg g0, if_pos g1]; rfl
      · have b2 : decide ((400 : Int) < (A.length : Int)) = false := decide_eq_false d2
        have b3 : decide ((400 : Int) < n) = true := decide_eq_true (by omega)
        first | refine XWP.reg (by kernel_rfl) fun K hK => ?_ | refine XWP.seq (XWP.reg (by kernel_rfl) fun K hK => ?_) | refine XWP.reg1 (by kernel_rfl) fun K hK => ?_
        simp only [XA, XB, gateX, Nat.reduceAdd, Nat.reduceLeDiff, Nat.reduceSub, Nat.reduceMul, ↓reduceIte, Int.reduceToNat, Int.reduceLE, beq_self_eq_true, b1, b2, b3]
        refine hK _ ?_
        first | refine XWP.cond (t := true) rfl (fun _ => ?_) (fun h => by cases h) | refine XWP.seq (XWP.cond (t := true) rfl (fun _ => ?_) (fun h => by cases h))
        first | refine XWP.reg (by kernel_rfl) fun K hK => ?_ | refine XWP.seq (XWP.reg (by kernel_rfl) fun K hK => ?_) | refine XWP.reg1 (by kernel_rfl) fun K hK => ?_
        simp only [XA, XB, gateX, Nat.reduceAdd, Nat.reduceLeDiff, Nat.reduceSub, Nat.reduceMul, ↓reduceIte, Int.reduceToNat, Int.reduceLE, beq_self_eq_true]
        refine hK _ (XWP.ret ?_)
        try simp only [thenX_ret, inBlockX_ret]
        refine ret_go _ rfl ?_
        rw [if_neg g0, if_pos g1]; rfl
  · have b1 : decide ((400 : Int) < (L.length : Int)) = false := decide_eq_false (by omega)
    have b2 : decide ((400 : Int) < (A.length : Int)) = false := decide_eq_false (by omega)
    have b3 : decide ((400 : Int) < n) = false := decide_eq_false (by omega)
    first | refine XWP.reg (by kernel_rfl) fun K hK => ?_ | refine XWP.seq (XWP.reg (by kernel_rfl) fun K hK => ?_) | refine XWP.reg1 (by kernel_rfl) fun K hK => ?_
    simp only [XA, XB, gateX, Nat.reduceAdd, Nat.reduceLeDiff, Nat.reduceSub, Nat.reduceMul, ↓reduceIte, Int.reduceToNat, Int.reduceLE, beq_self_eq_true, b1, b2, b3]
    refine hK _ ?_
    first | refine XWP.cond (t := false) rfl (fun h => by cases h) (fun _ => ?_) | refine XWP.seq (XWP.cond (t := false) rfl (fun h => by cases h) (fun _ => ?_))
    by_cases g2 : (L.length : Int) < (A.length : Int) ∨ n < 0
    · by_cases d1 : (L.length : Int) < (A.length : Int)
      · have b4 : decide ((L.length : Int) < (A.length : Int)) = true := decide_eq_true d1
        first | refine XWP.reg (by kernel_rfl) fun K hK => ?_ | refine XWP.seq (XWP.reg (by kernel_rfl) fun K hK => ?_) | refine XWP.reg1 (by kernel_rfl) fun K hK => ?_
        simp only [XA, XB, gateX, Nat.reduceAdd, Nat.reduceLeDiff, Nat.reduceSub, Nat.reduceMul, ↓reduceIte, Int.reduceToNat, Int.reduceLE, beq_self_eq_true, b4]
        refine hK _ ?_
        first | refine XWP.cond (t := true) rfl (fun _ => ?_) (fun h => by cases h) | refine XWP.seq (XWP.cond (t := true) rfl (fun _ => ?_) (fun h => by cases h))
        first | refine XWP.reg (by kernel_rfl) fun K hK => ?_ | refine XWP.seq (XWP.reg (by kernel_rfl) fun K hK => ?_) | refine XWP.reg1 (by kernel_rfl) fun K hK => ?_
        simp only [XA, XB, gateX, Nat.reduceAdd, Nat.reduceLeDiff, Nat.reduceSub, Nat.reduceMul, ↓reduceIte, Int.reduceToNat, Int.reduceLE, beq_self_eq_true]
        refine hK _ (XWP.ret ?_)
        try simp only [thenX_ret, inBlockX_ret]
        refine ret_go _ rfl ?_
        rw [if_neg g0, if_neg g1, if_pos g2]; rfl
      · have b4 : decide ((L.length : Int) < (A.length : Int)) = false := decide_eq_false d1
        have b5 : decide (n < 0) = true := decide_eq_true (by omega)
        first | refine XWP.reg (by kernel_rfl) fun K hK => ?_ | refine XWP.seq (XWP.reg (by kernel_rfl) fun K hK => ?_) | refine XWP.reg1 (by kernel_rfl) fun K hK => ?_
        simp only [XA, XB, gateX, Nat.reduceAdd, Nat.reduceLeDiff, Nat.reduceSub, Nat.reduceMul, ↓reduceIte, Int.reduceToNat, Int.reduceLE, beq_self_eq_true, b4, b5]
        refine hK _ ?_
        first | refine XWP.cond (t := true) rfl (fun _ => ?_) (fun h => by cases h) | refine XWP.seq (XWP.cond (t := true) rfl (fun _ => ?_) (fun h => by cases h))
        first | refine XWP.reg (by kernel_rfl) fun K hK => ?_ | refine XWP.seq (XWP.reg (by kernel_rfl) fun K hK => ?_) | refine XWP.reg1 (by kernel_rfl) fun K hK => ?_
        simp only [XA, XB, gateX, Nat.reduceAdd, Nat.reduceLeDiff, Nat.reduceSub, Nat.reduceMul, ↓reduceIte, Int.reduceToNat, Int.reduceLE, beq_self_eq_true]
        refine hK _ (XWP.ret ?_)
        try simp only [thenX_ret, inBlockX_ret]
        refine ret_go _ rfl ?_
        rw [if_neg g0, if_neg g1, if_pos g2]; rfl
    · have b4 : decide ((L.length : Int) < (A.length : Int)) = false := decide_eq_false (by omega)
      have b5 : decide (n < 0) = false := decide_eq_false (by omega)
      first | refine XWP.reg (by kernel_rfl) fun K hK => ?_ | refine XWP.seq (XWP.reg (by kernel_rfl) fun K hK => ?_) | refine XWP.reg1 (by kernel_rfl) fun K hK => ?_
      simp only [XA, XB, gateX, Nat.reduceAdd, Nat.reduceLeDiff, Nat.reduceSub, Nat.reduceMul, ↓reduceIte, Int.reduceToNat, Int.reduceLE, beq_self_eq_true, b4, b5]
      refine hK _ ?_
      first | refine XWP.cond (t := false) rfl (fun h => by cases h) (fun _ => ?_) | refine XWP.seq (XWP.cond (t := false) rfl (fun h => by cases h) (fun _ => ?_))
      refine XWP.skip ?_
      first | refine XWP.reg (by kernel_rfl) fun K hK => ?_ | refine XWP.seq (XWP.reg (by kernel_rfl) fun K hK => ?_) | refine XWP.reg1 (by kernel_rfl) fun K hK => ?_
      simp only [XA, XB, gateX, Nat.reduceAdd, Nat.reduceLeDiff, Nat.reduceSub, Nat.reduceMul, ↓reduceIte, Int.reduceToNat, Int.reduceLE, beq_self_eq_true]
      refine hK _ (XWP.ret ?_)
      try simp only [thenX_ret, inBlockX_ret]
      refine ret_go _ rfl ?_
      rw [if_neg g0, if_neg g1, if_neg g2]; rfl
theorem rclone_o (V : View) (v : Value) (l : List Rat) (h : Rats V v l) (hl : l.length ≤ 1000000) :
    SpecO Try.prog 62 [v] V fun v' V' o => (v' = .slice none 0 0 ∧ l = [] ∧ o = none) ∨ ∃ g cells c, v' = .slice (some ⟨g, 0, none⟩) l.length c ∧ o = some (g, ⟨34, cells, c * 3⟩) ∧ RowAt ratE V' cells l ∧ l.length ≤ c ∧ c ≤ maxLen := by
  obtain ⟨A, c, rfl, hc, hm⟩ := h.form
  refine (SpecO.enter Try.func62 rfl fun Γ => ?_)
  simp only [Try.ntmps62, List.map_cons, List.map_nil, List.length_cons, List.length_nil, Nat.reduceAdd, Nat.reduceSub, List.replicate_succ, List.replicate_zero, List.cons_append, List.nil_append]
  first | refine XWP.reg (by kernel_rfl) fun K hK => ?_ | refine XWP.seq (XWP.reg (by kernel_rfl) fun K hK => ?_) | refine XWP.reg1 (by kernel_rfl) fun K hK => ?_
  simp only [XA, XB, gateX, Nat.reduceAdd, Nat.reduceLeDiff, Nat.reduceSub, Nat.reduceMul, ↓reduceIte, Int.reduceToNat, Int.reduceLE, beq_self_eq_true]
  refine hK _ ?_
  refine XWP.seq ?_
  first | refine XWP.reg (by kernel_rfl) fun K hK => ?_ | refine XWP.seq (XWP.reg (by kernel_rfl) fun K hK => ?_) | refine XWP.reg1 (by kernel_rfl) fun K hK => ?_
  simp only [XA, XB, gateX, Nat.reduceAdd, Nat.reduceLeDiff, Nat.reduceSub, Nat.reduceMul, ↓reduceIte, Int.reduceToNat, Int.reduceLE, beq_self_eq_true]
  refine hK _ ?_
  refine (XWP.cond (t := A.isNone) rfl (fun hA => ?_) (fun hA => XWP.skip ?_))
  · first | refine XWP.reg (by kernel_rfl) fun K hK => ?_ | refine XWP.seq (XWP.reg (by kernel_rfl) fun K hK => ?_) | refine XWP.reg1 (by kernel_rfl) fun K hK => ?_
    simp only [XA, XB, gateX, Nat.reduceAdd, Nat.reduceLeDiff, Nat.reduceSub, Nat.reduceMul, ↓reduceIte, Int.reduceToNat, Int.reduceLE, beq_self_eq_true]
    refine hK _ (XWP.ret ?_)
    try simp only [thenX_ret, inBlockX_ret]
    refine ret_own _ none rfl (fun g r e => by cases e) ?_
    cases A with
    | some a => cases hA
    | none =>
      refine .inl ⟨rfl, ?_, rfl⟩
      rcases Nat.eq_zero_or_pos l.length with h0 | h0
      · exact List.length_eq_zero_iff.1 h0
      · obtain ⟨b, o, e⟩ := SlAt.addr h h0; cases e
  · obtain ⟨cells, hrow, hsrc⟩ := SlAt.src h
    first | refine XWP.reg (by kernel_rfl) fun K hK => ?_ | refine XWP.seq (XWP.reg (by kernel_rfl) fun K hK => ?_) | refine XWP.reg1 (by kernel_rfl) fun K hK => ?_
    refine bs_go (by kernel_rfl) #[] (by simp) (bs_zero elemT_22 zeroT_34) fun b hb1 hb2 => ?_
    simp only [XA, XB, gateX, Nat.reduceAdd, Nat.reduceLeDiff, Nat.reduceSub, Nat.reduceMul, ↓reduceIte, Int.reduceToNat, Int.reduceLE, beq_self_eq_true]
    refine ap_go elemT_22 (by kernel_rfl) zeroT_34 rfl (by omega) (n := 0) (xs := []) (own3 (by simp [upd]) rfl (Nat.le_refl _) (by omega)) (hsrc _) (by omega) (by omega) fun v' H' hres => ?_
    simp only [XA, XB, gateX, Nat.reduceAdd, Nat.reduceLeDiff, Nat.reduceSub, Nat.reduceMul, ↓reduceIte, Int.reduceToNat, Int.reduceLE, beq_self_eq_true]
    refine hK _ (XWP.ret ?_)
    try simp only [thenX_ret, inBlockX_ret]
    obtain ⟨hown, _, _⟩ := hres
    simp only [List.nil_append, Nat.zero_add] at hown
    obtain ⟨hl3, ⟨rfl, hn⟩ | ⟨g, cap, rfl, hg, hle, hcap⟩⟩ := hown
    · refine ret_own _ none rfl (fun g r e => by cases e) ?_
      exact .inl ⟨rfl, List.length_eq_zero_iff.1 hn, rfl⟩
    · refine ret_own _ (some (g, _)) rfl (fun g' r e => ?_) (.inr ⟨g, cells, cap, rfl, rfl, hrow, hle, hcap⟩)
      cases e; exact hg
end Go.Proofs.Ythoboehbadmlmaa
end
section
namespace Go.Proofs.Ythoboehbadmlmaa
def nxS (all a : List Rat) : Nat → Rat
  | 0 => 0
  | j + 1 => nxS all a j + cf a j * cf all (all.length - 1 - j)
def nxI (l a : List Rat) : Nat → List Rat
  | 0 => l
  | k + 1 => nxI l a k ++ [nxS (nxI l a k) a a.length]
def nextP (l a : List Rat) (n : Nat) : List Rat := (nxI l a n).drop l.length
theorem nxI_len (l a : List Rat) (n : Nat) : (nxI l a n).length = l.length + n := by
  induction n with
  | zero => rfl
  | succ n ih => rw [nxI, List.length_append, ih]; simp; omega
theorem nextP_len (l a : List Rat) (n : Nat) : (nextP l a n).length = n := by unfold nextP; rw [List.length_drop, nxI_len]; omega
theorem nxI_take (l a : List Rat) {k n : Nat} (h : k ≤ n) : (nxI l a n).take (l.length + k) = nxI l a k := by
  induction n with
  | zero => rw [show k = 0 by omega]; exact List.take_of_length_le (by rw [nxI_len]; omega)
  | succ n ih =>
    rcases Nat.eq_or_lt_of_le h with h1 | h1
    · rw [h1]; exact List.take_of_length_le (by rw [nxI_len]; omega)
    · rw [nxI, List.take_append_of_le_length (by rw [nxI_len]; omega)]
      exact ih (by omega)
theorem nxI_split (l a : List Rat) (n : Nat) : nxI l a n = l ++ nextP l a n := by
  have h := nxI_take l a (Nat.zero_le n)
  rw [Nat.add_zero] at h
  have := List.take_append_drop l.length (nxI l a n)
  rw [h] at this
  exact this.symm
theorem Over.nxs {D E A B : Nat} {all a : List Rat} (hD : 0 < D) (hE : 0 < E) (hl : ∀ i, Over D A (cf all i)) (hq : ∀ i, Over E B (cf a i)) (e : Nat) : ∀ k, k ≤ 2 ^ e → Over (D * E) (A + B + e) (nxS all a k) := by
  have key : ∀ m k, k ≤ 2 ^ m → ∀ s, Over (D * E) (A + B + m) (Sm (fun j => cf a (s + j) * cf all (all.length - 1 - (s + j))) k) := by
    intro m
    induction m with
    | zero =>
      intro k hk s
      have : k = 0 ∨ k = 1 := by omega
      rcases this with rfl | rfl
      · exact Over.zero _ _
      · have h := (hl (all.length - 1 - (s + 0))).mul (hq (s + 0))
        have e1 : Sm (fun j => cf a (s + j) * cf all (all.length - 1 - (s + j))) 1 = cf all (all.length - 1 - (s + 0)) * cf a (s + 0) := by
          simp only [Sm]; grind
        rw [e1]; exact h
    | succ m ih =>
      intro k hk s
      have h1 := ih (min k (2 ^ m)) (Nat.min_le_right _ _) s
      have h2 := ih (k - 2 ^ m) (by rw [Nat.pow_succ] at hk; omega) (s + min k (2 ^ m))
      have h3 := h1.add (Nat.mul_pos hD hE) h2
      have e1 : ∀ (f : Nat → Rat) (x y : Nat), Sm f (x + y) = Sm f x + Sm (fun j => f (x + j)) y := by
        intro f x y
        induction y with
        | zero => simp only [Sm, Nat.add_zero]; grind
        | succ y ih => rw [← Nat.add_assoc]; simp only [Sm, ih]; grind
      have e2 := e1 (fun j => cf a (s + j) * cf all (all.length - 1 - (s + j))) (min k (2 ^ m)) (k - 2 ^ m)
      rw [show min k (2 ^ m) + (k - 2 ^ m) = k by omega] at e2
      have e3 : (fun j => cf a (s + (min k (2 ^ m) + j)) * cf all (all.length - 1 - (s + (min k (2 ^ m) + j)))) = fun j => cf a (s + min k (2 ^ m) + j) * cf all (all.length - 1 - (s + min k (2 ^ m) + j)) := by
        funext j; rw [Nat.add_assoc]
      rw [e3] at e2
      rw [e2]; exact h3
  intro k hk
  have e1 : ∀ k, nxS all a k = Sm (fun j => cf a (0 + j) * cf all (all.length - 1 - (0 + j))) k := by
    intro k
    induction k with
    | zero => rfl
    | succ k ih => simp only [nxS, Sm, ih, Nat.zero_add]
  rw [e1]; exact key e k hk 0
theorem nxS_QB {C B e : Nat} {all a : List Rat} (hl : CB C all) (ha : CB B a) {k : Nat} (hk : k ≤ 2 ^ e) : QB (C + B + e) (nxS all a k) := by
  obtain ⟨D, d1, d2, d3⟩ := hl
  obtain ⟨E, e1, e2, e3⟩ := ha
  exact (Over.nxs d1 e1 d3 e3 e k hk).qb (Nat.le_trans (two_mul_le d2 e2) (two_mono (by omega)))
theorem nx_CB {C B e : Nat} {l a : List Rat} (hl : CB C l) (ha : CB B a) (he : a.length ≤ 2 ^ e) (n : Nat) : CB (C + n * (B + e)) (nxI l a n) := by
  induction n with
  | zero => exact hl.mono (by omega)
  | succ n ih =>
    obtain ⟨D, d1, d2, d3⟩ := ih
    obtain ⟨E, e1, e2, e3⟩ := ha
    have hm : C + n * (B + e) + B + e = C + (n + 1) * (B + e) := by rw [Nat.add_mul]; omega
    refine ⟨D * E, Nat.mul_pos d1 e1, Nat.le_trans (two_mul_le d2 e2) (two_mono (by omega)), fun i => ?_⟩
    rw [nxI, ← hm]
    rcases Nat.lt_or_ge i (nxI l a n).length with h | h
    · rw [cf_append_left h]
      exact ((d3 i).scale e1 e2).mono (by omega)
    · rw [cf_append_right h]
      by_cases h0 : i - (nxI l a n).length = 0
      · rw [h0]
        exact Over.nxs d1 e1 d3 e3 e _ he
      · rw [cf_none (by simp; omega)]; exact Over.zero _ _
end Go.Proofs.Ythoboehbadmlmaa
end
section
namespace Go.Proofs.Ythoboehbadmlmaa
open Go Go.RowKit
set_option linter.unusedSimpArgs false
set_option linter.unusedVariables false
attribute [local irreducible] XWP Spec SpecO XPub XCall seqX clX apX stX ldX iaX slX
theorem rowQ_load {H : Heap} {V : View} {b e tot : Nat} {cells : List Value} {xs : List Rat} (hr : H b = some ⟨e, cells, tot⟩) (h : RowAt ratE V cells xs) (i : Nat) (hi : i < xs.length) : ∃ m n d, RatC V (.agg #[m, n, d]) (cf xs i) ∧ (isOne m = true ∧ isOne n = true ∧ isOne d = true) ∧ Loads Try.prog H V 34 b (i * 3) (.agg #[m, n, d]) := by
  obtain ⟨v, h1, ⟨m, n, d, rfl, o1⟩, h2⟩ := RowAt.load hr h i hi
  rw [cf_get hi] at h1
  exact ⟨m, n, d, h1, o1, h2⟩
/-- nothing there, and a row that is owned -/
theorem own_addRow {V : View} {v : Value} {l : List Rat} {o : Option (Nat × Row)} (h : (v = .slice none 0 0 ∧ l = [] ∧ o = none) ∨ ∃ g cells c, v = .slice (some ⟨g, 0, none⟩) l.length c ∧ o = some (g, ⟨34, cells, c * 3⟩) ∧ RowAt ratE V cells l ∧ l.length ≤ c ∧ c ≤ maxLen) :
    ∃ cells, Own (addRow (fun _ => none) o) 34 3 v l.length cells ∧ RowAt ratE V cells l := by
  rcases h with ⟨rfl, rfl, rfl⟩ | ⟨g, cells, c, rfl, rfl, h1, h2, h3⟩
  · exact ⟨[], ⟨rfl, .inl ⟨rfl, rfl⟩⟩, RowAt.nil _⟩
  · exact ⟨cells, own3 (show upd (fun _ => none) g (some _) g = some _ from upd_at _ _ _) h1.1 h2 (by unfold maxLen at h3; omega), h1⟩
theorem RowAt.drop {α : Type} {E : View → Value → α → Prop} {V : View} {cells : List Value} {xs : List α} (h : RowAt E V cells xs) (k : Nat) : RowAt E V (cells.drop (k * 3)) (xs.drop k) := by
  refine ⟨by rw [List.length_drop, List.length_drop, h.1]; omega, fun i x hi => ?_⟩
  rw [List.getElem?_drop] at hi
  obtain ⟨m, n, d, g1, g2, g3, r⟩ := h.2 (k + i) x hi
  refine ⟨m, n, d, ?_, ?_, ?_, r⟩
  · show (cells.drop (k * 3))[i * 3]? = _
    rw [List.getElem?_drop, show k * 3 + i * 3 = (k + i) * 3 by omega]; exact g1
  · show (cells.drop (k * 3))[i * 3 + 1]? = _
    rw [List.getElem?_drop, show k * 3 + (i * 3 + 1) = (k + i) * 3 + 1 by omega]; exact g2
  · show (cells.drop (k * 3))[i * 3 + 2]? = _
    rw [List.getElem?_drop, show k * 3 + (i * 3 + 2) = (k + i) * 3 + 2 by omega]; exact g3
theorem src_drop {α : Type} {E : View → Value → α → Prop} {H : Heap} {V : View} {b e tot n c k : Nat} {cells : List Value} {xs : List α} (h : RowAt E V cells xs) (hr : H b = some ⟨e, cells, tot⟩) (hn : xs.length = n) (hk : k ≤ n) (hc : n ≤ c) :
    Src H V 3 (sliceV (some ⟨b, 0, none⟩) c 3 k n) (n - k) (cells.drop (k * 3)) := by
  obtain ⟨_, _, _, h1, h2, _⟩ := h.src (c := c) hr hn
  unfold sliceV
  refine ⟨_, c - k, rfl, by rw [List.length_drop, h1]; omega, fun u hu => h2 u (List.mem_of_mem_drop hu), ?_⟩
  by_cases hck : c = k
  · exact .inl (by omega)
  · refine .inr ⟨b, 0 + k * 3, ?_, fun j u hj => .inl ⟨_, hr, ?_⟩⟩
    · rw [if_neg hck, Option.map_some, addr_add]
    · rw [List.getElem?_drop] at hj
      rw [Nat.zero_add]; exact hj
theorem src_nil3 {H : Heap} {V : View} (k : Nat) : Src H V 3 (sliceV none 0 3 k 0) 0 [] :=
  ⟨_, 0 - k, by unfold sliceV; rw [Nat.zero_sub], rfl, fun u hu => (by cases hu), .inl rfl⟩
theorem listsE_zero {L A : List Raw} {N : Int} (h : listsE L A N = 0) : okR L = true ∧ okR A = true ∧ L.length ≤ 400 ∧ A.length ≤ L.length ∧ 0 ≤ N ∧ N ≤ 400 := by
  unfold listsE at h
  split at h
  · cases h
  · rename_i h1
    split at h
    · cases h
    · split at h
      · cases h
      · refine ⟨?_, ?_, by omega, by omega, by omega, by omega⟩
        · cases hk : okR L
          · exact absurd (.inl hk) h1
          · rfl
        · cases hk : okR A
          · exact absurd (.inr hk) h1
          · rfl
theorem cnext_c (V : View) (v u : Value) (L A : List Raw) (N : Int) (hv : Raws V v L) (hu : Raws V u A) (fL : fitR L) (fA : fitR A) (lL : L.length ≤ 1000000) (lA : A.length ≤ 1000000) (C B : Nat)
    (hC : listsE L A N = 0 → CB C (nxI (qs L) (qs A) N.toNat) ∧ CB B (qs A)) (hfit : C + B + 10 ≤ 17592186044416) :
    Spec Try.prog 15 [v, u, .int .i64 N] V fun v' V' => (listsE L A N ≠ 0 → v' = .tuple #[.slice none 0 0, .int .i64 (listsE L A N)]) ∧ (listsE L A N = 0 → ∃ w, v' = .tuple #[w, .int .i64 0] ∧ Rats V' w (nextP (qs L) (qs A) N.toNat)) := by
  obtain ⟨A1, c1, rfl, hc1, hm1⟩ := hv.form
  obtain ⟨A2, c2, rfl, hc2, hm2⟩ := hu.form
  refine (Spec.enter Try.func15 rfl fun Γ => ?_)
  simp only [Try.ntmps15, List.map_cons, List.map_nil, List.length_cons, List.length_nil, Nat.reduceAdd, Nat.reduceSub, List.replicate_succ, List.replicate_zero, List.cons_append, List.nil_append]
  first | refine XWP.reg (by kernel_rfl) fun K hK => ?_ | refine XWP.seq (XWP.reg (by kernel_rfl) fun K hK => ?_) | refine XWP.reg1 (by kernel_rfl) fun K hK => ?_
  simp only [XA, XB, gateX, Nat.reduceAdd, Nat.reduceLeDiff, Nat.reduceSub, Nat.reduceMul, ↓reduceIte, Int.reduceToNat, Int.reduceLE, beq_self_eq_true]
  refine hK _ ?_
  refine XWP.seq ?_
  first | refine XWP.reg (by kernel_rfl) fun K hK => ?_ | refine XWP.seq (XWP.reg (by kernel_rfl) fun K hK => ?_) | refine XWP.reg1 (by kernel_rfl) fun K hK => ?_
  simp only [XA, XB, gateX, Nat.reduceAdd, Nat.reduceLeDiff, Nat.reduceSub, Nat.reduceMul, ↓reduceIte, Int.reduceToNat, Int.reduceLE, beq_self_eq_true]
  refine call_go (by kernel_rfl) rfl (lists_c _ _ _ L A N hv hu fL fA lL lA) fun v1 V1 hV1 h1 => ?_
  subst h1
  simp only [XA, XB, gateX, Nat.reduceAdd, Nat.reduceLeDiff, Nat.reduceSub, Nat.reduceMul, ↓reduceIte, Int.reduceToNat, Int.reduceLE, beq_self_eq_true]
  refine hK _ ?_
  by_cases he : listsE L A N = 0
  rotate_left
  · have b1 : (!decide (listsE L A N = 0)) = true := by rw [decide_eq_false he]; rfl
    first | refine XWP.reg (by kernel_rfl) fun K hK => ?_ | refine XWP.seq (XWP.reg (by kernel_rfl) fun K hK => ?_) | refine XWP.reg1 (by kernel_rfl) fun K hK => ?_
    simp only [XA, XB, gateX, Nat.reduceAdd, Nat.reduceLeDiff, Nat.reduceSub, Nat.reduceMul, ↓reduceIte, Int.reduceToNat, Int.reduceLE, beq_self_eq_true, b1]
    refine hK _ ?_
    first | refine XWP.cond (t := true) rfl (fun _ => ?_) (fun h => by cases h) | refine XWP.seq (XWP.cond (t := true) rfl (fun _ => ?_) (fun h => by cases h))
    first | refine XWP.reg (by kernel_rfl) fun K hK => ?_ | refine XWP.seq (XWP.reg (by kernel_rfl) fun K hK => ?_) | refine XWP.reg1 (by kernel_rfl) fun K hK => ?_
    simp only [XA, XB, gateX, Nat.reduceAdd, Nat.reduceLeDiff, Nat.reduceSub, Nat.reduceMul, ↓reduceIte, Int.reduceToNat, Int.reduceLE, beq_self_eq_true]
    refine hK _ (XWP.ret ?_)
    try simp only [thenX_ret, inBlockX_ret]
    refine ret_go _ rfl ?_
    exact ⟨fun _ => rfl, fun h => absurd h he⟩
  have b1 : (!decide (listsE L A N = 0)) = false := by rw [decide_eq_true he]; rfl
  first | refine XWP.reg (by kernel_rfl) fun K hK => ?_ | refine XWP.seq (XWP.reg (by kernel_rfl) fun K hK => ?_) | refine XWP.reg1 (by kernel_rfl) fun K hK => ?_
  simp only [XA, XB, gateX, Nat.reduceAdd, Nat.reduceLeDiff, Nat.reduceSub, Nat.reduceMul, ↓reduceIte, Int.reduceToNat, Int.reduceLE, beq_self_eq_true, b1]
  refine hK _ ?_
  first | refine XWP.cond (t := false) rfl (fun h => by cases h) (fun _ => ?_) | refine XWP.seq (XWP.cond (t := false) rfl (fun h => by cases h) (fun _ => ?_))
  refine XWP.skip ?_
  have hC := hC he
  obtain ⟨k1, k2, k3, k4, k5, k6⟩ := listsE_zero he
  have hl := (Raws.rats hv k1).up hV1
  have ha := (Raws.rats hu k2).up hV1
  have el := qs_len L
  have ea := qs_len A
  obtain ⟨N, rfl⟩ : ∃ n : Nat, N = n := ⟨N.toNat, by omega⟩
  rw [Int.toNat_natCast] at *
  generalize listsE L A N = E at he
  generalize qs L = l at *
  generalize qs A = a at *
  obtain ⟨hCl, hCa⟩ := hC
  have hCi : ∀ i, i ≤ N → CB C (nxI l a i) := fun i hi => by rw [← nxI_take l a hi]; exact hCl.take _
  refine XWP.cut (fun s => ∃ (V5 : View) (H5 : Heap) (w : Value) (cells : List Value), StIs (fun τ => [.v (.slice A1 L.length c1), .v (.slice A2 A.length c2), .v (.int .i64 (N : Int)), τ 3, τ 4, τ 5, τ 6, τ 7, τ 8, .v w, τ 10, τ 11, τ 12, τ 13, τ 14, τ 15, τ 16, τ 17, τ 18, τ 19, τ 20, τ 21, τ 22, τ 23, τ 24, τ 25, τ 26, τ 27, τ 28, τ 29, τ 30, τ 31, τ 32, τ 33, τ 34, τ 35, τ 36, τ 37, τ 38, τ 39, τ 40, τ 41, τ 42, τ 43, τ 44, τ 45, τ 46, τ 47, τ 48, τ 49, τ 50, τ 51, τ 52, τ 53, τ 54, τ 55, τ 56]) [] H5 V5 s ∧ V1.le V5 ∧ Own H5 34 3 w l.length cells ∧ RowAt ratE V5 cells l) ?_ ?_
  · first | refine XWP.reg (by kernel_rfl) fun K hK => ?_ | refine XWP.seq (XWP.reg (by kernel_rfl) fun K hK => ?_) | refine XWP.reg1 (by kernel_rfl) fun K hK => ?_
    simp only [XA, XB, gateX, Nat.reduceAdd, Nat.reduceLeDiff, Nat.reduceSub, Nat.reduceMul, ↓reduceIte, Int.reduceToNat, Int.reduceLE, beq_self_eq_true]
    refine call_own (by kernel_rfl) rfl (rclone_o _ _ l hl (by omega)) fun v5 V5 o5 hV5 hs5 h5 => ?_
    obtain ⟨cells, h6, h7⟩ := own_addRow h5
    simp only [XA, XB, gateX, Nat.reduceAdd, Nat.reduceLeDiff, Nat.reduceSub, Nat.reduceMul, ↓reduceIte, Int.reduceToNat, Int.reduceLE, beq_self_eq_true]
    exact hK _ ⟨V5, _, v5, cells, StIs.of (by exact rfl), hV5, h6, h7⟩
  rintro s ⟨V5, H5, w, cells, hs, hV5, hown, hrow⟩
  obtain ⟨z, rfl⟩ := hs.out
  try dsimp only
  refine XWP.cutD 0 (fun s => ∃ (V6 : View) (H6 : Heap) (w : Value) (cells : List Value), StIs (fun τ => [.v (.slice A1 L.length c1), .v (.slice A2 A.length c2), .v (.int .i64 (N : Int)), τ 3, τ 4, τ 5, τ 6, τ 7, τ 8, .v w, τ 10, τ 11, τ 12, τ 13, τ 14, τ 15, τ 16, τ 17, τ 18, τ 19, τ 20, τ 21, τ 22, τ 23, τ 24, τ 25, τ 26, τ 27, τ 28, τ 29, τ 30, τ 31, τ 32, τ 33, τ 34, τ 35, τ 36, τ 37, τ 38, τ 39, τ 40, τ 41, τ 42, τ 43, τ 44, τ 45, τ 46, τ 47, τ 48, τ 49, τ 50, τ 51, τ 52, τ 53, τ 54, τ 55, τ 56]) [] H6 V6 s ∧ V1.le V6 ∧ Own H6 34 3 w (l.length + N) cells ∧ RowAt ratE V6 cells (nxI l a N)) ?_ ?_
  · first | refine XWP.reg (by kernel_rfl) fun K hK => ?_ | refine XWP.seq (XWP.reg (by kernel_rfl) fun K hK => ?_) | refine XWP.reg1 (by kernel_rfl) fun K hK => ?_
    simp only [XA, XB, gateX, Nat.reduceAdd, Nat.reduceLeDiff, Nat.reduceSub, Nat.reduceMul, ↓reduceIte, Int.reduceToNat, Int.reduceLE, beq_self_eq_true]
    refine hK _ ?_
    clear hK
    first | refine XWP.block ?_ | refine XWP.seq (XWP.block ?_)
    refine XWP.loopD 0 (fun m s => ∃ (i : Nat) (V6 : View) (H6 : Heap) (w : Value) (cells : List Value), StIs (fun τ => [.v (.slice A1 L.length c1), .v (.slice A2 A.length c2), .v (.int .i64 (N : Int)), τ 3, τ 4, τ 5, τ 6, τ 7, τ 8, .v w, τ 10, τ 11, τ 12, τ 13, τ 14, τ 15, τ 16, τ 17, τ 18, τ 19, τ 20, τ 21, .v (.int .i64 (N : Int)), .v (.int .i64 (i : Int)), τ 24, τ 25, τ 26, τ 27, τ 28, τ 29, τ 30, τ 31, τ 32, τ 33, τ 34, τ 35, τ 36, τ 37, τ 38, τ 39, τ 40, τ 41, τ 42, τ 43, τ 44, τ 45, τ 46, τ 47, τ 48, τ 49, τ 50, τ 51, τ 52, τ 53, τ 54, τ 55, τ 56]) [] H6 V6 s ∧ V1.le V6 ∧ m + i = N ∧ Own H6 34 3 w (l.length + i) cells ∧ RowAt ratE V6 cells (nxI l a i)) N ⟨0, V5, H5, w, cells, StIs.of (by exact rfl), hV5, by omega, hown, hrow⟩ ?_
    clear hs z hown hrow
    rintro m s ⟨i, V6, H6, w, cells, hs, hV6, hm, hown, hrow⟩
    obtain ⟨z, rfl⟩ := hs.out
    try dsimp only
    by_cases hi : i < N
    rotate_left
    · obtain rfl : i = N := by omega
      have b2 : decide ((i : Int) < (i : Int)) = false := decide_eq_false (by omega)
      first | refine XWP.reg (by kernel_rfl) fun K hK => ?_ | refine XWP.seq (XWP.reg (by kernel_rfl) fun K hK => ?_) | refine XWP.reg1 (by kernel_rfl) fun K hK => ?_
      simp only [XA, XB, gateX, Nat.reduceAdd, Nat.reduceLeDiff, Nat.reduceSub, Nat.reduceMul, ↓reduceIte, Int.reduceToNat, Int.reduceLE, beq_self_eq_true, b2]
      refine hK _ ?_
      first | refine XWP.cond (t := false) rfl (fun h => by cases h) (fun _ => ?_) | refine XWP.seq (XWP.cond (t := false) rfl (fun h => by cases h) (fun _ => ?_))
      refine XWP.exit ?_
      exact fun f => ⟨V6, H6, w, cells, StIs.of (by exact rfl), hV6, hown, hrow⟩
    have b2 : decide ((i : Int) < (N : Int)) = true := decide_eq_true (by omega)
    first | refine XWP.reg (by kernel_rfl) fun K hK => ?_ | refine XWP.seq (XWP.reg (by kernel_rfl) fun K hK => ?_) | refine XWP.reg1 (by kernel_rfl) fun K hK => ?_
    simp only [XA, XB, gateX, Nat.reduceAdd, Nat.reduceLeDiff, Nat.reduceSub, Nat.reduceMul, ↓reduceIte, Int.reduceToNat, Int.reduceLE, beq_self_eq_true, b2]
    refine hK _ ?_
    first | refine XWP.cond (t := true) rfl (fun _ => ?_) (fun h => by cases h) | refine XWP.seq (XWP.cond (t := true) rfl (fun _ => ?_) (fun h => by cases h))
    refine XWP.skip ?_
    refine XWP.seq ?_
    first | refine XWP.block ?_ | refine XWP.seq (XWP.block ?_)
    first | refine XWP.reg (by kernel_rfl) fun K hK => ?_ | refine XWP.seq (XWP.reg (by kernel_rfl) fun K hK => ?_) | refine XWP.reg1 (by kernel_rfl) fun K hK => ?_
    simp only [XA, XB, gateX, Nat.reduceAdd, Nat.reduceLeDiff, Nat.reduceSub, Nat.reduceMul, ↓reduceIte, Int.reduceToNat, Int.reduceLE, beq_self_eq_true]
    refine call_go (by kernel_rfl) rfl (qzero_c _) fun v7 V7 hV7 h7 => ?_
    obtain ⟨x7, y7, rfl, o1, o2⟩ := h7.form
    simp only [XA, XB, gateX, Nat.reduceAdd, Nat.reduceLeDiff, Nat.reduceSub, Nat.reduceMul, ↓reduceIte, Int.reduceToNat, Int.reduceLE, beq_self_eq_true]
    refine st_rat rfl rfl rfl o1 o2 ?_
    simp only [XA, XB, gateX, Nat.reduceAdd, Nat.reduceLeDiff, Nat.reduceSub, Nat.reduceMul, ↓reduceIte, Int.reduceToNat, Int.reduceLE, beq_self_eq_true]
    refine hK _ ?_
    clear hK
    have hCi' := hCi i (by omega)
    have hlen := nxI_len l a i
    obtain ⟨all, hall⟩ : ∃ all, all = nxI l a i := ⟨_, rfl⟩
    rw [← hall] at hrow hCi' hlen
    have hS : ∀ k, k ≤ 512 → QF (nxS all a k) := fun k hk => (nxS_QB (e := 9) hCi' hCa hk).qf (by omega)
    have hT : ∀ j, QF (cf a j * cf all (all.length - 1 - j)) := fun j => ((hCa.at j).mul (hCi'.at _)).qf (by omega)
    refine XWP.cutD 1 (fun s => ∃ (V8 : View) (m : Bool) (x y : Value), StIs (fun τ => [.v (.slice A1 L.length c1), .v (.slice A2 A.length c2), .v (.int .i64 (N : Int)), τ 3, τ 4, τ 5, τ 6, τ 7, τ 8, .v w, .p 0 0, τ 11, τ 12, τ 13, τ 14, τ 15, τ 16, τ 17, τ 18, τ 19, τ 20, τ 21, .v (.int .i64 (N : Int)), .v (.int .i64 (i : Int)), τ 24, τ 25, τ 26, τ 27, τ 28, τ 29, τ 30, τ 31, τ 32, τ 33, τ 34, τ 35, τ 36, τ 37, τ 38, τ 39, τ 40, τ 41, τ 42, τ 43, τ 44, τ 45, τ 46, τ 47, τ 48, τ 49, τ 50, τ 51, τ 52, τ 53, τ 54, τ 55, τ 56]) [[.bool m, x, y]] H6 V8 s ∧ V6.le V8 ∧ RatC V8 (.agg #[.bool m, x, y]) (nxS all a A.length) ∧ isOne x = true ∧ isOne y = true) ?_ ?_
    · first | refine XWP.reg (by kernel_rfl) fun K hK => ?_ | refine XWP.seq (XWP.reg (by kernel_rfl) fun K hK => ?_) | refine XWP.reg1 (by kernel_rfl) fun K hK => ?_
      simp only [XA, XB, gateX, Nat.reduceAdd, Nat.reduceLeDiff, Nat.reduceSub, Nat.reduceMul, ↓reduceIte, Int.reduceToNat, Int.reduceLE, beq_self_eq_true]
      refine hK _ ?_
      clear hK
      first | refine XWP.block ?_ | refine XWP.seq (XWP.block ?_)
      refine XWP.loopD 1 (fun r s => ∃ (j : Nat) (V8 : View) (m : Bool) (x y : Value), StIs (fun τ => [.v (.slice A1 L.length c1), .v (.slice A2 A.length c2), .v (.int .i64 (N : Int)), τ 3, τ 4, τ 5, τ 6, τ 7, τ 8, .v w, .p 0 0, τ 11, τ 12, τ 13, τ 14, τ 15, τ 16, τ 17, τ 18, τ 19, τ 20, τ 21, .v (.int .i64 (N : Int)), .v (.int .i64 (i : Int)), τ 24, τ 25, .v (.slice A2 A.length c2), .v (.int .i64 (A.length : Int)), .v (.int .i64 (j : Int)), τ 29, τ 30, τ 31, τ 32, τ 33, τ 34, τ 35, τ 36, τ 37, τ 38, τ 39, τ 40, τ 41, τ 42, τ 43, τ 44, τ 45, τ 46, τ 47, τ 48, τ 49, τ 50, τ 51, τ 52, τ 53, τ 54, τ 55, τ 56]) [[.bool m, x, y]] H6 V8 s ∧ V6.le V8 ∧ r + j = A.length ∧ RatC V8 (.agg #[.bool m, x, y]) (nxS all a j) ∧ isOne x = true ∧ isOne y = true) A.length ⟨0, V7, _, x7, y7, StIs.of (by exact rfl), hV7, by omega, h7, o1, o2⟩ ?_
      clear h7 o1 o2
      rintro r s ⟨j, V8, m', x, y, hs, hV8, hr, h8, o1, o2⟩
      obtain ⟨z, rfl⟩ := hs.out
      try dsimp only
      by_cases hj : j < A.length
      rotate_left
      · obtain rfl : j = A.length := by omega
        have b3 : decide ((A.length : Int) < (A.length : Int)) = false := decide_eq_false (by omega)
        first | refine XWP.reg (by kernel_rfl) fun K hK => ?_ | refine XWP.seq (XWP.reg (by kernel_rfl) fun K hK => ?_) | refine XWP.reg1 (by kernel_rfl) fun K hK => ?_
        simp only [XA, XB, gateX, Nat.reduceAdd, Nat.reduceLeDiff, Nat.reduceSub, Nat.reduceMul, ↓reduceIte, Int.reduceToNat, Int.reduceLE, beq_self_eq_true, b3]
        refine hK _ ?_
        first | refine XWP.cond (t := false) rfl (fun h => by cases h) (fun _ => ?_) | refine XWP.seq (XWP.cond (t := false) rfl (fun h => by cases h) (fun _ => ?_))
        refine XWP.exit ?_
        exact fun f => ⟨V8, m', x, y, StIs.of (by exact rfl), hV8, h8, o1, o2⟩
      have b3 : decide ((j : Int) < (A.length : Int)) = true := decide_eq_true (by omega)
      first | refine XWP.reg (by kernel_rfl) fun K hK => ?_ | refine XWP.seq (XWP.reg (by kernel_rfl) fun K hK => ?_) | refine XWP.reg1 (by kernel_rfl) fun K hK => ?_
      simp only [XA, XB, gateX, Nat.reduceAdd, Nat.reduceLeDiff, Nat.reduceSub, Nat.reduceMul, ↓reduceIte, Int.reduceToNat, Int.reduceLE, beq_self_eq_true, b3]
      refine hK _ ?_
      first | refine XWP.cond (t := true) rfl (fun _ => ?_) (fun h => by cases h) | refine XWP.seq (XWP.cond (t := true) rfl (fun _ => ?_) (fun h => by cases h))
      refine XWP.skip ?_
      refine XWP.seq ?_
      first | refine XWP.block ?_ | refine XWP.seq (XWP.block ?_)
      have ha8 := ha.up (View.le_trans hV6 hV8)
      obtain ⟨b, o, rfl⟩ := SlAt.addr ha8 (by omega)
      obtain ⟨m3, n3, d3, hx3, ⟨p1, p2, p3⟩, hld3⟩ := Rats.get ha8 j (by omega)
      first | refine XWP.reg (by kernel_rfl) fun K hK => ?_ | refine XWP.seq (XWP.reg (by kernel_rfl) fun K hK => ?_) | refine XWP.reg1 (by kernel_rfl) fun K hK => ?_
      simp only [XA, XB, gateX, Nat.reduceAdd, Nat.reduceLeDiff, Nat.reduceSub, Nat.reduceMul, ↓reduceIte, Int.reduceToNat, Int.reduceLE, beq_self_eq_true]
      refine ⟨by omega, by omega, ld_mem (hld3 _) ?_⟩
      simp only [XA, XB, gateX, Nat.reduceAdd, Nat.reduceLeDiff, Nat.reduceSub, Nat.reduceMul, ↓reduceIte, Int.reduceToNat, Int.reduceLE, beq_self_eq_true]
      refine st_rat rfl rfl p1 p2 p3 ?_
      simp only [XA, XB, gateX, Nat.reduceAdd, Nat.reduceLeDiff, Nat.reduceSub, Nat.reduceMul, ↓reduceIte, Int.reduceToNat, Int.reduceLE, beq_self_eq_true]
      refine hK _ ?_
      rcases own_parts hown with ⟨_, h0, _⟩ | ⟨g, cap, rfl, hg, hle, hcap, hcl⟩
      · omega
      have w1 := i64_pred (l.length + i) (by omega) (by omega)
      have w2 := i64_sub (l.length + i - 1) j (by omega) (by omega)
      have hrow8 := hrow.mono ratE_ok hV8
      obtain ⟨m4, n4, d4, hx4, ⟨r1, r2, r3⟩, hld4⟩ := rowQ_load hg hrow8 (l.length + i - 1 - j) (by omega)
      (first | refine XWP.drw [0, 1, 2, 3, 4, 5, 6, 7, 8, 9, 10, 11, 12] (by kernel_rfl) (by kernel_rfl) (by kernel_rfl) fun K hK => ?_ | refine XWP.seq (XWP.drw [0, 1, 2, 3, 4, 5, 6, 7, 8, 9, 10, 11, 12] (by kernel_rfl) (by kernel_rfl) (by kernel_rfl) fun K hK => ?_) | refine XWP.drw1 [0, 1, 2, 3, 4, 5, 6, 7, 8, 9, 10, 11, 12] (by kernel_rfl) (by kernel_rfl) (by kernel_rfl) fun K hK => ?_) <;> dsimp only [pickOps, List.getElem?_cons_zero, List.getElem?_cons_succ]
      simp only [XA, XB, gateX, Nat.reduceAdd, Nat.reduceLeDiff, Nat.reduceSub, Nat.reduceMul, ↓reduceIte, Int.reduceToNat, Int.reduceLE, beq_self_eq_true, w1, w2]
      refine ⟨by omega, by omega, ?_⟩
      refine ld_mem hld4 ?_
      simp only [XA, XB, gateX, Nat.reduceAdd, Nat.reduceLeDiff, Nat.reduceSub, Nat.reduceMul, ↓reduceIte, Int.reduceToNat, Int.reduceLE, beq_self_eq_true]
      refine call_go (by kernel_rfl) rfl (qmul_c _ _ _ _ _ hx3 hx4 ((hCa.at _).qf (by omega)) ((hCi'.at _).qf (by omega))) fun v9 V9 hV9 h9 => ?_
      simp only [XA, XB, gateX, Nat.reduceAdd, Nat.reduceLeDiff, Nat.reduceSub, Nat.reduceMul, ↓reduceIte, Int.reduceToNat, Int.reduceLE, beq_self_eq_true]
      refine call_go (by kernel_rfl) rfl (qadd_c _ _ _ _ _ (h8.mono hV9) h9 (hS j (by omega)) (by have := hT j; rw [hlen] at this; exact this)) fun v10 V10 hV10 h10 => ?_
      obtain ⟨x10, y10, rfl, o6, o7⟩ := h10.form
      simp only [XA, XB, gateX, Nat.reduceAdd, Nat.reduceLeDiff, Nat.reduceSub, Nat.reduceMul, ↓reduceIte, Int.reduceToNat, Int.reduceLE, beq_self_eq_true]
      refine st_rat rfl rfl rfl o6 o7 ?_
      simp only [XA, XB, gateX, Nat.reduceAdd, Nat.reduceLeDiff, Nat.reduceSub, Nat.reduceMul, ↓reduceIte, Int.reduceToNat, Int.reduceLE, beq_self_eq_true]
      refine hK _ ?_
      first | refine XWP.reg (by kernel_rfl) fun K hK => ?_ | refine XWP.seq (XWP.reg (by kernel_rfl) fun K hK => ?_) | refine XWP.reg1 (by kernel_rfl) fun K hK => ?_
      simp only [XA, XB, gateX, Nat.reduceAdd, Nat.reduceLeDiff, Nat.reduceSub, Nat.reduceMul, ↓reduceIte, Int.reduceToNat, Int.reduceLE, beq_self_eq_true, i64_succ j (by omega)]
      exact hK _ ⟨r - 1, by omega, fun f => ⟨j + 1, V10, _, x10, y10, StIs.of (by exact rfl), View.le_trans hV8 (View.le_trans hV9 hV10), by omega, by rw [nxS, hlen]; exact h10, o6, o7⟩⟩
    clear h7 o1 o2
    rintro s ⟨V8, m', x, y, hs, hV8, h8, o1, o2⟩
    obtain ⟨z, rfl⟩ := hs.out
    try dsimp only
    first | refine XWP.reg (by kernel_rfl) fun K hK => ?_ | refine XWP.seq (XWP.reg (by kernel_rfl) fun K hK => ?_) | refine XWP.reg1 (by kernel_rfl) fun K hK => ?_
    simp only [XA, XB, gateX, Nat.reduceAdd, Nat.reduceLeDiff, Nat.reduceSub, Nat.reduceMul, ↓reduceIte, Int.reduceToNat, Int.reduceLE, beq_self_eq_true]
    refine bs_go (by kernel_rfl) #[(0, .agg #[.bool m', x, y])] (by simp [ev_tmp, SV.val]) (bs_rat elemT_22) fun b3 hb3 hb4 => ?_
    simp only [XA, XB, gateX, Nat.reduceAdd, Nat.reduceLeDiff, Nat.reduceSub, Nat.reduceMul, ↓reduceIte, Int.reduceToNat, Int.reduceLE, beq_self_eq_true]
    refine ap_go elemT_22 (by kernel_rfl) zeroT_34 rfl (by omega) (own_upd hown hb3) (src3 (upd_at _ _ _) rfl o1 o2) (by omega) (by omega) fun v' H' hres => ?_
    simp only [XA, XB, gateX, Nat.reduceAdd, Nat.reduceLeDiff, Nat.reduceSub, Nat.reduceMul, ↓reduceIte, Int.reduceToNat, Int.reduceLE, beq_self_eq_true]
    refine hK _ ?_
    first | refine XWP.reg (by kernel_rfl) fun K hK => ?_ | refine XWP.seq (XWP.reg (by kernel_rfl) fun K hK => ?_) | refine XWP.reg1 (by kernel_rfl) fun K hK => ?_
    simp only [XA, XB, gateX, Nat.reduceAdd, Nat.reduceLeDiff, Nat.reduceSub, Nat.reduceMul, ↓reduceIte, Int.reduceToNat, Int.reduceLE, beq_self_eq_true, i64_succ i (by omega)]
    have hrow' := (hrow.mono ratE_ok hV8).snoc (show isOne (.bool m') = true from rfl) o1 o2 h8
    rw [hall, ← ea, show nxI l a i ++ [nxS (nxI l a i) a a.length] = nxI l a (i + 1) from rfl] at hrow'
    exact hK _ ⟨m - 1, by omega, fun f => ⟨i + 1, V8, _, _, _, StIs.of (by exact rfl), View.le_trans hV6 hV8, by omega, hres.1, hrow'⟩⟩
  rintro s ⟨V6, H6, w, cells, hs, hV6, hown, hrow⟩
  obtain ⟨z, rfl⟩ := hs.out
  try dsimp only
  have hlen := nxI_len l a N
  rcases own_parts hown with ⟨rfl, h0, rfl⟩ | ⟨g, cap, rfl, hg, hle, hcap, hcl⟩
  · first | refine XWP.reg (by kernel_rfl) fun K hK => ?_ | refine XWP.seq (XWP.reg (by kernel_rfl) fun K hK => ?_) | refine XWP.reg1 (by kernel_rfl) fun K hK => ?_
    refine bs_go (by kernel_rfl) #[] (by simp) (bs_zero elemT_22 zeroT_34) fun b hb1 hb2 => ?_
    simp only [XA, XB, gateX, Nat.reduceAdd, Nat.reduceLeDiff, Nat.reduceSub, Nat.reduceMul, ↓reduceIte, Int.reduceToNat, Int.reduceLE, beq_self_eq_true]
    refine ⟨by omega, by omega, by omega, ?_⟩
    refine ap_go elemT_22 (by kernel_rfl) zeroT_34 rfl (by omega) (n := 0) (xs := []) (own3 (by simp [upd]) rfl (Nat.le_refl _) (by omega)) (src_nil3 _) (by omega) (by omega) fun v' H' hres => ?_
    simp only [XA, XB, gateX, Nat.reduceAdd, Nat.reduceLeDiff, Nat.reduceSub, Nat.reduceMul, ↓reduceIte, Int.reduceToNat, Int.reduceLE, beq_self_eq_true]
    refine hK _ (XWP.ret ?_)
    try simp only [thenX_ret, inBlockX_ret]
    have hnil : nextP l a N = [] := List.length_eq_zero_iff.1 (by rw [nextP_len]; omega)
    rcases own_parts hres.1 with ⟨rfl, _, _⟩ | ⟨g, cap, rfl, hg, hle, hcap, _⟩
    · exact ret_go _ rfl ⟨fun h => absurd he h, fun _ => ⟨_, rfl, by rw [hnil]; exact SlAt.nil _⟩⟩
    · refine ret_pub g _ hg fun o ho hle' => ret_go _ rfl ⟨fun h => absurd he h, fun _ => ⟨_, rfl, ?_⟩⟩
      rw [hnil]
      exact (RowAt.nil _).pub ratE_ok ho hle' rfl hle (by unfold maxLen at hcap; omega)
  · first | refine XWP.reg (by kernel_rfl) fun K hK => ?_ | refine XWP.seq (XWP.reg (by kernel_rfl) fun K hK => ?_) | refine XWP.reg1 (by kernel_rfl) fun K hK => ?_
    refine bs_go (by kernel_rfl) #[] (by simp) (bs_zero elemT_22 zeroT_34) fun b hb1 hb2 => ?_
    have hb1' : H6 b = none := hb1
    have hgb : g ≠ b := fun e => by subst e; rw [hg] at hb1'; cases hb1'
    simp only [XA, XB, gateX, Nat.reduceAdd, Nat.reduceLeDiff, Nat.reduceSub, Nat.reduceMul, ↓reduceIte, Int.reduceToNat, Int.reduceLE, beq_self_eq_true]
    refine ⟨by omega, by omega, by omega, ?_⟩
    refine ap_go elemT_22 (by kernel_rfl) zeroT_34 rfl (by omega) (n := 0) (xs := []) (own3 (by simp [upd]) rfl (Nat.le_refl _) (by omega)) (src_drop hrow (by simp only [upd, if_neg hgb]; exact hg) hlen (by omega) hle) (by omega) (by omega) fun v' H' hres => ?_
    simp only [XA, XB, gateX, Nat.reduceAdd, Nat.reduceLeDiff, Nat.reduceSub, Nat.reduceMul, ↓reduceIte, Int.reduceToNat, Int.reduceLE, beq_self_eq_true]
    refine hK _ (XWP.ret ?_)
    try simp only [thenX_ret, inBlockX_ret]
    have hrow' := hrow.drop L.length
    have hnx : (nxI l a N).drop L.length = nextP l a N := by unfold nextP; rw [el]
    rw [hnx] at hrow'
    have hln := nextP_len l a N
    rcases own_parts hres.1 with ⟨rfl, h0', _⟩ | ⟨g', cap', rfl, hg', hle', hcap', _⟩
    · refine ret_go _ rfl ⟨fun h => absurd he h, fun _ => ⟨_, rfl, ?_⟩⟩
      rw [List.length_eq_zero_iff.1 (show (nextP l a N).length = 0 by omega)]; exact SlAt.nil _
    · refine ret_pub g' _ hg' fun o ho hle2 => ret_go _ rfl ⟨fun h => absurd he h, fun _ => ⟨_, rfl, ?_⟩⟩
      exact hrow'.pub ratE_ok ho hle2 (by omega) hle' (by unfold maxLen at hcap'; omega)
end Go.Proofs.Ythoboehbadmlmaa
end
section
namespace Go.Proofs.Ythoboehbadmlmaa
def frQ (a : List Rat) : List Rat := [1] ++ a.map fun x => -x
def frP (l a : List Rat) : List Rat := trimQ ((mulP (trimQ (l.take a.length)) (trimQ (frQ a))).take (min (mulP (trimQ (l.take a.length)) (trimQ (frQ a))).length a.length))
theorem frQ_len (a : List Rat) : (frQ a).length = a.length + 1 := by simp [frQ]
theorem cf_frQ (a : List Rat) (j : Nat) : cf (frQ a) (j + 1) = -(cf a j) := by
  unfold frQ cf
  rw [List.getD_eq_getElem?_getD, List.getD_eq_getElem?_getD, List.singleton_append, List.getElem?_cons_succ, List.getElem?_map]
  cases a[j]? with
  | none => simp
  | some x => rfl
theorem cf_frQ0 (a : List Rat) : cf (frQ a) 0 = 1 := rfl
theorem frQ_CB {B : Nat} {a : List Rat} (h : CB B a) : CB B (frQ a) := by
  obtain ⟨D, d1, d2, d3⟩ := h
  refine ⟨D, d1, d2, fun i => ?_⟩
  cases i with
  | zero =>
    rw [cf_frQ0]
    refine ⟨(D : Int), by simpa using d2, ?_⟩
    have h : mkRat (1 * (D : Int)) (1 * D) = mkRat 1 1 := Rat.mkRat_mul_right (by omega)
    rw [Int.one_mul, Nat.one_mul] at h
    rw [h]; rfl
  | succ j => rw [cf_frQ]; exact (d3 j).neg
end Go.Proofs.Ythoboehbadmlmaa
end
