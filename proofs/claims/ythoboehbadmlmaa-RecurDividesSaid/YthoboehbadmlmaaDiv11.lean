/- Proof that the law RecurDivides of sortilegelaw22 returns true at every input. Conditions: none beyond the given row. (part 11 of 11) -/
import Derived.OrdersHeld
import Derived.Below
import Derived.Tactics
import Derived.KernelRfl
import Derived.Laws.AppendOwn
import Derived.Laws.MakeOwn
import Derived.Laws.CopyRow
import Derived.Laws.Cells
import Derived.Laws.World
import Derived.Laws.Alloc2
import Derived.Laws.NewBlocks
import Derived.Maps.AppendAt
import Derived.Test.YthoboehbadmlmaaProg
import Init.Data.List.Lemmas
import Init.Omega
import Derived.WalkKit
import Derived.ProofKit
import Derived.OpenShut
import Derived.ChangeOld
import Derived.SizedLaws
import Derived.ChangeSlices
import Derived.ChangeArms
import Derived.Deep.Slices
import Derived.Test.YthoboehbadmlmaaRows
import Derived.ShutString
import Derived.Test.YthoboehbadmlmaaDiv10
section
namespace Go.Proofs.Ythoboehbadmlmaa
open Go Go.RowKit
set_option linter.unusedSimpArgs false
set_option linter.unusedVariables false
attribute [local irreducible] XWP Spec SpecO XPub XCall seqX clX apX stX ldX iaX slX
def divR (P Q : List Raw) : Int × List Rat × List Rat := if bad2 P Q = true then (1, [], []) else if Q.length = 0 then (31, [], []) else (0, (partP (qs P) (qs Q)).1, (partP (qs P) (qs Q)).2)
def comR' (P Q : List Raw) : Int × List Rat := if bad2 P Q = true then (1, []) else if P.length = 0 ∧ Q.length = 0 then (31, []) else (0, comRP (qs P) (qs Q))
theorem bad2_false {P Q : List Raw} (h : bad2 P Q = false) : rightP P = true ∧ rightP Q = true := by
  unfold bad2 at h
  rw [Bool.or_eq_false_iff] at h
  exact ⟨by simpa using h.1, by simpa using h.2⟩
theorem pow_fit {a b A B n : Nat} (hn : n ≤ 9) (ha : a ≤ n) (hA : A ≤ 864) (hB : B ≤ 864) : 2 ^ (a - b + 1) * (A + 2 * B + 2) ≤ 17592186044416 := by
  have h1 : 2 ^ (a - b + 1) ≤ 2 ^ 10 := two_mono (by omega)
  have h2 := Nat.mul_le_mul h1 (show A + 2 * B + 2 ≤ 2594 by omega)
  omega
theorem fewR_CB' {P : List Raw} {n : Nat} (h : fewR P) (hd : digR P) (hl : P.length ≤ n) : CB (n * 96) (qs P) := (fewR_CB h hd).mono (Nat.mul_le_mul_right _ hl)
theorem cDiv2_c (V : View) (v u : Value) (P Q : List Raw) (n : Nat) (hn : n ≤ 9) (hv : Raws V v P) (hu : Raws V u Q) (fP : fewR P) (fQ : fewR Q) (lP : P.length ≤ n) (lQ : Q.length ≤ n) :
    Spec Try.prog 21 [v, u] V fun v' V' => ∃ wq wr, v' = .tuple #[wq, wr, .int .i64 (divR P Q).1] ∧ Rats V' wq (divR P Q).2.1 ∧ Rats V' wr (divR P Q).2.2 := by
  have dP := Raws.dig hv
  have dQ := Raws.dig hu
  refine (cDiv_c V v u P Q hv hu fP.fit fQ.fit (by omega) (by omega) (n * 96) (n * 96) (fun _ => ⟨fewR_CB' fP dP lP, fewR_CB' fQ dQ lQ⟩) (pow_fit hn lP (by omega) (by omega))).mono fun v' V' hV h => ?_
  unfold divR
  by_cases hb : bad2 P Q = true
  · rw [if_pos hb]
    exact ⟨_, _, h.1 hb, SlAt.nil _, SlAt.nil _⟩
  · have hb' : bad2 P Q = false := by simpa using hb
    rw [if_neg hb]
    by_cases h0 : Q.length = 0
    · rw [if_pos h0]
      exact ⟨_, _, h.2.1 hb' h0, SlAt.nil _, SlAt.nil _⟩
    · rw [if_neg h0]
      obtain ⟨wq, wr, e, h1, h2, _⟩ := h.2.2 hb' h0
      have hp := (rightP_parts (bad2_false hb').2).2.1
      have hl : 0 < (qs Q).length := by rw [qs_len]; omega
      rw [div_part hl (hp hl)] at h1 h2
      exact ⟨wq, wr, e, h1, h2⟩
theorem dDiv2_c (V : View) (v u : Value) (P Q : List Raw) (n : Nat) (hn : n ≤ 9) (hv : Raws V v P) (hu : Raws V u Q) (fP : fewR P) (fQ : fewR Q) (lP : P.length ≤ n) (lQ : Q.length ≤ n) :
    Spec Try.prog 22 [v, u] V fun v' V' => ∃ wq wr, v' = .tuple #[wq, wr, .int .i64 (divR P Q).1] ∧ Rats V' wq (divR P Q).2.1 ∧ Rats V' wr (divR P Q).2.2 ∧ (∀ x ∈ (divR P Q).2.1, QF x) ∧ (∀ x ∈ (divR P Q).2.2, QF x) := by
  have dP := Raws.dig hv
  have dQ := Raws.dig hu
  have hfit := pow_fit (a := P.length) (b := Q.length) (A := n * 96) (B := n * 96) hn lP (by omega) (by omega)
  refine (dDiv_c V v u P Q hv hu fP.fit fQ.fit (fun _ => fewR_qf fP dP) (fun _ => fewR_qf fQ dQ) (by omega) (by omega) (n * 96) (n * 96) (fun _ => ⟨fewR_CB' fP dP lP, fewR_CB' fQ dQ lQ⟩) hfit).mono fun v' V' hV h => ?_
  unfold divR
  by_cases hb : bad2 P Q = true
  · rw [if_pos hb]
    exact ⟨_, _, h.1 hb, SlAt.nil _, SlAt.nil _, by simp, by simp⟩
  · have hb' : bad2 P Q = false := by simpa using hb
    rw [if_neg hb]
    by_cases h0 : Q.length = 0
    · rw [if_pos h0]
      exact ⟨_, _, h.2.1 hb' h0, SlAt.nil _, SlAt.nil _, by simp, by simp⟩
    · rw [if_neg h0]
      obtain ⟨wq, wr, e, h1, h2, h3, h4⟩ := h.2.2 hb' h0
      exact ⟨wq, wr, e, h1, h2, h4.qf hfit, h3.qf hfit⟩
theorem comFit7 {a b M : Nat} (ha : a ≤ 7) (hb : b ≤ 7) (hM : M ≤ 672) : comFit a b M := by
  unfold comFit
  have h1 : gb M b (max a b + b) ≤ gb M 7 14 := gb_mono hb (by omega)
  have h2 : gb M 7 14 ≤ gb 672 7 14 := Nat.mul_le_mul_left _ (Nat.mul_le_mul_left _ (by omega))
  have h3 : gb 672 7 14 ≤ 17592186044416 := by decide
  omega
theorem cCommon2_c (V : View) (v u : Value) (P Q : List Raw) (hv : Raws V v P) (hu : Raws V u Q) (fP : fewR P) (fQ : fewR Q) (lP : P.length ≤ 7) (lQ : Q.length ≤ 7) :
    Spec Try.prog 23 [v, u] V fun v' V' => ∃ w, v' = .tuple #[w, .int .i64 (comR' P Q).1] ∧ Rats V' w (comR' P Q).2 ∧ (∀ x ∈ (comR' P Q).2, QF x) := by
  have dP := Raws.dig hv
  have dQ := Raws.dig hu
  refine (cCommon_c V v u P Q hv hu fP.fit fQ.fit (by omega) (by omega) 672 (fun _ => ⟨(fewR_CB' fP dP lP).mono (by omega), (fewR_CB' fQ dQ lQ).mono (by omega)⟩) (comFit7 lP lQ (Nat.le_refl _)) (by omega)).mono fun v' V' hV h => ?_
  unfold comR'
  by_cases hb : bad2 P Q = true
  · rw [if_pos hb]
    exact ⟨_, h.1 hb, SlAt.nil _, by simp⟩
  · have hb' : bad2 P Q = false := by simpa using hb
    rw [if_neg hb]
    by_cases h0 : P.length = 0 ∧ Q.length = 0
    · rw [if_pos h0]
      exact ⟨_, h.2.1 hb' h0, SlAt.nil _, by simp⟩
    · rw [if_neg h0]
      obtain ⟨w, e, h1, h2⟩ := h.2.2 hb' h0
      rw [comP_same (rightP_parts (bad2_false hb').2).2.1] at h1 h2
      exact ⟨w, e, h1, h2.qf (by omega)⟩
theorem dCommon2_c (V : View) (v u : Value) (P Q : List Raw) (hv : Raws V v P) (hu : Raws V u Q) (fP : fewR P) (fQ : fewR Q) (lP : P.length ≤ 7) (lQ : Q.length ≤ 7) :
    Spec Try.prog 24 [v, u] V fun v' V' => ∃ w, v' = .tuple #[w, .int .i64 (comR' P Q).1] ∧ Rats V' w (comR' P Q).2 := by
  have dP := Raws.dig hv
  have dQ := Raws.dig hu
  refine (dCommon_c V v u P Q hv hu fP.fit fQ.fit (fun _ => fewR_qf fP dP) (fun _ => fewR_qf fQ dQ) (by omega) (by omega) 672 (fun _ => ⟨(fewR_CB' fP dP lP).mono (by omega), (fewR_CB' fQ dQ lQ).mono (by omega)⟩) (comFit7 lP lQ (Nat.le_refl _)) (by omega)).mono fun v' V' hV h => ?_
  unfold comR'
  by_cases hb : bad2 P Q = true
  · rw [if_pos hb]
    exact ⟨_, h.1 hb, SlAt.nil _⟩
  · have hb' : bad2 P Q = false := by simpa using hb
    rw [if_neg hb]
    by_cases h0 : P.length = 0 ∧ Q.length = 0
    · rw [if_pos h0]
      exact ⟨_, h.2.1 hb' h0, SlAt.nil _⟩
    · rw [if_neg h0]
      obtain ⟨w, e, h1, h2⟩ := h.2.2 hb' h0
      exact ⟨w, e, h1⟩
theorem divides_c (V : View) (v u : Value) (P0 Q0 : List Raw) (hv : Raws V v P0) (hu : Raws V u Q0) : Spec Try.prog 5 [v, u] V fun v' V' => v' = .bool true := by
  refine (Spec.enter Try.func5 rfl fun Γ => ?_)
  simp only [Try.ntmps5, List.map_cons, List.map_nil, List.length_cons, List.length_nil, Nat.reduceAdd, Nat.reduceSub, List.replicate_succ, List.replicate_zero, List.cons_append, List.nil_append]
  first | refine XWP.reg (by kernel_rfl) fun K hK => ?_ | refine XWP.seq (XWP.reg (by kernel_rfl) fun K hK => ?_) | refine XWP.reg1 (by kernel_rfl) fun K hK => ?_
  simp only [XA, XB, gateX, Nat.reduceAdd, Nat.reduceLeDiff, Nat.reduceSub, Nat.reduceMul, ↓reduceIte, Int.reduceToNat, Int.reduceLE, beq_self_eq_true]
  refine hK _ ?_
  first | refine XWP.reg (by kernel_rfl) fun K hK => ?_ | refine XWP.seq (XWP.reg (by kernel_rfl) fun K hK => ?_) | refine XWP.reg1 (by kernel_rfl) fun K hK => ?_
  simp only [XA, XB, gateX, Nat.reduceAdd, Nat.reduceLeDiff, Nat.reduceSub, Nat.reduceMul, ↓reduceIte, Int.reduceToNat, Int.reduceLE, beq_self_eq_true]
  refine call_go (by kernel_rfl) rfl (lpoly_c _ _ P0 7 hv (by omega)) fun v1 V1 hV1 h1 => ?_
  simp only [XA, XB, gateX, Nat.reduceAdd, Nat.reduceLeDiff, Nat.reduceSub, Nat.reduceMul, ↓reduceIte, Int.reduceToNat, Int.reduceLE, beq_self_eq_true]
  refine call_go (by kernel_rfl) rfl (lpoly_c _ _ Q0 7 (hu.up hV1) (by omega)) fun v2 V2 hV2 h2 => ?_
  obtain ⟨P, hP, lP, fP⟩ := h1
  obtain ⟨Q, hQ, lQ, fQ⟩ := h2
  have hP := hP.up hV2
  simp only [XA, XB, gateX, Nat.reduceAdd, Nat.reduceLeDiff, Nat.reduceSub, Nat.reduceMul, ↓reduceIte, Int.reduceToNat, Int.reduceLE, beq_self_eq_true]
  refine hK _ ?_
  first | refine XWP.reg (by kernel_rfl) fun K hK => ?_ | refine XWP.seq (XWP.reg (by kernel_rfl) fun K hK => ?_) | refine XWP.reg1 (by kernel_rfl) fun K hK => ?_
  simp only [XA, XB, gateX, Nat.reduceAdd, Nat.reduceLeDiff, Nat.reduceSub, Nat.reduceMul, ↓reduceIte, Int.reduceToNat, Int.reduceLE, beq_self_eq_true]
  refine call_go (by kernel_rfl) rfl (cDiv2_c _ _ _ P Q 7 (by omega) hP hQ fP fQ lP lQ) fun v3 V3 hV3 h3 => ?_
  obtain ⟨wq, wr, rfl, h4, h5⟩ := h3
  simp only [XA, XB, gateX, Nat.reduceAdd, Nat.reduceLeDiff, Nat.reduceSub, Nat.reduceMul, ↓reduceIte, Int.reduceToNat, Int.reduceLE, beq_self_eq_true]
  refine hK _ ?_
  first | refine XWP.reg (by kernel_rfl) fun K hK => ?_ | refine XWP.seq (XWP.reg (by kernel_rfl) fun K hK => ?_) | refine XWP.reg1 (by kernel_rfl) fun K hK => ?_
  simp only [XA, XB, gateX, Nat.reduceAdd, Nat.reduceLeDiff, Nat.reduceSub, Nat.reduceMul, ↓reduceIte, Int.reduceToNat, Int.reduceLE, beq_self_eq_true]
  refine call_go (by kernel_rfl) rfl (dDiv2_c _ _ _ P Q 7 (by omega) (hP.up hV3) (hQ.up hV3) fP fQ lP lQ) fun v6 V6 hV6 h6 => ?_
  obtain ⟨xq, xr, rfl, h7, h8, f1, f2⟩ := h6
  simp only [XA, XB, gateX, Nat.reduceAdd, Nat.reduceLeDiff, Nat.reduceSub, Nat.reduceMul, ↓reduceIte, Int.reduceToNat, Int.reduceLE, beq_self_eq_true]
  refine hK _ ?_
  have hV36 := View.le_trans hV3 hV6
  first | refine XWP.reg (by kernel_rfl) fun K hK => ?_ | refine XWP.seq (XWP.reg (by kernel_rfl) fun K hK => ?_) | refine XWP.reg1 (by kernel_rfl) fun K hK => ?_
  simp only [XA, XB, gateX, Nat.reduceAdd, Nat.reduceLeDiff, Nat.reduceSub, Nat.reduceMul, ↓reduceIte, Int.reduceToNat, Int.reduceLE, beq_self_eq_true]
  refine call_go (by kernel_rfl) rfl (cCommon2_c _ _ _ P Q (hP.up hV36) (hQ.up hV36) fP fQ lP lQ) fun v9 V9 hV9 h9 => ?_
  obtain ⟨wc, rfl, h10, f3⟩ := h9
  simp only [XA, XB, gateX, Nat.reduceAdd, Nat.reduceLeDiff, Nat.reduceSub, Nat.reduceMul, ↓reduceIte, Int.reduceToNat, Int.reduceLE, beq_self_eq_true]
  refine hK _ ?_
  have hV39 := View.le_trans hV36 hV9
  first | refine XWP.reg (by kernel_rfl) fun K hK => ?_ | refine XWP.seq (XWP.reg (by kernel_rfl) fun K hK => ?_) | refine XWP.reg1 (by kernel_rfl) fun K hK => ?_
  simp only [XA, XB, gateX, Nat.reduceAdd, Nat.reduceLeDiff, Nat.reduceSub, Nat.reduceMul, ↓reduceIte, Int.reduceToNat, Int.reduceLE, beq_self_eq_true]
  refine call_go (by kernel_rfl) rfl (dCommon2_c _ _ _ P Q (hP.up hV39) (hQ.up hV39) fP fQ lP lQ) fun v11 V11 hV11 h11 => ?_
  obtain ⟨xc, rfl, h12⟩ := h11
  simp only [XA, XB, gateX, Nat.reduceAdd, Nat.reduceLeDiff, Nat.reduceSub, Nat.reduceMul, ↓reduceIte, Int.reduceToNat, Int.reduceLE, beq_self_eq_true]
  refine hK _ ?_
  have hA := View.le_trans hV6 (View.le_trans hV9 hV11)
  have hB := View.le_trans hV9 hV11
  first | refine XWP.reg (by kernel_rfl) fun K hK => ?_ | refine XWP.seq (XWP.reg (by kernel_rfl) fun K hK => ?_) | refine XWP.reg1 (by kernel_rfl) fun K hK => ?_
  simp only [XA, XB, gateX, Nat.reduceAdd, Nat.reduceLeDiff, Nat.reduceSub, Nat.reduceMul, ↓reduceIte, Int.reduceToNat, Int.reduceLE, beq_self_eq_true]
  refine call_go (by kernel_rfl) rfl (lsameP_c _ _ _ _ _ _ _ (h4.up hA) (h7.up hB) f1 f1) fun v13 V13 hV13 h13 => ?_
  subst h13
  have t1 : (decide ((divR P Q).1 = (divR P Q).1) && decide ((divR P Q).2.1 = (divR P Q).2.1)) = true := by simp
  have t2 : decide ((divR P Q).2.2 = (divR P Q).2.2) = true := by simp
  have t3 : (decide ((comR' P Q).1 = (comR' P Q).1) && decide ((comR' P Q).2 = (comR' P Q).2)) = true := by simp
  simp only [XA, XB, gateX, Nat.reduceAdd, Nat.reduceLeDiff, Nat.reduceSub, Nat.reduceMul, ↓reduceIte, Int.reduceToNat, Int.reduceLE, beq_self_eq_true, t1]
  refine call_go (by kernel_rfl) rfl (lsame_c _ _ _ _ _ ((h5.up hA).up hV13) ((h8.up hB).up hV13) f2 f2) fun v14 V14 hV14 h14 => ?_
  subst h14
  simp only [XA, XB, gateX, Nat.reduceAdd, Nat.reduceLeDiff, Nat.reduceSub, Nat.reduceMul, ↓reduceIte, Int.reduceToNat, Int.reduceLE, beq_self_eq_true, t2]
  have hC := View.le_trans hV13 hV14
  refine call_go (by kernel_rfl) rfl (lsameP_c _ _ _ _ _ _ _ ((h10.up hV11).up hC) (h12.up hC) f3 f3) fun v15 V15 hV15 h15 => ?_
  subst h15
  simp only [XA, XB, gateX, Nat.reduceAdd, Nat.reduceLeDiff, Nat.reduceSub, Nat.reduceMul, ↓reduceIte, Int.reduceToNat, Int.reduceLE, beq_self_eq_true, t3]
  refine call_go (by kernel_rfl) rfl (alive_c _) fun v16 V16 hV16 h16 => ?_
  subst h16
  simp only [XA, XB, gateX, Nat.reduceAdd, Nat.reduceLeDiff, Nat.reduceSub, Nat.reduceMul, ↓reduceIte, Int.reduceToNat, Int.reduceLE, beq_self_eq_true]
  refine hK _ (XWP.ret ?_)
  try simp only [thenX_ret, inBlockX_ret]
  refine ret_go _ rfl ?_
  rfl
end Go.Proofs.Ythoboehbadmlmaa
end
section
namespace Go.Proofs.Ythoboehbadmlmaa
open Go Go.RowKit Go.ChangeShapes
set_option linter.unusedVariables false
/-- the whole world, as what is published -/
def viewW (w : World) : View := fun k => w.heap[k]?
theorem viewW_sub (w : World) : View.sub (viewW w) w := fun _ _ h => h
theorem cell_view {w : World} {a : Addr} {v : Value} (h : w.cell? a = some v) : a.spot = none ∧ ∃ arr ty fr, viewW w a.block = some (.cells arr ty fr) ∧ arr[a.off]? = some v := by
  unfold World.cell? at h
  split at h
  · rename_i c t f hb
    split at h
    · cases h
    · rename_i hs
      refine ⟨?_, c, t, f, hb, h⟩
      cases hsp : a.spot with
      | none => rfl
      | some x => rw [hsp] at hs; simp at hs
  · cases h
theorem add_off (a : Addr) (n : Nat) : (a.add n).block = a.block ∧ (a.add n).off = a.off + n := by
  unfold Addr.add; split
  · rename_i h; subst h; exact ⟨rfl, rfl⟩
  · exact ⟨rfl, rfl⟩
theorem cells_view {w : World} {a : Addr} {n : Nat} {f : Nat → Value} (hn : 0 < n) (h : ∀ i, i < n → w.cell? (a.add i) = some (f i)) : a.spot = none ∧ ∃ arr ty fr, viewW w a.block = some (.cells arr ty fr) ∧ ∀ i, i < n → arr[a.off + i]? = some (f i) := by
  have h0 := h 0 hn
  have e0 : a.add 0 = a := by simp [Addr.add]
  rw [e0] at h0
  obtain ⟨hs, arr, ty, fr, hb, _⟩ := cell_view h0
  refine ⟨hs, arr, ty, fr, hb, fun i hi => ?_⟩
  obtain ⟨_, arr', ty', fr', hb', hv⟩ := cell_view (h i hi)
  obtain ⟨e1, e2⟩ := add_off a i
  rw [e1, hb] at hb'
  cases hb'
  rw [e2] at hv; exact hv
theorem addr_eta (a : Addr) (h : a.spot = none) : a = ⟨a.block, a.off, none⟩ := by cases a; simp at h; subst h; rfl
section
variable {H : Type} {enc : TypeId × Value → H} {w : World} {base : Nat} {spare : Nat → Bool} {held : Bool}
theorem und_nat : (Try.prog).underlying 32 = some (.slice 129) := und_elem elemT_32
theorem und_u32 : (Try.prog).underlying 129 = some (.int .u32) := by kernel_rfl
theorem cells_u32 : (Try.prog).cellsOf 129 = 1 := by kernel_rfl
theorem cells_rat : (Try.prog).cellsOf 34 = 3 := by kernel_rfl
theorem open_nat {fuel : Nat} {v : Value} {x : DataW H × List MemPlace} (h : DataW.trod enc Try.prog w base spare held fuel 32 [v] = some x) : ∃ ds, NatAt (viewW w) v ds := by
  rcases open_ints und_nat und_u32 cells_u32 h with ⟨hcs, _⟩ | ⟨a, len, cap, zs, hcs, _, hl, hm, hz, _, hcell, hwz⟩
  · cases hcs; exact ⟨[], NatAt.nil _⟩
  · cases hcs
    have hzl : len ≤ zs.length := by rw [hz]; split <;> omega
    have hwf : ∀ z ∈ zs, 0 ≤ z ∧ z < 4294967296 := fun z hz => by
      have := hwz z hz
      simp [Lit.wf, IntKind.min, IntKind.max, IntKind.signed, IntKind.bits] at this
      omega
    refine ⟨(zs.take len).map Int.toNat, some a, cap, by simp [Nat.min_eq_left hzl], by simp; omega, by unfold maxLen at hm; omega, fun d hd => ?_, ?_⟩
    · obtain ⟨z, hz, rfl⟩ := List.mem_map.1 hd
      have := hwf z (List.mem_of_mem_take hz)
      unfold BB; omega
    · rcases Nat.eq_zero_or_pos len with h0 | h0
      · subst h0; exact .inl (by simp)
      · obtain ⟨hs, arr, ty, fr, hb, hv⟩ := cells_view (f := fun i => .int .u32 (zs.getD i 0)) (by omega) hcell
        refine .inr ⟨a.block, a.off, arr, ty, fr, by rw [← addr_eta a hs], hb, fun i d hd => ?_⟩
        rw [List.getElem?_map, List.getElem?_take] at hd
        split at hd
        · rename_i hi
          rw [hv i (by omega)]
          have hiz : i < zs.length := by omega
          rw [List.getElem?_eq_getElem hiz] at hd
          simp at hd
          have := hwf zs[i] (List.getElem_mem hiz)
          simp [hiz]
          omega
        · cases hd
noncomputable def ratFields : Array Field := match (Try.prog).underlying 34 with
  | some (.struct fs) => fs
  | _ => #[]
theorem und_rat : (Try.prog).underlying 34 = some (.struct ratFields) := by kernel_rfl
theorem ratFields_map : ratFields.toList.map (fun f => (f.type, f.offset)) = [(4, 0), (32, 1), (32, 2)] := by kernel_rfl
theorem und_bool : (Try.prog).underlying 4 = some .bool := by kernel_rfl
theorem cells_bool : (Try.prog).cellsOf 4 = 1 := by kernel_rfl
theorem cells_nat : (Try.prog).cellsOf 32 = 1 := by kernel_rfl
theorem ratField (i : Nat) (t o : Nat) (h : [(4, 0), (32, 1), (32, 2)][i]? = some (t, o)) : ∃ f, ratFields[i]? = some f ∧ f.type = t ∧ f.offset = o := by
  rw [← ratFields_map, List.getElem?_map] at h
  cases hf : ratFields.toList[i]? with
  | none => rw [hf] at h; cases h
  | some f =>
    rw [hf] at h
    simp at h
    exact ⟨f, by rw [← Array.getElem?_toList]; exact hf, h.1, h.2⟩
theorem three_of {α : Type} {l : List α} (h : l.length = 3) : ∃ a b c, l = [a, b, c] := by
  rcases l with _ | ⟨a, _ | ⟨b, _ | ⟨c, _ | ⟨d, l⟩⟩⟩⟩ <;> simp at h
  exact ⟨a, b, c, rfl⟩
theorem open_rat {fuel : Nat} {cs : List Value} {x : DataW H × List MemPlace} (h : DataW.trod enc Try.prog w base spare held fuel 34 cs = some x) : ∃ (r : Raw) (n d : Value), cs = [.bool r.m, n, d] ∧ NatAt (viewW w) n r.nd ∧ NatAt (viewW w) d r.dd := by
  obtain ⟨xs, m, _, _, hl, hxl, hf⟩ := DataW.trod_struct und_rat h
  rw [cells_rat] at hl
  have hsz : ratFields.size = 3 := by
    have := congrArg List.length ratFields_map
    simpa using this
  obtain ⟨c0, c1, c2, rfl⟩ := three_of hl
  obtain ⟨f0, a0, t0, o0⟩ := ratField 0 _ _ rfl
  obtain ⟨f1, a1, t1, o1⟩ := ratField 1 _ _ rfl
  obtain ⟨f2, a2, t2, o2⟩ := ratField 2 _ _ rfl
  have h0 := hf 0 f0 a0
  have h1 := hf 1 f1 a1
  have h2 := hf 2 f2 a2
  rw [t0, o0, cells_bool, List.getElem?_eq_getElem (by omega)] at h0
  rw [t1, o1, cells_nat, List.getElem?_eq_getElem (by omega)] at h1
  rw [t2, o2, cells_nat, List.getElem?_eq_getElem (by omega)] at h2
  obtain ⟨b, e, _⟩ := DataW.trod_bool und_bool h0
  have e' : c0 = .bool b := by simpa using e
  subst e'
  obtain ⟨ds, hn⟩ := open_nat h1
  obtain ⟨es, hd⟩ := open_nat h2
  exact ⟨⟨b, ds, es⟩, c1, c2, rfl, hn, hd⟩
theorem choose_list {α : Type} {Q : Nat → α → Prop} : ∀ n, (∀ i, i < n → ∃ x, Q i x) → ∃ xs : List α, xs.length = n ∧ ∀ i x, xs[i]? = some x → Q i x
  | 0, _ => ⟨[], rfl, fun i x h => by simp at h⟩
  | n + 1, h => by
    obtain ⟨xs, hl, hq⟩ := choose_list n fun i hi => h i (by omega)
    obtain ⟨x, hx⟩ := h n (by omega)
    refine ⟨xs ++ [x], by simp [hl], fun i y hi => ?_⟩
    by_cases hlt : i < n
    · rw [List.getElem?_append_left (by omega)] at hi; exact hq i y hi
    · rw [List.getElem?_append_right (by omega)] at hi
      have : i = n := by
        rcases Nat.eq_zero_or_pos (i - xs.length) with h0 | h0
        · omega
        · rw [List.getElem?_eq_none (by simp; omega)] at hi; cases hi
      subst this
      rw [hl, Nat.sub_self] at hi
      simp at hi
      subst hi; exact hx
theorem open_raws {t fuel : Nat} {v : Value} {x : DataW H × List MemPlace} (ht : elemT Try.prog t = some 34) (h : DataW.trod enc Try.prog w base spare held fuel t [v] = some x) : ∃ l, Raws (viewW w) v l := by
  rcases Go.Deep.open_slice (und_elem ht) h with ⟨hcs, _⟩ | ⟨a, len, cap, m, n, D, Pl, hcs, _, hl, hm, hmm, _, hel⟩
  · cases hcs; exact ⟨[], SlAt.nil _⟩
  · cases hcs
    have hlm : len ≤ m := by rw [hmm]; split <;> omega
    have key : ∀ i, i < len → ∃ r : Raw, ∃ n d : Value, w.cell? (a.add (i * 3)) = some (.bool r.m) ∧ w.cell? (a.add (i * 3 + 1)) = some n ∧ w.cell? (a.add (i * 3 + 2)) = some d ∧ NatAt (viewW w) n r.nd ∧ NatAt (viewW w) d r.dd := fun i hi => by
      obtain ⟨cs', h1, h2⟩ := hel i (by omega)
      obtain ⟨r, n', d, rfl, k1, k2⟩ := open_rat h2
      rw [cells_rat] at h1
      obtain ⟨_, _, h3⟩ := World.cells?_some h1
      have g0 := h3 0 (by omega)
      have g1 := h3 1 (by omega)
      have g2 := h3 2 (by omega)
      rw [Go.Deep.add_add] at g0 g1 g2
      exact ⟨r, n', d, g0, g1, g2, k1, k2⟩
    obtain ⟨l, hll, hq⟩ := choose_list len key
    refine ⟨l, some a, cap, by rw [hll], by omega, by unfold maxLen at hm; omega, ?_⟩
    rcases Nat.eq_zero_or_pos len with h0 | h0
    · exact .inl (List.length_eq_zero_iff.1 (by omega))
    · obtain ⟨nn, dd, g0, _⟩ := hq 0 l[0] (List.getElem?_eq_getElem (by omega))
      have e0 : a.add (0 * 3) = a := by simp [Addr.add]
      rw [e0] at g0
      obtain ⟨hs, arr, ty, fr, hb, _⟩ := cell_view g0
      refine .inr ⟨a.block, a.off, arr, ty, fr, by rw [← addr_eta a hs], hb, fun i x hi => ?_⟩
      obtain ⟨n', d, g0, g1, g2, k1, k2⟩ := hq i x hi
      have at_ : ∀ k v, w.cell? (a.add k) = some v → arr[a.off + k]? = some v := fun k v hk => by
        obtain ⟨_, arr', ty', fr', hb', hv⟩ := cell_view hk
        obtain ⟨e1, e2⟩ := add_off a k
        rw [e1, hb] at hb'
        cases hb'
        rw [e2] at hv; exact hv
      exact ⟨.bool x.m, n', d, at_ _ _ g0, at_ _ _ g1, at_ _ _ g2, rfl, k1.one, k2.one, n', d, rfl, k1, k2⟩
end
end Go.Proofs.Ythoboehbadmlmaa
end
section
namespace Go.Proofs.Ythoboehbadmlmaa.recurDivides
open Go.ChangeShapes Go.WideShapes Go.ChangeAt Go.RowKit
set_option linter.unusedVariables false
theorem own : ownKnob Try.prog.godebug = none := by kernel_rfl
theorem laidOut : laidOutB Try.prog = true := by kernel_rfl
set_option maxRecDepth 100000 in
theorem lifted (os : Os) (started : os.Started) (H : Type) (enc : TypeId × Value → H) :
    ReturnsInHanded {} Try.checked os 5 .any (Rows.recurDividesSpec.pre6 enc Try.prog Try.f5 Rows.recurDividesRow.domain false) (Rows.recurDividesSpec.post enc Try.prog Try.f5 false true false false) := by
  refine returnsInHanded_of_change_sized (C := Try.checked) own started (by kernel_rfl) Try.func5
    (ChangeSpec.witness6 (enc := enc) (C := Try.checked) false ⟨#[], #[.slice none 0 0, .slice none 0 0], []⟩ 8 (by kernel_rfl) (by kernel_rfl) (by kernel_rfl) (by kernel_rfl)) ?_
  intro W base args ds gs before hval0 hW hcnd hsz0 _
  have hval : ∀ (j : Nat) t v, Try.f5.params[j]? = some t → args[j]? = some v → Value.okWide Try.prog W .any base t v := hval0
  have hW' := hW
  obtain ⟨p, q, hA0, hV, rfl, hfz, hnd⟩ := hW
  have hA : DataW.TrodAll enc Try.prog W 0 (fun _ => true) true Try.f5.params.toList args.toList ds p := hA0
  rw [Try.params5] at hA hval
  obtain ⟨v0, vs0, d0, ds0, p0, q0, hargs, rfl, rfl, h0, r0⟩ := trodAll_cons hA
  obtain ⟨v1, vs1, d1, ds1, p1, q1, rfl, rfl, rfl, h1, r1⟩ := trodAll_cons r0
  obtain ⟨rfl, rfl, rfl⟩ := trodAll_nil r1
  obtain rfl : args = #[v0, v1] := by cases args; simp_all
  obtain ⟨rfl, rfl⟩ := trodVars_none hV
  obtain ⟨a0, len0, cap0, rfl⟩ := okWide_slice (und_elem (P := Try.prog) (e := 34) (by kernel_rfl)) (hval 0 36 v0 rfl rfl)
  obtain ⟨a1, len1, cap1, rfl⟩ := okWide_slice (und_elem (P := Try.prog) (e := 34) (by kernel_rfl)) (hval 1 36 v1 rfl rfl)
  have k0 := h0
  have lt0 : ∀ x ∈ p0, x.block < W.heap.size := by obtain ⟨m, hm⟩ := k0; exact DataW.trod_lt m _ _ _ hm
  have k1 := h1
  have lt1 : ∀ x ∈ p1, x.block < W.heap.size := by obtain ⟨m, hm⟩ := k1; exact DataW.trod_lt m _ _ _ hm
  obtain ⟨fuel0, hf0⟩ := h0
  obtain ⟨fuel1, hf1⟩ := h1
  obtain ⟨P0, hP⟩ := open_raws (by kernel_rfl) hf0
  obtain ⟨Q0, hQ⟩ := open_raws (by kernel_rfl) hf1
  clear hA0 hval0 hsz0
  refine (divides_c (viewW W) _ _ P0 Q0 hP hQ W (viewW_sub W)).mono fun e W' ⟨v, V', he, _, _, _, bel, hv⟩ => ?_
  subst hv
  subst he
  exact ⟨_, rfl, _, _, _, [], _, [], hW', trodAll_mk1 (shut_bool Try.underlying4 _), (trodAll_cons_mk (Below.trod laidOut (by kernel_rfl) (of_decide_eq_true (by kernel_rfl)) k0 bel lt0) (trodAll_cons_mk (Below.trod laidOut (by kernel_rfl) (of_decide_eq_true (by kernel_rfl)) k1 bel lt1) trodAll_mk0)), rfl, bel.frame _, fun h => by cases h⟩
theorem over : Rows.recurDividesRow.holds Try.pinned (OpenSpec.ofChange Rows.recurDividesSpec) :=
  OpenClaim.holds_of_wide 5 Try.f5 rfl rfl rfl rfl rfl rfl rfl ⟨rfl, rfl, rfl, rfl, rfl⟩ rfl rfl rfl rfl rfl (by kernel_rfl) Try.func5 (by kernel_rfl)
    (of_decide_eq_true (by kernel_rfl)) (by unfold Func.isWrapper; first | (rw [if_pos (by decide +kernel)]; kernel_rfl) | (rw [if_neg (by decide +kernel)]; exact ⟨rfl, rfl⟩))
    (fun os started H enc _ => lifted os started H enc)
theorem proved : Rows.RecurDividesSaid := over
#print axioms proved
end Go.Proofs.Ythoboehbadmlmaa.recurDivides
namespace Go.Proofs.Ythoboehbadmlmaa
/-- The row, under a short name, for the claim. -/
theorem recurDivides_holds : Rows.RecurDividesSaid := recurDivides.proved
end Go.Proofs.Ythoboehbadmlmaa
end
