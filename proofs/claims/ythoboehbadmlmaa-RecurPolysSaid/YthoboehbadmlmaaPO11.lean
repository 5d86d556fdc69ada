/- The recurrence package's Right, Add, Mul and Eval agree with the reference's, errors included. (part 11 of 12) -/
import Derived.OrdersHeld
import Derived.Below
import Derived.Tactics
import Derived.KernelRfl
import Derived.RangeFuncCalls
import Derived.RangeFuncFrom
import Derived.RangeFuncLeaves
import Derived.OrdersIn
import Derived.Laws.AppendOwn
import Derived.Laws.MakeOwn
import Derived.Laws.CopyRow
import Derived.Laws.Cells
import Derived.Laws.World
import Derived.Laws.Alloc2
import Derived.Laws.NewBlocks
import Derived.Maps.AppendAt
import Derived.Test.YthoboehbadmlmaaProg
import Init.Data.List.Lemmas
import Init.Omega
import Derived.WalkKit
import Derived.ProofKit
import Derived.OpenShut
import Derived.ChangeOld
import Derived.SizedLaws
import Derived.ChangeSlices
import Derived.ChangeArms
import Derived.Deep.Slices
import Derived.Test.YthoboehbadmlmaaPO10
section
namespace Go.Proofs.Ythoboehbadmlmaa
open Go Go.RowKit
set_option linter.unusedSimpArgs false
set_option linter.unusedVariables false
attribute [local irreducible] XWP Spec SpecO XPub XCall seqX clX apX stX ldX iaX slX
theorem bs_rat2 {t : Nat} {a b c a' b' c' : Value} (he : elemT Try.prog t = some 34) : BuildsSlice Try.prog t 2 #[(0, .agg #[a, b, c]), (1, .agg #[a', b', c'])] 34 [a, b, c, a', b', c'] := by
  obtain ⟨i, zv, hi, hzv, h1, h2, _⟩ := zero_parts zeroT_34
  have hc : zv.cells = #[.bool false, .slice none 0 0, .slice none 0 0] := Array.toList_inj.1 h1
  refine bs_run (cells := #[a, b, c, a', b', c']) he hi hzv (by omega) (by omega) ?_
  rw [h2, hc]
  have : madeCells #[.bool false, .slice none 0 0, .slice none 0 0] (2 * 3) = #[.bool false, .slice none 0 0, .slice none 0 0, .bool false, .slice none 0 0, .slice none 0 0] := Array.toList_inj.1 (by rw [made_flat _ 3 rfl (by omega)]; rfl)
  rw [this, fill_three (off := 0) rfl (by simp), fill_three (off := 3) rfl (by simp)]; rfl
theorem bs_rat4 {t : Nat} {a b c a' b' c' d e f d' e' f' : Value} (he : elemT Try.prog t = some 34) : BuildsSlice Try.prog t 4 #[(0, .agg #[a, b, c]), (1, .agg #[a', b', c']), (2, .agg #[d, e, f]), (3, .agg #[d', e', f'])] 34 [a, b, c, a', b', c', d, e, f, d', e', f'] := by
  obtain ⟨i, zv, hi, hzv, h1, h2, _⟩ := zero_parts zeroT_34
  have hc : zv.cells = #[.bool false, .slice none 0 0, .slice none 0 0] := Array.toList_inj.1 h1
  refine bs_run (cells := #[a, b, c, a', b', c', d, e, f, d', e', f']) he hi hzv (by omega) (by omega) ?_
  rw [h2, hc]
  have : madeCells #[.bool false, .slice none 0 0, .slice none 0 0] (4 * 3) = #[.bool false, .slice none 0 0, .slice none 0 0, .bool false, .slice none 0 0, .slice none 0 0, .bool false, .slice none 0 0, .slice none 0 0, .bool false, .slice none 0 0, .slice none 0 0] := Array.toList_inj.1 (by rw [made_flat _ 3 rfl (by omega)]; rfl)
  rw [this, fill_three (off := 0) rfl (by simp), fill_three (off := 3) rfl (by simp), fill_three (off := 6) rfl (by simp), fill_three (off := 9) rfl (by simp)]
  simp [Instr.fill]
def fib : List Rat := [1, 1, 1 + 1, 1 + (1 + 1)]
theorem fib_bm : bmOut (bmI fib 4) = [1, 1] ∧ (bmI fib 4).size = 2 := by
  have s1 : bmI fib 1 = ⟨[1, -1], [1], 1, 1, 1⟩ := by
    show bmStep fib ⟨[1], [1], 0, 1, 1⟩ 0 = _
    decide +kernel
  have s2 : bmI fib 2 = ⟨[1, -1], [1], 1, 2, 1⟩ := by rw [bmI, s1]; decide +kernel
  have s3 : bmI fib 3 = ⟨[1, -1, -1], [1, -1], 2, 1, 1⟩ := by rw [bmI, s2]; decide +kernel
  have s4 : bmI fib 4 = ⟨[1, -1, -1], [1, -1], 2, 2, 1⟩ := by rw [bmI, s3]; decide +kernel
  rw [s4]
  decide +kernel
theorem fib_QB : ∀ x ∈ fib, QB 2 x := by
  intro x hx
  have h2 : QB 1 ((1 : Rat) + 1) := (QB_one 0).add (QB_one 0)
  simp only [fib, List.mem_cons, List.not_mem_nil, or_false] at hx
  rcases hx with rfl | rfl | rfl | rfl
  · exact QB_one 2
  · exact QB_one 2
  · exact h2.mono (by omega)
  · exact (QB_one 0).add h2
theorem fib_CB : CB 8 fib := CB_of fib fib_QB
theorem fib_fit (i : Nat) (hi : i < 4) : BMFit fib (bmI fib i) i := bm_fit (e := 2) fib_CB (by simp [fib]) (by simp [bb, fib]) i (by simpa [fib] using hi)
theorem fib_q (i : Nat) : QF (cf (bmI fib 4).q i) := by
  obtain ⟨h1, _, _⟩ := bm_CB (e := 2) fib_CB 4 (by omega) 4 (by omega)
  exact QF.of (h1.at i) (by simp [bb])
theorem fib_len : fib.length = 4 := rfl
theorem fib_eq : [] ++ [1] ++ [1] ++ [1 + 1] ++ [1 + (1 + 1)] = fib := rfl
theorem fib_rec (V : View) (v : Value) (hl : Rats V v fib) : Spec Try.prog 13 [v] V fun v' V' => ∃ w, v' = .tuple #[w, .int .i64 0] ∧ Rats V' w [1, 1] := by
  have eq : qs (fib.map toRaw) = fib := qs_toRaw fib
  have el : (fib.map toRaw).length = 4 := by rw [List.length_map]; exact fib_len
  refine (crec_c V v (fib.map toRaw) (Rats.raws hl) (fitR_toRaw (fun x hx => QF.of (fib_QB x hx) (by omega))) (by omega) (fun _ i hi => ?_) (fun _ x hx => ?_) (fun _ i => ?_)).mono fun v' V' hV h => ?_
  · rw [eq]; exact fib_fit i (by omega)
  · rw [eq] at hx; exact QF.of (fib_QB x hx) (by omega)
  · rw [eq, el]; exact fib_q i
  · have h5 := h.2.2 (okR_toRaw _)
    rw [eq, el, fib_bm.1, fib_bm.2] at h5
    exact h5 (by omega)
attribute [local irreducible] fib
theorem alive_c (V : View) : Spec Try.prog 18 [] V fun v' V' => v' = .bool true := by
  refine (Spec.enter Try.func18 rfl fun Γ => ?_)
  simp only [Try.ntmps18, List.map_cons, List.map_nil, List.length_cons, List.length_nil, Nat.reduceAdd, Nat.reduceSub, List.replicate_succ, List.replicate_zero, List.cons_append, List.nil_append]
  first | refine XWP.reg (by kernel_rfl) fun K hK => ?_ | refine XWP.seq (XWP.reg (by kernel_rfl) fun K hK => ?_) | refine XWP.reg1 (by kernel_rfl) fun K hK => ?_
  simp only [XA, XB, gateX, Nat.reduceAdd, Nat.reduceLeDiff, Nat.reduceSub, Nat.reduceMul, ↓reduceIte, Int.reduceToNat, Int.reduceLE, beq_self_eq_true]
  refine hK _ ?_
  first | refine XWP.reg (by kernel_rfl) fun K hK => ?_ | refine XWP.seq (XWP.reg (by kernel_rfl) fun K hK => ?_) | refine XWP.reg1 (by kernel_rfl) fun K hK => ?_
  simp only [XA, XB, gateX, Nat.reduceAdd, Nat.reduceLeDiff, Nat.reduceSub, Nat.reduceMul, ↓reduceIte, Int.reduceToNat, Int.reduceLE, beq_self_eq_true]
  refine call_go (by kernel_rfl) rfl (pone_c _) fun v1 V1 hV1 h1 => ?_
  obtain ⟨x1, y1, rfl, o1, o2⟩ := h1.form
  simp only [XA, XB, gateX, Nat.reduceAdd, Nat.reduceLeDiff, Nat.reduceSub, Nat.reduceMul, ↓reduceIte, Int.reduceToNat, Int.reduceLE, beq_self_eq_true]
  refine st_rat rfl rfl rfl o1 o2 ?_
  simp only [XA, XB, gateX, Nat.reduceAdd, Nat.reduceLeDiff, Nat.reduceSub, Nat.reduceMul, ↓reduceIte, Int.reduceToNat, Int.reduceLE, beq_self_eq_true]
  refine hK _ ?_
  (first | refine XWP.drw [0, 1, 2, 3, 5, 6, 7, 4, 8, 9, 10, 11, 12, 13, 14, 15, 16] (by kernel_rfl) (by kernel_rfl) (by kernel_rfl) fun K hK => ?_ | refine XWP.seq (XWP.drw [0, 1, 2, 3, 5, 6, 7, 4, 8, 9, 10, 11, 12, 13, 14, 15, 16] (by kernel_rfl) (by kernel_rfl) (by kernel_rfl) fun K hK => ?_) | refine XWP.drw1 [0, 1, 2, 3, 5, 6, 7, 4, 8, 9, 10, 11, 12, 13, 14, 15, 16] (by kernel_rfl) (by kernel_rfl) (by kernel_rfl) fun K hK => ?_) <;> dsimp only [pickOps, List.getElem?_cons_zero, List.getElem?_cons_succ]
  simp only [XA, XB, gateX, Nat.reduceAdd, Nat.reduceLeDiff, Nat.reduceSub, Nat.reduceMul, ↓reduceIte, Int.reduceToNat, Int.reduceLE, beq_self_eq_true]
  refine call_go (by kernel_rfl) rfl (padd_c _ _ _ _ _ (h1.toV QF_one) (h1.toV QF_one) QF_one QF_one) fun v2 V2 hV2 h2 => ?_
  have h1 := h1.mono hV2
  simp only [XA, XB, gateX, Nat.reduceAdd, Nat.reduceLeDiff, Nat.reduceSub, Nat.reduceMul, ↓reduceIte, Int.reduceToNat, Int.reduceLE, beq_self_eq_true]
  refine call_go (by kernel_rfl) rfl (padd_c _ _ _ _ _ (h1.toV QF_one) (h1.toV QF_one) QF_one QF_one) fun v3 V3 hV3 h3 => ?_
  have h1 := h1.mono hV3
  have h2 := h2.mono hV3
  have f2 : QF ((1 : Rat) + 1) := QF.of ((QB_one 0).add (QB_one 0)) (by omega)
  simp only [XA, XB, gateX, Nat.reduceAdd, Nat.reduceLeDiff, Nat.reduceSub, Nat.reduceMul, ↓reduceIte, Int.reduceToNat, Int.reduceLE, beq_self_eq_true]
  refine call_go (by kernel_rfl) rfl (padd_c _ _ _ _ _ (h1.toV QF_one) (h3.toV f2) QF_one f2) fun v4 V4 hV4 h4 => ?_
  have h1 := h1.mono hV4
  have h2 := h2.mono hV4
  obtain ⟨x2, y2, rfl, o3, o4⟩ := h2.form
  obtain ⟨x4, y4, rfl, o5, o6⟩ := h4.form
  simp only [XA, XB, gateX, Nat.reduceAdd, Nat.reduceLeDiff, Nat.reduceSub, Nat.reduceMul, ↓reduceIte, Int.reduceToNat, Int.reduceLE, beq_self_eq_true]
  refine bs_go (by kernel_rfl) #[(0, .agg #[.bool (ng 1), x1, y1]), (1, .agg #[.bool (ng 1), x1, y1]), (2, .agg #[.bool (ng (1 + 1)), x2, y2]), (3, .agg #[.bool (ng (1 + (1 + 1))), x4, y4])] (by simp [ev_tmp, SV.val]) (bs_rat4 elemT_22) fun b hb1 hb2 => ?_
  simp only [XA, XB, gateX, Nat.reduceAdd, Nat.reduceLeDiff, Nat.reduceSub, Nat.reduceMul, ↓reduceIte, Int.reduceToNat, Int.reduceLE, beq_self_eq_true]
  refine call_pub b ⟨34, [.bool (ng 1), x1, y1, .bool (ng 1), x1, y1, .bool (ng (1 + 1)), x2, y2, .bool (ng (1 + (1 + 1))), x4, y4], 12⟩ (by simp only [upd_at]) (fun o ho hle' => ?_) (by kernel_rfl) rfl
  have hrow := ((((RowAt.nil (E := ratE) V4).snoc (x := 1) (show isOne (.bool (ng 1)) = true from rfl) o1 o2 h1).snoc (x := 1) (show isOne (.bool (ng 1)) = true from rfl) o1 o2 h1).snoc (x := 1 + 1) (show isOne (.bool (ng (1 + 1))) = true from rfl) o3 o4 h2).snoc (x := 1 + (1 + 1)) (show isOne (.bool (ng (1 + (1 + 1)))) = true from rfl) o5 o6 h4
  rw [fib_eq] at hrow
  simp only [List.nil_append, List.cons_append] at hrow
  have hl := hrow.pub ratE_ok ho hle' (n := 4) (c := 4) fib_len (Nat.le_refl _) (by omega)
  refine call_go (by kernel_rfl) rfl (fib_rec _ _ hl) fun v5 V5 hV5 h5 => ?_
  obtain ⟨w, rfl, hw⟩ := h5
  simp only [XA, XB, gateX, Nat.reduceAdd, Nat.reduceLeDiff, Nat.reduceSub, Nat.reduceMul, ↓reduceIte, Int.reduceToNat, Int.reduceLE, beq_self_eq_true]
  refine hK _ ?_
  have h1 := (h1.mono hle').mono hV5
  first | refine XWP.reg (by kernel_rfl) fun K hK => ?_ | refine XWP.seq (XWP.reg (by kernel_rfl) fun K hK => ?_) | refine XWP.reg1 (by kernel_rfl) fun K hK => ?_
  simp only [XA, XB, gateX, Nat.reduceAdd, Nat.reduceLeDiff, Nat.reduceSub, Nat.reduceMul, ↓reduceIte, Int.reduceToNat, Int.reduceLE, beq_self_eq_true, decide_true]
  refine bs_go (by kernel_rfl) #[(0, .agg #[.bool (ng 1), x1, y1]), (1, .agg #[.bool (ng 1), x1, y1])] (by simp [ev_tmp, SV.val]) (bs_rat2 elemT_22) fun b3 hb3 hb4 => ?_
  simp only [XA, XB, gateX, Nat.reduceAdd, Nat.reduceLeDiff, Nat.reduceSub, Nat.reduceMul, ↓reduceIte, Int.reduceToNat, Int.reduceLE, beq_self_eq_true]
  refine call_pub b3 ⟨34, [.bool (ng 1), x1, y1, .bool (ng 1), x1, y1], 6⟩ (by simp only [upd_at]) (fun o2' ho2 hle2 => ?_) (by kernel_rfl) rfl
  have hrow2 := (((RowAt.nil (E := ratE) V5).snoc (x := 1) (show isOne (.bool (ng 1)) = true from rfl) o1 o2 h1).snoc (x := 1) (show isOne (.bool (ng 1)) = true from rfl) o1 o2 h1)
  simp only [List.nil_append, List.cons_append] at hrow2
  have q11 : ∀ x ∈ [(1 : Rat), 1], QF x := fun x hx => by
    simp only [List.mem_cons, List.not_mem_nil, or_false, or_self] at hx
    rw [hx]; exact QF_one
  refine call_go (by kernel_rfl) rfl (lsame_c _ _ _ [1, 1] [1, 1] (hw.up hle2) (hrow2.pub ratE_ok ho2 hle2 (n := 2) (c := 2) rfl (Nat.le_refl _) (by omega)) q11 q11) fun v6 V6 hV6 h6 => ?_
  subst h6
  simp only [XA, XB, gateX, Nat.reduceAdd, Nat.reduceLeDiff, Nat.reduceSub, Nat.reduceMul, ↓reduceIte, Int.reduceToNat, Int.reduceLE, beq_self_eq_true]
  refine hK _ (XWP.ret ?_)
  try simp only [thenX_ret, inBlockX_ret]
  refine ret_go _ rfl ?_
  show Value.bool _ = _
  simp
theorem cut_take (P : List Raw) {a b : Nat} (h : a ≤ b) : fewL P a = (fewL P b).take a := by
  unfold fewL
  rw [← List.map_take, List.take_take, Nat.min_eq_left h]
theorem fewR_qf {l : List Raw} (h : fewR l) (hd : digR l) : ∀ x ∈ qs l, QF x := fun x hx => QF.of (fewR_QB h hd x hx) (by omega)
theorem lpoly_c (V : View) (v : Value) (P : List Raw) (n : Nat) (hv : Raws V v P) (hn : n ≤ 1000) : Spec Try.prog 20 [v, .int .i64 (n : Int)] V fun v' V' => ∃ R, Raws V' v' R ∧ R.length ≤ n ∧ fewR R := by
  obtain ⟨A1, c1, rfl, hc1, hm1⟩ := hv.form
  refine (Spec.enter Try.func20 rfl fun Γ => ?_)
  simp only [Try.ntmps20, List.map_cons, List.map_nil, List.length_cons, List.length_nil, Nat.reduceAdd, Nat.reduceSub, List.replicate_succ, List.replicate_zero, List.cons_append, List.nil_append]
  first | refine XWP.reg (by kernel_rfl) fun K hK => ?_ | refine XWP.seq (XWP.reg (by kernel_rfl) fun K hK => ?_) | refine XWP.reg1 (by kernel_rfl) fun K hK => ?_
  simp only [XA, XB, gateX, Nat.reduceAdd, Nat.reduceLeDiff, Nat.reduceSub, Nat.reduceMul, ↓reduceIte, Int.reduceToNat, Int.reduceLE, beq_self_eq_true]
  refine hK _ ?_
  first | refine XWP.reg (by kernel_rfl) fun K hK => ?_ | refine XWP.seq (XWP.reg (by kernel_rfl) fun K hK => ?_) | refine XWP.reg1 (by kernel_rfl) fun K hK => ?_
  simp only [XA, XB, gateX, Nat.reduceAdd, Nat.reduceLeDiff, Nat.reduceSub, Nat.reduceMul, ↓reduceIte, Int.reduceToNat, Int.reduceLE, beq_self_eq_true]
  refine call_go (by kernel_rfl) rfl (lfew_c _ _ P n hv (by omega)) fun v1 V1 hV1 h1 => ?_
  simp only [XA, XB, gateX, Nat.reduceAdd, Nat.reduceLeDiff, Nat.reduceSub, Nat.reduceMul, ↓reduceIte, Int.reduceToNat, Int.reduceLE, beq_self_eq_true]
  refine hK _ ?_
  clear hK
  obtain ⟨A2, c2, rfl, hc2, hm2⟩ := h1.form
  have hlen := fewL_len P n
  have hfew := fewL_few P n
  have hdig := Raws.dig h1
  generalize hL : fewL P n = L at *
  refine XWP.cut (fun s => ∃ (k : Nat) (V2 : View), StIs (fun τ => [τ 0, τ 1, τ 2, τ 3, τ 4, .v (.slice A2 k c2), τ 6, τ 7, τ 8, τ 9, τ 10, τ 11, τ 12, τ 13, τ 14, τ 15, τ 16, τ 17, τ 18, τ 19, τ 20, τ 21, τ 22, τ 23, τ 24, τ 25, τ 26, τ 27, τ 28, τ 29, τ 30, τ 31, τ 32, τ 33, τ 34, τ 35, τ 36]) [] (fun _ => none) V2 s ∧ Raws V2 (.slice A2 k c2) (L.take k) ∧ k ≤ L.length) ?_ ?_
  · first | refine XWP.reg (by kernel_rfl) fun K hK => ?_ | refine XWP.seq (XWP.reg (by kernel_rfl) fun K hK => ?_) | refine XWP.reg1 (by kernel_rfl) fun K hK => ?_
    by_cases h0 : n < P.length
    · have b1 : decide ((n : Int) < (P.length : Int)) = true := decide_eq_true (by omega)
      simp only [XA, XB, gateX, Nat.reduceAdd, Nat.reduceLeDiff, Nat.reduceSub, Nat.reduceMul, ↓reduceIte, Int.reduceToNat, Int.reduceLE, beq_self_eq_true, b1]
      refine call_go (by kernel_rfl) rfl (lfew_c _ _ P 1000 (hv.up hV1) (by omega)) fun v3 V3 hV3 h3 => ?_
      simp only [XA, XB, gateX, Nat.reduceAdd, Nat.reduceLeDiff, Nat.reduceSub, Nat.reduceMul, ↓reduceIte, Int.reduceToNat, Int.reduceLE, beq_self_eq_true]
      have f3 := fewL_few P 1000
      have d3 := Raws.dig h3
      have l3 := fewL_len P 1000
      refine call_go (by kernel_rfl) rfl (dright_c _ _ _ h3 f3.fit (by omega) (fun _ => fewR_qf f3 d3)) fun v4 V4 hV4 h4 => ?_
      subst h4
      cases hr : rightP (fewL P 1000)
      · simp only [XA, XB, gateX, Nat.reduceAdd, Nat.reduceLeDiff, Nat.reduceSub, Nat.reduceMul, ↓reduceIte, Int.reduceToNat, Int.reduceLE, beq_self_eq_true]
        refine hK _ ?_
        first | refine XWP.cond (t := false) rfl (fun h => by cases h) (fun _ => ?_) | refine XWP.seq (XWP.cond (t := false) rfl (fun h => by cases h) (fun _ => ?_))
        refine XWP.skip ?_
        exact ⟨L.length, V4, StIs.of (by exact rfl), by rw [List.take_length]; exact (h1.up hV3).up hV4, Nat.le_refl _⟩
      · simp only [XA, XB, gateX, Nat.reduceAdd, Nat.reduceLeDiff, Nat.reduceSub, Nat.reduceMul, ↓reduceIte, Int.reduceToNat, Int.reduceLE, beq_self_eq_true]
        refine hK _ ?_
        first | refine XWP.cond (t := true) rfl (fun _ => ?_) (fun h => by cases h) | refine XWP.seq (XWP.cond (t := true) rfl (fun _ => ?_) (fun h => by cases h))
        clear hK
        have hok : okR L = true := by
          have := (rightP_parts hr).1
          rw [← hL, cut_take P hn]
          unfold okR at this ⊢
          exact List.all_eq_true.2 fun r hr => List.all_eq_true.1 this r (List.mem_of_mem_take hr)
        first | refine XWP.block ?_ | refine XWP.seq (XWP.block ?_)
        refine XWP.loop (fun k s => ∃ (V2 : View), StIs (fun τ => [τ 0, τ 1, τ 2, τ 3, τ 4, .v (.slice A2 k c2), τ 6, τ 7, τ 8, τ 9, τ 10, τ 11, τ 12, τ 13, τ 14, τ 15, τ 16, τ 17, τ 18, τ 19, τ 20, τ 21, τ 22, τ 23, τ 24, τ 25, τ 26, τ 27, τ 28, τ 29, τ 30, τ 31, τ 32, τ 33, τ 34, τ 35, τ 36]) [] (fun _ => none) V2 s ∧ V1.le V2 ∧ k ≤ L.length) L.length ⟨V4, StIs.of (by exact rfl), View.le_trans hV3 hV4, Nat.le_refl _⟩ ?_
        rintro k s ⟨V2, hs, hV2, hk⟩
        obtain ⟨z, rfl⟩ := hs.out
        try dsimp only
        have hv2 := Raws.up h1 hV2
        refine XWP.seq ?_
        by_cases hk0 : k = 0
        · subst hk0
          have b2 : decide ((0 : Int) < ((0 : Nat) : Int)) = false := decide_eq_false (by omega)
          first | refine XWP.reg (by kernel_rfl) fun K hK => ?_ | refine XWP.seq (XWP.reg (by kernel_rfl) fun K hK => ?_) | refine XWP.reg1 (by kernel_rfl) fun K hK => ?_
          simp only [XA, XB, gateX, Nat.reduceAdd, Nat.reduceLeDiff, Nat.reduceSub, Nat.reduceMul, ↓reduceIte, Int.reduceToNat, Int.reduceLE, beq_self_eq_true, b2]
          refine hK _ ?_
          first | refine XWP.cond (t := false) rfl (fun h => by cases h) (fun _ => ?_) | refine XWP.seq (XWP.cond (t := false) rfl (fun h => by cases h) (fun _ => ?_))
          refine XWP.exit ?_
          exact ⟨0, V2, StIs.of (by exact rfl), SlAt.take hv2 hk, hk⟩
        · have b2 : decide ((0 : Int) < (k : Int)) = true := decide_eq_true (by omega)
          have hr2 := Raws.rats hv2 hok
          obtain ⟨b, o, rfl⟩ := SlAt.addr hv2 (by omega)
          obtain ⟨m3, n3, d3', hx, ⟨p1, p2, p3⟩, hld⟩ := Rats.get hr2 (k - 1) (by rw [qs_len]; omega)
          have w1 := i64_pred k (by omega) (by omega)
          first | refine XWP.reg (by kernel_rfl) fun K hK => ?_ | refine XWP.seq (XWP.reg (by kernel_rfl) fun K hK => ?_) | refine XWP.reg1 (by kernel_rfl) fun K hK => ?_
          simp only [XA, XB, gateX, Nat.reduceAdd, Nat.reduceLeDiff, Nat.reduceSub, Nat.reduceMul, ↓reduceIte, Int.reduceToNat, Int.reduceLE, beq_self_eq_true, b2, w1]
          refine ⟨by omega, by omega, ld_mem (hld _) ?_⟩
          simp only [XA, XB, gateX, Nat.reduceAdd, Nat.reduceLeDiff, Nat.reduceSub, Nat.reduceMul, ↓reduceIte, Int.reduceToNat, Int.reduceLE, beq_self_eq_true]
          refine call_go (by kernel_rfl) rfl (psign_c _ _ _ (hx.toV (fewR_qf hfew hdig _ (cf_mem (by rw [qs_len]; omega))))) fun v5 V5 hV5 h5 => ?_
          subst h5
          by_cases hz : cf (qs L) (k - 1) = 0
          · have b3 : decide (cf (qs L) (k - 1) = 0) = true := decide_eq_true hz
            simp only [XA, XB, gateX, Nat.reduceAdd, Nat.reduceLeDiff, Nat.reduceSub, Nat.reduceMul, ↓reduceIte, Int.reduceToNat, Int.reduceLE, beq_self_eq_true, sgI_zero, b3]
            refine hK _ ?_
            first | refine XWP.cond (t := true) rfl (fun _ => ?_) (fun h => by cases h) | refine XWP.seq (XWP.cond (t := true) rfl (fun _ => ?_) (fun h => by cases h))
            refine XWP.skip ?_
            first | refine XWP.block ?_ | refine XWP.seq (XWP.block ?_)
            first | refine XWP.reg (by kernel_rfl) fun K hK => ?_ | refine XWP.seq (XWP.reg (by kernel_rfl) fun K hK => ?_) | refine XWP.reg1 (by kernel_rfl) fun K hK => ?_
            simp only [XA, XB, gateX, Nat.reduceAdd, Nat.reduceLeDiff, Nat.reduceSub, Nat.reduceMul, ↓reduceIte, Int.reduceToNat, Int.reduceLE, beq_self_eq_true, w1]
            refine ⟨by omega, by omega, by omega, ?_⟩
            exact hK _ ⟨k - 1, by omega, V5, StIs.of (by exact rfl), View.le_trans hV2 hV5, by omega⟩
          · have b3 : decide (cf (qs L) (k - 1) = 0) = false := decide_eq_false hz
            simp only [XA, XB, gateX, Nat.reduceAdd, Nat.reduceLeDiff, Nat.reduceSub, Nat.reduceMul, ↓reduceIte, Int.reduceToNat, Int.reduceLE, beq_self_eq_true, sgI_zero, b3]
            refine hK _ ?_
            first | refine XWP.cond (t := false) rfl (fun h => by cases h) (fun _ => ?_) | refine XWP.seq (XWP.cond (t := false) rfl (fun h => by cases h) (fun _ => ?_))
            refine XWP.exit ?_
            exact ⟨k, V5, StIs.of (by exact rfl), SlAt.take (hv2.up hV5) hk, hk⟩
    · have b1 : decide ((n : Int) < (P.length : Int)) = false := decide_eq_false (by omega)
      simp only [XA, XB, gateX, Nat.reduceAdd, Nat.reduceLeDiff, Nat.reduceSub, Nat.reduceMul, ↓reduceIte, Int.reduceToNat, Int.reduceLE, beq_self_eq_true, b1]
      refine hK _ ?_
      first | refine XWP.cond (t := false) rfl (fun h => by cases h) (fun _ => ?_) | refine XWP.seq (XWP.cond (t := false) rfl (fun h => by cases h) (fun _ => ?_))
      refine XWP.skip ?_
      exact ⟨L.length, V1, StIs.of (by exact rfl), by rw [List.take_length]; exact h1, Nat.le_refl _⟩
  rintro s ⟨k, V2, hs, hk, hkl⟩
  obtain ⟨z, rfl⟩ := hs.out
  try dsimp only
  first | refine XWP.reg (by kernel_rfl) fun K hK => ?_ | refine XWP.seq (XWP.reg (by kernel_rfl) fun K hK => ?_) | refine XWP.reg1 (by kernel_rfl) fun K hK => ?_
  simp only [XA, XB, gateX, Nat.reduceAdd, Nat.reduceLeDiff, Nat.reduceSub, Nat.reduceMul, ↓reduceIte, Int.reduceToNat, Int.reduceLE, beq_self_eq_true]
  refine hK _ (XWP.ret ?_)
  try simp only [thenX_ret, inBlockX_ret]
  refine ret_go _ rfl ?_
  exact ⟨_, hk, by simp; omega, fun r hr => hfew r (List.mem_of_mem_take hr)⟩
end Go.Proofs.Ythoboehbadmlmaa
end
section
namespace Go.Proofs.Ythoboehbadmlmaa
open Go Go.RowKit
set_option linter.unusedSimpArgs false
set_option linter.unusedVariables false
attribute [local irreducible] XWP Spec SpecO XPub XCall seqX clX apX stX ldX iaX slX
theorem fewR_CB' {P : List Raw} {n : Nat} (h : fewR P) (hd : digR P) (hl : P.length ≤ n) : CB (n * 96) (qs P) := (fewR_CB h hd).mono (Nat.mul_le_mul_right _ hl)
end Go.Proofs.Ythoboehbadmlmaa
end
section
namespace Go.Proofs.Ythoboehbadmlmaa
open Go Go.RowKit Go.ChangeShapes
set_option linter.unusedVariables false
/-- the whole world, as what is published -/
def viewW (w : World) : View := fun k => w.heap[k]?
theorem viewW_sub (w : World) : View.sub (viewW w) w := fun _ _ h => h
theorem cell_view {w : World} {a : Addr} {v : Value} (h : w.cell? a = some v) : a.spot = none ∧ ∃ arr ty fr, viewW w a.block = some (.cells arr ty fr) ∧ arr[a.off]? = some v := by
  unfold World.cell? at h
  split at h
  · rename_i c t f hb
    split at h
    · cases h
    · rename_i hs
      refine ⟨?_, c, t, f, hb, h⟩
      cases hsp : a.spot with
      | none => rfl
      | some x => rw [hsp] at hs; simp at hs
  · cases h
theorem add_off (a : Addr) (n : Nat) : (a.add n).block = a.block ∧ (a.add n).off = a.off + n := by
  unfold Addr.add; split
  · rename_i h; subst h; exact ⟨rfl, rfl⟩
  · exact ⟨rfl, rfl⟩
theorem cells_view {w : World} {a : Addr} {n : Nat} {f : Nat → Value} (hn : 0 < n) (h : ∀ i, i < n → w.cell? (a.add i) = some (f i)) : a.spot = none ∧ ∃ arr ty fr, viewW w a.block = some (.cells arr ty fr) ∧ ∀ i, i < n → arr[a.off + i]? = some (f i) := by
  have h0 := h 0 hn
  have e0 : a.add 0 = a := by simp [Addr.add]
  rw [e0] at h0
  obtain ⟨hs, arr, ty, fr, hb, _⟩ := cell_view h0
  refine ⟨hs, arr, ty, fr, hb, fun i hi => ?_⟩
  obtain ⟨_, arr', ty', fr', hb', hv⟩ := cell_view (h i hi)
  obtain ⟨e1, e2⟩ := add_off a i
  rw [e1, hb] at hb'
  cases hb'
  rw [e2] at hv; exact hv
theorem addr_eta (a : Addr) (h : a.spot = none) : a = ⟨a.block, a.off, none⟩ := by cases a; simp at h; subst h; rfl
section
variable {H : Type} {enc : TypeId × Value → H} {w : World} {base : Nat} {spare : Nat → Bool} {held : Bool}
theorem und_nat : (Try.prog).underlying 32 = some (.slice 129) := und_elem elemT_32
theorem und_u32 : (Try.prog).underlying 129 = some (.int .u32) := by kernel_rfl
theorem cells_u32 : (Try.prog).cellsOf 129 = 1 := by kernel_rfl
theorem cells_rat : (Try.prog).cellsOf 34 = 3 := by kernel_rfl
theorem open_nat {fuel : Nat} {v : Value} {x : DataW H × List MemPlace} (h : DataW.trod enc Try.prog w base spare held fuel 32 [v] = some x) : ∃ ds, NatAt (viewW w) v ds := by
  rcases open_ints und_nat und_u32 cells_u32 h with ⟨hcs, _⟩ | ⟨a, len, cap, zs, hcs, _, hl, hm, hz, _, hcell, hwz⟩
  · cases hcs; exact ⟨[], NatAt.nil _⟩
  · cases hcs
    have hzl : len ≤ zs.length := by rw [hz]; split <;> omega
    have hwf : ∀ z ∈ zs, 0 ≤ z ∧ z < 4294967296 := fun z hz => by
      have := hwz z hz
      simp [Lit.wf, IntKind.min, IntKind.max, IntKind.signed, IntKind.bits] at this
      omega
    refine ⟨(zs.take len).map Int.toNat, some a, cap, by simp [Nat.min_eq_left hzl], by simp; omega, by unfold maxLen at hm; omega, fun d hd => ?_, ?_⟩
    · obtain ⟨z, hz, rfl⟩ := List.mem_map.1 hd
      have := hwf z (List.mem_of_mem_take hz)
      unfold BB; omega
    · rcases Nat.eq_zero_or_pos len with h0 | h0
      · subst h0; exact .inl (by simp)
      · obtain ⟨hs, arr, ty, fr, hb, hv⟩ := cells_view (f := fun i => .int .u32 (zs.getD i 0)) (by omega) hcell
        refine .inr ⟨a.block, a.off, arr, ty, fr, by rw [← addr_eta a hs], hb, fun i d hd => ?_⟩
        rw [List.getElem?_map, List.getElem?_take] at hd
        split at hd
        · rename_i hi
          rw [hv i (by omega)]
          have hiz : i < zs.length := by omega
          rw [List.getElem?_eq_getElem hiz] at hd
          simp at hd
          have := hwf zs[i] (List.getElem_mem hiz)
          simp [hiz]
          omega
        · cases hd
noncomputable def ratFields : Array Field := match (Try.prog).underlying 34 with
  | some (.struct fs) => fs
  | _ => #[]
theorem und_rat : (Try.prog).underlying 34 = some (.struct ratFields) := by kernel_rfl
theorem ratFields_map : ratFields.toList.map (fun f => (f.type, f.offset)) = [(4, 0), (32, 1), (32, 2)] := by kernel_rfl
theorem und_bool : (Try.prog).underlying 4 = some .bool := by kernel_rfl
theorem cells_bool : (Try.prog).cellsOf 4 = 1 := by kernel_rfl
theorem cells_nat : (Try.prog).cellsOf 32 = 1 := by kernel_rfl
theorem ratField (i : Nat) (t o : Nat) (h : [(4, 0), (32, 1), (32, 2)][i]? = some (t, o)) : ∃ f, ratFields[i]? = some f ∧ f.type = t ∧ f.offset = o := by
  rw [← ratFields_map, List.getElem?_map] at h
  cases hf : ratFields.toList[i]? with
  | none => rw [hf] at h; cases h
  | some f =>
    rw [hf] at h
    simp at h
    exact ⟨f, by rw [← Array.getElem?_toList]; exact hf, h.1, h.2⟩
theorem three_of {α : Type} {l : List α} (h : l.length = 3) : ∃ a b c, l = [a, b, c] := by
  rcases l with _ | ⟨a, _ | ⟨b, _ | ⟨c, _ | ⟨d, l⟩⟩⟩⟩ <;> simp at h
  exact ⟨a, b, c, rfl⟩
theorem open_rat {fuel : Nat} {cs : List Value} {x : DataW H × List MemPlace} (h : DataW.trod enc Try.prog w base spare held fuel 34 cs = some x) : ∃ (r : Raw) (n d : Value), cs = [.bool r.m, n, d] ∧ NatAt (viewW w) n r.nd ∧ NatAt (viewW w) d r.dd := by
  obtain ⟨xs, m, _, _, hl, hxl, hf⟩ := DataW.trod_struct und_rat h
  rw [cells_rat] at hl
  have hsz : ratFields.size = 3 := by
    have := congrArg List.length ratFields_map
    simpa using this
  obtain ⟨c0, c1, c2, rfl⟩ := three_of hl
  obtain ⟨f0, a0, t0, o0⟩ := ratField 0 _ _ rfl
  obtain ⟨f1, a1, t1, o1⟩ := ratField 1 _ _ rfl
  obtain ⟨f2, a2, t2, o2⟩ := ratField 2 _ _ rfl
  have h0 := hf 0 f0 a0
  have h1 := hf 1 f1 a1
  have h2 := hf 2 f2 a2
  rw [t0, o0, cells_bool, List.getElem?_eq_getElem (by omega)] at h0
  rw [t1, o1, cells_nat, List.getElem?_eq_getElem (by omega)] at h1
  rw [t2, o2, cells_nat, List.getElem?_eq_getElem (by omega)] at h2
  obtain ⟨b, e, _⟩ := DataW.trod_bool und_bool h0
  have e' : c0 = .bool b := by simpa using e
  subst e'
  obtain ⟨ds, hn⟩ := open_nat h1
  obtain ⟨es, hd⟩ := open_nat h2
  exact ⟨⟨b, ds, es⟩, c1, c2, rfl, hn, hd⟩
theorem choose_list {α : Type} {Q : Nat → α → Prop} : ∀ n, (∀ i, i < n → ∃ x, Q i x) → ∃ xs : List α, xs.length = n ∧ ∀ i x, xs[i]? = some x → Q i x
  | 0, _ => ⟨[], rfl, fun i x h => by simp at h⟩
  | n + 1, h => by
    obtain ⟨xs, hl, hq⟩ := choose_list n fun i hi => h i (by omega)
    obtain ⟨x, hx⟩ := h n (by omega)
    refine ⟨xs ++ [x], by simp [hl], fun i y hi => ?_⟩
    by_cases hlt : i < n
    · rw [List.getElem?_append_left (by omega)] at hi; exact hq i y hi
    · rw [List.getElem?_append_right (by omega)] at hi
      have : i = n := by
        rcases Nat.eq_zero_or_pos (i - xs.length) with h0 | h0
        · omega
        · rw [List.getElem?_eq_none (by simp; omega)] at hi; cases hi
      subst this
      rw [hl, Nat.sub_self] at hi
      simp at hi
      subst hi; exact hx
theorem open_raws {t fuel : Nat} {v : Value} {x : DataW H × List MemPlace} (ht : elemT Try.prog t = some 34) (h : DataW.trod enc Try.prog w base spare held fuel t [v] = some x) : ∃ l, Raws (viewW w) v l := by
  rcases Go.Deep.open_slice (und_elem ht) h with ⟨hcs, _⟩ | ⟨a, len, cap, m, n, D, Pl, hcs, _, hl, hm, hmm, _, hel⟩
  · cases hcs; exact ⟨[], SlAt.nil _⟩
  · cases hcs
    have hlm : len ≤ m := by rw [hmm]; split <;> omega
    have key : ∀ i, i < len → ∃ r : Raw, ∃ n d : Value, w.cell? (a.add (i * 3)) = some (.bool r.m) ∧ w.cell? (a.add (i * 3 + 1)) = some n ∧ w.cell? (a.add (i * 3 + 2)) = some d ∧ NatAt (viewW w) n r.nd ∧ NatAt (viewW w) d r.dd := fun i hi => by
      obtain ⟨cs', h1, h2⟩ := hel i (by omega)
      obtain ⟨r, n', d, rfl, k1, k2⟩ := open_rat h2
      rw [cells_rat] at h1
      obtain ⟨_, _, h3⟩ := World.cells?_some h1
      have g0 := h3 0 (by omega)
      have g1 := h3 1 (by omega)
      have g2 := h3 2 (by omega)
      rw [Go.Deep.add_add] at g0 g1 g2
      exact ⟨r, n', d, g0, g1, g2, k1, k2⟩
    obtain ⟨l, hll, hq⟩ := choose_list len key
    refine ⟨l, some a, cap, by rw [hll], by omega, by unfold maxLen at hm; omega, ?_⟩
    rcases Nat.eq_zero_or_pos len with h0 | h0
    · exact .inl (List.length_eq_zero_iff.1 (by omega))
    · obtain ⟨nn, dd, g0, _⟩ := hq 0 l[0] (List.getElem?_eq_getElem (by omega))
      have e0 : a.add (0 * 3) = a := by simp [Addr.add]
      rw [e0] at g0
      obtain ⟨hs, arr, ty, fr, hb, _⟩ := cell_view g0
      refine .inr ⟨a.block, a.off, arr, ty, fr, by rw [← addr_eta a hs], hb, fun i x hi => ?_⟩
      obtain ⟨n', d, g0, g1, g2, k1, k2⟩ := hq i x hi
      have at_ : ∀ k v, w.cell? (a.add k) = some v → arr[a.off + k]? = some v := fun k v hk => by
        obtain ⟨_, arr', ty', fr', hb', hv⟩ := cell_view hk
        obtain ⟨e1, e2⟩ := add_off a k
        rw [e1, hb] at hb'
        cases hb'
        rw [e2] at hv; exact hv
      exact ⟨.bool x.m, n', d, at_ _ _ g0, at_ _ _ g1, at_ _ _ g2, rfl, k1.one, k2.one, n', d, rfl, k1, k2⟩
end
end Go.Proofs.Ythoboehbadmlmaa
end
section
namespace Go.Proofs.Ythoboehbadmlmaa
open Go Go.RowKit
/-! ### The last box becomes a row -/
def rowS (m b : Nat) : SV → SV
  | .v x => .v x
  | .p j o => if j = m then .v (.pointer (some ⟨b, o, none⟩)) else .p j o
theorem rowS_v (m b : Nat) (x : Value) : rowS m b (.v x) = .v x := rfl
theorem rowS_p (m b j o : Nat) : rowS m b (.p j o) = if j = m then .v (.pointer (some ⟨b, o, none⟩)) else .p j o := rfl
theorem XWP.row1 {Γ : Cx} {P : Program} {c : Code} {Q : Exit → XS → Prop} {t : List SV} {bx : List (List Value)} {vs : List Value} {H : Heap} {V : View}
    (h : ∀ b e, H b = none → V b = none → XWP Γ P c Q ⟨t.map (rowS bx.length b), bx, upd H b (some ⟨e, vs, vs.length⟩), V⟩) : XWP Γ P c Q ⟨t, bx ++ [vs], H, V⟩ := by
  intro bl a w hc
  have hlt : bx.length < (bx ++ [vs]).length := by simp
  obtain ⟨ty, hh⟩ := hc.cw.box bx.length vs (by simp)
  obtain ⟨b1, b2, b3⟩ := hc.cs.bxH bx.length hlt
  refine h (bl bx.length) ty b1 b2 bl a w ⟨?_, hc.df, ⟨fun i us hi => hc.cw.box i us ?_, fun b r hb => ?_, hc.cw.view, hc.cw.below⟩, ⟨fun i j hi hj => hc.cs.inj i j (by dsimp only at hi ⊢; rw [List.length_append]; omega) (by dsimp only at hj ⊢; rw [List.length_append]; omega), fun i hi => ?_, fun b r hb => ?_, hc.cs.V0, hc.cs.frm⟩, fun x hx => ?_⟩
  · rw [hc.tm, List.map_map]
    congr 1
    refine List.map_congr_left fun x _ => ?_
    cases x with
    | v x => rfl
    | p j o =>
      simp only [Function.comp_apply, rowS]
      split
      · rename_i e; subst e; rfl
      · rfl
  · dsimp only at hi ⊢
    have hl : i < bx.length := (List.getElem?_eq_some_iff.1 hi).1
    rw [List.getElem?_append_left hl]; exact hi
  · dsimp only at hb
    unfold upd at hb
    split at hb
    · rename_i e; subst e; cases hb
      exact ⟨[], by simpa using hh, by simp⟩
    · exact hc.cw.row b r hb
  · dsimp only at hi
    have hl : i < (bx ++ [vs]).length := by rw [List.length_append]; omega
    have := hc.cs.bxH i hl
    refine ⟨?_, this.2⟩
    dsimp only
    unfold upd
    rw [if_neg (fun e => by have := hc.cs.inj i bx.length hl hlt e; omega)]; exact this.1
  · dsimp only at hb
    unfold upd at hb
    split at hb
    · rename_i e; subst e; exact ⟨b2, b3⟩
    · exact hc.cs.HV b r hb
  · obtain ⟨y, hy, rfl⟩ := List.mem_map.1 hx
    have := hc.ok y hy
    cases y with
    | v x => trivial
    | p j o =>
      have hj : j < (bx ++ [vs]).length := this
      show SV.ok _ (if j = bx.length then SV.v _ else .p j o)
      split
      · trivial
      · rename_i hne
        show j < bx.length
        rw [List.length_append] at hj
        simp only [List.length_cons, List.length_nil] at hj
        omega

/-! ### What an iterator promises: it yields these, in order, as long as yield answers true -/
def IterX (P : Program) (gf : Nat) (lb : Array Value) (V : View) (L : List (Array Value)) : Prop :=
  ∀ (l : Nat) (J : Nat → World → Prop) (Jx : World → Prop) (W : World), J 0 W → (∀ r W1, J r W1 → V.sub W1) → (∀ W1, Jx W1 → V.sub W1) →
    (∀ r W1 args, L[r]? = some args → J r W1 → YieldAt Fence.wide 0 P l args W1 fun e W' => (e = .returned (.bool true) ∧ J (r + 1) W') ∨ (e = .returned (.bool false) ∧ Jx W')) →
    CallsIn Fence.wide 0 P gf (#[.func (.yield l) #[] #[]] ++ lb) W fun e W' => (∃ v, e = .returned v) ∧ (J L.length W' ∨ Jx W')
def setPs : List Tmp → List Value → List SV → List SV
  | p :: ps, v :: vs, t => setPs ps vs (t.set p (.v v))
  | _, _, t => t
theorem setPs_conc {bl : Nat → Nat} : ∀ (ps : List Tmp) (vs : List Value) (t : List SV), (ps.zip vs).foldl (fun (t : Array Value) (q : Tmp × Value) => t.setIfInBounds q.1 q.2) (t.map (SV.conc bl)).toArray = ((setPs ps vs t).map (SV.conc bl)).toArray
  | [], _, t => by simp [setPs]
  | _ :: _, [], t => by simp [setPs]
  | p :: ps, v :: vs, t => by
    simp only [List.zip_cons_cons, List.foldl_cons, setPs]
    rw [← setPs_conc ps vs (t.set p (.v v))]
    congr 1
    simp [List.map_set, SV.conc]
theorem setPs_ok {n : Nat} : ∀ (ps : List Tmp) (vs : List Value) (t : List SV), (∀ x ∈ t, x.ok n) → ∀ x ∈ setPs ps vs t, x.ok n
  | [], _, t, h => by simpa [setPs] using h
  | _ :: _, [], t, h => by simpa [setPs] using h
  | p :: ps, v :: vs, t, h => by
    simp only [setPs]
    refine setPs_ok ps vs _ fun x hx => ?_
    rcases List.mem_or_eq_of_mem_set hx with h1 | rfl
    · exact h x h1
    · trivial
/-- how a round's body may be left -/
def roundQ (I : Heap → View → Prop) (Ix : Heap → View → Prop) : Exit → XS → Prop
  | .normal, s => I s.H s.V
  | .ret, s => Ix s.H s.V
  | _, _ => False
theorem CW.putObj {Γ : Cx} {bl : Nat → Nat} {H : Heap} {V : View} {w : World} (hp : Γ.V0.sub Γ.w0) (h : CW Γ bl [] H V w) (hs : CS Γ bl [] H V) {D : Nat} {o : Obj} (hD : w.heap[D]? = some o) (ho : o.isCells = false) (hn : Γ.w0.heap.size ≤ D) (o' : Obj) : CW Γ bl [] H V (w.putObj D o') := h.turn hp hs hD ho hn o'
theorem CW.nobox {Γ : Cx} {bl bl' : Nat → Nat} {bx : List (List Value)} {H : Heap} {V : View} {w : World} (h : CW Γ bl bx H V w) : CW Γ bl' [] H V w := ⟨fun i vs hi => by simp at hi, h.row, h.view, h.below⟩
theorem CS.nobox {Γ : Cx} {bl bl' : Nat → Nat} {bx : List (List Value)} {H : Heap} {V : View} (h : CS Γ bl bx H V) : CS Γ bl' [] H V := ⟨fun i j hi => by simp at hi, fun i hi => by simp at hi, h.HV, h.V0, h.frm⟩
theorem CW.cx {Γ Γ' : Cx} {bl : Nat → Nat} {bx : List (List Value)} {H : Heap} {V : View} {w : World} (h : CW Γ bl bx H V w) (e : Γ'.w0 = Γ.w0) : CW Γ' bl bx H V w := ⟨h.box, h.row, h.view, by rw [e]; exact h.below⟩
theorem CS.cx {Γ Γ' : Cx} {bl : Nat → Nat} {bx : List (List Value)} {H : Heap} {V : View} (h : CS Γ bl bx H V) (e : Γ'.w0 = Γ.w0) (e' : Γ'.V0 = Γ.V0) : CS Γ' bl bx H V := ⟨h.inj, fun i hi => by rw [e]; exact h.bxH i hi, fun b r hb => by rw [e]; exact h.HV b r hb, by rw [e']; exact h.V0, by rw [e, e']; exact h.frm⟩
theorem wpIn_any {Γ : Cx} {P : Program} {c : Code} {Q : Exit → Act → World → Prop} {a : Act} {w : World} {n m : Nat} (h : c.wpIn Γ.F n P Q a w) : c.wpIn Γ.F m P Q a w := fun b k cs hro hb _ => h b k cs hro hb (Γ.room _)
theorem others_put {w w1 : World} {l : Nat} (h : KeepsOthers w1 w) (hl : w1.heap.size ≤ l) (o : Obj) : KeepsOthers w1 (w.putObj l o) :=
  ⟨by rw [World.putObj_size]; exact h.size, fun k ob hk ho => by
    have := (Array.getElem?_eq_some_iff.1 hk).1
    rw [World.putObj_heap_other (by omega)]; exact h.same k ob hk ho⟩
theorem CW.allocO {Γ : Cx} {bl : Nat → Nat} {H : Heap} {V : View} {w : World} (h : CW Γ bl [] H V w) (o : Obj) : CW Γ bl [] H V (w.alloc o) :=
  ⟨fun i vs hi => by simp at hi, fun b r hb => by
    obtain ⟨ex, hh, hl⟩ := h.row b r hb
    exact ⟨ex, by rw [Below.heap_alloc w _ _ (h.lt_row hb)]; exact hh, hl⟩, view_alloc h.view _, h.below.alloc h.below.size _⟩
theorem mk_turn {Γ Γ' : Cx} {a : Act} {w : World} {l : Nat} {o o' : Obj} (h : Mk Γ a w) (hl : w.heap[l]? = some o) (ho : ∀ d, o ≠ .deferred d) (e0 : Γ'.w0 = Γ.w0) (e1 : Γ'.w1 = w.putObj l o') : Mk Γ' a (w.putObj l o') := by
  obtain ⟨⟨ms, h1, h2, h3⟩, _⟩ := h
  refine ⟨⟨ms, h1, h2, fun D hD => ⟨by rw [e0]; exact (h3 D hD).1, ?_⟩⟩, by rw [e1]; exact KeepsOthers.refl _⟩
  refine (World.putObj_heap_other (fun e => ?_)).trans (h3 D hD).2
  have := (h3 D hD).2
  rw [e, hl] at this
  cases this; exact ho _ rfl
/-- **A range over a function.** -/
theorem XWP.range {Γ : Cx} {P : Program} (hΓ : Γ.Plain) {g : Operand} {ps : Array Tmp} {assign body : Code} {Q : Exit → XS → Prop} {t : List SV} {H : Heap} {V : View} {gf : Nat} {lb : Array Value} {L : List (Array Value)} {I : Nat → Heap → View → Prop} {Ix : Heap → View → Prop}
    (hg : (⟨t, [], H, V⟩ : XS).ev g = .v (.func (.func gf) #[] lb)) (hcall : callable P gf = true) (hps : ∀ args ∈ L, args.size = ps.size) (it : IterX P gf lb V L) (h0 : I 0 H V) (hle : ∀ r H' V', I r H' V' → V.le V') (hleX : ∀ H' V', Ix H' V' → V.le V')
    (hr : ∀ (Γ' : Cx) (r : Nat) (args : Array Value) (H' : Heap) (V' : View), L[r]? = some args → I r H' V' → XWP Γ' P assign (fun e s1 => match e with | .normal => ∀ Γ'' : Cx, XWP Γ'' P body (roundQ (I (r + 1)) Ix) s1 | _ => False) ⟨setPs ps.toList args.toList t, [], H', V'⟩)
    (hdone : ∀ H' V', I L.length H' V' → Q .normal ⟨t, [], H', V'⟩) (hstop : ∀ H' V', Ix H' V' → Q .ret ⟨t, [], H', V'⟩) : XWP Γ P (.rangeFunc g ps assign body) Q ⟨t, [], H, V⟩ := by
  intro bl a w hC
  obtain ⟨⟨ms, m1, m2, m3⟩, m4⟩ := hC.df
  have eF : Γ.F = Fence.wide := by unfold Cx.F; rw [hΓ.1]; rfl
  have hev : a.eval g = .func (.func gf) #[] lb := by rw [hC.ev, hg]; rfl
  have hok : ∀ x ∈ t, x.ok 0 := hC.ok
  have htm : a.tmps = (t.map (SV.conc bl)).toArray := hC.tm
  refine wpIn_any (n := 1) (wpIn_rangeFunc fun fn _ => ?_)
  obtain ⟨rec, hrec⟩ : ∃ rec : LoopState → Option Code → Loop, rec = fun st pe => { state := st, pending := pe, fn, tmps := a.tmps, params := ps, assign, body, defers := w.heap.size } := ⟨_, rfl⟩
  obtain ⟨W1, hW1⟩ : ∃ W1, (w.alloc (.deferred (some []))).alloc (.loop (rec .ready none)) = W1 := ⟨_, rfl⟩
  have hL1 : W1.heap[w.heap.size + 1]? = some (.loop (rec .ready none)) := by
    rw [← hW1]; have := World.alloc_heap_new (w.alloc (.deferred (some []))) (.loop (rec .ready none)); rwa [World.size_alloc] at this
  have hK1 : W1.heap[w.heap.size]? = some (.deferred (some [])) := by
    rw [← hW1]; exact (Below.heap_alloc _ _ _ (by simp)).trans (World.alloc_heap_new w _)
  have hcw1 : CW Γ bl [] H V W1 := by rw [← hW1]; exact (CW.allocO hC.cw _).allocO _
  have hko1 : KeepsOthers w W1 := by rw [← hW1]; exact (KeepsOthers.alloc _ _).trans (KeepsOthers.alloc _ _)
  have hws : Γ.w0.heap.size ≤ w.heap.size := hC.cw.below.size
  have hw1s : Γ.w1.heap.size ≤ w.heap.size := m4.size
  have hmlt : ∀ E ∈ ms, E < w.heap.size := fun E hE => (Array.getElem?_eq_some_iff.1 (m3 E hE).2).1
  refine ⟨w.heap.size + 1, [{ target := .collected w.heap.size, args := #[] }], W1, { target := .fn (.func gf) lb, args := #[.func (.yield (w.heap.size + 1)) #[] #[]] }, W1, gf, #[.func (.yield (w.heap.size + 1)) #[] #[]] ++ lb, W1, ?_, ?_, fun _ _ => trivial, ?_, fun _ => Nat.le_refl _, ?_⟩
  · show (Instr.enterLoop fn a.tmps ps assign body Γ.rd).run P w = _
    rw [hΓ.1, ← hW1, hrec]; exact run_enterLoop_outer _ _ _ _ _
  · simp only [resolve, hev]
    simp [go_sem]
  · unfold callable at hcall
    cases hf : P.funcs[gf]? with
    | none => simp [hf] at hcall
    | some fn =>
      simp [hf] at hcall
      have hb : fn.body ≠ none := fun hn => by simp [hn] at hcall
      simp [invoke, callFunc, hf, hcall.1, hb]
  rw [eF]
  have keepE : ∀ {A B : World}, (∀ E ∈ ms, A.heap[E]? = some (.deferred (some []))) → KeepsOthers A B → ∀ E ∈ ms, B.heap[E]? = some (.deferred (some [])) := fun h k E hE => k.same E _ (h E hE) rfl
  have putE : ∀ {A : World} (o : Obj), (∀ E ∈ ms, A.heap[E]? = some (.deferred (some []))) → ∀ E ∈ ms, (A.putObj (w.heap.size + 1) o).heap[E]? = some (.deferred (some [])) := fun o h E hE =>
    (World.putObj_heap_other (by have := hmlt E hE; omega)).trans (h E hE)
  have fini : ∀ (A : World) (H' : Heap) (V' : View), CW Γ bl [] H' V' A → CS Γ bl [] H' V' → (∀ E ∈ ms, A.heap[E]? = some (.deferred (some []))) → KeepsOthers Γ.w1 A → A.heap[w.heap.size]? = some (.deferred (some [])) →
      Conc Γ bl ⟨t, [], H', V'⟩ { a with defers := { target := .collected w.heap.size, args := #[] } :: a.defers } A := fun A H' V' c1 c2 c3 c4 c5 =>
    ⟨htm, ⟨⟨w.heap.size :: ms, by simp [m1], List.nodup_cons.2 ⟨fun h => by have := hmlt _ h; omega, m2⟩, fun D hD => by
      rcases List.mem_cons.1 hD with rfl | h
      · exact ⟨hws, c5⟩
      · exact ⟨(m3 D h).1, c3 D h⟩⟩, c4⟩, c1, c2, hok⟩
  refine (it (w.heap.size + 1)
    (fun r W => ∃ H' V', I r H' V' ∧ CW Γ bl [] H' V' W ∧ CS Γ bl [] H' V' ∧ (∀ E ∈ ms, W.heap[E]? = some (.deferred (some []))) ∧ KeepsOthers Γ.w1 W ∧ W.heap[w.heap.size + 1]? = some (.loop (rec .ready none)) ∧ W.heap[w.heap.size]? = some (.deferred (some [])))
    (fun W => ∃ H' V', Ix H' V' ∧ CW Γ bl [] H' V' W ∧ CS Γ bl [] H' V' ∧ (∀ E ∈ ms, W.heap[E]? = some (.deferred (some []))) ∧ KeepsOthers Γ.w1 W ∧ W.heap[w.heap.size + 1]? = some (.loop (rec .done (some .ret))) ∧ W.heap[w.heap.size]? = some (.deferred (some [])))
    W1 ⟨H, V, h0, hcw1, hC.cs.nobox, keepE (fun E hE => (m3 E hE).2) hko1, m4.trans hko1, hL1, hK1⟩ (fun r W ⟨H', V', hI, cw, _⟩ k o hk => cw.view k o (hle r H' V' hI k o hk)) (fun W ⟨H', V', hI, cw, _⟩ k o hk => cw.view k o (hleX H' V' hI k o hk)) ?_).mono ?_
  · rintro r W args hLr ⟨H', V', hI, cw, cs, me, ko, hl, hk⟩
    have hsz : args.size = ps.size := hps args (List.mem_of_getElem? hLr)
    have hy := run_yield (P := P) (args := args) hl (by rw [hrec]; exact hsz)
    refine ⟨fn, _, assign, body, by rw [hy, hrec], roundIn_of_wpIn trivial ?_⟩
    have hx := hr ⟨Γ.w0, Γ.V0, W, some (w.heap.size + 1)⟩ r args H' V' hLr hI bl { tmps := (ps.zip args).foldl (fun tmps (t, a) => tmps.setIfInBounds t a) a.tmps, defers := [] } W
      ⟨by rw [htm, ← setPs_conc, ← Array.foldl_toList, Array.toList_zip], ⟨⟨[], rfl, List.nodup_nil, fun D hD => by simp at hD⟩, KeepsOthers.refl _⟩, cw.cx rfl, cs.cx rfl rfl, setPs_ok _ _ _ hok⟩
    refine wpIn_mono hx ?_
    rintro e a1 Wa ⟨bl1, s1, hC1, hq⟩
    cases e with
    | normal =>
      have hla := hC1.df.2.same _ _ hl rfl
      have hka := hC1.df.2.same _ _ hk rfl
      have hlt : w.heap.size + 1 < Wa.heap.size := (Array.getElem?_eq_some_iff.1 hla).1
      refine ⟨_, run_beginRound hla (by rw [hrec]), ?_⟩
      obtain ⟨W2, hW2⟩ : ∃ W2, W2 = Wa.putObj (w.heap.size + 1) (.loop { rec .ready none with state := .busy }) := ⟨_, rfl⟩
      rw [← hW2]
      have hl2 : W2.heap[w.heap.size + 1]? = some (.loop { rec .ready none with state := .busy }) := by rw [hW2]; exact World.putObj_heap_same hlt
      have hk2 : W2.heap[w.heap.size]? = some (.deferred (some [])) := by rw [hW2]; exact (World.putObj_heap_other (by omega)).trans hka
      have hb := hq ⟨Γ.w0, Γ.V0, W2, some (w.heap.size + 1)⟩ bl1 a1 W2 ⟨hC1.tm, by
        rw [hW2]; exact mk_turn hC1.df hla (fun d h => by cases h) rfl rfl, by
        rw [hW2]; exact (CW.turn (Γ := ⟨Γ.w0, Γ.V0, W, some (w.heap.size + 1)⟩) hΓ.2 hC1.cw hC1.cs hla rfl (Nat.le_trans hws (Nat.le_succ _)) _).cx rfl, hC1.cs.cx rfl rfl, hC1.ok⟩
      refine wpIn_mono hb ?_
      rintro e a3 W3 ⟨bl3, s3, hC3, hq3⟩
      have hl3 := hC3.df.2.same _ _ hl2 rfl
      have hk3 := hC3.df.2.same _ _ hk2 rfl
      have hlt3 : w.heap.size + 1 < W3.heap.size := (Array.getElem?_eq_some_iff.1 hl3).1
      have hend := fun jump : Option Code => run_endRound (P := P) jump hl3
      have me3 : ∀ E ∈ ms, W3.heap[E]? = some (.deferred (some [])) := keepE (by rw [hW2]; exact putE _ (keepE me hC1.df.2)) hC3.df.2
      have ko3 : KeepsOthers Γ.w1 W3 := KeepsOthers.trans (by rw [hW2]; exact others_put (ko.trans hC1.df.2) (by omega) _) hC3.df.2
      have fin4 : ∀ o : Obj, CW Γ bl [] s3.H s3.V (W3.putObj (w.heap.size + 1) o) ∧ CS Γ bl [] s3.H s3.V ∧ (∀ E ∈ ms, (W3.putObj (w.heap.size + 1) o).heap[E]? = some (.deferred (some []))) ∧ KeepsOthers Γ.w1 (W3.putObj (w.heap.size + 1) o) ∧ (W3.putObj (w.heap.size + 1) o).heap[w.heap.size + 1]? = some o ∧ (W3.putObj (w.heap.size + 1) o).heap[w.heap.size]? = some (.deferred (some [])) := fun o => by
        have c0 : CS Γ bl [] s3.H s3.V := (hC3.cs.cx (Γ' := Γ) rfl rfl).nobox
        exact ⟨((hC3.cw.cx (Γ' := Γ) rfl).nobox).turn hΓ.2 c0 hl3 rfl (by omega) o, c0, putE o me3, others_put ko3 (by omega) o, World.putObj_heap_same hlt3, (World.putObj_heap_other (by omega)).trans hk3⟩
      cases e with
      | normal =>
        obtain ⟨f1, f2, f3, f4, f5, f6⟩ := fin4 (.loop (rec .ready none))
        refine ⟨_, _, hend none, .inl ⟨rfl, s3.H, s3.V, hq3, ?_⟩⟩
        rw [hrec] at f1 f3 f4 f5 f6 ⊢
        exact ⟨f1, f2, f3, f4, f5, f6⟩
      | ret =>
        obtain ⟨f1, f2, f3, f4, f5, f6⟩ := fin4 (.loop (rec .done (some .ret)))
        refine ⟨_, _, hend (some .ret), .inr ⟨rfl, s3.H, s3.V, hq3, ?_⟩⟩
        rw [hrec] at f1 f3 f4 f5 f6 ⊢
        exact ⟨f1, f2, f3, f4, f5, f6⟩
      | _ => exact hq3.elim
    | _ => exact hq.elim
  · rintro e W2 ⟨⟨v, rfl⟩, (⟨H', V', hI, cw, cs, me, ko, hl, hk⟩ | ⟨H', V', hI, cw, cs, me, ko, hl, hk⟩)⟩
    · have he := run_endLoop (P := P) hl (by rw [hrec]; simp)
      rw [hrec] at he
      refine ⟨none, _, he, ?_⟩
      exact ⟨bl, _, fini _ H' V' (cw.turn hΓ.2 cs hl rfl (by omega) _) cs (putE _ me) (others_put ko (by omega) _) ((World.putObj_heap_other (by omega)).trans hk), hdone H' V' hI⟩
    · have he := run_endLoop (P := P) hl (by rw [hrec]; simp)
      rw [hrec] at he
      refine ⟨some .ret, _, he, ?_⟩
      exact wpIn_ret ⟨bl, _, fini _ H' V' (cw.turn hΓ.2 cs hl rfl (by omega) _) cs (putE _ me) (others_put ko (by omega) _) ((World.putObj_heap_other (by omega)).trans hk), hstop H' V' hI⟩
end Go.Proofs.Ythoboehbadmlmaa
end
section
namespace Go.Proofs.Ythoboehbadmlmaa
open Go Go.RowKit
abbrev conc0 (t : List SV) : Array Value := (t.map (SV.conc fun _ => 0)).toArray
def YQ (Q : Exit → List SV → World → Prop) : Exit → Act → World → Prop := fun e a W => ∃ t, a.tmps = conc0 t ∧ a.defers = [] ∧ Q e t W
def YW (P : Program) (c : Code) (Q : Exit → List SV → World → Prop) (t : List SV) (W : World) : Prop :=
  ∀ a : Act, a.tmps = conc0 t → a.defers = [] → c.wpIn Fence.wide 0 P (YQ Q) a W
def thenY (K : List SV → World → Prop) (Q : Exit → List SV → World → Prop) : Exit → List SV → World → Prop
  | .normal, t, W => K t W
  | e, t, W => Q e t W
def inBlockY (id : Nat) (Q : Exit → List SV → World → Prop) : Exit → List SV → World → Prop
  | .exit id', t, W => if id' = id then Q .normal t W else Q (.exit id') t W
  | e, t, W => Q e t W
section
variable {P : Program} {Q : Exit → List SV → World → Prop} {t : List SV} {W : World}
theorem YW.apply {c : Code} {t : List SV} {a : Act} (h : YW P c Q t W) (h1 : a.tmps = conc0 t) (h2 : a.defers = []) : c.wpIn Fence.wide 0 P (YQ Q) a W := h a h1 h2
theorem YW.seq {x y : Code} (h : YW P x (thenY (YW P y Q) Q) t W) : YW P (.seq x y) Q t W := fun a h1 h2 =>
  wpIn_seq (wpIn_mono (h a h1 h2) fun e a w hq => by
    obtain ⟨t', h1', h2', q⟩ := hq
    cases e <;> first
      | exact q a h1' h2'
      | exact ⟨t', h1', h2', q⟩)
theorem YW.skip (h : Q .normal t W) : YW P .skip Q t W := fun _ h1 h2 => wpIn_skip ⟨t, h1, h2, h⟩
theorem YW.ret (h : Q .ret t W) : YW P .ret Q t W := fun _ h1 h2 => wpIn_ret ⟨t, h1, h2, h⟩
theorem YW.exit {i : Nat} (h : Q (.exit i) t W) : YW P (.exit i) Q t W := fun _ h1 h2 => wpIn_exit ⟨t, h1, h2, h⟩
theorem YW.block {i : Nat} {c : Code} (h : YW P c (inBlockY i Q) t W) : YW P (.block i c) Q t W := fun a h1 h2 =>
  wpIn_block (wpIn_mono (h a h1 h2) fun e a w hq => by
    obtain ⟨t', h1', h2', q⟩ := hq
    cases e with
    | exit j =>
      simp only [inBlockY] at q
      simp only [Exit.inBlock]
      split <;> rename_i hj
      · exact ⟨t', h1', h2', by simpa [hj] using q⟩
      · exact ⟨t', h1', h2', by simpa [hj] using q⟩
    | _ => exact ⟨t', h1', h2', q⟩)
theorem ev0 {a : Act} (h : a.tmps = conc0 t) (x : Operand) (H : Heap) (V : View) : a.eval x = ((⟨t, [], H, V⟩ : XS).ev x).conc fun _ => 0 := ev_conc (s := ⟨t, [], H, V⟩) h x
theorem YW.cond {c : Operand} {x y : Code} {b : Bool} {V : View} (hc : (⟨t, [], fun _ => none, V⟩ : XS).ev c = .v (.bool b)) (h1 : b = true → YW P x Q t W) (h2 : b = false → YW P y Q t W) : YW P (.cond c x y) Q t W := fun a e1 e2 =>
  wpIn_cond_split (t := b) (by rw [ev0 e1 c (fun _ => none) V, hc]; rfl) (fun e => h1 e a e1 e2) (fun e => h2 e a e1 e2)
theorem YW.loop {c : Code} (I : Nat → List SV → World → Prop) (n : Nat) (h0 : I n t W) (hr : ∀ n t W, I n t W → YW P c (thenY (fun t' W' => ∃ m, m < n ∧ I m t' W') Q) t W) : YW P (.loop c) Q t W := by
  intro a e1 e2
  have key : ∀ n t W a, I n t W → a.tmps = conc0 t → a.defers = [] → ∀ (b : Frame) (k : List Item) (cs : List Frame), b.roundOf = none →
      ∃ e a' w', YQ Q e a' w' ∧ ArrivesIn (Machine.fenced P Fence.wide) P (lone (b.atR a (.code c :: .inLoop c :: k)) cs W) b k cs e a' w' := by
    intro n
    induction n using Nat.strongRecOn with
    | _ n ih =>
      intro t W a hI e1 e2 b k cs hro
      obtain ⟨e, a₁, w₁, ⟨t1, h1, h2, hq⟩, harr⟩ := hr n t W hI a e1 e2 b (.inLoop c :: k) cs hro trivial (room_wide _)
      cases e with
      | normal =>
        obtain ⟨m, hm, hI1⟩ := hq
        obtain ⟨e₂, a₂, w₂, hq₂, harr₂⟩ := ih m hm t1 w₁ a₁ hI1 h1 h2 b k cs hro
        exact ⟨e₂, a₂, w₂, hq₂, .of_steps (StepsIn.trans harr (.one (fenced_calm (F := Fence.wide) (n := 0) (fr := b.atR a₁ (.inLoop c :: k)) trivial (room_wide _) rfl) stepR_inLoop)) harr₂⟩
      | exit id => exact ⟨_, a₁, w₁, ⟨t1, h1, h2, hq⟩, .pass (x := .inLoop c) rfl (fun _ _ => .inl (by simp)) harr⟩
      | goto l => exact ⟨_, a₁, w₁, ⟨t1, h1, h2, hq⟩, .pass (x := .inLoop c) rfl (fun _ _ => .inl (by simp)) harr⟩
      | ret => exact ⟨_, a₁, w₁, ⟨t1, h1, h2, hq⟩, .pass (x := .inLoop c) rfl (fun _ _ => .inl (by simp)) harr⟩
      | panic ch => exact ⟨_, a₁, w₁, ⟨t1, h1, h2, hq⟩, .pass (x := .inLoop c) rfl (fun _ _ => .inl (by simp)) harr⟩
      | outgrown => exact ⟨_, a₁, w₁, ⟨t1, h1, h2, hq⟩, .pass (x := .inLoop c) rfl (fun _ _ => .inl (by simp)) harr⟩
  intro b k cs hro _ _
  obtain ⟨e, a', w', hq, harr⟩ := key n t W a h0 e1 e2 b k cs hro
  exact ⟨e, a', w', hq, .of_steps (.one (fenced_calm (F := Fence.wide) (n := 0) (fr := b.atR a (.code (.loop c) :: k)) trivial (room_wide _) rfl) stepR_loop) harr⟩
/-- operations that read alone -/
theorem reads_in {ops : Array Oper} {V : View} {Q' : Exit → Act → World → Prop} (hV : V.sub W) (rest : List Nat) : ∀ (l : List Oper) (k : Nat) (K : XS → Prop) (t : List SV) (a : Act), (∀ i o, l[i]? = some o → ops[k + i]? = some o) → (l.all fun o => isRead o.op && o.guard.isNone) = true →
    a.tmps = conc0 t → a.defers = [] → (∀ x ∈ t, x.ok 0) → seqX P ops l K ⟨t, [], fun _ => none, V⟩ → (∀ t' a', a'.tmps = conc0 t' → a'.defers = [] → (∀ x ∈ t', x.ok 0) → K ⟨t', [], fun _ => none, V⟩ → wpOpsIn Fence.wide 0 P ops Q' rest a' W) →
    wpOpsIn Fence.wide 0 P ops Q' (List.range' k l.length ++ rest) a W
  | [], k, K, t, a, _, _, e1, e2, hok, h, hk => by simpa using hk t a e1 e2 hok h
  | o :: l, k, K, t, a, hi, hall, e1, e2, hok, h, hk => by
    simp only [List.all_cons, Bool.and_eq_true] at hall
    obtain ⟨⟨hrd, hgd⟩, hall⟩ := hall
    have ho : ops[k]? = some o := by simpa using hi 0 o (by simp)
    have hg : o.guard = none := by cases hx : o.guard <;> simp_all
    simp only [List.length_cons, List.range'_succ, List.cons_append]
    rw [wpOpsIn_cons]
    unfold wpOpIn
    simp only [ho]
    have hw : Region.wanted o (yielded ops a.tmps) = true := by unfold Region.wanted; rw [hg]
    rw [if_pos hw]
    unfold seqX stepX at h
    rw [hg] at h
    dsimp only at h
    unfold opX at h
    rw [if_pos hrd] at h
    obtain ⟨sv, ⟨hsv, hrun⟩, h⟩ := readX_sound (s := ⟨t, [], fun _ => none, V⟩) hok h
    have hr := hrun ⟨W, V, W, none⟩ (fun _ => 0) a W e1 ⟨fun i vs hi => by simp at hi, fun b r hb => (by cases hb), hV, Below.refl _ _⟩
    refine ⟨fun _ _ => trivial, ?_⟩
    have hd : ∀ c, o.op ≠ .defer c := fun c e => by rw [e] at hrd; cases hrd
    rw [Oper.semAt_eq _ _ _ hd, hr]
    have hconc : Conc ⟨W, V, W, none⟩ (fun _ => 0) ⟨t, [], fun _ => none, V⟩ a W := ⟨e1, ⟨⟨[], by rw [e2]; rfl, List.nodup_nil, fun D hD => by simp at hD⟩, KeepsOthers.refl _⟩, ⟨fun i vs hi => by simp at hi, fun b r hb => (by cases hb), hV, Below.refl _ _⟩, ⟨fun i j hi => by simp at hi, fun i hi => by simp at hi, fun b r hb => (by cases hb), View.le_refl _, View.from_refl _ _⟩, hok⟩
    have hput := hconc.put o.dst sv hsv
    have et : (XS.put ⟨t, [], fun _ => none, V⟩ o.dst sv) = ⟨(XS.put ⟨t, [], fun _ => none, V⟩ o.dst sv).t, [], fun _ => none, V⟩ := by cases o.dst <;> rfl
    rw [et] at h
    have hok2 : ∀ x ∈ (XS.put ⟨t, [], fun _ => none, V⟩ o.dst sv).t, x.ok 0 := by
      have := put_ok (s := ⟨t, [], fun _ => none, V⟩) hok o.dst hsv
      rw [XS.put_bx] at this; exact this
    refine reads_in hV rest l (k + 1) K _ _ (fun i o' h' => ?_) hall hput.tm ?_ hok2 h hk
    · have := hi (i + 1) o' (by simpa using h')
      rw [show k + 1 + i = k + (i + 1) by omega]; exact this
    · cases o.dst <;> exact e2
theorem YW.reads {id : Nat} {ops : Array Oper} {V : View} (hV : V.sub W) (hok : ∀ x ∈ t, x.ok 0) (hall : (ops.toList.all fun o => isRead o.op && o.guard.isNone) = true) (h : seqX P ops ops.toList (fun s => (∀ x ∈ s.t, x.ok 0) → Q .normal s.t W) ⟨t, [], fun _ => none, V⟩) : YW P (.region id ops false) Q t W := fun a e1 e2 => by
  refine wpIn_region ?_
  have := reads_in (Q' := YQ Q) hV [] ops.toList 0 _ t a (fun i o h => by simpa using h) hall e1 e2 hok h fun t' a' e1' e2' hok' hk => ⟨t', e1', e2', hk hok'⟩
  rwa [List.append_nil, Array.length_toList, ← List.range_eq_range'] at this
/-- reads, a call of yield, reads -/
theorem YW.yield {id : Nat} {ops : Array Oper} {V : View} {pre post : List Oper} {d : Option Tmp} {x : Tmp} {xs : List Operand} {ts : Array TypeId} {ty pos af} (hops : ops.toList = pre ++ ⟨d, .call ⟨.value (.tmp x), xs.toArray, ts⟩, ty, pos, af, none⟩ :: post) (hV : V.sub W) (hok : ∀ x ∈ t, x.ok 0)
    (hpre : (pre.all fun o => isRead o.op && o.guard.isNone) = true) (hpost : (post.all fun o => isRead o.op && o.guard.isNone) = true)
    (h : seqX P ops pre (fun s => ∃ (l : Nat) (args : List Value) (R : Ending → World → Prop), s.ev (.tmp x) = .v (.func (.yield l) #[] #[]) ∧ xs.map s.ev = args.map .v ∧ YieldAt Fence.wide 0 P l args.toArray W R ∧
      ∀ e W', R e W' → ∃ b, e = .returned (.bool b) ∧ V.sub W' ∧ seqX P ops post (fun s' => (∀ x ∈ s'.t, x.ok 0) → Q .normal s'.t W') (s.put d (.v (.bool b)))) ⟨t, [], fun _ => none, V⟩) : YW P (.region id ops false) Q t W := fun a e1 e2 => by
  refine wpIn_region ?_
  have hlen : List.range ops.size = List.range' 0 pre.length ++ (pre.length :: List.range' (pre.length + 1) post.length) := by
    have : ops.size = pre.length + (post.length + 1) := by rw [← Array.length_toList, hops]; simp
    rw [this, List.range_eq_range', ← List.range'_append_1, Nat.zero_add, List.range'_succ]
  rw [hlen]
  have hget : ∀ i : Nat, ops[i]? = (pre ++ ⟨d, .call ⟨.value (.tmp x), xs.toArray, ts⟩, ty, pos, af, none⟩ :: post)[i]? := fun i => by rw [← hops]; simp
  refine reads_in hV _ pre 0 _ t a (fun i o h => by
    rw [hget, Nat.zero_add, List.getElem?_append_left (List.getElem?_eq_some_iff.1 h).1]; exact h) hpre e1 e2 hok h fun t' a' e1' e2' hok' hk => ?_
  obtain ⟨l, args, R, hx, hxs, ⟨fn, tmps, assign, body, hrun, hround⟩, hR⟩ := hk
  rw [wpOpsIn_cons]
  unfold wpOpIn
  have ho : ops[pre.length]? = some ⟨d, .call ⟨.value (.tmp x), xs.toArray, ts⟩, ty, pos, af, none⟩ := by rw [hget, List.getElem?_append_right (Nat.le_refl _), Nat.sub_self]; rfl
  simp only [ho]
  rw [if_pos (by unfold Region.wanted; rfl)]
  refine ⟨fun _ _ => trivial, ?_⟩
  rw [Oper.semAt_eq _ _ _ (fun c e => by cases e)]
  have hev : a'.eval (.tmp x) = .func (.yield l) #[] #[] := by rw [ev0 e1' _ (fun _ => none) V, hx]; rfl
  have hargs : xs.toArray.map a'.eval = args.toArray := by
    apply Array.ext'
    simp only [Array.toList_map]
    have h2 : xs.map a'.eval = (xs.map (⟨t', [], fun _ => none, V⟩ : XS).ev).map (SV.conc fun _ => 0) := by
      rw [List.map_map]
      exact List.map_congr_left fun q _ => ev0 e1' q (fun _ => none) V
    rw [h2, hxs, List.map_map]
    have : (SV.conc fun _ => 0) ∘ SV.v = fun x => x := rfl
    rw [this, List.map_id']
  have hcall : (execOp a'.eval ⟨d, .call ⟨.value (.tmp x), xs.toArray, ts⟩, ty, pos, af, none⟩).run P W = .ok (.round l fn tmps assign body) W := by
    simp [execOp, resolve, hev, Deferred.ofValue, invoke, callFunc, hargs, hrun]
  rw [hcall]
  refine ⟨fun h => by simp [Fence.wide] at h, hround.mono fun e W' hre => ?_⟩
  obtain ⟨b, rfl, hV', hpo⟩ := hR e W' hre
  dsimp only
  have hokp : ∀ y ∈ (XS.put ⟨t', [], fun _ => none, V⟩ d (.v (.bool b))).t, y.ok 0 := by
    have := put_ok (s := ⟨t', [], fun _ => none, V⟩) hok' d (x := .v (.bool b)) trivial
    rw [XS.put_bx] at this; exact this
  have et : (XS.put ⟨t', [], fun _ => none, V⟩ d (.v (.bool b))) = ⟨(XS.put ⟨t', [], fun _ => none, V⟩ d (.v (.bool b))).t, [], fun _ => none, V⟩ := by cases d <;> rfl
  rw [et] at hpo
  have := reads_in (Q' := YQ Q) hV' [] post (pre.length + 1) _ _ (a'.put d (.bool b)) (fun i o h => by
    rw [hget, List.getElem?_append_right (by omega), show pre.length + 1 + i - pre.length = i + 1 by omega]; simpa using h) hpost (conc_put (s := ⟨t', [], fun _ => none, V⟩) e1' d (.v (.bool b))) (by cases d <;> exact e2') hokp hpo fun t2 a2 e3 e4 hok2 hk => ⟨t2, e3, e4, hk hok2⟩
  rwa [List.append_nil] at this
theorem YW.yieldAt {id : Nat} {ops : Array Oper} {V : View} (k : Nat) {d : Option Tmp} {x : Tmp} {xs : List Operand} {ts : Array TypeId} {ty pos af} (hk : ops.toList[k]? = some ⟨d, .call ⟨.value (.tmp x), xs.toArray, ts⟩, ty, pos, af, none⟩) (hV : V.sub W) (hok : ∀ x ∈ t, x.ok 0)
    (hpre : ((ops.toList.take k).all fun o => isRead o.op && o.guard.isNone) = true) (hpost : ((ops.toList.drop (k + 1)).all fun o => isRead o.op && o.guard.isNone) = true)
    (h : seqX P ops (ops.toList.take k) (fun s => ∃ (l : Nat) (args : List Value) (R : Ending → World → Prop), s.ev (.tmp x) = .v (.func (.yield l) #[] #[]) ∧ xs.map s.ev = args.map .v ∧ YieldAt Fence.wide 0 P l args.toArray W R ∧
      ∀ e W', R e W' → ∃ b, e = .returned (.bool b) ∧ V.sub W' ∧ seqX P ops (ops.toList.drop (k + 1)) (fun s' => (∀ x ∈ s'.t, x.ok 0) → Q .normal s'.t W') (s.put d (.v (.bool b)))) ⟨t, [], fun _ => none, V⟩) : YW P (.region id ops false) Q t W :=
  YW.yield (pre := ops.toList.take k) (post := ops.toList.drop (k + 1)) (d := d) (x := x) (xs := xs) (ts := ts) (ty := ty) (pos := pos) (af := af) (by
    obtain ⟨hlt, he⟩ := List.getElem?_eq_some_iff.1 hk
    rw [← he, List.getElem_cons_drop, List.take_append_drop]) hV hok hpre hpost h
end
end Go.Proofs.Ythoboehbadmlmaa
end
section
namespace Go.Proofs.Ythoboehbadmlmaa
def Sm (f : Nat → Rat) : Nat → Rat
  | 0 => 0
  | n + 1 => Sm f n + f n
theorem Sm_congr {f g : Nat → Rat} : ∀ (n : Nat), (∀ j, j < n → f j = g j) → Sm f n = Sm g n
  | 0, _ => rfl
  | n + 1, h => by
    have := Sm_congr n (fun j hj => h j (by omega))
    simp only [Sm, this, h n (by omega)]
theorem Sm_zero {f : Nat → Rat} (n : Nat) (h : ∀ j, j < n → f j = 0) : Sm f n = 0 := by
  induction n with
  | zero => rfl
  | succ n ih =>
    simp only [Sm, ih fun j hj => h j (by omega), h n (by omega)]
    grind
theorem Sm_mul (c : Rat) (f : Nat → Rat) (n : Nat) : Sm (fun j => c * f j) n = c * Sm f n := by
  induction n with
  | zero => simp only [Sm]; grind
  | succ n ih => simp only [Sm, ih]; grind
theorem Sm_front (f : Nat → Rat) (n : Nat) : Sm f (n + 1) = f 0 + Sm (fun j => f (j + 1)) n := by
  induction n with
  | zero => simp only [Sm]; grind
  | succ n ih =>
    have e : Sm f (n + 1 + 1) = Sm f (n + 1) + f (n + 1) := rfl
    rw [e, ih]; simp only [Sm]; grind
theorem Sm_one {f : Nat → Rat} {n k : Nat} (hk : k < n) (h : ∀ j, j < n → j ≠ k → f j = 0) : Sm f n = f k := by
  induction n with
  | zero => omega
  | succ n ih =>
    by_cases hn : k = n
    · subst hn
      simp only [Sm, Sm_zero k fun j hj => h j (by omega) (by omega)]; grind
    · simp only [Sm, ih (by omega) fun j hj => h j (by omega), h n (by omega) (by omega)]; grind
/-- the product of two series -/
def cv (f g : Nat → Rat) (n : Nat) : Rat := Sm (fun j => f j * g (n - j)) (n + 1)
def un (i : Nat) : Rat := if i = 0 then 1 else 0
def mon (t : Rat) (k i : Nat) : Rat := if i = k then t else 0
theorem cv_mon (f : Nat → Rat) (t : Rat) (k n : Nat) : cv f (mon t k) n = if k ≤ n then t * f (n - k) else 0 := by
  unfold cv mon
  by_cases h : k ≤ n
  · rw [if_pos h, Sm_one (k := n - k) (by omega) fun j hj hne => by rw [if_neg (by omega)]; grind]
    rw [if_pos (by omega)]; grind
  · rw [if_neg h]
    exact Sm_zero _ fun j hj => by rw [if_neg (by omega)]; grind
theorem cv_un (f : Nat → Rat) : cv f un = f := by
  funext n
  have e : un = mon 1 0 := rfl
  rw [e, cv_mon, if_pos (by omega)]; simp only [Nat.sub_zero]; grind
theorem cv_zero (f : Nat → Rat) : cv f (fun _ => 0) = fun _ => 0 := by
  funext n
  exact Sm_zero _ fun j _ => by grind
end Go.Proofs.Ythoboehbadmlmaa
end
section
namespace Go.Proofs.Ythoboehbadmlmaa
theorem cf_nil : cf [] = fun _ => 0 := by funext i; exact cf_none (by simp)
theorem cf_un : cf [1] = un := by funext i; rw [cf_one]; rfl
def Dv (d p : List Rat) : Prop := ∃ s : List Rat, cf p = cv (cf d) (cf s)
theorem Dv.refl (p : List Rat) : Dv p p := ⟨[1], by rw [cf_un, cv_un]⟩
theorem Dv.nil (p : List Rat) : Dv p [] := ⟨[], by rw [cf_nil, cv_zero]⟩
end Go.Proofs.Ythoboehbadmlmaa
end
section
namespace Go.Proofs.Ythoboehbadmlmaa
theorem mulP_CB {A B : Nat} {p q : List Rat} (hp : CB A p) (hq : CB B q) : CB (p.length * (A + B + 1)) (mulP p q) := mulI_CB hp hq _
end Go.Proofs.Ythoboehbadmlmaa
end
section
namespace Go.Proofs.Ythoboehbadmlmaa
open Go Go.RowKit
set_option linter.unusedSimpArgs false
set_option linter.unusedVariables false
attribute [local irreducible] XWP Spec SpecO XPub XCall seqX clX apX stX ldX iaX slX
theorem CB.fitR {A : Nat} {l : List Rat} (h : CB A l) (hA : A ≤ 17592186044416) : fitR (l.map toRaw) := fitR_toRaw (h.qf hA)
end Go.Proofs.Ythoboehbadmlmaa
end
section
namespace Go.Proofs.Ythoboehbadmlmaa
set_option linter.unusedVariables false
set_option linter.unusedSimpArgs false
end Go.Proofs.Ythoboehbadmlmaa
end
section
namespace Go.Proofs.Ythoboehbadmlmaa
open Go Go.RowKit
set_option linter.unusedSimpArgs false
set_option linter.unusedVariables false
attribute [local irreducible] XWP Spec SpecO XPub XCall seqX clX apX stX ldX iaX slX
end Go.Proofs.Ythoboehbadmlmaa
end
section
namespace Go.Proofs.Ythoboehbadmlmaa
set_option linter.unusedVariables false
set_option linter.unusedSimpArgs false
end Go.Proofs.Ythoboehbadmlmaa
end
section
namespace Go.Proofs.Ythoboehbadmlmaa
open Go Go.RowKit
set_option linter.unusedSimpArgs false
set_option linter.unusedVariables false
attribute [local irreducible] XWP Spec SpecO XPub XCall seqX clX apX stX ldX iaX slX
theorem rowQ_load {H : Heap} {V : View} {b e tot : Nat} {cells : List Value} {xs : List Rat} (hr : H b = some ⟨e, cells, tot⟩) (h : RowAt ratE V cells xs) (i : Nat) (hi : i < xs.length) : ∃ m n d, RatC V (.agg #[m, n, d]) (cf xs i) ∧ (isOne m = true ∧ isOne n = true ∧ isOne d = true) ∧ Loads Try.prog H V 34 b (i * 3) (.agg #[m, n, d]) := by
  obtain ⟨v, h1, ⟨m, n, d, rfl, o1⟩, h2⟩ := RowAt.load hr h i hi
  rw [cf_get hi] at h1
  exact ⟨m, n, d, h1, o1, h2⟩
theorem RowAt.drop {α : Type} {E : View → Value → α → Prop} {V : View} {cells : List Value} {xs : List α} (h : RowAt E V cells xs) (k : Nat) : RowAt E V (cells.drop (k * 3)) (xs.drop k) := by
  refine ⟨by rw [List.length_drop, List.length_drop, h.1]; omega, fun i x hi => ?_⟩
  rw [List.getElem?_drop] at hi
  obtain ⟨m, n, d, g1, g2, g3, r⟩ := h.2 (k + i) x hi
  refine ⟨m, n, d, ?_, ?_, ?_, r⟩
  · show (cells.drop (k * 3))[i * 3]? = _
    rw [List.getElem?_drop, show k * 3 + i * 3 = (k + i) * 3 by omega]; exact g1
  · show (cells.drop (k * 3))[i * 3 + 1]? = _
    rw [List.getElem?_drop, show k * 3 + (i * 3 + 1) = (k + i) * 3 + 1 by omega]; exact g2
  · show (cells.drop (k * 3))[i * 3 + 2]? = _
    rw [List.getElem?_drop, show k * 3 + (i * 3 + 2) = (k + i) * 3 + 2 by omega]; exact g3
end Go.Proofs.Ythoboehbadmlmaa
end
section
namespace Go.Proofs.Ythoboehbadmlmaa
set_option linter.unusedVariables false
set_option linter.unusedSimpArgs false
end Go.Proofs.Ythoboehbadmlmaa
end
section
namespace Go.Proofs.Ythoboehbadmlmaa
open Go Go.RowKit
set_option linter.unusedSimpArgs false
set_option linter.unusedVariables false
attribute [local irreducible] XWP Spec SpecO XPub XCall seqX clX apX stX ldX iaX slX
end Go.Proofs.Ythoboehbadmlmaa
end
section
namespace Go.Proofs.Ythoboehbadmlmaa
set_option linter.unusedVariables false
set_option linter.unusedSimpArgs false
end Go.Proofs.Ythoboehbadmlmaa
end
section
namespace Go.Proofs.Ythoboehbadmlmaa
open Go Go.RowKit
set_option linter.unusedSimpArgs false
set_option linter.unusedVariables false
attribute [local irreducible] XWP Spec SpecO XPub XCall seqX clX apX stX ldX iaX slX
end Go.Proofs.Ythoboehbadmlmaa
end
section
namespace Go.Proofs.Ythoboehbadmlmaa
open Go Go.RowKit
set_option linter.unusedSimpArgs false
set_option linter.unusedVariables false
attribute [local irreducible] XWP Spec SpecO XPub XCall seqX clX apX stX ldX iaX slX
theorem RowAt.append {α : Type} {E : View → Value → α → Prop} {V : View} {c1 c2 : List Value} {l1 l2 : List α} (h1 : RowAt E V c1 l1) (h2 : RowAt E V c2 l2) : RowAt E V (c1 ++ c2) (l1 ++ l2) := by
  have e1 := h1.1
  have e2 := h2.1
  refine ⟨by rw [List.length_append, List.length_append, e1, e2]; omega, fun i x hi => ?_⟩
  by_cases hlt : i < l1.length
  · rw [List.getElem?_append_left hlt] at hi
    obtain ⟨m, n, d, g1, g2, g3, r⟩ := h1.2 i x hi
    refine ⟨m, n, d, ?_, ?_, ?_, r⟩
    · show (c1 ++ c2)[i * 3]? = _
      rw [List.getElem?_append_left (by omega)]; exact g1
    · show (c1 ++ c2)[i * 3 + 1]? = _
      rw [List.getElem?_append_left (by omega)]; exact g2
    · show (c1 ++ c2)[i * 3 + 2]? = _
      rw [List.getElem?_append_left (by omega)]; exact g3
  · rw [List.getElem?_append_right (by omega)] at hi
    obtain ⟨m, n, d, g1, g2, g3, r⟩ := h2.2 (i - l1.length) x hi
    refine ⟨m, n, d, ?_, ?_, ?_, r⟩
    · show (c1 ++ c2)[i * 3]? = _
      rw [List.getElem?_append_right (by omega), show i * 3 - c1.length = (i - l1.length) * 3 by omega]; exact g1
    · show (c1 ++ c2)[i * 3 + 1]? = _
      rw [List.getElem?_append_right (by omega), show i * 3 + 1 - c1.length = (i - l1.length) * 3 + 1 by omega]; exact g2
    · show (c1 ++ c2)[i * 3 + 2]? = _
      rw [List.getElem?_append_right (by omega), show i * 3 + 2 - c1.length = (i - l1.length) * 3 + 2 by omega]; exact g3
end Go.Proofs.Ythoboehbadmlmaa
end
section
namespace Go.Proofs.Ythoboehbadmlmaa
open Go Go.RowKit
set_option linter.unusedSimpArgs false
set_option linter.unusedVariables false
attribute [local irreducible] XWP Spec SpecO XPub XCall seqX clX apX stX ldX iaX slX
theorem fewR_CBn {L : List Raw} {n : Nat} (h : fewR L) (hd : digR L) (hl : L.length ≤ n) (M : Nat) (hM : n * 96 = M) : CB M (qs L) := by
  rw [← hM]; exact fewR_CB' h hd hl
end Go.Proofs.Ythoboehbadmlmaa
end
section
namespace Go.Proofs.Ythoboehbadmlmaa
open Go Go.RowKit
set_option linter.unusedSimpArgs false
set_option linter.unusedVariables false
attribute [local irreducible] XWP Spec SpecO XPub XCall seqX clX apX stX ldX iaX slX
end Go.Proofs.Ythoboehbadmlmaa
end
section
namespace Go.Proofs.Ythoboehbadmlmaa
set_option linter.unusedVariables false
abbrev Grid := Nat → Nat → Rat
def SolG (G : Grid) (R n : Nat) (x : Nat → Rat) : Prop := ∀ i, i < R → Sm (fun j => G i j * x j) n = G i n
def wset (wh : Nat → Int) (k : Nat) (x : Int) : Nat → Int := fun c => if c = k then x else wh c
/-- the numbers that are read off -/
def gx (G : Grid) (wh : Nat → Int) (n c : Nat) : Rat := if 0 ≤ wh c then G (wh c).toNat n else 0
end Go.Proofs.Ythoboehbadmlmaa
end
section
namespace Go.Proofs.Ythoboehbadmlmaa
open Go Go.RowKit
set_option linter.unusedSimpArgs false
set_option linter.unusedVariables false
attribute [local irreducible] XWP Spec SpecO XPub XCall seqX clX apX stX ldX iaX slX
theorem upd_off {H : Heap} {b k : Nat} {r : Option Row} (h : k ≠ b) : upd H b r k = H k := by unfold upd; rw [if_neg h]
def GRow (H : Heap) (V : View) (m : Nat) (f : Nat → Rat) (av : List Nat) (v : Value) : Prop :=
  ∃ b c cs, v = .slice (some ⟨b, 0, none⟩) m c ∧ H b = some ⟨34, cs, c * 3⟩ ∧ RowAt ratE V cs (mk m f) ∧ m ≤ c ∧ c ≤ maxLen ∧ b ∉ av
structure GCells (H : Heap) (V : View) (R m : Nat) (G : Grid) (av : List Nat) (cells : List Value) : Prop where
  len : cells.length = R
  row : ∀ (i : Nat) (v : Value), cells[i]? = some v → GRow H V m (G i) av v
  inj : ∀ (i j b c c' : Nat), cells[i]? = some (Value.slice (some ⟨b, 0, none⟩) m c) → cells[j]? = some (Value.slice (some ⟨b, 0, none⟩) m c') → i = j
def GridAt (H : Heap) (V : View) (v : Value) (R m : Nat) (G : Grid) (av : List Nat) : Prop :=
  ∃ cells, Own H 22 1 v R cells ∧ GCells H V R m G av cells
theorem mk_congr {m : Nat} {f g : Nat → Rat} (h : ∀ j, j < m → f j = g j) : mk m f = mk m g := by
  unfold mk
  exact List.map_congr_left fun j hj => h j (List.mem_range.1 hj)
theorem GRow.congr {H : Heap} {V : View} {m : Nat} {f g : Nat → Rat} {av : List Nat} {v : Value} (h : GRow H V m f av v) (e : ∀ j, j < m → f j = g j) : GRow H V m g av v := by
  obtain ⟨b, c, cs, h1, h2, h3, h4⟩ := h
  rw [mk_congr e] at h3
  exact ⟨b, c, cs, h1, h2, h3, h4⟩
theorem GRow.mono {H : Heap} {V V' : View} {m : Nat} {f : Nat → Rat} {av : List Nat} {v : Value} (h : GRow H V m f av v) (hV : V.le V') : GRow H V' m f av v := by
  obtain ⟨b, c, cs, h1, h2, h3, h4⟩ := h
  exact ⟨b, c, cs, h1, h2, h3.mono ratE_ok hV, h4⟩
theorem GridAt.nil (H : Heap) (V : View) (m : Nat) (G : Grid) (av : List Nat) : GridAt H V (.slice none 0 0) 0 m G av :=
  ⟨[], own_nil, ⟨rfl, fun i v h => by simp at h, fun i j b c c' h => by simp at h⟩⟩
theorem GridAt.mono {H : Heap} {V V' : View} {v : Value} {R m : Nat} {G : Grid} {av : List Nat} (h : GridAt H V v R m G av) (hV : V.le V') : GridAt H V' v R m G av := by
  obtain ⟨cells, h1, h2⟩ := h
  exact ⟨cells, h1, h2.len, fun i v hv => (h2.row i v hv).mono hV, h2.inj⟩
theorem GridAt.congr {H : Heap} {V : View} {v : Value} {R m : Nat} {G G' : Grid} {av : List Nat} (h : GridAt H V v R m G av) (e : ∀ i j, i < R → j < m → G i j = G' i j) : GridAt H V v R m G' av := by
  obtain ⟨cells, h1, h2⟩ := h
  refine ⟨cells, h1, h2.len, fun i v hv => (h2.row i v hv).congr fun j hj => e i j ?_ hj, h2.inj⟩
  rw [← h2.len]
  exact (List.getElem?_eq_some_iff.1 hv).1
/-- what else is written, leaves it -/
theorem GridAt.frame {H H' : Heap} {V : View} {v : Value} {R m : Nat} {G : Grid} {av av' : List Nat} (h : GridAt H V v R m G av)
    (h1 : ∀ k cs tot, H k = some ⟨22, cs, tot⟩ → H' k = H k) (h2 : ∀ k cs tot, k ∉ av → H k = some ⟨34, cs, tot⟩ → H' k = H k ∧ k ∉ av') : GridAt H' V v R m G av' := by
  obtain ⟨cells, ho, hc⟩ := h
  refine ⟨cells, ⟨ho.1, ?_⟩, hc.len, fun i v hv => ?_, hc.inj⟩
  · rcases ho.2 with h | ⟨b, cap, e, hb, h3⟩
    · exact .inl h
    · exact .inr ⟨b, cap, e, by rw [h1 b _ _ hb]; exact hb, h3⟩
  · obtain ⟨b, c, cs, e, hb, h3, h4, h5, h6⟩ := hc.row i v hv
    obtain ⟨a1, a2⟩ := h2 b _ _ h6 hb
    exact ⟨b, c, cs, e, by rw [a1]; exact hb, h3, h4, h5, a2⟩
/-- one row: how to read it, how to write it -/
theorem GridAt.at {H : Heap} {V : View} {v : Value} {R m : Nat} {G : Grid} {av : List Nat} (h : GridAt H V v R m G av) {i : Nat} (hi : i < R) :
    ∃ g cap b c cs, v = .slice (some ⟨g, 0, none⟩) R cap ∧ Loads Try.prog H V 22 g i (.slice (some ⟨b, 0, none⟩) m c) ∧ H b = some ⟨34, cs, c * 3⟩ ∧ RowAt ratE V cs (mk m (G i)) ∧ m ≤ c ∧ c ≤ maxLen ∧ b ∉ av ∧
      ∀ V' cs' f, V.le V' → RowAt ratE V' cs' (mk m f) → GridAt (upd H b (some ⟨34, cs', c * 3⟩)) V' v R m (fun i' => if i' = i then f else G i') av := by
  obtain ⟨cells, ho, hc⟩ := h
  rcases own_parts ho with ⟨_, h0, _⟩ | ⟨g, cap, rfl, hg, hle, hcap, hcl⟩
  · omega
  have hlt : i < cells.length := by rw [hc.len]; exact hi
  obtain ⟨b, c, cs, e, hb, h3, h4, h5, h6⟩ := hc.row i cells[i] (List.getElem?_eq_getElem hlt)
  refine ⟨g, cap, b, c, cs, rfl, ⟨false, 1, shapeT_22, .inr ⟨rfl, .inl ⟨_, hg, by rw [List.getElem?_eq_getElem hlt, e]⟩⟩⟩, hb, h3, h4, h5, h6, fun V' cs' f hV hrow => ?_⟩
  have hgb : g ≠ b := fun e => by subst e; rw [hg] at hb; cases hb
  refine ⟨cells, ⟨ho.1, .inr ⟨g, cap, rfl, by unfold upd; rw [if_neg hgb]; exact hg, hle, hcap⟩⟩, hc.len, fun j w hw => ?_, hc.inj⟩
  by_cases hji : j = i
  · subst hji
    rw [List.getElem?_eq_getElem hlt, e] at hw
    cases hw
    exact ⟨b, c, cs', rfl, upd_at _ _ _, by rw [if_pos rfl]; exact hrow, h4, h5, h6⟩
  · obtain ⟨b', c', cs2, e', hb', g3, g4⟩ := hc.row j w hw
    subst e'
    have hne : b' ≠ b := fun hbb => hji (hc.inj j i b' c' c hw (by rw [List.getElem?_eq_getElem hlt, e, hbb]))
    refine ⟨b', c', cs2, rfl, by unfold upd; rw [if_neg hne]; exact hb', ?_, g4⟩
    try dsimp only
    rw [if_neg hji]; exact g3.mono ratE_ok hV
/-- a new row at the end -/
theorem GridAt.snoc {H H' : Heap} {V : View} {v v' w : Value} {R m : Nat} {G : Grid} {xs cells : List Value} {f : Nat → Rat} (ho : Own H 22 1 v R cells) (hc' : GCells H V R m G w.ownBlock.toList cells) (hm : 0 < m) (hown : Own H 34 3 w m xs) (hrow : RowAt ratE V xs (mk m f))
    (hres : AppRes H V 22 1 v (R + 1) (cells ++ [w]) v' H') : GridAt H' V v' (R + 1) m (fun i => if i = R then f else G i) [] := by
  obtain ⟨ho', hk, hg⟩ := hres
  rcases own_parts hown with ⟨_, h0, _⟩ | ⟨bw, cw, rfl, hbw, hcw, hcw2, _⟩
  · omega
  have hsame : ∀ k cs tot, H k = some ⟨34, cs, tot⟩ → H' k = H k := fun k cs tot hr => by
    refine hk k fun e => ?_
    rcases hg k e with h1 | ⟨h1, _⟩
    · rcases own_parts ho with ⟨rfl, _, _⟩ | ⟨b, cap, rfl, hb, _⟩
      · cases h1
      · have : b = k := by simpa [Value.ownBlock] using h1
        subst this
        rw [hb] at hr; cases hr
    · rw [hr] at h1; cases h1
  have hlast : ∀ i w, (cells ++ [Value.slice (some ⟨bw, 0, none⟩) m cw])[i]? = some w → (i < R ∧ cells[i]? = some w) ∨ (i = R ∧ w = .slice (some ⟨bw, 0, none⟩) m cw) := fun i w hw => by
    by_cases hi : i < cells.length
    · rw [List.getElem?_append_left hi] at hw; exact .inl ⟨by rw [← hc'.len]; exact hi, hw⟩
    · rw [List.getElem?_append_right (by omega)] at hw
      have h2 : i - cells.length < 1 := by
        rcases Nat.lt_or_ge (i - cells.length) 1 with h | h
        · exact h
        · rw [List.getElem?_eq_none (by simpa using h)] at hw; cases hw
      have e0 : i - cells.length = 0 := by omega
      rw [e0] at hw
      have := hc'.len
      exact .inr ⟨by omega, by simpa using hw.symm⟩
  have hav : ∀ i b c, cells[i]? = some (Value.slice (some ⟨b, 0, none⟩) m c) → b ≠ bw := fun i b c hi e => by
    obtain ⟨b', c', cs, e', _, _, _, _, h6⟩ := hc'.row i _ hi
    cases e'
    exact h6 (by rw [e]; simp [Value.ownBlock])
  refine ⟨cells ++ [_], ho', by rw [List.length_append, hc'.len]; rfl, fun i w hw => ?_, fun i j b c c' h1 h2 => ?_⟩
  · rcases hlast i w hw with ⟨hi, h⟩ | ⟨hi, h⟩
    · obtain ⟨b, c, cs, e, hb, h3, h4, h5, h6⟩ := hc'.row i w h
      refine ⟨b, c, cs, e, by rw [hsame b _ _ hb]; exact hb, ?_, h4, h5, by simp⟩
      rw [if_neg (by omega)]; exact h3
    · subst h
      refine ⟨bw, cw, xs, rfl, by rw [hsame bw _ _ hbw]; exact hbw, ?_, hcw, hcw2, by simp⟩
      rw [if_pos hi]; exact hrow
  · rcases hlast i _ h1 with ⟨hi, h⟩ | ⟨hi, h⟩ <;> rcases hlast j _ h2 with ⟨hj, h'⟩ | ⟨hj, h'⟩
    · exact hc'.inj i j b c c' h h'
    · cases h'; exact absurd rfl (hav i _ c h)
    · cases h; exact absurd rfl (hav j _ c' h')
    · omega
theorem GridAt.alloc {H : Heap} {V : View} {v : Value} {R m b : Nat} {r : Option Row} {G : Grid} {av : List Nat} (h : GridAt H V v R m G av) (hb : H b = none) : GridAt (upd H b r) V v R m G av := by
  have key : ∀ k q, H k = some q → upd H b r k = H k := fun k q hk => by
    unfold upd
    split
    · rename_i e; rw [e, hb] at hk; cases hk
    · rfl
  exact h.frame (fun k cs tot hk => key k _ hk) fun k cs tot ha hk => ⟨key k _ hk, ha⟩
theorem GridAt.form {H : Heap} {V : View} {v : Value} {R m : Nat} {G : Grid} {av : List Nat} (h : GridAt H V v R m G av) : ∃ A c, v = .slice A R c := by
  obtain ⟨cells, ho, _⟩ := h
  rcases own_parts ho with ⟨rfl, h0, _⟩ | ⟨b, cap, rfl, _⟩
  · exact ⟨none, 0, by rw [h0]⟩
  · exact ⟨_, _, rfl⟩
theorem mk_set1 {m j : Nat} {f : Nat → Rat} {x : Rat} (hj : j < m) : (mk m f).set j x = mk m (fun c => if c = j then x else f c) := by
  apply List.ext_getElem?
  intro i
  by_cases hi : i < m
  · by_cases e : j = i
    · subst e; rw [List.getElem?_set_self (by rw [mk_len]; exact hj)]; simp [mk, hj]
    · rw [List.getElem?_set_ne e]
      have e' : ¬ i = j := fun h => e h.symm
      simp [mk, hi, e']
  · rw [List.getElem?_eq_none (by rw [List.length_set, mk_len]; omega), List.getElem?_eq_none (by rw [mk_len]; omega)]
/-- the memory of an elimination under way -/
structure KMem (H : Heap) (V : View) (w : Value) (R n go gw : Nat) (G : Grid) (wh : Nat → Int) (k : Nat) : Prop where
  grid : GridAt H V w R (n + 1) G [go]
  wr : ∃ cw tot, H gw = some ⟨3, cw, tot⟩ ∧ cw.length = n ∧ ∀ c, c < k → cw[c]? = some (.int .i64 (wh c))
  out : ∃ co tot, H go = some ⟨34, co, tot⟩ ∧ RowAt (optE ratE) V co (List.replicate n none)
theorem KMem.mono {H : Heap} {V V' : View} {w : Value} {R n go gw : Nat} {G : Grid} {wh : Nat → Int} {k : Nat} (h : KMem H V w R n go gw G wh k) (hV : V.le V') : KMem H V' w R n go gw G wh k := by
  obtain ⟨co, tot, h1, h2⟩ := h.out
  exact ⟨h.grid.mono hV, h.wr, co, tot, h1, h2.mono (optE_ok ratE_ok) hV⟩
theorem KMem.congr {H : Heap} {V : View} {w : Value} {R n go gw : Nat} {G G' : Grid} {wh : Nat → Int} {k : Nat} (h : KMem H V w R n go gw G wh k) (e : ∀ i j, i < R → j < n + 1 → G i j = G' i j) : KMem H V w R n go gw G' wh k := ⟨h.grid.congr e, h.wr, h.out⟩
/-- one place of the grid: how to read it, how to write it -/
theorem KMem.at {H : Heap} {V : View} {w : Value} {R n go gw : Nat} {G : Grid} {wh : Nat → Int} {k : Nat} (h : KMem H V w R n go gw G wh k) {i : Nat} (hi : i < R) :
    ∃ g cap b c cs, w = .slice (some ⟨g, 0, none⟩) R cap ∧ Loads Try.prog H V 22 g i (.slice (some ⟨b, 0, none⟩) (n + 1) c) ∧ H b = some ⟨34, cs, c * 3⟩ ∧ cs.length = (n + 1) * 3 ∧ n + 1 ≤ c ∧
      (∀ j, j < n + 1 → ∃ x y z, RatC V (.agg #[x, y, z]) (G i j) ∧ (isOne x = true ∧ isOne y = true ∧ isOne z = true) ∧ Loads Try.prog H V 34 b (j * 3) (.agg #[x, y, z])) ∧
      ∀ V' j q x y z, j < n + 1 → V.le V' → RatC V' (.agg #[x, y, z]) q → isOne x = true → isOne y = true → isOne z = true → KMem (upd H b (some ⟨34, splice cs (j * 3) [x, y, z], c * 3⟩)) V' w R n go gw (fun i' j' => if i' = i ∧ j' = j then q else G i' j') wh k := by
  obtain ⟨g, cap, b, c, cs, e, h1, h2, h3, h4, h5, h6, h7⟩ := h.grid.at hi
  refine ⟨g, cap, b, c, cs, e, h1, h2, by rw [h3.1, mk_len], h4, fun j hj => ?_, fun V' j q x y z hj hV hx o1 o2 o3 => ?_⟩
  · obtain ⟨x, y, z, a1, a2, a3⟩ := rowQ_load h2 h3 j (by rw [mk_len]; exact hj)
    rw [cf_mk, if_pos hj] at a1
    exact ⟨x, y, z, a1, a2, a3⟩
  · have hr := (h3.mono ratE_ok hV).set j (by rw [mk_len]; exact hj) o1 o2 o3 hx
    rw [mk_set1 hj] at hr
    obtain ⟨cw, tot, w1, w2⟩ := h.wr
    obtain ⟨co, tot', u1, u2⟩ := h.out
    have hgb : gw ≠ b := fun e => by subst e; rw [h2] at w1; cases w1
    have hob : go ≠ b := fun e => h6 (by rw [e]; simp)
    refine ⟨(h7 V' _ _ hV hr).congr fun i' j' _ _ => ?_, ⟨cw, tot, by unfold upd; rw [if_neg hgb]; exact w1, w2⟩, ⟨co, tot', by unfold upd; rw [if_neg hob]; exact u1, u2.mono (optE_ok ratE_ok) hV⟩⟩
    by_cases e1 : i' = i
    · by_cases e2 : j' = j
      · simp [e1, e2]
      · simp [e1, e2]
    · simp [e1]
theorem KMem.where {H : Heap} {V : View} {w : Value} {R n go gw : Nat} {G : Grid} {wh : Nat → Int} {k : Nat} (h : KMem H V w R n go gw G wh k) (hk : k < n) (x : Int) :
    ∃ cw tot, H gw = some ⟨3, cw, tot⟩ ∧ k < cw.length ∧ KMem (upd H gw (some ⟨3, cw.set k (.int .i64 x), tot⟩)) V w R n go gw G (wset wh k x) (k + 1) := by
  obtain ⟨cw, tot, w1, w2, w3⟩ := h.wr
  obtain ⟨co, tot', u1, u2⟩ := h.out
  have hne : ∀ b cs t, H b = some ⟨34, cs, t⟩ → upd H gw (some ⟨3, cw.set k (.int .i64 x), tot⟩) b = H b := fun b cs t hb => by
    unfold upd; split
    · rename_i e; subst e; rw [w1] at hb; cases hb
    · rfl
  have hne2 : ∀ b cs t, H b = some ⟨22, cs, t⟩ → upd H gw (some ⟨3, cw.set k (.int .i64 x), tot⟩) b = H b := fun b cs t hb => by
    unfold upd; split
    · rename_i e; subst e; rw [w1] at hb; cases hb
    · rfl
  refine ⟨cw, tot, w1, by omega, h.grid.frame hne2 fun b cs t ha hb => ⟨hne b cs t hb, ha⟩, ⟨_, tot, upd_at _ _ _, by rw [List.length_set]; exact w2, fun c hc => ?_⟩, ⟨co, tot', by rw [hne _ _ _ u1]; exact u1, u2⟩⟩
  unfold wset
  by_cases e : k = c
  · subst e; rw [List.getElem?_set_self (by omega), if_pos rfl]
  · rw [List.getElem?_set_ne e, if_neg (Ne.symm e)]; exact w3 c (by omega)
theorem KMem.again {H : Heap} {V : View} {w : Value} {R n go gw : Nat} {G : Grid} {wh : Nat → Int} {k : Nat} {y : Int} (h : KMem H V w R n go gw G (wset wh k y) (k + 1)) (hk : k < n) (x : Int) :
    ∃ cw tot, H gw = some ⟨3, cw, tot⟩ ∧ k < cw.length ∧ KMem (upd H gw (some ⟨3, cw.set k (.int .i64 x), tot⟩)) V w R n go gw G (wset wh k x) (k + 1) := by
  obtain ⟨cw, tot, w1, w2, w3⟩ := h.wr
  have h0 : KMem H V w R n go gw G wh k := ⟨h.grid, ⟨cw, tot, w1, w2, fun c hc => by
    have := w3 c (by omega)
    unfold wset at this
    rw [if_neg (by omega)] at this; exact this⟩, h.out⟩
  exact h0.where hk x
theorem SolG.congr {G : Grid} {R n : Nat} {x y : Nat → Rat} (h : SolG G R n x) (e : ∀ j, j < n → x j = y j) : SolG G R n y := fun i hi => by
  rw [← h i hi]
  exact Sm_congr _ fun j hj => by rw [e j hj]
end Go.Proofs.Ythoboehbadmlmaa
end
section
namespace Go.Proofs.Ythoboehbadmlmaa
open Go Go.RowKit
set_option linter.unusedSimpArgs false
set_option linter.unusedVariables false
attribute [local irreducible] XWP Spec SpecO XPub XCall seqX clX apX stX ldX iaX slX
attribute [local irreducible] YW
def TIs (F : (Nat → SV) → List SV) (t : List SV) : Prop := F (nth t) = t
theorem TIs.out {F : (Nat → SV) → List SV} {t : List SV} (h : TIs F t) : ∃ u, t = F u := ⟨nth t, h.symm⟩
theorem backward_c (V : View) (v : Value) (h1 : isOne v = true) : Spec Try.prog 118 [v] V fun v' V' => ∃ Bs e, v' = .func (.func 136) #[] #[.pointer (some ⟨Bs, 0, none⟩)] ∧ V' Bs = some (.cells #[v] e (0, 0)) := by
  have hc : v.cells.toList = [v] := by cases v <;> first | rfl | cases h1
  refine (Spec.enter Try.func118 rfl fun Γ => ?_)
  simp only [Try.ntmps118, List.map_cons, List.map_nil, List.length_cons, List.length_nil, Nat.reduceAdd, Nat.reduceSub, List.replicate_succ, List.replicate_zero, List.cons_append, List.nil_append]
  first | refine XWP.reg (by kernel_rfl) fun K hK => ?_ | refine XWP.seq (XWP.reg (by kernel_rfl) fun K hK => ?_) | refine XWP.reg1 (by kernel_rfl) fun K hK => ?_
  simp only [XA, XB, gateX, Nat.reduceAdd, Nat.reduceLeDiff, Nat.reduceSub, Nat.reduceMul, ↓reduceIte, Int.reduceToNat, Int.reduceLE, beq_self_eq_true, bxS, hc]
  refine hK _ ?_
  refine XWP.row1 (bx := []) fun b e hb1 hb2 => ?_
  simp only [List.map_cons, List.map_nil, rowS_v, rowS_p, List.length_nil, List.length_cons, Nat.reduceAdd, Nat.reduceEqDiff, ↓reduceIte]
  first | refine XWP.reg (by kernel_rfl) fun K hK => ?_ | refine XWP.seq (XWP.reg (by kernel_rfl) fun K hK => ?_) | refine XWP.reg1 (by kernel_rfl) fun K hK => ?_
  refine mkf_go [.pointer (some ⟨b, 0, none⟩)] rfl ?_
  simp only [XA, XB, gateX, Nat.reduceAdd, Nat.reduceLeDiff, Nat.reduceSub, Nat.reduceMul, ↓reduceIte, Int.reduceToNat, Int.reduceLE, beq_self_eq_true]
  refine hK _ (XWP.ret ?_)
  try simp only [thenX_ret, inBlockX_ret]
  have hbb : upd (fun _ => none) b (some ⟨e, [v], 1⟩) b = some ⟨e, [v], 1⟩ := upd_at _ _ _
  refine ret_pub b _ hbb fun o ho hle' => ret_go _ rfl ⟨b, e, rfl, ?_⟩
  obtain ⟨ex, rfl, hl⟩ := ho
  have : ex = [] := List.length_eq_zero_iff.1 (by simpa using hl)
  subst this
  simp [addV]
/-- the values that lie in a slice -/
theorem SlAt.vals {α : Type} {E : View → Value → α → Prop} {V : View} {b o n c : Nat} {xs : List α} (h : SlAt E V (.slice (some ⟨b, o, none⟩) n c) xs) : ∃ f : Nat → Value, ∀ i (hi : i < xs.length), E V (f i) xs[i] ∧ (∃ m n d, f i = .agg #[m, n, d] ∧ isOne m = true ∧ isOne n = true ∧ isOne d = true) ∧ ∀ H, Loads Try.prog H V 34 b (o + i * 3) (f i) := by
  refine ⟨fun i => if hi : i < xs.length then (SlAt.load h i hi).choose else undef, fun i hi => ?_⟩
  simp only [dif_pos hi]
  exact (SlAt.load h i hi).choose_spec
def bwL (n : Nat) (f : Nat → Value) : List (Array Value) := (List.range n).map fun r => #[.int .i64 ((n - 1 - r : Nat) : Int), f (n - 1 - r)]
theorem bwL_get {n : Nat} {f : Nat → Value} {r : Nat} (h : r < n) : (bwL n f)[r]? = some #[.int .i64 ((n - 1 - r : Nat) : Int), f (n - 1 - r)] := by simp [bwL, h]
theorem bwL_len (n : Nat) (f : Nat → Value) : (bwL n f).length = n := by simp [bwL]
set_option maxRecDepth 100000 in
theorem backward_it {V : View} {Bs n c e : Nat} {A : Option Addr} {f : Nat → Value} (hB : V Bs = some (.cells #[.slice A n c] e (0, 0))) (hn : n ≤ 1000000) (hf : n = 0 ∨ ∃ b o, A = some ⟨b, o, none⟩ ∧ ∀ i, i < n → Loads Try.prog (fun _ => none) V 34 b (o + i * 3) (f i)) :
    IterX Try.prog 136 #[.pointer (some ⟨Bs, 0, none⟩)] V (bwL n f) := by
  intro l J Jx W hJ0 hJV hJX hY
  refine callsIn_of_wp Try.func136 rfl trivial ?_
  have hld : Loads Try.prog (fun _ => none) V 36 Bs 0 (.slice A n c) := ⟨false, 1, shapeT_36, .inr ⟨rfl, .inr ⟨_, _, _, hB, rfl⟩⟩⟩
  rw [bwL_len]
  simp only [Try.ntmps136, List.size_toArray, List.length_cons, List.length_nil, Nat.reduceAdd, Nat.reduceSub, Array.replicate_succ, Array.replicate_zero, List.push_toArray, List.append_toArray, List.nil_append, List.cons_append]
  refine wpIn_mono (Q := YQ fun e t W' => (e = .normal ∨ e = .ret) ∧ (J n W' ∨ Jx W')) (YW.apply (t := [.v (.func (.yield l) #[] #[]), .v (.pointer (some ⟨Bs, 0, none⟩)), .v undef, .v undef, .v undef, .v undef, .v undef, .v undef, .v undef, .v undef, .v undef, .v undef, .v undef, .v undef, .v undef, .v undef, .v undef, .v undef, .v undef]) ?_ rfl rfl) ?_
  rotate_left
  · rintro e a W' ⟨t, e1, e2, hq, hr⟩
    rcases hq with rfl | rfl
    · exact ⟨e2, _, results_none rfl _ _ _, ⟨_, rfl⟩, hr⟩
    · exact ⟨e2, _, results_none rfl _ _ _, ⟨_, rfl⟩, hr⟩
  have hV := hJV 0 W hJ0
  refine YW.seq (YW.reads hV (by intro x hx; simp only [List.mem_cons, List.not_mem_nil, or_false] at hx; rcases hx with h | h | h | h | h | h | h | h | h | h | h | h | h | h | h | h | h | h | h <;> subst h <;> trivial) (by kernel_rfl) ?_)
  simp only [XA, XB, gateX, Nat.reduceAdd, Nat.reduceLeDiff, Nat.reduceSub, Nat.reduceMul, ↓reduceIte, Int.reduceToNat, Int.reduceLE, beq_self_eq_true]
  refine ld_mem hld ?_
  have w0 : IntKind.i64.wrap ((n : Int) - 1) = (n : Int) - 1 := wrap_id (by omega) (by omega)
  simp only [XA, XB, gateX, Nat.reduceAdd, Nat.reduceLeDiff, Nat.reduceSub, Nat.reduceMul, ↓reduceIte, Int.reduceToNat, Int.reduceLE, beq_self_eq_true, w0]
  intro hok
  refine YW.block (YW.loop (fun m t W' => ∃ (r : Nat) (zi : Int), m + r = n ∧ zi = (n : Int) - 1 - (r : Int) ∧ J r W' ∧ TIs (fun τ => [.v (.func (.yield l) #[] #[]), .v (.pointer (some ⟨Bs, 0, none⟩)), τ 2, .v (.int .i64 zi), τ 4, τ 5, τ 6, τ 7, τ 8, τ 9, τ 10, τ 11, τ 12, τ 13, τ 14, τ 15, τ 16, τ 17, τ 18]) t ∧ ∀ x ∈ t, x.ok 0) n ⟨0, (n : Int) - 1, by omega, by omega, hJ0, by exact rfl, hok⟩ ?_)
  clear hok
  rintro m t W' ⟨r, zi, hm, hz, hJ, ht, hok⟩
  obtain ⟨u, rfl⟩ := ht.out
  clear ht
  try dsimp only at hok ⊢
  have hV := hJV r W' hJ
  by_cases hr : r < n
  rotate_left
  · have b1 : decide (0 ≤ zi) = false := decide_eq_false (by omega)
    refine YW.seq (YW.seq (YW.reads hV hok (by kernel_rfl) ?_))
    simp only [XA, XB, gateX, Nat.reduceAdd, Nat.reduceLeDiff, Nat.reduceSub, Nat.reduceMul, ↓reduceIte, Int.reduceToNat, Int.reduceLE, beq_self_eq_true, b1]
    intro hok2
    refine YW.cond (V := V) (b := false) rfl (fun h => by cases h) (fun _ => YW.exit ?_)
    have : r = n := by omega
    subst this
    exact ⟨.inl rfl, .inl hJ⟩
  have b1 : decide (0 ≤ zi) = true := decide_eq_true (by omega)
  obtain ⟨i, rfl, hi⟩ : ∃ i : Nat, zi = i ∧ n - 1 - r = i := ⟨n - 1 - r, by omega, rfl⟩
  rcases hf with h0 | ⟨b, o, rfl, hf⟩
  · omega
  refine YW.seq (YW.seq (YW.reads hV hok (by kernel_rfl) ?_))
  simp only [XA, XB, gateX, Nat.reduceAdd, Nat.reduceLeDiff, Nat.reduceSub, Nat.reduceMul, ↓reduceIte, Int.reduceToNat, Int.reduceLE, beq_self_eq_true, b1]
  intro hok2
  refine YW.cond (V := V) (b := true) rfl (fun _ => YW.skip ?_) (fun h => by cases h)
  refine YW.seq (YW.block (YW.seq (YW.yieldAt 6 (by rfl) hV hok2 (by kernel_rfl) (by kernel_rfl) ?_)))
  simp only [XA, XB, gateX, Nat.reduceAdd, Nat.reduceLeDiff, Nat.reduceSub, Nat.reduceMul, ↓reduceIte, Int.reduceToNat, Int.reduceLE, beq_self_eq_true]
  refine ld_mem hld ?_
  simp only [XA, XB, gateX, Nat.reduceAdd, Nat.reduceLeDiff, Nat.reduceSub, Nat.reduceMul, ↓reduceIte, Int.reduceToNat, Int.reduceLE, beq_self_eq_true]
  refine ⟨by omega, by omega, ld_mem (hf i (by omega)) ?_⟩
  simp only [XA, XB, gateX, Nat.reduceAdd, Nat.reduceLeDiff, Nat.reduceSub, Nat.reduceMul, ↓reduceIte, Int.reduceToNat, Int.reduceLE, beq_self_eq_true]
  obtain ⟨fn, tmps, asn, bd, hy1, hy2⟩ := hY r W' _ (bwL_get hr) hJ
  rw [hi] at hy1
  refine ⟨l, [.int .i64 (i : Int), f i], _, rfl, rfl, ⟨fn, tmps, asn, bd, hy1, hy2⟩, ?_⟩
  rintro e W3 (⟨rfl, hJ3⟩ | ⟨rfl, hJ3⟩)
  · have hV3 := hJV _ W3 hJ3
    refine ⟨true, rfl, hV3, ?_⟩
    simp only [XA, XB, gateX, Nat.reduceAdd, Nat.reduceLeDiff, Nat.reduceSub, Nat.reduceMul, ↓reduceIte, Int.reduceToNat, Int.reduceLE, beq_self_eq_true]
    intro hok3
    refine YW.cond (V := V) (b := false) rfl (fun h => by cases h) (fun _ => YW.skip ?_)
    refine YW.reads hV3 hok3 (by kernel_rfl) ?_
    have w1 : IntKind.i64.wrap ((i : Int) - 1) = (i : Int) - 1 := wrap_id (by omega) (by omega)
    simp only [XA, XB, gateX, Nat.reduceAdd, Nat.reduceLeDiff, Nat.reduceSub, Nat.reduceMul, ↓reduceIte, Int.reduceToNat, Int.reduceLE, beq_self_eq_true, w1]
    intro hok4
    exact ⟨m - 1, by omega, r + 1, (i : Int) - 1, by omega, by omega, hJ3, by exact rfl, hok4⟩
  · refine ⟨false, rfl, ?_, ?_⟩
    · exact hJX W3 hJ3
    simp only [XA, XB, gateX, Nat.reduceAdd, Nat.reduceLeDiff, Nat.reduceSub, Nat.reduceMul, ↓reduceIte, Int.reduceToNat, Int.reduceLE, beq_self_eq_true]
    intro hok3
    refine YW.cond (V := V) (b := true) rfl (fun _ => YW.ret ?_) (fun h => by cases h)
    exact ⟨.inr rfl, .inr hJ3⟩
theorem loads_row {H : Heap} {V : View} {b e t : Nat} {m n d : Value} (h : H b = some ⟨e, [m, n, d], t⟩) : Loads Try.prog H V 34 b 0 (.agg #[m, n, d]) :=
  ⟨true, 3, shapeT_34, .inl ⟨rfl, [m, n, d], rfl, fun j u hj => .inl ⟨_, h, by rw [Nat.zero_add]; exact hj⟩, rfl⟩⟩
theorem splice3 (a b c d e f : Value) : splice [a, b, c] 0 [d, e, f] = [d, e, f] := by simp [splice]
/-- the program's way: from the highest power down -/
def hor (l : List Rat) (x : Rat) : Nat → Rat
  | 0 => 0
  | r + 1 => hor l x r * x + cf l (l.length - 1 - r)
theorem hor_QB {l : List Rat} {x : Rat} {A B : Nat} (hl : CB A l) (hx : QB B x) (r : Nat) : QB (r * (A + B + 1)) (hor l x r) := by
  induction r with
  | zero => exact QB_zero _
  | succ r ih => exact ((ih.mul hx).add (hl.at _)).mono (by rw [Nat.add_mul]; omega)
theorem eval_c (V : View) (v u : Value) (l : List Rat) (x : Rat) (A B : Nat) (hv : Rats V v l) (hu : RatC V u x) (hA : CB A l) (hB : QB B x) (ll : l.length ≤ 1000) (hfit : (l.length + 1) * (A + B + 1) ≤ 17592186044416) :
    Spec Try.prog 80 [v, u] V fun v' V' => RatC V' v' (hor l x l.length) := by
  obtain ⟨A1, c1, rfl, hc1, hm1⟩ := hv.form
  obtain ⟨ux, uy, rfl, o1, o2⟩ := hu.form
  have hqr : ∀ r, r ≤ l.length → QB ((l.length) * (A + B + 1)) (hor l x r) := fun r hr => (hor_QB hA hB r).mono (Nat.mul_le_mul_right _ hr)
  have hf1 : l.length * (A + B + 1) + A + B + 1 ≤ 17592186044416 := by rw [Nat.add_mul] at hfit; omega
  refine (Spec.enterR Try.func80 rfl fun Γ hΓ => ?_)
  simp only [Try.ntmps80, List.map_cons, List.map_nil, List.length_cons, List.length_nil, Nat.reduceAdd, Nat.reduceSub, List.replicate_succ, List.replicate_zero, List.cons_append, List.nil_append]
  first | refine XWP.reg (by kernel_rfl) fun K hK => ?_ | refine XWP.seq (XWP.reg (by kernel_rfl) fun K hK => ?_) | refine XWP.reg1 (by kernel_rfl) fun K hK => ?_
  simp only [XA, XB, gateX, Nat.reduceAdd, Nat.reduceLeDiff, Nat.reduceSub, Nat.reduceMul, ↓reduceIte, Int.reduceToNat, Int.reduceLE, beq_self_eq_true]
  refine hK _ ?_
  first | refine XWP.reg (by kernel_rfl) fun K hK => ?_ | refine XWP.seq (XWP.reg (by kernel_rfl) fun K hK => ?_) | refine XWP.reg1 (by kernel_rfl) fun K hK => ?_
  simp only [XA, XB, gateX, Nat.reduceAdd, Nat.reduceLeDiff, Nat.reduceSub, Nat.reduceMul, ↓reduceIte, Int.reduceToNat, Int.reduceLE, beq_self_eq_true]
  refine call_go (by kernel_rfl) rfl (qzero_c _) fun v1 V1 hV1 h1 => ?_
  obtain ⟨zx, zy, rfl, o3, o4⟩ := h1.form
  simp only [XA, XB, gateX, Nat.reduceAdd, Nat.reduceLeDiff, Nat.reduceSub, Nat.reduceMul, ↓reduceIte, Int.reduceToNat, Int.reduceLE, beq_self_eq_true]
  refine st_rat rfl rfl rfl o3 o4 ?_
  simp only [XA, XB, gateX, Nat.reduceAdd, Nat.reduceLeDiff, Nat.reduceSub, Nat.reduceMul, ↓reduceIte, Int.reduceToNat, Int.reduceLE, beq_self_eq_true]
  refine hK _ ?_
  refine XWP.cut (fun s => ∃ (V5 : View) (H5 : Heap) (b4 b5 e4 e5 : Nat) (m a b : Value), StIs (fun τ => [τ 0, τ 1, τ 2, τ 3, .v (.pointer (some ⟨b4, 0, none⟩)), .v (.pointer (some ⟨b5, 0, none⟩)), τ 6, τ 7, τ 8, τ 9, τ 10, τ 11, τ 12, τ 13, τ 14, τ 15, τ 16, τ 17, τ 18]) [] H5 V5 s ∧ H5 b4 = some ⟨e4, [.bool false, .slice none 0 0, .slice none 0 0], 3⟩ ∧ H5 b5 = some ⟨e5, [m, a, b], 3⟩ ∧ RatC V5 (.agg #[m, a, b]) (hor l x l.length) ∧ isOne m = true ∧ isOne a = true ∧ isOne b = true) ?_ ?_
  · first | refine XWP.reg (by kernel_rfl) fun K hK => ?_ | refine XWP.seq (XWP.reg (by kernel_rfl) fun K hK => ?_) | refine XWP.reg1 (by kernel_rfl) fun K hK => ?_
    simp only [XA, XB, gateX, Nat.reduceAdd, Nat.reduceLeDiff, Nat.reduceSub, Nat.reduceMul, ↓reduceIte, Int.reduceToNat, Int.reduceLE, beq_self_eq_true]
    refine call_go (by kernel_rfl) rfl (backward_c _ _ rfl) fun v2 V2 hV2 h2 => ?_
    obtain ⟨Bs, eB, rfl, hBs⟩ := h2
    simp only [XA, XB, gateX, Nat.reduceAdd, Nat.reduceLeDiff, Nat.reduceSub, Nat.reduceMul, ↓reduceIte, Int.reduceToNat, Int.reduceLE, beq_self_eq_true]
    refine hK _ ?_
    have hv2 := (hv.up hV1).up hV2
    have hu2 := (hu.mono hV1).mono hV2
    have h12 := h1.mono hV2
    refine XWP.row1 (bx := [_, _]) fun b5 e5 hb5 _ => ?_
    simp only [List.map_cons, List.map_nil, rowS_v, rowS_p, List.length_nil, List.length_cons, Nat.reduceAdd, Nat.reduceEqDiff, ↓reduceIte]
    refine XWP.row1 (bx := [_]) fun b4 e4 hb4 _ => ?_
    simp only [List.map_cons, List.map_nil, rowS_v, rowS_p, List.length_nil, List.length_cons, Nat.reduceAdd, Nat.reduceEqDiff, ↓reduceIte]
    refine XWP.row1 (bx := []) fun b3 e3 hb3 _ => ?_
    simp only [List.map_cons, List.map_nil, rowS_v, rowS_p, List.length_nil, List.length_cons, Nat.reduceAdd, Nat.reduceEqDiff, ↓reduceIte]
    have n45 : b4 ≠ b5 := fun h => by subst h; simp [upd] at hb4
    have n34 : b3 ≠ b4 := fun h => by subst h; simp [upd] at hb3
    have n35 : b3 ≠ b5 := fun h => by subst h; simp [upd, n34] at hb3
    obtain ⟨f, hf, hfv⟩ : ∃ f : Nat → Value, (l.length = 0 ∨ ∃ b o, A1 = some ⟨b, o, none⟩ ∧ ∀ i, i < l.length → Loads Try.prog (fun _ => none) V2 34 b (o + i * 3) (f i)) ∧ ∀ i, i < l.length → RatC V2 (f i) (cf l i) ∧ ∃ m n d, f i = .agg #[m, n, d] ∧ isOne m = true ∧ isOne n = true ∧ isOne d = true := by
      rcases Nat.eq_zero_or_pos l.length with h0 | h0
      · exact ⟨fun _ => undef, .inl h0, fun i hi => by omega⟩
      · obtain ⟨b, o, rfl⟩ := SlAt.addr hv2 h0
        obtain ⟨f, hf⟩ := SlAt.vals hv2
        refine ⟨f, .inr ⟨b, o, rfl, fun i hi => (hf i hi).2.2 _⟩, fun i hi => ⟨?_, (hf i hi).2.1⟩⟩
        have := (hf i hi).1
        rw [cf_get hi] at this
        exact this
    refine XWP.block (XWP.range hΓ (L := bwL l.length f) (I := fun r H' V' => V2.le V' ∧ H' b3 = some ⟨e3, [.bool (ng x), ux, uy], 3⟩ ∧ H' b4 = some ⟨e4, [.bool false, .slice none 0 0, .slice none 0 0], 3⟩ ∧ ∃ m a b, H' b5 = some ⟨e5, [m, a, b], 3⟩ ∧ RatC V' (.agg #[m, a, b]) (hor l x r) ∧ isOne m = true ∧ isOne a = true ∧ isOne b = true) (Ix := fun _ _ => False) rfl (by kernel_rfl) (fun args ha => ?_) (backward_it hBs (by omega) hf) ?_ (fun r H' V' h => h.1) (fun _ _ h => h.elim) ?_ ?_ (fun _ _ h => h.elim))
    · obtain ⟨r, _, rfl⟩ := List.mem_map.1 ha
      rfl
    · refine ⟨View.le_refl _, upd_at _ _ _, ?_, _, _, _, ?_, h12, rfl, o3, o4⟩
      · rw [upd_off (Ne.symm n34), upd_at]
      · rw [upd_off (Ne.symm n35), upd_off (Ne.symm n45), upd_at]
    · rintro Γ' r args H' V' hL ⟨hV', i3, i4, m, a, b, i5, hx5, q1, q2, q3⟩
      have hr : r < l.length := by
        have := (List.getElem?_eq_some_iff.1 hL).1
        rwa [bwL_len] at this
      rw [bwL_get hr] at hL
      cases hL
      obtain ⟨hfi, m6, n6, d6, e6, p1, p2, p3⟩ := hfv (l.length - 1 - r) (by omega)
      rw [e6] at hfi ⊢
      simp only [XA, XB, gateX, Nat.reduceAdd, Nat.reduceLeDiff, Nat.reduceSub, Nat.reduceMul, ↓reduceIte, Int.reduceToNat, Int.reduceLE, beq_self_eq_true, setPs]
      first | refine XWP.reg (by kernel_rfl) fun K hK => ?_ | refine XWP.seq (XWP.reg (by kernel_rfl) fun K hK => ?_) | refine XWP.reg1 (by kernel_rfl) fun K hK => ?_
      simp only [XA, XB, gateX, Nat.reduceAdd, Nat.reduceLeDiff, Nat.reduceSub, Nat.reduceMul, ↓reduceIte, Int.reduceToNat, Int.reduceLE, beq_self_eq_true]
      refine st_rat rfl rfl p1 p2 p3 ?_
      simp only [XA, XB, gateX, Nat.reduceAdd, Nat.reduceLeDiff, Nat.reduceSub, Nat.reduceMul, ↓reduceIte, Int.reduceToNat, Int.reduceLE, beq_self_eq_true]
      refine hK _ ?_
      intro Γ''
      first | refine XWP.block ?_ | refine XWP.seq (XWP.block ?_)
      (first | refine XWP.drw [0, 1, 3, 2, 4, 5] (by kernel_rfl) (by kernel_rfl) (by kernel_rfl) fun K hK => ?_ | refine XWP.seq (XWP.drw [0, 1, 3, 2, 4, 5] (by kernel_rfl) (by kernel_rfl) (by kernel_rfl) fun K hK => ?_) | refine XWP.drw1 [0, 1, 3, 2, 4, 5] (by kernel_rfl) (by kernel_rfl) (by kernel_rfl) fun K hK => ?_) <;> dsimp only [pickOps, List.getElem?_cons_zero, List.getElem?_cons_succ]
      simp only [XA, XB, gateX, Nat.reduceAdd, Nat.reduceLeDiff, Nat.reduceSub, Nat.reduceMul, ↓reduceIte, Int.reduceToNat, Int.reduceLE, beq_self_eq_true]
      refine ld_mem (loads_row i5) ?_
      simp only [XA, XB, gateX, Nat.reduceAdd, Nat.reduceLeDiff, Nat.reduceSub, Nat.reduceMul, ↓reduceIte, Int.reduceToNat, Int.reduceLE, beq_self_eq_true]
      refine ld_mem (loads_row i3) ?_
      simp only [XA, XB, gateX, Nat.reduceAdd, Nat.reduceLeDiff, Nat.reduceSub, Nat.reduceMul, ↓reduceIte, Int.reduceToNat, Int.reduceLE, beq_self_eq_true]
      refine call_go (by kernel_rfl) rfl (qmul_c _ _ _ _ _ hx5 (hu2.mono hV') ((hqr r (by omega)).qf (by omega)) (hB.qf (by omega))) fun v7 V7 hV7 h7 => ?_
      simp only [XA, XB, gateX, Nat.reduceAdd, Nat.reduceLeDiff, Nat.reduceSub, Nat.reduceMul, ↓reduceIte, Int.reduceToNat, Int.reduceLE, beq_self_eq_true]
      refine call_go (by kernel_rfl) rfl (qadd_c _ _ _ _ _ h7 ((hfi.mono hV').mono hV7) (((hqr r (by omega)).mul hB).qf (by omega)) ((hA.at _).qf (by omega))) fun v8 V8 hV8 h8 => ?_
      obtain ⟨x8, y8, rfl, o5, o6⟩ := h8.form
      simp only [XA, XB, gateX, Nat.reduceAdd, Nat.reduceLeDiff, Nat.reduceSub, Nat.reduceMul, ↓reduceIte, Int.reduceToNat, Int.reduceLE, beq_self_eq_true]
      refine st_rowA shapeT_34 (all3 rfl o5 o6) rfl i5 (by simp) ?_
      simp only [XA, XB, gateX, Nat.reduceAdd, Nat.reduceLeDiff, Nat.reduceSub, Nat.reduceMul, ↓reduceIte, Int.reduceToNat, Int.reduceLE, beq_self_eq_true, splice3]
      exact hK _ ⟨View.le_trans hV' (View.le_trans hV7 hV8), (upd_off n35).trans i3, (upd_off n45).trans i4, _, _, _, upd_at _ _ _, h8, rfl, o5, o6⟩
    · rintro H' V' ⟨hV', i3, i4, m, a, b, i5, hx5, q1, q2, q3⟩
      rw [bwL_len] at hx5
      exact ⟨V', H', b4, b5, e4, e5, m, a, b, StIs.of (by exact rfl), i4, i5, hx5, q1, q2, q3⟩
  rintro s ⟨V5, H5, b4, b5, e4, e5, m, a, b, hs, i4, i5, hx5, q1, q2, q3⟩
  obtain ⟨z, rfl⟩ := hs.out
  try dsimp only
  clear hs
  first | refine XWP.reg (by kernel_rfl) fun K hK => ?_ | refine XWP.seq (XWP.reg (by kernel_rfl) fun K hK => ?_) | refine XWP.reg1 (by kernel_rfl) fun K hK => ?_
  simp only [XA, XB, gateX, Nat.reduceAdd, Nat.reduceLeDiff, Nat.reduceSub, Nat.reduceMul, ↓reduceIte, Int.reduceToNat, Int.reduceLE, beq_self_eq_true]
  refine ld_mem (loads_row i5) ?_
  simp only [XA, XB, gateX, Nat.reduceAdd, Nat.reduceLeDiff, Nat.reduceSub, Nat.reduceMul, ↓reduceIte, Int.reduceToNat, Int.reduceLE, beq_self_eq_true]
  refine st_rowA shapeT_34 (all3 q1 q2 q3) rfl i4 (by simp) ?_
  simp only [XA, XB, gateX, Nat.reduceAdd, Nat.reduceLeDiff, Nat.reduceSub, Nat.reduceMul, ↓reduceIte, Int.reduceToNat, Int.reduceLE, beq_self_eq_true, splice3]
  refine hK _ (XWP.ret ?_)
  try simp only [thenX_ret, inBlockX_ret]
  refine ret_go [.agg #[m, a, b]] ?_ hx5
  simp [resAll, resV, cellsV, upd_at, shapeT_34]
end Go.Proofs.Ythoboehbadmlmaa
end
