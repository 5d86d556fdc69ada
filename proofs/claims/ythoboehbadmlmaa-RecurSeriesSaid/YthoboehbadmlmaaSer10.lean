/- The law RecurSeries answers true at every input (part 10 of 12) -/
import Derived.OrdersHeld
import Derived.Below
import Derived.Tactics
import Derived.KernelRfl
import Derived.Laws.AppendOwn
import Derived.Laws.MakeOwn
import Derived.Laws.CopyRow
import Derived.Laws.Cells
import Derived.Laws.World
import Derived.Laws.Alloc2
import Derived.Laws.NewBlocks
import Derived.Maps.AppendAt
import Derived.Test.YthoboehbadmlmaaProg
import Init.Data.List.Lemmas
import Init.Omega
import Derived.Test.YthoboehbadmlmaaSer9
section
namespace Go.Proofs.Ythoboehbadmlmaa
open Go Go.RowKit
set_option linter.unusedSimpArgs false
set_option linter.unusedVariables false
attribute [local irreducible] XWP Spec SpecO XPub XCall seqX clX apX stX ldX iaX slX
theorem upd_pub2 (b c : Nat) (r r' : Option Row) : upd (upd (upd (upd (fun _ => none) b r) c r') b none) c none = fun _ => none := by
  funext k; unfold upd; split
  · rfl
  · split
    · rfl
    · rfl
theorem crec_c (V : View) (v : Value) (L : List Raw) (hv : Raws V v L) (f : fitR L) (ll : L.length ≤ 400) (hfit : okR L = true → ∀ i, i < L.length → BMFit (qs L) (bmI (qs L) i) i) (hql : okR L = true → ∀ x ∈ qs L, QF x) (hqe : okR L = true → ∀ i, QF (cf (bmI (qs L) L.length).q i)) :
    Spec Try.prog 13 [v] V fun v' V' => (okR L = false → v' = .tuple #[.slice none 0 0, .int .i64 1]) ∧ (okR L = true → L.length < 2 * (bmI (qs L) L.length).size → v' = .tuple #[.slice none 0 0, .int .i64 3]) ∧ (okR L = true → 2 * (bmI (qs L) L.length).size ≤ L.length → ∃ w, v' = .tuple #[w, .int .i64 0] ∧ Rats V' w (bmOut (bmI (qs L) L.length))) := by
  obtain ⟨A1, c1, rfl, hc1, hm1⟩ := hv.form
  refine (Spec.enter Try.func13 rfl fun Γ => ?_)
  simp only [Try.ntmps13, List.map_cons, List.map_nil, List.length_cons, List.length_nil, Nat.reduceAdd, Nat.reduceSub, List.replicate_succ, List.replicate_zero, List.cons_append, List.nil_append]
  first | refine XWP.reg (by kernel_rfl) fun K hK => ?_ | refine XWP.seq (XWP.reg (by kernel_rfl) fun K hK => ?_) | refine XWP.reg1 (by kernel_rfl) fun K hK => ?_
  simp only [XA, XB, gateX, Nat.reduceAdd, Nat.reduceLeDiff, Nat.reduceSub, Nat.reduceMul, ↓reduceIte, Int.reduceToNat, Int.reduceLE, beq_self_eq_true]
  refine hK _ ?_
  refine XWP.seq ?_
  first | refine XWP.reg (by kernel_rfl) fun K hK => ?_ | refine XWP.seq (XWP.reg (by kernel_rfl) fun K hK => ?_) | refine XWP.reg1 (by kernel_rfl) fun K hK => ?_
  simp only [XA, XB, gateX, Nat.reduceAdd, Nat.reduceLeDiff, Nat.reduceSub, Nat.reduceMul, ↓reduceIte, Int.reduceToNat, Int.reduceLE, beq_self_eq_true]
  refine call_go (by kernel_rfl) rfl (fine_c _ _ _ hv f (by omega)) fun v1 V1 hV1 h1 => ?_
  subst h1
  cases hk : okR L
  · simp only [XA, XB, gateX, Nat.reduceAdd, Nat.reduceLeDiff, Nat.reduceSub, Nat.reduceMul, ↓reduceIte, Int.reduceToNat, Int.reduceLE, beq_self_eq_true]
    refine hK _ ?_
    first | refine XWP.cond (t := true) rfl (fun _ => ?_) (fun h => by cases h) | refine XWP.seq (XWP.cond (t := true) rfl (fun _ => ?_) (fun h => by cases h))
    first | refine XWP.reg (by kernel_rfl) fun K hK => ?_ | refine XWP.seq (XWP.reg (by kernel_rfl) fun K hK => ?_) | refine XWP.reg1 (by kernel_rfl) fun K hK => ?_
    simp only [XA, XB, gateX, Nat.reduceAdd, Nat.reduceLeDiff, Nat.reduceSub, Nat.reduceMul, ↓reduceIte, Int.reduceToNat, Int.reduceLE, beq_self_eq_true]
    refine hK _ (XWP.ret ?_)
    try simp only [thenX_ret, inBlockX_ret]
    refine ret_go _ rfl ?_
    exact ⟨fun _ => rfl, fun h => (by rw [hk] at h; cases h), fun h => by rw [hk] at h; cases h⟩
  simp only [XA, XB, gateX, Nat.reduceAdd, Nat.reduceLeDiff, Nat.reduceSub, Nat.reduceMul, ↓reduceIte, Int.reduceToNat, Int.reduceLE, beq_self_eq_true]
  refine hK _ ?_
  first | refine XWP.cond (t := false) rfl (fun h => by cases h) (fun _ => ?_) | refine XWP.seq (XWP.cond (t := false) rfl (fun h => by cases h) (fun _ => ?_))
  refine XWP.skip ?_
  refine XWP.seq ?_
  have b1 : decide ((400 : Int) < (L.length : Int)) = false := decide_eq_false (by omega)
  first | refine XWP.reg (by kernel_rfl) fun K hK => ?_ | refine XWP.seq (XWP.reg (by kernel_rfl) fun K hK => ?_) | refine XWP.reg1 (by kernel_rfl) fun K hK => ?_
  simp only [XA, XB, gateX, Nat.reduceAdd, Nat.reduceLeDiff, Nat.reduceSub, Nat.reduceMul, ↓reduceIte, Int.reduceToNat, Int.reduceLE, beq_self_eq_true, b1]
  refine hK _ ?_
  first | refine XWP.cond (t := false) rfl (fun h => by cases h) (fun _ => ?_) | refine XWP.seq (XWP.cond (t := false) rfl (fun h => by cases h) (fun _ => ?_))
  refine XWP.skip ?_
  have hr := (Raws.rats hv hk).up hV1
  have hfit := hfit hk
  have hql := hql hk
  have hqe := hqe hk
  have hlen : (qs L).length = L.length := qs_len L
  generalize hqs : qs L = l at *
  generalize hN : L.length = N at *
  first | refine XWP.reg (by kernel_rfl) fun K hK => ?_ | refine XWP.seq (XWP.reg (by kernel_rfl) fun K hK => ?_) | refine XWP.reg1 (by kernel_rfl) fun K hK => ?_
  simp only [XA, XB, gateX, Nat.reduceAdd, Nat.reduceLeDiff, Nat.reduceSub, Nat.reduceMul, ↓reduceIte, Int.reduceToNat, Int.reduceLE, beq_self_eq_true]
  refine call_go (by kernel_rfl) rfl (qone_c _) fun v2 V2 hV2 h2 => ?_
  obtain ⟨x2, y2, rfl, o1, o2⟩ := h2.form
  simp only [XA, XB, gateX, Nat.reduceAdd, Nat.reduceLeDiff, Nat.reduceSub, Nat.reduceMul, ↓reduceIte, Int.reduceToNat, Int.reduceLE, beq_self_eq_true]
  refine bs_go (by kernel_rfl) #[(0, .agg #[.bool (ng 1), x2, y2])] (by simp [ev_tmp, SV.val]) (bs_rat elemT_36) fun b3 hb3 hb4 => ?_
  simp only [XA, XB, gateX, Nat.reduceAdd, Nat.reduceLeDiff, Nat.reduceSub, Nat.reduceMul, ↓reduceIte, Int.reduceToNat, Int.reduceLE, beq_self_eq_true]
  refine call_go (by kernel_rfl) rfl (qone_c _) fun v3 V3 hV3 h3 => ?_
  obtain ⟨x3, y3, rfl, o3, o4⟩ := h3.form
  simp only [XA, XB, gateX, Nat.reduceAdd, Nat.reduceLeDiff, Nat.reduceSub, Nat.reduceMul, ↓reduceIte, Int.reduceToNat, Int.reduceLE, beq_self_eq_true]
  refine bs_go (by kernel_rfl) #[(0, .agg #[.bool (ng 1), x3, y3])] (by simp [ev_tmp, SV.val]) (bs_rat elemT_36) fun b4 hb5 hb6 => ?_
  have hne : b4 ≠ b3 := fun e => by subst e; simp [upd] at hb5
  simp only [XA, XB, gateX, Nat.reduceAdd, Nat.reduceLeDiff, Nat.reduceSub, Nat.reduceMul, ↓reduceIte, Int.reduceToNat, Int.reduceLE, beq_self_eq_true]
  refine hK _ ?_
  first | refine XWP.reg (by kernel_rfl) fun K hK => ?_ | refine XWP.seq (XWP.reg (by kernel_rfl) fun K hK => ?_) | refine XWP.reg1 (by kernel_rfl) fun K hK => ?_
  simp only [XA, XB, gateX, Nat.reduceAdd, Nat.reduceLeDiff, Nat.reduceSub, Nat.reduceMul, ↓reduceIte, Int.reduceToNat, Int.reduceLE, beq_self_eq_true]
  refine call_pub b3 ⟨34, [.bool (ng 1), x2, y2], 3⟩ (by simp [upd, hne.symm]) (fun ob hob hle3 => ?_) (by kernel_rfl) rfl
  refine call_pub b4 ⟨34, [.bool (ng 1), x3, y3], 3⟩ (by simp [upd, hne]) (fun oc hoc hle4 => ?_) (by kernel_rfl) rfl
  have hq0 : Rats _ _ [1] := Rats.up ((RowAt.snoc (RowAt.nil (E := ratE) V3) (x := 1) (show isOne (.bool (ng 1)) = true from rfl) o1 o2 (h2.mono hV3)).pub ratE_ok hob hle3 (n := 1) (c := 1) rfl (Nat.le_refl _) (by omega)) hle4
  have hl0 : Rats _ _ [1] := (RowAt.snoc (RowAt.nil (E := ratE) _) (x := 1) (show isOne (.bool (ng 1)) = true from rfl) o3 o4 (h3.mono hle3)).pub ratE_ok hoc hle4 (n := 1) (c := 1) rfl (Nat.le_refl _) (by omega)
  refine call_go (by kernel_rfl) rfl (qone_c _) fun v4 V4 hV4 h4 => ?_
  obtain ⟨x4, y4, rfl, o5, o6⟩ := h4.form
  have hr := (((hr.up hV2).up hV3).up hle3).up hle4
  have hr := hr.up hV4
  simp only [XA, XB, gateX, Nat.reduceAdd, Nat.reduceLeDiff, Nat.reduceSub, Nat.reduceMul, ↓reduceIte, Int.reduceToNat, Int.reduceLE, beq_self_eq_true, upd_pub2]
  refine st_rat rfl rfl rfl o5 o6 ?_
  simp only [XA, XB, gateX, Nat.reduceAdd, Nat.reduceLeDiff, Nat.reduceSub, Nat.reduceMul, ↓reduceIte, Int.reduceToNat, Int.reduceLE, beq_self_eq_true]
  refine hK _ ?_
  clear hK
  have hq0 := hq0.up hV4
  have hl0 := hl0.up hV4
  have hV4t := View.le_trans hV1 (View.le_trans hV2 (View.le_trans hV3 (View.le_trans hle3 (View.le_trans hle4 hV4))))
  refine XWP.cutD 1 (fun s => ∃ (V5 : View) (wq : Value) (m x y : Value), StIs (fun τ => [.v (.slice A1 N c1), τ 1, τ 2, τ 3, .v wq, τ 5, .v (.int .i64 ((bmI l N).size : Int)), τ 7, .p 0 0, τ 9, τ 10, τ 11, τ 12, τ 13, τ 14, τ 15, τ 16, τ 17, τ 18, τ 19, τ 20, τ 21, τ 22, τ 23, τ 24, τ 25, τ 26, τ 27, τ 28, τ 29, τ 30, τ 31, τ 32, τ 33, τ 34, τ 35, τ 36, τ 37, τ 38, τ 39, τ 40, τ 41, τ 42, τ 43, τ 44, τ 45, τ 46, τ 47, τ 48, τ 49, τ 50, τ 51, τ 52, τ 53, τ 54, τ 55, τ 56, τ 57, τ 58, τ 59, τ 60, τ 61, τ 62, τ 63, τ 64, τ 65, τ 66, τ 67, τ 68, τ 69, τ 70, τ 71, τ 72, τ 73, τ 74, τ 75, τ 76, τ 77, τ 78, τ 79, τ 80, τ 81, τ 82, τ 83, τ 84, τ 85]) [[m, x, y]] (fun _ => none) V5 s ∧ Rats V5 wq (bmI l N).q) ?_ ?_
  · first | refine XWP.reg (by kernel_rfl) fun K hK => ?_ | refine XWP.seq (XWP.reg (by kernel_rfl) fun K hK => ?_) | refine XWP.reg1 (by kernel_rfl) fun K hK => ?_
    simp only [XA, XB, gateX, Nat.reduceAdd, Nat.reduceLeDiff, Nat.reduceSub, Nat.reduceMul, ↓reduceIte, Int.reduceToNat, Int.reduceLE, beq_self_eq_true]
    refine hK _ ?_
    clear hK
    first | refine XWP.block ?_ | refine XWP.seq (XWP.block ?_)
    refine XWP.loopD 1 (fun n s => ∃ (i : Nat) (V5 : View) (wq wl : Value) (m x y : Value), StIs (fun τ => [.v (.slice A1 N c1), τ 1, τ 2, τ 3, .v wq, .v wl, .v (.int .i64 ((bmI l i).size : Int)), .v (.int .i64 ((bmI l i).ago : Int)), .p 0 0, τ 9, τ 10, τ 11, τ 12, τ 13, τ 14, τ 15, τ 16, τ 17, τ 18, τ 19, τ 20, τ 21, τ 22, τ 23, τ 24, τ 25, τ 26, τ 27, .v (.int .i64 (N : Int)), .v (.int .i64 (i : Int)), τ 30, τ 31, τ 32, τ 33, τ 34, τ 35, τ 36, τ 37, τ 38, τ 39, τ 40, τ 41, τ 42, τ 43, τ 44, τ 45, τ 46, τ 47, τ 48, τ 49, τ 50, τ 51, τ 52, τ 53, τ 54, τ 55, τ 56, τ 57, τ 58, τ 59, τ 60, τ 61, τ 62, τ 63, τ 64, τ 65, τ 66, τ 67, τ 68, τ 69, τ 70, τ 71, τ 72, τ 73, τ 74, τ 75, τ 76, τ 77, τ 78, τ 79, τ 80, τ 81, τ 82, τ 83, τ 84, τ 85]) [[m, x, y]] (fun _ => none) V5 s ∧ n + i = N ∧ Rats V5 (.slice A1 N c1) l ∧ Rats V5 wq (bmI l i).q ∧ Rats V5 wl (bmI l i).last ∧ RatC V5 (.agg #[m, x, y]) (bmI l i).was ∧ isOne m = true ∧ isOne x = true ∧ isOne y = true) N ⟨0, _, _, _, _, x4, y4, StIs.of (by exact rfl), rfl, hr, hq0, hl0, h4, rfl, o5, o6⟩ ?_
    clear hr hq0 hl0 h4 o5 o6
    rintro n s ⟨i, V5, wq, wl, m, x, y, hs, hn, hr, hwq, hwl, hwas, om, ox, oy⟩
    obtain ⟨z, rfl⟩ := hs.out
    try dsimp only
    obtain ⟨g1, g2, g3, g4⟩ := bm_len l i
    by_cases hi : i < N
    · have b2 : decide ((i : Int) < (N : Int)) = true := decide_eq_true (by omega)
      first | refine XWP.reg (by kernel_rfl) fun K hK => ?_ | refine XWP.seq (XWP.reg (by kernel_rfl) fun K hK => ?_) | refine XWP.reg1 (by kernel_rfl) fun K hK => ?_
      simp only [XA, XB, gateX, Nat.reduceAdd, Nat.reduceLeDiff, Nat.reduceSub, Nat.reduceMul, ↓reduceIte, Int.reduceToNat, Int.reduceLE, beq_self_eq_true, b2]
      refine hK _ ?_
      first | refine XWP.cond (t := true) rfl (fun _ => ?_) (fun h => by cases h) | refine XWP.seq (XWP.cond (t := true) rfl (fun _ => ?_) (fun h => by cases h))
      refine XWP.skip ?_
      have hF := hfit i hi
      refine XWP.seq ?_
      first | refine XWP.block ?_ | refine XWP.seq (XWP.block ?_)
      first | refine XWP.reg (by kernel_rfl) fun K hK => ?_ | refine XWP.seq (XWP.reg (by kernel_rfl) fun K hK => ?_) | refine XWP.reg1 (by kernel_rfl) fun K hK => ?_
      simp only [XA, XB, gateX, Nat.reduceAdd, Nat.reduceLeDiff, Nat.reduceSub, Nat.reduceMul, ↓reduceIte, Int.reduceToNat, Int.reduceLE, beq_self_eq_true]
      refine hK _ ?_
      first | refine XWP.reg (by kernel_rfl) fun K hK => ?_ | refine XWP.seq (XWP.reg (by kernel_rfl) fun K hK => ?_) | refine XWP.reg1 (by kernel_rfl) fun K hK => ?_
      simp only [XA, XB, gateX, Nat.reduceAdd, Nat.reduceLeDiff, Nat.reduceSub, Nat.reduceMul, ↓reduceIte, Int.reduceToNat, Int.reduceLE, beq_self_eq_true]
      refine call_go (by kernel_rfl) rfl (off_c _ _ _ l (bmI l i).q i hr hwq (by omega) (by omega) (by omega) hql hF.hq hF.sum) fun v6 V6 hV6 h6 => ?_
      obtain ⟨x6, y6, rfl, o7, o8⟩ := h6.form
      simp only [XA, XB, gateX, Nat.reduceAdd, Nat.reduceLeDiff, Nat.reduceSub, Nat.reduceMul, ↓reduceIte, Int.reduceToNat, Int.reduceLE, beq_self_eq_true]
      refine st_rat rfl rfl rfl o7 o8 ?_
      simp only [XA, XB, gateX, Nat.reduceAdd, Nat.reduceLeDiff, Nat.reduceSub, Nat.reduceMul, ↓reduceIte, Int.reduceToNat, Int.reduceLE, beq_self_eq_true]
      refine hK _ ?_
      refine XWP.seq ?_
      first | refine XWP.reg (by kernel_rfl) fun K hK => ?_ | refine XWP.seq (XWP.reg (by kernel_rfl) fun K hK => ?_) | refine XWP.reg1 (by kernel_rfl) fun K hK => ?_
      simp only [XA, XB, gateX, Nat.reduceAdd, Nat.reduceLeDiff, Nat.reduceSub, Nat.reduceMul, ↓reduceIte, Int.reduceToNat, Int.reduceLE, beq_self_eq_true]
      refine call_go (by kernel_rfl) rfl (czero_c _ _ _ h6) fun v7 V7 hV7 h7 => ?_
      subst h7
      by_cases hz : off l (bmI l i).q i = 0
      · have b3 : decide (off l (bmI l i).q i = 0) = true := decide_eq_true hz
        have es : bmI l (i + 1) = { bmI l i with ago := (bmI l i).ago + 1 } := by rw [bmI]; unfold bmStep; rw [if_pos hz]
        simp only [XA, XB, gateX, Nat.reduceAdd, Nat.reduceLeDiff, Nat.reduceSub, Nat.reduceMul, ↓reduceIte, Int.reduceToNat, Int.reduceLE, beq_self_eq_true, b3]
        refine hK _ ?_
        first | refine XWP.cond (t := true) rfl (fun _ => ?_) (fun h => by cases h) | refine XWP.seq (XWP.cond (t := true) rfl (fun _ => ?_) (fun h => by cases h))
        first | refine XWP.reg (by kernel_rfl) fun K hK => ?_ | refine XWP.seq (XWP.reg (by kernel_rfl) fun K hK => ?_) | refine XWP.reg1 (by kernel_rfl) fun K hK => ?_
        simp only [XA, XB, gateX, Nat.reduceAdd, Nat.reduceLeDiff, Nat.reduceSub, Nat.reduceMul, ↓reduceIte, Int.reduceToNat, Int.reduceLE, beq_self_eq_true, i64_succ (bmI l i).ago (by omega)]
        refine hK _ ?_
        refine XWP.exit ?_
        show XWP _ _ _ _ _
        first | refine XWP.reg (by kernel_rfl) fun K hK => ?_ | refine XWP.seq (XWP.reg (by kernel_rfl) fun K hK => ?_) | refine XWP.reg1 (by kernel_rfl) fun K hK => ?_
        simp only [XA, XB, gateX, Nat.reduceAdd, Nat.reduceLeDiff, Nat.reduceSub, Nat.reduceMul, ↓reduceIte, Int.reduceToNat, Int.reduceLE, beq_self_eq_true, i64_succ i (by omega)]
        have hV67 := View.le_trans hV6 hV7
        refine hK _ ⟨n - 1, by omega, fun f => ⟨i + 1, V7, wq, wl, m, x, y, ?_, by omega, hr.up hV67, by rw [es]; exact hwq.up hV67, by rw [es]; exact hwl.up hV67, by rw [es]; exact hwas.mono hV67, om, ox, oy⟩⟩
        rw [es]
        exact StIs.of (by exact rfl)
      · have b3 : decide (off l (bmI l i).q i = 0) = false := decide_eq_false hz
        simp only [XA, XB, gateX, Nat.reduceAdd, Nat.reduceLeDiff, Nat.reduceSub, Nat.reduceMul, ↓reduceIte, Int.reduceToNat, Int.reduceLE, beq_self_eq_true, b3]
        refine hK _ ?_
        first | refine XWP.cond (t := false) rfl (fun h => by cases h) (fun _ => ?_) | refine XWP.seq (XWP.cond (t := false) rfl (fun h => by cases h) (fun _ => ?_))
        refine XWP.skip ?_
        first | refine XWP.reg (by kernel_rfl) fun K hK => ?_ | refine XWP.seq (XWP.reg (by kernel_rfl) fun K hK => ?_) | refine XWP.reg1 (by kernel_rfl) fun K hK => ?_
        simp only [XA, XB, gateX, Nat.reduceAdd, Nat.reduceLeDiff, Nat.reduceSub, Nat.reduceMul, ↓reduceIte, Int.reduceToNat, Int.reduceLE, beq_self_eq_true]
        have hV67 := View.le_trans hV6 hV7
        refine call_go (by kernel_rfl) rfl (qdiv_c _ _ _ _ _ (h6.mono hV7) (hwas.mono hV67) hF.d hF.was) fun v8 V8 hV8 h8 => ?_
        obtain ⟨r8, rfl, h8'⟩ := h8.2 g4
        obtain ⟨x8, y8, rfl, o9, o10⟩ := h8'.form
        simp only [XA, XB, gateX, Nat.reduceAdd, Nat.reduceLeDiff, Nat.reduceSub, Nat.reduceMul, ↓reduceIte, Int.reduceToNat, Int.reduceLE, beq_self_eq_true]
        refine st_rat rfl rfl rfl o9 o10 ?_
        simp only [XA, XB, gateX, Nat.reduceAdd, Nat.reduceLeDiff, Nat.reduceSub, Nat.reduceMul, ↓reduceIte, Int.reduceToNat, Int.reduceLE, beq_self_eq_true]
        refine hK _ ?_
        first | refine XWP.reg (by kernel_rfl) fun K hK => ?_ | refine XWP.seq (XWP.reg (by kernel_rfl) fun K hK => ?_) | refine XWP.reg1 (by kernel_rfl) fun K hK => ?_
        simp only [XA, XB, gateX, Nat.reduceAdd, Nat.reduceLeDiff, Nat.reduceSub, Nat.reduceMul, ↓reduceIte, Int.reduceToNat, Int.reduceLE, beq_self_eq_true]
        refine call_go (by kernel_rfl) rfl (qneg_c _ _ _ h8' hF.by_) fun v9 V9 hV9 h9 => ?_
        simp only [XA, XB, gateX, Nat.reduceAdd, Nat.reduceLeDiff, Nat.reduceSub, Nat.reduceMul, ↓reduceIte, Int.reduceToNat, Int.reduceLE, beq_self_eq_true]
        have hV69 := View.le_trans hV67 (View.le_trans hV8 hV9)
        obtain ⟨A, B, C, a1, a2, a3, a4⟩ := hF.add
        refine call_go (by kernel_rfl) rfl (cadd_c _ _ _ _ (bmI l i).q (bmI l i).last _ (bmI l i).ago A B C (hwq.up hV69) (hwl.up hV69) h9 a1 a2 a3.neg a4 (by omega) (by omega)) fun v10 V10 hV10 h10 => ?_
        have hV610 := View.le_trans hV69 hV10
        simp only [XA, XB, gateX, Nat.reduceAdd, Nat.reduceLeDiff, Nat.reduceSub, Nat.reduceMul, ↓reduceIte, Int.reduceToNat, Int.reduceLE, beq_self_eq_true]
        refine hK _ ?_
        clear hK
        have hnx : pAdd (bmI l i).q (bmI l i).last (-(off l (bmI l i).q i / (bmI l i).was)) (bmI l i).ago = bmNext l (bmI l i) i := rfl
        rw [hnx] at h10
        refine XWP.cutD 1 (fun s => ∃ (V11 : View) (wl' : Value) (m' x' y' : Value) (ag : Nat), StIs (fun τ => [.v (.slice A1 N c1), τ 1, τ 2, τ 3, τ 4, .v wl', .v (.int .i64 ((bmI l (i + 1)).size : Int)), .v (.int .i64 (ag : Int)), .p 0 0, τ 9, τ 10, τ 11, τ 12, .v v10, τ 14, τ 15, τ 16, τ 17, τ 18, τ 19, τ 20, τ 21, τ 22, τ 23, τ 24, τ 25, τ 26, τ 27, .v (.int .i64 (N : Int)), .v (.int .i64 (i : Int)), τ 30, τ 31, τ 32, τ 33, τ 34, τ 35, τ 36, τ 37, τ 38, τ 39, τ 40, τ 41, τ 42, τ 43, τ 44, τ 45, τ 46, τ 47, τ 48, τ 49, τ 50, τ 51, τ 52, τ 53, τ 54, τ 55, τ 56, τ 57, τ 58, τ 59, τ 60, τ 61, τ 62, τ 63, τ 64, τ 65, τ 66, τ 67, τ 68, τ 69, τ 70, τ 71, τ 72, τ 73, τ 74, τ 75, τ 76, τ 77, τ 78, τ 79, τ 80, τ 81, τ 82, τ 83, τ 84, τ 85]) [[m', x', y']] (fun _ => none) V11 s ∧ V10.le V11 ∧ (bmI l (i + 1)).q = bmNext l (bmI l i) i ∧ (bmI l (i + 1)).ago = ag + 1 ∧ Rats V11 wl' (bmI l (i + 1)).last ∧ RatC V11 (.agg #[m', x', y']) (bmI l (i + 1)).was ∧ isOne m' = true ∧ isOne x' = true ∧ isOne y' = true) ?_ ?_
        · first | refine XWP.reg (by kernel_rfl) fun K hK => ?_ | refine XWP.seq (XWP.reg (by kernel_rfl) fun K hK => ?_) | refine XWP.reg1 (by kernel_rfl) fun K hK => ?_
          have w1 : IntKind.i64.wrap (2 * ((bmI l i).size : Int)) = ((2 * (bmI l i).size : Nat) : Int) := by rw [wrap_id (by omega) (by omega)]; omega
          by_cases hs2 : 2 * (bmI l i).size ≤ i
          · have b4 : decide (((2 * (bmI l i).size : Nat) : Int) ≤ (i : Int)) = true := decide_eq_true (by omega)
            have es : bmI l (i + 1) = ⟨bmNext l (bmI l i) i, (bmI l i).q, i + 1 - (bmI l i).size, 1, off l (bmI l i).q i⟩ := by rw [bmI]; unfold bmStep; rw [if_neg hz, if_pos hs2]
            have w2 := i64_succ i (by omega)
            have w3 := i64_sub (i + 1) (bmI l i).size (by omega) (by omega)
            simp only [XA, XB, gateX, Nat.reduceAdd, Nat.reduceLeDiff, Nat.reduceSub, Nat.reduceMul, ↓reduceIte, Int.reduceToNat, Int.reduceLE, beq_self_eq_true, w1, b4]
            refine hK _ ?_
            first | refine XWP.cond (t := true) rfl (fun _ => ?_) (fun h => by cases h) | refine XWP.seq (XWP.cond (t := true) rfl (fun _ => ?_) (fun h => by cases h))
            (first | refine XWP.drw [0, 1, 2, 3, 4, 5, 6, 7, 8, 9] (by kernel_rfl) (by kernel_rfl) (by kernel_rfl) fun K hK => ?_ | refine XWP.seq (XWP.drw [0, 1, 2, 3, 4, 5, 6, 7, 8, 9] (by kernel_rfl) (by kernel_rfl) (by kernel_rfl) fun K hK => ?_) | refine XWP.drw1 [0, 1, 2, 3, 4, 5, 6, 7, 8, 9] (by kernel_rfl) (by kernel_rfl) (by kernel_rfl) fun K hK => ?_) <;> dsimp only [pickOps, List.getElem?_cons_zero, List.getElem?_cons_succ]
            simp only [XA, XB, gateX, Nat.reduceAdd, Nat.reduceLeDiff, Nat.reduceSub, Nat.reduceMul, ↓reduceIte, Int.reduceToNat, Int.reduceLE, beq_self_eq_true, w2, w3]
            refine st_rat rfl rfl rfl o7 o8 ?_
            simp only [XA, XB, gateX, Nat.reduceAdd, Nat.reduceLeDiff, Nat.reduceSub, Nat.reduceMul, ↓reduceIte, Int.reduceToNat, Int.reduceLE, beq_self_eq_true]
            refine hK _ fun f => ⟨V10, wq, _, x6, y6, 0, ?_, View.le_refl _, by rw [es], by rw [es], by rw [es]; exact hwq.up hV610, by rw [es]; exact h6.mono (View.le_trans hV7 (View.le_trans hV8 (View.le_trans hV9 hV10))), rfl, o7, o8⟩
            rw [es]
            exact StIs.of (by exact rfl)
          · have b4 : decide (((2 * (bmI l i).size : Nat) : Int) ≤ (i : Int)) = false := decide_eq_false (by omega)
            have es : bmI l (i + 1) = ⟨bmNext l (bmI l i) i, (bmI l i).last, (bmI l i).size, (bmI l i).ago + 1, (bmI l i).was⟩ := by rw [bmI]; unfold bmStep; rw [if_neg hz, if_neg hs2]
            simp only [XA, XB, gateX, Nat.reduceAdd, Nat.reduceLeDiff, Nat.reduceSub, Nat.reduceMul, ↓reduceIte, Int.reduceToNat, Int.reduceLE, beq_self_eq_true, w1, b4]
            refine hK _ ?_
            first | refine XWP.cond (t := false) rfl (fun h => by cases h) (fun _ => ?_) | refine XWP.seq (XWP.cond (t := false) rfl (fun h => by cases h) (fun _ => ?_))
            refine XWP.skip ?_
            refine fun f => ⟨V10, wl, m, x, y, (bmI l i).ago, ?_, View.le_refl _, by rw [es], by rw [es], by rw [es]; exact hwl.up hV610, by rw [es]; exact hwas.mono hV610, om, ox, oy⟩
            rw [es]
            exact StIs.of (by exact rfl)
        rintro s ⟨V11, wl', m', x', y', ag, hs, hV11, e1, e2, hwl', hwas', om', ox', oy'⟩
        obtain ⟨z, rfl⟩ := hs.out
        try dsimp only
        have g5 := (bm_len l (i + 1)).2.1
        first | refine XWP.reg (by kernel_rfl) fun K hK => ?_ | refine XWP.seq (XWP.reg (by kernel_rfl) fun K hK => ?_) | refine XWP.reg1 (by kernel_rfl) fun K hK => ?_
        simp only [XA, XB, gateX, Nat.reduceAdd, Nat.reduceLeDiff, Nat.reduceSub, Nat.reduceMul, ↓reduceIte, Int.reduceToNat, Int.reduceLE, beq_self_eq_true]
        refine hK _ ?_
        first | refine XWP.reg (by kernel_rfl) fun K hK => ?_ | refine XWP.seq (XWP.reg (by kernel_rfl) fun K hK => ?_) | refine XWP.reg1 (by kernel_rfl) fun K hK => ?_
        simp only [XA, XB, gateX, Nat.reduceAdd, Nat.reduceLeDiff, Nat.reduceSub, Nat.reduceMul, ↓reduceIte, Int.reduceToNat, Int.reduceLE, beq_self_eq_true, i64_succ ag (by omega)]
        refine hK _ ?_
        first | refine XWP.reg (by kernel_rfl) fun K hK => ?_ | refine XWP.seq (XWP.reg (by kernel_rfl) fun K hK => ?_) | refine XWP.reg1 (by kernel_rfl) fun K hK => ?_
        simp only [XA, XB, gateX, Nat.reduceAdd, Nat.reduceLeDiff, Nat.reduceSub, Nat.reduceMul, ↓reduceIte, Int.reduceToNat, Int.reduceLE, beq_self_eq_true, i64_succ i (by omega)]
        refine hK _ ⟨n - 1, by omega, fun f => ⟨i + 1, V11, v10, wl', m', x', y', ?_, by omega, hr.up (View.le_trans hV610 hV11), by rw [e1]; exact h10.up hV11, hwl', hwas', om', ox', oy'⟩⟩
        rw [e2]
        exact StIs.of (by exact rfl)
    · have b2 : decide ((i : Int) < (N : Int)) = false := decide_eq_false (by omega)
      obtain rfl : i = N := by omega
      first | refine XWP.reg (by kernel_rfl) fun K hK => ?_ | refine XWP.seq (XWP.reg (by kernel_rfl) fun K hK => ?_) | refine XWP.reg1 (by kernel_rfl) fun K hK => ?_
      simp only [XA, XB, gateX, Nat.reduceAdd, Nat.reduceLeDiff, Nat.reduceSub, Nat.reduceMul, ↓reduceIte, Int.reduceToNat, Int.reduceLE, beq_self_eq_true, b2]
      refine hK _ ?_
      first | refine XWP.cond (t := false) rfl (fun h => by cases h) (fun _ => ?_) | refine XWP.seq (XWP.cond (t := false) rfl (fun h => by cases h) (fun _ => ?_))
      refine XWP.exit ?_
      exact fun f => ⟨V5, wq, m, x, y, StIs.of (by exact rfl), hwq⟩
  clear hr hq0 hl0 h4 o5 o6
  rintro s ⟨V5, wq, m, x, y, hs, hwq⟩
  obtain ⟨z, rfl⟩ := hs.out
  try dsimp only
  obtain ⟨g1, g2, g3, g4⟩ := bm_len l N
  generalize bmI l N = bm at *
  have w1 : IntKind.i64.wrap (2 * (bm.size : Int)) = ((2 * bm.size : Nat) : Int) := by rw [wrap_id (by omega) (by omega)]; omega
  refine XWP.seq ?_
  by_cases hs2 : N < 2 * bm.size
  · have b4 : decide ((N : Int) < ((2 * bm.size : Nat) : Int)) = true := decide_eq_true (by omega)
    first | refine XWP.reg (by kernel_rfl) fun K hK => ?_ | refine XWP.seq (XWP.reg (by kernel_rfl) fun K hK => ?_) | refine XWP.reg1 (by kernel_rfl) fun K hK => ?_
    simp only [XA, XB, gateX, Nat.reduceAdd, Nat.reduceLeDiff, Nat.reduceSub, Nat.reduceMul, ↓reduceIte, Int.reduceToNat, Int.reduceLE, beq_self_eq_true, w1, b4]
    refine hK _ ?_
    first | refine XWP.cond (t := true) rfl (fun _ => ?_) (fun h => by cases h) | refine XWP.seq (XWP.cond (t := true) rfl (fun _ => ?_) (fun h => by cases h))
    first | refine XWP.reg (by kernel_rfl) fun K hK => ?_ | refine XWP.seq (XWP.reg (by kernel_rfl) fun K hK => ?_) | refine XWP.reg1 (by kernel_rfl) fun K hK => ?_
    simp only [XA, XB, gateX, Nat.reduceAdd, Nat.reduceLeDiff, Nat.reduceSub, Nat.reduceMul, ↓reduceIte, Int.reduceToNat, Int.reduceLE, beq_self_eq_true]
    refine hK _ (XWP.ret ?_)
    try simp only [thenX_ret, inBlockX_ret]
    refine ret_go _ rfl ?_
    exact ⟨fun h => (by rw [hk] at h; cases h), fun _ _ => rfl, fun _ h => by omega⟩
  have b4 : decide ((N : Int) < ((2 * bm.size : Nat) : Int)) = false := decide_eq_false (by omega)
  first | refine XWP.reg (by kernel_rfl) fun K hK => ?_ | refine XWP.seq (XWP.reg (by kernel_rfl) fun K hK => ?_) | refine XWP.reg1 (by kernel_rfl) fun K hK => ?_
  simp only [XA, XB, gateX, Nat.reduceAdd, Nat.reduceLeDiff, Nat.reduceSub, Nat.reduceMul, ↓reduceIte, Int.reduceToNat, Int.reduceLE, beq_self_eq_true, w1, b4]
  refine hK _ ?_
  first | refine XWP.cond (t := false) rfl (fun h => by cases h) (fun _ => ?_) | refine XWP.seq (XWP.cond (t := false) rfl (fun h => by cases h) (fun _ => ?_))
  refine XWP.skip ?_
  first | refine XWP.reg (by kernel_rfl) fun K hK => ?_ | refine XWP.seq (XWP.reg (by kernel_rfl) fun K hK => ?_) | refine XWP.reg1 (by kernel_rfl) fun K hK => ?_
  refine bs_go (by kernel_rfl) #[] (by simp) (bs_zero elemT_22 zeroT_34) fun b hb1 hb2 => ?_
  simp only [XA, XB, gateX, Nat.reduceAdd, Nat.reduceLeDiff, Nat.reduceSub, Nat.reduceMul, ↓reduceIte, Int.reduceToNat, Int.reduceLE, beq_self_eq_true]
  refine hK _ ?_
  clear hK
  refine XWP.cut (fun s => ∃ (V6 : View) (H5 : Heap) (cells : List Value) (wo : Value), StIs (fun τ => [τ 0, τ 1, τ 2, τ 3, τ 4, τ 5, τ 6, τ 7, τ 8, τ 9, τ 10, τ 11, τ 12, τ 13, .v wo, τ 15, τ 16, τ 17, τ 18, τ 19, τ 20, τ 21, τ 22, τ 23, τ 24, τ 25, τ 26, τ 27, τ 28, τ 29, τ 30, τ 31, τ 32, τ 33, τ 34, τ 35, τ 36, τ 37, τ 38, τ 39, τ 40, τ 41, τ 42, τ 43, τ 44, τ 45, τ 46, τ 47, τ 48, τ 49, τ 50, τ 51, τ 52, τ 53, τ 54, τ 55, τ 56, τ 57, τ 58, τ 59, τ 60, τ 61, τ 62, τ 63, τ 64, τ 65, τ 66, τ 67, τ 68, τ 69, τ 70, τ 71, τ 72, τ 73, τ 74, τ 75, τ 76, τ 77, τ 78, τ 79, τ 80, τ 81, τ 82, τ 83, τ 84, τ 85]) [[m, x, y]] H5 V6 s ∧ Own H5 34 3 wo bm.size cells ∧ RowAt ratE V6 cells (bmOut bm)) ?_ ?_
  · first | refine XWP.reg (by kernel_rfl) fun K hK => ?_ | refine XWP.seq (XWP.reg (by kernel_rfl) fun K hK => ?_) | refine XWP.reg1 (by kernel_rfl) fun K hK => ?_
    simp only [XA, XB, gateX, Nat.reduceAdd, Nat.reduceLeDiff, Nat.reduceSub, Nat.reduceMul, ↓reduceIte, Int.reduceToNat, Int.reduceLE, beq_self_eq_true]
    refine hK _ ?_
    clear hK
    first | refine XWP.block ?_ | refine XWP.seq (XWP.block ?_)
    refine XWP.loop (fun n s => ∃ (j : Nat) (V6 : View) (H5 : Heap) (cells : List Value) (wo : Value), StIs (fun τ => [τ 0, τ 1, τ 2, τ 3, .v wq, τ 5, τ 6, τ 7, τ 8, τ 9, τ 10, τ 11, τ 12, τ 13, .v wo, τ 15, τ 16, τ 17, τ 18, τ 19, τ 20, τ 21, τ 22, τ 23, τ 24, τ 25, τ 26, τ 27, τ 28, τ 29, τ 30, τ 31, τ 32, τ 33, τ 34, τ 35, τ 36, τ 37, τ 38, τ 39, τ 40, τ 41, τ 42, τ 43, τ 44, τ 45, τ 46, τ 47, τ 48, τ 49, τ 50, τ 51, τ 52, τ 53, τ 54, τ 55, τ 56, τ 57, τ 58, τ 59, τ 60, τ 61, τ 62, τ 63, τ 64, τ 65, τ 66, τ 67, τ 68, τ 69, τ 70, τ 71, .v (.int .i64 (bm.size : Int)), .v (.int .i64 (j : Int)), τ 74, τ 75, τ 76, τ 77, τ 78, τ 79, τ 80, τ 81, τ 82, τ 83, τ 84, τ 85]) [[m, x, y]] H5 V6 s ∧ V5.le V6 ∧ n + j = bm.size ∧ Own H5 34 3 wo j cells ∧ RowAt ratE V6 cells (mk j fun j => -(cf bm.q (j + 1)))) bm.size ⟨0, V5, _, [], _, StIs.of (by exact rfl), View.le_refl _, rfl, own3 (by simp [upd]) rfl (Nat.le_refl _) (by omega), RowAt.nil _⟩ ?_
    rintro n s ⟨j, V6, H5, cells, wo, hs, hV6, hn, hown, hrow⟩
    obtain ⟨z, rfl⟩ := hs.out
    try dsimp only
    by_cases hj : j < bm.size
    · have b5 : decide ((j : Int) < (bm.size : Int)) = true := decide_eq_true (by omega)
      first | refine XWP.reg (by kernel_rfl) fun K hK => ?_ | refine XWP.seq (XWP.reg (by kernel_rfl) fun K hK => ?_) | refine XWP.reg1 (by kernel_rfl) fun K hK => ?_
      simp only [XA, XB, gateX, Nat.reduceAdd, Nat.reduceLeDiff, Nat.reduceSub, Nat.reduceMul, ↓reduceIte, Int.reduceToNat, Int.reduceLE, beq_self_eq_true, b5]
      refine hK _ ?_
      first | refine XWP.cond (t := true) rfl (fun _ => ?_) (fun h => by cases h) | refine XWP.seq (XWP.cond (t := true) rfl (fun _ => ?_) (fun h => by cases h))
      refine XWP.skip ?_
      refine XWP.seq ?_
      first | refine XWP.block ?_ | refine XWP.seq (XWP.block ?_)
      first | refine XWP.reg (by kernel_rfl) fun K hK => ?_ | refine XWP.seq (XWP.reg (by kernel_rfl) fun K hK => ?_) | refine XWP.reg1 (by kernel_rfl) fun K hK => ?_
      simp only [XA, XB, gateX, Nat.reduceAdd, Nat.reduceLeDiff, Nat.reduceSub, Nat.reduceMul, ↓reduceIte, Int.reduceToNat, Int.reduceLE, beq_self_eq_true]
      refine hK _ ?_
      first | refine XWP.reg (by kernel_rfl) fun K hK => ?_ | refine XWP.seq (XWP.reg (by kernel_rfl) fun K hK => ?_) | refine XWP.reg1 (by kernel_rfl) fun K hK => ?_
      simp only [XA, XB, gateX, Nat.reduceAdd, Nat.reduceLeDiff, Nat.reduceSub, Nat.reduceMul, ↓reduceIte, Int.reduceToNat, Int.reduceLE, beq_self_eq_true, i64_succ j (by omega)]
      refine call_go (by kernel_rfl) rfl (cget_c _ _ _ (j + 1) (hwq.up hV6) (by omega)) fun v7 V7 hV7 h7 => ?_
      simp only [XA, XB, gateX, Nat.reduceAdd, Nat.reduceLeDiff, Nat.reduceSub, Nat.reduceMul, ↓reduceIte, Int.reduceToNat, Int.reduceLE, beq_self_eq_true]
      refine call_go (by kernel_rfl) rfl (qneg_c _ _ _ h7 (hqe _)) fun v8 V8 hV8 h8 => ?_
      obtain ⟨x8, y8, rfl, o1, o2⟩ := h8.form
      simp only [XA, XB, gateX, Nat.reduceAdd, Nat.reduceLeDiff, Nat.reduceSub, Nat.reduceMul, ↓reduceIte, Int.reduceToNat, Int.reduceLE, beq_self_eq_true]
      refine bs_go (by kernel_rfl) #[(0, .agg #[.bool (ng (-(cf bm.q (j + 1)))), x8, y8])] (by simp [ev_tmp, SV.val]) (bs_rat elemT_22) fun b3 hb3 hb4 => ?_
      simp only [XA, XB, gateX, Nat.reduceAdd, Nat.reduceLeDiff, Nat.reduceSub, Nat.reduceMul, ↓reduceIte, Int.reduceToNat, Int.reduceLE, beq_self_eq_true]
      refine ap_go elemT_22 (by kernel_rfl) zeroT_34 rfl (by omega) (own_upd hown hb3) (src3 (upd_at _ _ _) rfl o1 o2) (by omega) (by omega) fun v' H' hres => ?_
      simp only [XA, XB, gateX, Nat.reduceAdd, Nat.reduceLeDiff, Nat.reduceSub, Nat.reduceMul, ↓reduceIte, Int.reduceToNat, Int.reduceLE, beq_self_eq_true]
      refine hK _ ?_
      first | refine XWP.reg (by kernel_rfl) fun K hK => ?_ | refine XWP.seq (XWP.reg (by kernel_rfl) fun K hK => ?_) | refine XWP.reg1 (by kernel_rfl) fun K hK => ?_
      simp only [XA, XB, gateX, Nat.reduceAdd, Nat.reduceLeDiff, Nat.reduceSub, Nat.reduceMul, ↓reduceIte, Int.reduceToNat, Int.reduceLE, beq_self_eq_true, i64_succ j (by omega)]
      have hrow' := (hrow.mono ratE_ok (View.le_trans hV7 hV8)).snoc (x := -(cf bm.q (j + 1))) (show isOne (.bool (ng (-(cf bm.q (j + 1))))) = true from rfl) o1 o2 h8
      have em := mk_succ j fun j => -(cf bm.q (j + 1))
      rw [← em] at hrow'
      exact hK _ ⟨n - 1, by omega, j + 1, V8, _, _, _, StIs.of (by exact rfl), View.le_trans hV6 (View.le_trans hV7 hV8), by omega, hres.1, hrow'⟩
    · have b5 : decide ((j : Int) < (bm.size : Int)) = false := decide_eq_false (by omega)
      obtain rfl : j = bm.size := by omega
      first | refine XWP.reg (by kernel_rfl) fun K hK => ?_ | refine XWP.seq (XWP.reg (by kernel_rfl) fun K hK => ?_) | refine XWP.reg1 (by kernel_rfl) fun K hK => ?_
      simp only [XA, XB, gateX, Nat.reduceAdd, Nat.reduceLeDiff, Nat.reduceSub, Nat.reduceMul, ↓reduceIte, Int.reduceToNat, Int.reduceLE, beq_self_eq_true, b5]
      refine hK _ ?_
      first | refine XWP.cond (t := false) rfl (fun h => by cases h) (fun _ => ?_) | refine XWP.seq (XWP.cond (t := false) rfl (fun h => by cases h) (fun _ => ?_))
      refine XWP.exit ?_
      exact ⟨V6, H5, cells, wo, StIs.of (by exact rfl), hown, hrow⟩
  rintro s ⟨V6, H5, cells, wo, hs, hown, hrow⟩
  obtain ⟨z, rfl⟩ := hs.out
  try dsimp only
  first | refine XWP.reg (by kernel_rfl) fun K hK => ?_ | refine XWP.seq (XWP.reg (by kernel_rfl) fun K hK => ?_) | refine XWP.reg1 (by kernel_rfl) fun K hK => ?_
  simp only [XA, XB, gateX, Nat.reduceAdd, Nat.reduceLeDiff, Nat.reduceSub, Nat.reduceMul, ↓reduceIte, Int.reduceToNat, Int.reduceLE, beq_self_eq_true]
  refine hK _ (XWP.ret ?_)
  try simp only [thenX_ret, inBlockX_ret]
  rcases own_parts hown with ⟨rfl, hn0, rfl⟩ | ⟨g, cap, rfl, hg, hle, hcap, _⟩
  · refine ret_go _ rfl ⟨fun h => (by rw [hk] at h; cases h), fun _ h => absurd h (by omega), fun _ _ => ⟨_, rfl, ?_⟩⟩
    have : bmOut bm = [] := List.length_eq_zero_iff.1 (by unfold bmOut; rw [mk_len]; exact hn0)
    rw [this]; exact SlAt.nil _
  · refine ret_pub g _ hg fun o ho hle' => ret_go _ rfl ⟨fun h => (by rw [hk] at h; cases h), fun _ h => absurd h (by omega), fun _ _ => ⟨_, rfl, ?_⟩⟩
    exact hrow.pub ratE_ok ho hle' (mk_len _ _) hle (by unfold maxLen at hcap; omega)
end Go.Proofs.Ythoboehbadmlmaa
end
section
namespace Go.Proofs.Ythoboehbadmlmaa
open Go Go.RowKit
set_option linter.unusedSimpArgs false
set_option linter.unusedVariables false
attribute [local irreducible] XWP Spec SpecO XPub XCall seqX clX apX stX ldX iaX slX
theorem min_3 (n : Nat) : (if (3 : Int) < (n : Int) then (3 : Int) else (n : Int)) = ((min n 3 : Nat) : Int) := by split <;> omega
theorem min_nat (a b : Nat) : (if (b : Int) < (a : Int) then (b : Int) else (a : Int)) = ((min a b : Nat) : Int) := by split <;> omega
theorem lnat_c (V : View) (v : Value) (ds : List Nat) (h : NatAt V v ds) : Spec Try.prog 50 [v] V fun v' V' => NatAt V' v' (ds.take 3) := by
  obtain ⟨A, c, rfl, hc, hm⟩ := h.form
  refine (Spec.enter Try.func50 rfl fun Γ => ?_)
  simp only [Try.ntmps50, List.map_cons, List.map_nil, List.length_cons, List.length_nil, Nat.reduceAdd, Nat.reduceSub, List.replicate_succ, List.replicate_zero, List.cons_append, List.nil_append]
  first | refine XWP.reg (by kernel_rfl) fun K hK => ?_ | refine XWP.seq (XWP.reg (by kernel_rfl) fun K hK => ?_) | refine XWP.reg1 (by kernel_rfl) fun K hK => ?_
  simp only [XA, XB, gateX, Nat.reduceAdd, Nat.reduceLeDiff, Nat.reduceSub, Nat.reduceMul, ↓reduceIte, Int.reduceToNat, Int.reduceLE, beq_self_eq_true]
  refine hK _ ?_
  first | refine XWP.reg (by kernel_rfl) fun K hK => ?_ | refine XWP.seq (XWP.reg (by kernel_rfl) fun K hK => ?_) | refine XWP.reg1 (by kernel_rfl) fun K hK => ?_
  simp only [XA, XB, gateX, Nat.reduceAdd, Nat.reduceLeDiff, Nat.reduceSub, Nat.reduceMul, ↓reduceIte, Int.reduceToNat, Int.reduceLE, beq_self_eq_true, min_3]
  refine ⟨by omega, by omega, by omega, ?_⟩
  refine hK _ (XWP.ret ?_)
  try simp only [thenX_ret, inBlockX_ret]
  refine ret_go _ rfl ?_
  have := NatAt.take h (k := min ds.length 3) (by omega)
  have e : ds.take (min ds.length 3) = ds.take 3 := by
    by_cases h3 : ds.length ≤ 3
    · rw [Nat.min_eq_left h3, List.take_of_length_le h3, List.take_of_length_le (Nat.le_refl _)]
    · rw [Nat.min_eq_right (by omega)]
  rw [e] at this
  exact this
def cutR (r : Raw) : Raw := ⟨r.m, r.nd.take 3, r.dd.take 3⟩
def fewL (L : List Raw) (n : Nat) : List Raw := (L.take n).map cutR
/-- few digits -/
def fewR (l : List Raw) : Prop := ∀ r ∈ l, r.nd.length ≤ 3 ∧ r.dd.length ≤ 3
theorem fewL_few (L : List Raw) (n : Nat) : fewR (fewL L n) := fun r hr => by
  obtain ⟨x, _, rfl⟩ := List.mem_map.1 hr
  exact ⟨by simp [cutR]; omega, by simp [cutR]; omega⟩
theorem fewR.fit {l : List Raw} (h : fewR l) : fitR l := fun r hr => ⟨by have := (h r hr).1; omega, by have := (h r hr).2; omega⟩
theorem fewL_len (L : List Raw) (n : Nat) : (fewL L n).length ≤ n := by simp [fewL]; omega
theorem BB_two : BB = 2 ^ 32 := rfl
theorem dig3 {ds : List Nat} (h : Dig ds) (hl : ds.length ≤ 3) : nv ds ≤ 2 ^ 96 := by
  have h1 := nv_lt h
  have h2 : BB ^ ds.length ≤ BB ^ 3 := Nat.pow_le_pow_right (by unfold BB; omega) hl
  have h3 : BB ^ 3 = 2 ^ 96 := by rw [BB_two, ← Nat.pow_mul]
  omega
/-- digits are digits -/
def digR (l : List Raw) : Prop := ∀ r ∈ l, Dig r.nd ∧ Dig r.dd
theorem Raws.dig {V : View} {v : Value} {l : List Raw} (h : Raws V v l) : digR l := fun r hr => by
  obtain ⟨A, c, rfl, h1, h2, h3⟩ := h
  rcases h3 with rfl | ⟨b, o, arr, ty, fr, e1, e2, h4⟩
  · cases hr
  · obtain ⟨i, hi⟩ := List.getElem?_of_mem hr
    obtain ⟨m, n, d, g1, g2, g3, o1, o2, o3, hE⟩ := h4 i r hi
    obtain ⟨n', d', _, k1, k2⟩ := hE
    exact ⟨k1.dig, k2.dig⟩
theorem fewR_QB {l : List Raw} (h : fewR l) (hd : digR l) : ∀ x ∈ qs l, QB 96 x := fun x hx => by
  obtain ⟨r, hr, rfl⟩ := List.mem_map.1 hx
  exact QB_rv _ (dig3 (hd r hr).1 (h r hr).1) (dig3 (hd r hr).2 (h r hr).2)
theorem fewR_CB {l : List Raw} (h : fewR l) (hd : digR l) : CB (l.length * 96) (qs l) := by
  have := CB_of (qs l) (fewR_QB h hd)
  rwa [qs_len] at this
theorem lfew_c (V : View) (v : Value) (L : List Raw) (n : Nat) (hv : Raws V v L) (hn : n ≤ 1000000) : Spec Try.prog 12 [v, .int .i64 (n : Int)] V fun v' V' => Raws V' v' (fewL L n) := by
  obtain ⟨A1, c1, rfl, hc1, hm1⟩ := hv.form
  refine (Spec.enter Try.func12 rfl fun Γ => ?_)
  simp only [Try.ntmps12, List.map_cons, List.map_nil, List.length_cons, List.length_nil, Nat.reduceAdd, Nat.reduceSub, List.replicate_succ, List.replicate_zero, List.cons_append, List.nil_append]
  first | refine XWP.reg (by kernel_rfl) fun K hK => ?_ | refine XWP.seq (XWP.reg (by kernel_rfl) fun K hK => ?_) | refine XWP.reg1 (by kernel_rfl) fun K hK => ?_
  simp only [XA, XB, gateX, Nat.reduceAdd, Nat.reduceLeDiff, Nat.reduceSub, Nat.reduceMul, ↓reduceIte, Int.reduceToNat, Int.reduceLE, beq_self_eq_true]
  refine hK _ ?_
  first | refine XWP.reg (by kernel_rfl) fun K hK => ?_ | refine XWP.seq (XWP.reg (by kernel_rfl) fun K hK => ?_) | refine XWP.reg1 (by kernel_rfl) fun K hK => ?_
  refine bs_go (by kernel_rfl) #[] (by simp) (bs_zero elemT_22 zeroT_34) fun b hb1 hb2 => ?_
  simp only [XA, XB, gateX, Nat.reduceAdd, Nat.reduceLeDiff, Nat.reduceSub, Nat.reduceMul, ↓reduceIte, Int.reduceToNat, Int.reduceLE, beq_self_eq_true]
  refine hK _ ?_
  clear hK
  obtain ⟨N, hN⟩ : ∃ N, N = min L.length n := ⟨_, rfl⟩
  have eN : L.take N = L.take n := by
    rw [hN]
    by_cases h : L.length ≤ n
    · rw [Nat.min_eq_left h, List.take_of_length_le h, List.take_of_length_le (Nat.le_refl _)]
    · rw [Nat.min_eq_right (by omega)]
  have hvN := SlAt.take hv (k := N) (by omega)
  have hlN : (L.take N).length = N := by simp; omega
  refine XWP.cutD 0 (fun s => ∃ (V6 : View) (H5 : Heap) (cells : List Value) (wo : Value), StIs (fun τ => [τ 0, τ 1, τ 2, τ 3, τ 4, .v wo, τ 6, τ 7, τ 8, τ 9, τ 10, τ 11, τ 12, τ 13, τ 14, τ 15, τ 16, τ 17, τ 18, τ 19, τ 20, τ 21, τ 22, τ 23, τ 24, τ 25, τ 26, τ 27, τ 28, τ 29, τ 30, τ 31, τ 32, τ 33]) [] H5 V6 s ∧ Own H5 34 3 wo N cells ∧ RowAt rawE V6 cells ((L.take N).map cutR)) ?_ ?_
  · first | refine XWP.reg (by kernel_rfl) fun K hK => ?_ | refine XWP.seq (XWP.reg (by kernel_rfl) fun K hK => ?_) | refine XWP.reg1 (by kernel_rfl) fun K hK => ?_
    simp only [XA, XB, gateX, Nat.reduceAdd, Nat.reduceLeDiff, Nat.reduceSub, Nat.reduceMul, ↓reduceIte, Int.reduceToNat, Int.reduceLE, beq_self_eq_true, min_nat]
    rw [← hN]
    refine ⟨by omega, by omega, by omega, ?_⟩
    refine hK _ ?_
    clear hK
    first | refine XWP.block ?_ | refine XWP.seq (XWP.block ?_)
    refine XWP.loopD 0 (fun m s => ∃ (k : Nat) (V6 : View) (H5 : Heap) (cells : List Value) (wo : Value), StIs (fun τ => [τ 0, τ 1, τ 2, τ 3, τ 4, .v wo, τ 6, τ 7, τ 8, τ 9, τ 10, τ 11, τ 12, τ 13, .v (.slice A1 N c1), .v (.int .i64 (N : Int)), .v (.int .i64 (k : Int)), τ 17, τ 18, τ 19, τ 20, τ 21, τ 22, τ 23, τ 24, τ 25, τ 26, τ 27, τ 28, τ 29, τ 30, τ 31, τ 32, τ 33]) [] H5 V6 s ∧ V.le V6 ∧ m + k = N ∧ Own H5 34 3 wo k cells ∧ RowAt rawE V6 cells ((L.take k).map cutR)) N ⟨0, V, _, [], _, StIs.of (by exact rfl), View.le_refl _, rfl, own3 (by simp [upd]) rfl (Nat.le_refl _) (by omega), RowAt.nil _⟩ ?_
    rintro m s ⟨k, V6, H5, cells, wo, hs, hV6, hm, hown, hrow⟩
    obtain ⟨z, rfl⟩ := hs.out
    try dsimp only
    by_cases hk : k < N
    · have b1 : decide ((k : Int) < (N : Int)) = true := decide_eq_true (by omega)
      first | refine XWP.reg (by kernel_rfl) fun K hK => ?_ | refine XWP.seq (XWP.reg (by kernel_rfl) fun K hK => ?_) | refine XWP.reg1 (by kernel_rfl) fun K hK => ?_
      simp only [XA, XB, gateX, Nat.reduceAdd, Nat.reduceLeDiff, Nat.reduceSub, Nat.reduceMul, ↓reduceIte, Int.reduceToNat, Int.reduceLE, beq_self_eq_true, b1]
      refine hK _ ?_
      first | refine XWP.cond (t := true) rfl (fun _ => ?_) (fun h => by cases h) | refine XWP.seq (XWP.cond (t := true) rfl (fun _ => ?_) (fun h => by cases h))
      refine XWP.skip ?_
      refine XWP.seq ?_
      first | refine XWP.block ?_ | refine XWP.seq (XWP.block ?_)
      first | refine XWP.reg (by kernel_rfl) fun K hK => ?_ | refine XWP.seq (XWP.reg (by kernel_rfl) fun K hK => ?_) | refine XWP.reg1 (by kernel_rfl) fun K hK => ?_
      have hv6 := Raws.up hvN hV6
      obtain ⟨b', o', rfl⟩ := SlAt.addr hv6 (by omega)
      obtain ⟨x, hx, ⟨m3, n3, d3, rfl, p1, p2, p3⟩, hld⟩ := SlAt.load hv6 k (by omega)
      obtain ⟨n4, d4, e4, hn4, hd4⟩ := hx
      cases e4
      have ek : (L.take N)[k]'(by omega) = L[k]'(by omega) := by simp
      rw [ek] at hn4 hd4
      simp only [XA, XB, gateX, Nat.reduceAdd, Nat.reduceLeDiff, Nat.reduceSub, Nat.reduceMul, ↓reduceIte, Int.reduceToNat, Int.reduceLE, beq_self_eq_true]
      refine ⟨by omega, by omega, ld_mem (hld _) ?_⟩
      simp only [XA, XB, gateX, Nat.reduceAdd, Nat.reduceLeDiff, Nat.reduceSub, Nat.reduceMul, ↓reduceIte, Int.reduceToNat, Int.reduceLE, beq_self_eq_true]
      refine st_rat rfl rfl rfl p2 p3 ?_
      simp only [XA, XB, gateX, Nat.reduceAdd, Nat.reduceLeDiff, Nat.reduceSub, Nat.reduceMul, ↓reduceIte, Int.reduceToNat, Int.reduceLE, beq_self_eq_true]
      refine hK _ ?_
      (first | refine XWP.drw [0, 1, 2, 3, 4, 6, 7, 5, 8, 9, 10, 11, 12] (by kernel_rfl) (by kernel_rfl) (by kernel_rfl) fun K hK => ?_ | refine XWP.seq (XWP.drw [0, 1, 2, 3, 4, 6, 7, 5, 8, 9, 10, 11, 12] (by kernel_rfl) (by kernel_rfl) (by kernel_rfl) fun K hK => ?_) | refine XWP.drw1 [0, 1, 2, 3, 4, 6, 7, 5, 8, 9, 10, 11, 12] (by kernel_rfl) (by kernel_rfl) (by kernel_rfl) fun K hK => ?_) <;> dsimp only [pickOps, List.getElem?_cons_zero, List.getElem?_cons_succ]
      simp only [XA, XB, gateX, Nat.reduceAdd, Nat.reduceLeDiff, Nat.reduceSub, Nat.reduceMul, ↓reduceIte, Int.reduceToNat, Int.reduceLE, beq_self_eq_true]
      refine call_go (by kernel_rfl) rfl (lnat_c _ _ _ hn4) fun v7 V7 hV7 h7 => ?_
      simp only [XA, XB, gateX, Nat.reduceAdd, Nat.reduceLeDiff, Nat.reduceSub, Nat.reduceMul, ↓reduceIte, Int.reduceToNat, Int.reduceLE, beq_self_eq_true]
      refine call_go (by kernel_rfl) rfl (lnat_c _ _ _ (hd4.mono hV7)) fun v8 V8 hV8 h8 => ?_
      have h7 := h7.mono hV8
      simp only [XA, XB, gateX, Nat.reduceAdd, Nat.reduceLeDiff, Nat.reduceSub, Nat.reduceMul, ↓reduceIte, Int.reduceToNat, Int.reduceLE, beq_self_eq_true]
      rw [ek]
      refine bd_go (by kernel_rfl) #[(0, .bool (L[k]'(by omega)).m), (1, v7), (2, v8)] (by simp [ev_tmp, SV.val]) (bd_rat3 rfl h7.one h8.one) ?_
      simp only [XA, XB, gateX, Nat.reduceAdd, Nat.reduceLeDiff, Nat.reduceSub, Nat.reduceMul, ↓reduceIte, Int.reduceToNat, Int.reduceLE, beq_self_eq_true]
      refine bs_go (by kernel_rfl) #[(0, .agg #[.bool (L[k]'(by omega)).m, v7, v8])] (by simp [ev_tmp, SV.val]) (bs_rat elemT_22) fun b3 hb3 hb4 => ?_
      simp only [XA, XB, gateX, Nat.reduceAdd, Nat.reduceLeDiff, Nat.reduceSub, Nat.reduceMul, ↓reduceIte, Int.reduceToNat, Int.reduceLE, beq_self_eq_true]
      refine ap_go elemT_22 (by kernel_rfl) zeroT_34 rfl (by omega) (own_upd hown hb3) (src3 (upd_at _ _ _) rfl h7.one h8.one) (by omega) (by omega) fun v' H' hres => ?_
      simp only [XA, XB, gateX, Nat.reduceAdd, Nat.reduceLeDiff, Nat.reduceSub, Nat.reduceMul, ↓reduceIte, Int.reduceToNat, Int.reduceLE, beq_self_eq_true]
      refine hK _ ?_
      first | refine XWP.reg (by kernel_rfl) fun K hK => ?_ | refine XWP.seq (XWP.reg (by kernel_rfl) fun K hK => ?_) | refine XWP.reg1 (by kernel_rfl) fun K hK => ?_
      simp only [XA, XB, gateX, Nat.reduceAdd, Nat.reduceLeDiff, Nat.reduceSub, Nat.reduceMul, ↓reduceIte, Int.reduceToNat, Int.reduceLE, beq_self_eq_true, i64_succ k (by omega)]
      have hrow' := (hrow.mono rawE_ok (View.le_trans hV7 hV8)).snoc (x := cutR (L[k]'(by omega))) (show isOne (.bool (L[k]'(by omega)).m) = true from rfl) h7.one h8.one ⟨_, _, rfl, h7, h8⟩
      have em : (L.take (k + 1)).map cutR = (L.take k).map cutR ++ [cutR (L[k]'(by omega))] := by rw [List.take_succ_eq_append_getElem (by omega), List.map_append]; rfl
      rw [← em] at hrow'
      exact hK _ ⟨m - 1, by omega, fun f => ⟨k + 1, V8, _, _, _, StIs.of (by exact rfl), View.le_trans hV6 (View.le_trans hV7 hV8), by omega, hres.1, hrow'⟩⟩
    · have b1 : decide ((k : Int) < (N : Int)) = false := decide_eq_false (by omega)
      obtain rfl : k = N := by omega
      first | refine XWP.reg (by kernel_rfl) fun K hK => ?_ | refine XWP.seq (XWP.reg (by kernel_rfl) fun K hK => ?_) | refine XWP.reg1 (by kernel_rfl) fun K hK => ?_
      simp only [XA, XB, gateX, Nat.reduceAdd, Nat.reduceLeDiff, Nat.reduceSub, Nat.reduceMul, ↓reduceIte, Int.reduceToNat, Int.reduceLE, beq_self_eq_true, b1]
      refine hK _ ?_
      first | refine XWP.cond (t := false) rfl (fun h => by cases h) (fun _ => ?_) | refine XWP.seq (XWP.cond (t := false) rfl (fun h => by cases h) (fun _ => ?_))
      refine XWP.exit ?_
      exact fun f => ⟨V6, H5, cells, wo, StIs.of (by exact rfl), hown, hrow⟩
  rintro s ⟨V6, H5, cells, wo, hs, hown, hrow⟩
  obtain ⟨z, rfl⟩ := hs.out
  try dsimp only
  rw [eN] at hrow
  have hl : ((L.take n).map cutR).length = N := by rw [List.length_map, ← eN, hlN]
  first | refine XWP.reg (by kernel_rfl) fun K hK => ?_ | refine XWP.seq (XWP.reg (by kernel_rfl) fun K hK => ?_) | refine XWP.reg1 (by kernel_rfl) fun K hK => ?_
  simp only [XA, XB, gateX, Nat.reduceAdd, Nat.reduceLeDiff, Nat.reduceSub, Nat.reduceMul, ↓reduceIte, Int.reduceToNat, Int.reduceLE, beq_self_eq_true]
  refine hK _ (XWP.ret ?_)
  try simp only [thenX_ret, inBlockX_ret]
  rcases own_parts hown with ⟨rfl, hn0, rfl⟩ | ⟨g, cap, rfl, hg, hle, hcap, _⟩
  · refine ret_go _ rfl ?_
    have : fewL L n = [] := List.length_eq_zero_iff.1 (by unfold fewL; rw [hl]; exact hn0)
    rw [this]; exact SlAt.nil _
  · refine ret_pub g _ hg fun o ho hle' => ret_go _ rfl ?_
    exact hrow.pub rawE_ok ho hle' hl hle (by unfold maxLen at hcap; omega)
theorem lsame_c (V : View) (v u : Value) (l m : List Rat) (hv : Rats V v l) (hu : Rats V u m) (hl : ∀ x ∈ l, QF x) (hm : ∀ x ∈ m, QF x) : Spec Try.prog 17 [v, u] V fun v' V' => v' = .bool (decide (l = m)) := by
  obtain ⟨A1, c1, rfl, hc1, hm1⟩ := hv.form
  obtain ⟨A2, c2, rfl, hc2, hm2⟩ := hu.form
  refine (Spec.enter Try.func17 rfl fun Γ => ?_)
  simp only [Try.ntmps17, List.map_cons, List.map_nil, List.length_cons, List.length_nil, Nat.reduceAdd, Nat.reduceSub, List.replicate_succ, List.replicate_zero, List.cons_append, List.nil_append]
  first | refine XWP.reg (by kernel_rfl) fun K hK => ?_ | refine XWP.seq (XWP.reg (by kernel_rfl) fun K hK => ?_) | refine XWP.reg1 (by kernel_rfl) fun K hK => ?_
  simp only [XA, XB, gateX, Nat.reduceAdd, Nat.reduceLeDiff, Nat.reduceSub, Nat.reduceMul, ↓reduceIte, Int.reduceToNat, Int.reduceLE, beq_self_eq_true]
  refine hK _ ?_
  refine XWP.seq ?_
  by_cases hlen : l.length = m.length
  · have b1 : (!decide ((l.length : Int) = (m.length : Int))) = false := by rw [decide_eq_true (by omega)]; rfl
    first | refine XWP.reg (by kernel_rfl) fun K hK => ?_ | refine XWP.seq (XWP.reg (by kernel_rfl) fun K hK => ?_) | refine XWP.reg1 (by kernel_rfl) fun K hK => ?_
    simp only [XA, XB, gateX, Nat.reduceAdd, Nat.reduceLeDiff, Nat.reduceSub, Nat.reduceMul, ↓reduceIte, Int.reduceToNat, Int.reduceLE, beq_self_eq_true, b1]
    refine hK _ ?_
    first | refine XWP.cond (t := false) rfl (fun h => by cases h) (fun _ => ?_) | refine XWP.seq (XWP.cond (t := false) rfl (fun h => by cases h) (fun _ => ?_))
    refine XWP.skip ?_
    refine XWP.cut (fun s => ∃ V2, StIs (fun τ => [τ 0, τ 1, τ 2, τ 3, τ 4, τ 5, τ 6, τ 7, τ 8, τ 9, τ 10, τ 11, τ 12, τ 13, τ 14, τ 15, τ 16, τ 17, τ 18, τ 19, τ 20, τ 21, τ 22, τ 23, τ 24, τ 25, τ 26]) [] (fun _ => none) V2 s ∧ l = m) ?_ ?_
    · first | refine XWP.reg (by kernel_rfl) fun K hK => ?_ | refine XWP.seq (XWP.reg (by kernel_rfl) fun K hK => ?_) | refine XWP.reg1 (by kernel_rfl) fun K hK => ?_
      simp only [XA, XB, gateX, Nat.reduceAdd, Nat.reduceLeDiff, Nat.reduceSub, Nat.reduceMul, ↓reduceIte, Int.reduceToNat, Int.reduceLE, beq_self_eq_true]
      refine hK _ ?_
      clear hK
      first | refine XWP.block ?_ | refine XWP.seq (XWP.block ?_)
      refine XWP.loop (fun n s => ∃ (k : Nat) (V2 : View), StIs (fun τ => [.v (.slice A1 l.length c1), .v (.slice A2 m.length c2), τ 2, τ 3, τ 4, τ 5, τ 6, τ 7, τ 8, τ 9, τ 10, τ 11, .v (.int .i64 (l.length : Int)), .v (.int .i64 (k : Int)), τ 14, τ 15, τ 16, τ 17, τ 18, τ 19, τ 20, τ 21, τ 22, τ 23, τ 24, τ 25, τ 26]) [] (fun _ => none) V2 s ∧ V.le V2 ∧ n + k = l.length ∧ ∀ i, i < k → cf l i = cf m i) l.length ⟨0, V, StIs.of (by exact rfl), View.le_refl _, rfl, fun i hi => by omega⟩ ?_
      rintro n s ⟨k, V2, hs, hV2, hn, hk⟩
      obtain ⟨z, rfl⟩ := hs.out
      try dsimp only
      by_cases hlt : k < l.length
      · have b2 : decide ((k : Int) < (l.length : Int)) = true := decide_eq_true (by omega)
        first | refine XWP.reg (by kernel_rfl) fun K hK => ?_ | refine XWP.seq (XWP.reg (by kernel_rfl) fun K hK => ?_) | refine XWP.reg1 (by kernel_rfl) fun K hK => ?_
        simp only [XA, XB, gateX, Nat.reduceAdd, Nat.reduceLeDiff, Nat.reduceSub, Nat.reduceMul, ↓reduceIte, Int.reduceToNat, Int.reduceLE, beq_self_eq_true, b2]
        refine hK _ ?_
        first | refine XWP.cond (t := true) rfl (fun _ => ?_) (fun h => by cases h) | refine XWP.seq (XWP.cond (t := true) rfl (fun _ => ?_) (fun h => by cases h))
        refine XWP.skip ?_
        refine XWP.seq ?_
        first | refine XWP.block ?_ | refine XWP.seq (XWP.block ?_)
        first | refine XWP.reg (by kernel_rfl) fun K hK => ?_ | refine XWP.seq (XWP.reg (by kernel_rfl) fun K hK => ?_) | refine XWP.reg1 (by kernel_rfl) fun K hK => ?_
        simp only [XA, XB, gateX, Nat.reduceAdd, Nat.reduceLeDiff, Nat.reduceSub, Nat.reduceMul, ↓reduceIte, Int.reduceToNat, Int.reduceLE, beq_self_eq_true]
        refine hK _ ?_
        (first | refine XWP.drw [0, 1, 2, 3, 4, 5, 6, 7, 8, 9] (by kernel_rfl) (by kernel_rfl) (by kernel_rfl) fun K hK => ?_ | refine XWP.seq (XWP.drw [0, 1, 2, 3, 4, 5, 6, 7, 8, 9] (by kernel_rfl) (by kernel_rfl) (by kernel_rfl) fun K hK => ?_) | refine XWP.drw1 [0, 1, 2, 3, 4, 5, 6, 7, 8, 9] (by kernel_rfl) (by kernel_rfl) (by kernel_rfl) fun K hK => ?_) <;> dsimp only [pickOps, List.getElem?_cons_zero, List.getElem?_cons_succ]
        have hv2 := Rats.up hv hV2
        have hu2 := Rats.up hu hV2
        obtain ⟨b, o, rfl⟩ := SlAt.addr hv2 (by omega)
        obtain ⟨b', o', rfl⟩ := SlAt.addr hu2 (by omega)
        obtain ⟨m3, n3, d3, hx3, ⟨p1, p2, p3⟩, hld3⟩ := Rats.get hv2 k (by omega)
        obtain ⟨m4, n4, d4, hx4, ⟨r1, r2, r3⟩, hld4⟩ := Rats.get hu2 k (by omega)
        simp only [XA, XB, gateX, Nat.reduceAdd, Nat.reduceLeDiff, Nat.reduceSub, Nat.reduceMul, ↓reduceIte, Int.reduceToNat, Int.reduceLE, beq_self_eq_true]
        refine ⟨by omega, by omega, ld_mem (hld3 _) ?_⟩
        simp only [XA, XB, gateX, Nat.reduceAdd, Nat.reduceLeDiff, Nat.reduceSub, Nat.reduceMul, ↓reduceIte, Int.reduceToNat, Int.reduceLE, beq_self_eq_true]
        refine ⟨by omega, by omega, ld_mem (hld4 _) ?_⟩
        simp only [XA, XB, gateX, Nat.reduceAdd, Nat.reduceLeDiff, Nat.reduceSub, Nat.reduceMul, ↓reduceIte, Int.reduceToNat, Int.reduceLE, beq_self_eq_true]
        have f3 := hl _ (cf_mem hlt)
        have f4 := hm _ (cf_mem (show k < m.length by omega))
        refine call_go (by kernel_rfl) rfl (psame_c _ _ _ _ _ (hx3.toV f3) (hx4.toV f4) f3 f4) fun v5 V5 hV5 h5 => ?_
        subst h5
        by_cases he : cf l k = cf m k
        · have b3 : decide (cf l k = cf m k) = true := decide_eq_true he
          simp only [XA, XB, gateX, Nat.reduceAdd, Nat.reduceLeDiff, Nat.reduceSub, Nat.reduceMul, ↓reduceIte, Int.reduceToNat, Int.reduceLE, beq_self_eq_true, b3]
          refine hK _ ?_
          first | refine XWP.cond (t := false) rfl (fun h => by cases h) (fun _ => ?_) | refine XWP.seq (XWP.cond (t := false) rfl (fun h => by cases h) (fun _ => ?_))
          refine XWP.skip ?_
          first | refine XWP.reg (by kernel_rfl) fun K hK => ?_ | refine XWP.seq (XWP.reg (by kernel_rfl) fun K hK => ?_) | refine XWP.reg1 (by kernel_rfl) fun K hK => ?_
          simp only [XA, XB, gateX, Nat.reduceAdd, Nat.reduceLeDiff, Nat.reduceSub, Nat.reduceMul, ↓reduceIte, Int.reduceToNat, Int.reduceLE, beq_self_eq_true, i64_succ k (by omega)]
          refine hK _ ⟨n - 1, by omega, k + 1, V5, StIs.of (by exact rfl), View.le_trans hV2 hV5, by omega, fun i hi => ?_⟩
          by_cases e : i = k
          · rw [e]; exact he
          · exact hk i (by omega)
        · have b3 : decide (cf l k = cf m k) = false := decide_eq_false he
          simp only [XA, XB, gateX, Nat.reduceAdd, Nat.reduceLeDiff, Nat.reduceSub, Nat.reduceMul, ↓reduceIte, Int.reduceToNat, Int.reduceLE, beq_self_eq_true, b3]
          refine hK _ ?_
          first | refine XWP.cond (t := true) rfl (fun _ => ?_) (fun h => by cases h) | refine XWP.seq (XWP.cond (t := true) rfl (fun _ => ?_) (fun h => by cases h))
          first | refine XWP.reg (by kernel_rfl) fun K hK => ?_ | refine XWP.seq (XWP.reg (by kernel_rfl) fun K hK => ?_) | refine XWP.reg1 (by kernel_rfl) fun K hK => ?_
          simp only [XA, XB, gateX, Nat.reduceAdd, Nat.reduceLeDiff, Nat.reduceSub, Nat.reduceMul, ↓reduceIte, Int.reduceToNat, Int.reduceLE, beq_self_eq_true]
          refine hK _ (XWP.ret ?_)
          try simp only [thenX_ret, inBlockX_ret]
          refine ret_go _ rfl ?_
          rw [decide_eq_false (fun e => he (by rw [e]))]; rfl
      · have b2 : decide ((k : Int) < (l.length : Int)) = false := decide_eq_false (by omega)
        first | refine XWP.reg (by kernel_rfl) fun K hK => ?_ | refine XWP.seq (XWP.reg (by kernel_rfl) fun K hK => ?_) | refine XWP.reg1 (by kernel_rfl) fun K hK => ?_
        simp only [XA, XB, gateX, Nat.reduceAdd, Nat.reduceLeDiff, Nat.reduceSub, Nat.reduceMul, ↓reduceIte, Int.reduceToNat, Int.reduceLE, beq_self_eq_true, b2]
        refine hK _ ?_
        first | refine XWP.cond (t := false) rfl (fun h => by cases h) (fun _ => ?_) | refine XWP.seq (XWP.cond (t := false) rfl (fun h => by cases h) (fun _ => ?_))
        refine XWP.exit ?_
        refine ⟨V2, StIs.of (by exact rfl), List.ext_getElem hlen fun i h1 h2 => ?_⟩
        rw [cf_get h1, cf_get h2]; exact hk i (by omega)
    rintro s ⟨V2, hs, he⟩
    obtain ⟨z, rfl⟩ := hs.out
    try dsimp only
    first | refine XWP.reg (by kernel_rfl) fun K hK => ?_ | refine XWP.seq (XWP.reg (by kernel_rfl) fun K hK => ?_) | refine XWP.reg1 (by kernel_rfl) fun K hK => ?_
    simp only [XA, XB, gateX, Nat.reduceAdd, Nat.reduceLeDiff, Nat.reduceSub, Nat.reduceMul, ↓reduceIte, Int.reduceToNat, Int.reduceLE, beq_self_eq_true]
    refine hK _ (XWP.ret ?_)
    try simp only [thenX_ret, inBlockX_ret]
    refine ret_go _ rfl ?_
    rw [decide_eq_true he]; rfl
  · have b1 : (!decide ((l.length : Int) = (m.length : Int))) = true := by rw [decide_eq_false (by omega)]; rfl
    first | refine XWP.reg (by kernel_rfl) fun K hK => ?_ | refine XWP.seq (XWP.reg (by kernel_rfl) fun K hK => ?_) | refine XWP.reg1 (by kernel_rfl) fun K hK => ?_
    simp only [XA, XB, gateX, Nat.reduceAdd, Nat.reduceLeDiff, Nat.reduceSub, Nat.reduceMul, ↓reduceIte, Int.reduceToNat, Int.reduceLE, beq_self_eq_true, b1]
    refine hK _ ?_
    first | refine XWP.cond (t := true) rfl (fun _ => ?_) (fun h => by cases h) | refine XWP.seq (XWP.cond (t := true) rfl (fun _ => ?_) (fun h => by cases h))
    first | refine XWP.reg (by kernel_rfl) fun K hK => ?_ | refine XWP.seq (XWP.reg (by kernel_rfl) fun K hK => ?_) | refine XWP.reg1 (by kernel_rfl) fun K hK => ?_
    simp only [XA, XB, gateX, Nat.reduceAdd, Nat.reduceLeDiff, Nat.reduceSub, Nat.reduceMul, ↓reduceIte, Int.reduceToNat, Int.reduceLE, beq_self_eq_true]
    refine hK _ (XWP.ret ?_)
    try simp only [thenX_ret, inBlockX_ret]
    refine ret_go _ rfl ?_
    rw [decide_eq_false (fun e => hlen (by rw [e]))]; rfl
theorem lsameP_c (V : View) (v u : Value) (e f : Int) (l m : List Rat) (hv : Rats V v l) (hu : Rats V u m) (hl : ∀ x ∈ l, QF x) (hm : ∀ x ∈ m, QF x) : Spec Try.prog 25 [v, .int .i64 e, u, .int .i64 f] V fun v' V' => v' = .bool (decide (e = f) && decide (l = m)) := by
  refine (Spec.enter Try.func25 rfl fun Γ => ?_)
  simp only [Try.ntmps25, List.map_cons, List.map_nil, List.length_cons, List.length_nil, Nat.reduceAdd, Nat.reduceSub, List.replicate_succ, List.replicate_zero, List.cons_append, List.nil_append]
  first | refine XWP.reg (by kernel_rfl) fun K hK => ?_ | refine XWP.seq (XWP.reg (by kernel_rfl) fun K hK => ?_) | refine XWP.reg1 (by kernel_rfl) fun K hK => ?_
  simp only [XA, XB, gateX, Nat.reduceAdd, Nat.reduceLeDiff, Nat.reduceSub, Nat.reduceMul, ↓reduceIte, Int.reduceToNat, Int.reduceLE, beq_self_eq_true]
  refine hK _ ?_
  first | refine XWP.reg (by kernel_rfl) fun K hK => ?_ | refine XWP.seq (XWP.reg (by kernel_rfl) fun K hK => ?_) | refine XWP.reg1 (by kernel_rfl) fun K hK => ?_
  by_cases h : e = f
  · have b1 : decide (e = f) = true := decide_eq_true h
    simp only [XA, XB, gateX, Nat.reduceAdd, Nat.reduceLeDiff, Nat.reduceSub, Nat.reduceMul, ↓reduceIte, Int.reduceToNat, Int.reduceLE, beq_self_eq_true, b1]
    refine call_go (by kernel_rfl) rfl (lsame_c _ _ _ _ _ hv hu hl hm) fun v3 V3 hV3 h3 => ?_
    subst h3
    simp only [XA, XB, gateX, Nat.reduceAdd, Nat.reduceLeDiff, Nat.reduceSub, Nat.reduceMul, ↓reduceIte, Int.reduceToNat, Int.reduceLE, beq_self_eq_true]
    refine hK _ (XWP.ret ?_)
    try simp only [thenX_ret, inBlockX_ret]
    refine ret_go _ rfl ?_
    rw [b1]; rfl
  · have b1 : decide (e = f) = false := decide_eq_false h
    simp only [XA, XB, gateX, Nat.reduceAdd, Nat.reduceLeDiff, Nat.reduceSub, Nat.reduceMul, ↓reduceIte, Int.reduceToNat, Int.reduceLE, beq_self_eq_true, b1]
    refine hK _ (XWP.ret ?_)
    try simp only [thenX_ret, inBlockX_ret]
    refine ret_go _ rfl ?_
    rw [b1]; rfl
end Go.Proofs.Ythoboehbadmlmaa
end
section
namespace Go.Proofs.Ythoboehbadmlmaa
open Go Go.RowKit
set_option linter.unusedSimpArgs false
set_option linter.unusedVariables false
attribute [local irreducible] XWP Spec SpecO XPub XCall seqX clX apX stX ldX iaX slX
theorem CB.qfR {A : Nat} {P : List Raw} (h : okR P = true → CB A (qs P)) (hA : A ≤ 17592186044416) : qfR P := fun hk => (h hk).qf hA
theorem dAdd_c (V : View) (v u : Value) (P Q : List Raw) (hv : Raws V v P) (hu : Raws V u Q) (fP : fitR P) (fQ : fitR Q) (qP : qfR P) (qQ : qfR Q) (lP : P.length ≤ 500) (lQ : Q.length ≤ 500) (A B : Nat) (hAB : bad2 P Q = false → CB A (qs P) ∧ CB B (qs Q)) (hfit : A + B + 2 ≤ 17592186044416) :
    Spec Try.prog 27 [v, u] V fun v' V' => (bad2 P Q = true → v' = .tuple #[.slice none 0 0, .int .i64 1]) ∧ (bad2 P Q = false → ∃ w, v' = .tuple #[w, .int .i64 0] ∧ Rats V' w (pAdd (qs P) (qs Q) 1 0)) := by
  obtain ⟨A1, c1, rfl, hc1, hm1⟩ := hv.form
  obtain ⟨A2, c2, rfl, hc2, hm2⟩ := hu.form
  refine (Spec.enter Try.func27 rfl fun Γ => ?_)
  simp only [Try.ntmps27, List.map_cons, List.map_nil, List.length_cons, List.length_nil, Nat.reduceAdd, Nat.reduceSub, List.replicate_succ, List.replicate_zero, List.cons_append, List.nil_append]
  first | refine XWP.reg (by kernel_rfl) fun K hK => ?_ | refine XWP.seq (XWP.reg (by kernel_rfl) fun K hK => ?_) | refine XWP.reg1 (by kernel_rfl) fun K hK => ?_
  simp only [XA, XB, gateX, Nat.reduceAdd, Nat.reduceLeDiff, Nat.reduceSub, Nat.reduceMul, ↓reduceIte, Int.reduceToNat, Int.reduceLE, beq_self_eq_true]
  refine hK _ ?_
  refine XWP.seq ?_
  first | refine XWP.reg (by kernel_rfl) fun K hK => ?_ | refine XWP.seq (XWP.reg (by kernel_rfl) fun K hK => ?_) | refine XWP.reg1 (by kernel_rfl) fun K hK => ?_
  simp only [XA, XB, gateX, Nat.reduceAdd, Nat.reduceLeDiff, Nat.reduceSub, Nat.reduceMul, ↓reduceIte, Int.reduceToNat, Int.reduceLE, beq_self_eq_true]
  refine call_go (by kernel_rfl) rfl (dright_c _ _ _ hv fP (by omega) qP) fun v1 V1 hV1 h1 => ?_
  subst h1
  cases e1 : rightP P
  · simp only [XA, XB, gateX, Nat.reduceAdd, Nat.reduceLeDiff, Nat.reduceSub, Nat.reduceMul, ↓reduceIte, Int.reduceToNat, Int.reduceLE, beq_self_eq_true]
    refine hK _ ?_
    first | refine XWP.cond (t := true) rfl (fun _ => ?_) (fun h => by cases h) | refine XWP.seq (XWP.cond (t := true) rfl (fun _ => ?_) (fun h => by cases h))
    first | refine XWP.reg (by kernel_rfl) fun K hK => ?_ | refine XWP.seq (XWP.reg (by kernel_rfl) fun K hK => ?_) | refine XWP.reg1 (by kernel_rfl) fun K hK => ?_
    simp only [XA, XB, gateX, Nat.reduceAdd, Nat.reduceLeDiff, Nat.reduceSub, Nat.reduceMul, ↓reduceIte, Int.reduceToNat, Int.reduceLE, beq_self_eq_true]
    refine hK _ (XWP.ret ?_)
    try simp only [thenX_ret, inBlockX_ret]
    refine ret_go _ rfl ?_
    have hb : bad2 P Q = true := by unfold bad2; rw [e1]; rfl
    exact ⟨fun _ => rfl, fun h => by rw [hb] at h; cases h⟩
  simp only [XA, XB, gateX, Nat.reduceAdd, Nat.reduceLeDiff, Nat.reduceSub, Nat.reduceMul, ↓reduceIte, Int.reduceToNat, Int.reduceLE, beq_self_eq_true]
  refine call_go (by kernel_rfl) rfl (dright_c _ _ _ (hu.up hV1) fQ (by omega) qQ) fun v2 V2 hV2 h2 => ?_
  subst h2
  cases e2 : rightP Q
  · simp only [XA, XB, gateX, Nat.reduceAdd, Nat.reduceLeDiff, Nat.reduceSub, Nat.reduceMul, ↓reduceIte, Int.reduceToNat, Int.reduceLE, beq_self_eq_true]
    refine hK _ ?_
    first | refine XWP.cond (t := true) rfl (fun _ => ?_) (fun h => by cases h) | refine XWP.seq (XWP.cond (t := true) rfl (fun _ => ?_) (fun h => by cases h))
    first | refine XWP.reg (by kernel_rfl) fun K hK => ?_ | refine XWP.seq (XWP.reg (by kernel_rfl) fun K hK => ?_) | refine XWP.reg1 (by kernel_rfl) fun K hK => ?_
    simp only [XA, XB, gateX, Nat.reduceAdd, Nat.reduceLeDiff, Nat.reduceSub, Nat.reduceMul, ↓reduceIte, Int.reduceToNat, Int.reduceLE, beq_self_eq_true]
    refine hK _ (XWP.ret ?_)
    try simp only [thenX_ret, inBlockX_ret]
    refine ret_go _ rfl ?_
    have hb : bad2 P Q = true := by unfold bad2; rw [e1, e2]; rfl
    exact ⟨fun _ => rfl, fun h => by rw [hb] at h; cases h⟩
  have hb : bad2 P Q = false := by unfold bad2; rw [e1, e2]; rfl
  simp only [XA, XB, gateX, Nat.reduceAdd, Nat.reduceLeDiff, Nat.reduceSub, Nat.reduceMul, ↓reduceIte, Int.reduceToNat, Int.reduceLE, beq_self_eq_true]
  refine hK _ ?_
  first | refine XWP.cond (t := false) rfl (fun h => by cases h) (fun _ => ?_) | refine XWP.seq (XWP.cond (t := false) rfl (fun h => by cases h) (fun _ => ?_))
  refine XWP.skip ?_
  obtain ⟨k1, k2, k3⟩ := rightP_parts e1
  obtain ⟨k4, k5, k6⟩ := rightP_parts e2
  have hp := (Raws.rats hv k1).up (View.le_trans hV1 hV2)
  have hq := (Raws.rats hu k4).up (View.le_trans hV1 hV2)
  obtain ⟨f1, f2⟩ := hAB hb
  first | refine XWP.reg (by kernel_rfl) fun K hK => ?_ | refine XWP.seq (XWP.reg (by kernel_rfl) fun K hK => ?_) | refine XWP.reg1 (by kernel_rfl) fun K hK => ?_
  simp only [XA, XB, gateX, Nat.reduceAdd, Nat.reduceLeDiff, Nat.reduceSub, Nat.reduceMul, ↓reduceIte, Int.reduceToNat, Int.reduceLE, beq_self_eq_true]
  refine call_go (by kernel_rfl) rfl (pone_c _) fun v3 V3 hV3 h3 => ?_
  simp only [XA, XB, gateX, Nat.reduceAdd, Nat.reduceLeDiff, Nat.reduceSub, Nat.reduceMul, ↓reduceIte, Int.reduceToNat, Int.reduceLE, beq_self_eq_true]
  refine call_go (by kernel_rfl) rfl (dsum_c _ _ _ _ (qs P) (qs Q) 1 0 A B 0 (hp.up hV3) (hq.up hV3) h3 f1 f2 (QB_one 0) (by omega) (by rw [qs_len]; omega) (by rw [qs_len]; omega)) fun v4 V4 hV4 h4 => ?_
  simp only [XA, XB, gateX, Nat.reduceAdd, Nat.reduceLeDiff, Nat.reduceSub, Nat.reduceMul, ↓reduceIte, Int.reduceToNat, Int.reduceLE, beq_self_eq_true]
  refine hK _ (XWP.ret ?_)
  try simp only [thenX_ret, inBlockX_ret]
  refine ret_go _ rfl ?_
  exact ⟨fun h => (by rw [hb] at h; cases h), fun _ => ⟨_, rfl, h4⟩⟩
theorem dMul_c (V : View) (v u : Value) (P Q : List Raw) (hv : Raws V v P) (hu : Raws V u Q) (fP : fitR P) (fQ : fitR Q) (qP : qfR P) (qQ : qfR Q) (lP : P.length ≤ 500) (lQ : Q.length ≤ 500) (A B : Nat) (hAB : bad2 P Q = false → CB A (qs P) ∧ CB B (qs Q)) (hfit : A + B + 10 + 2 ≤ 17592186044416) :
    Spec Try.prog 29 [v, u] V fun v' V' => (bad2 P Q = true → v' = .tuple #[.slice none 0 0, .int .i64 1]) ∧ (bad2 P Q = false → ∃ w, v' = .tuple #[w, .int .i64 0] ∧ Rats V' w (if P.length = 0 ∨ Q.length = 0 then [] else prodP (qs P) (qs Q))) := by
  obtain ⟨A1, c1, rfl, hc1, hm1⟩ := hv.form
  obtain ⟨A2, c2, rfl, hc2, hm2⟩ := hu.form
  refine (Spec.enter Try.func29 rfl fun Γ => ?_)
  simp only [Try.ntmps29, List.map_cons, List.map_nil, List.length_cons, List.length_nil, Nat.reduceAdd, Nat.reduceSub, List.replicate_succ, List.replicate_zero, List.cons_append, List.nil_append]
  first | refine XWP.reg (by kernel_rfl) fun K hK => ?_ | refine XWP.seq (XWP.reg (by kernel_rfl) fun K hK => ?_) | refine XWP.reg1 (by kernel_rfl) fun K hK => ?_
  simp only [XA, XB, gateX, Nat.reduceAdd, Nat.reduceLeDiff, Nat.reduceSub, Nat.reduceMul, ↓reduceIte, Int.reduceToNat, Int.reduceLE, beq_self_eq_true]
  refine hK _ ?_
  refine XWP.seq ?_
  first | refine XWP.block ?_ | refine XWP.seq (XWP.block ?_)
  first | refine XWP.reg (by kernel_rfl) fun K hK => ?_ | refine XWP.seq (XWP.reg (by kernel_rfl) fun K hK => ?_) | refine XWP.reg1 (by kernel_rfl) fun K hK => ?_
  simp only [XA, XB, gateX, Nat.reduceAdd, Nat.reduceLeDiff, Nat.reduceSub, Nat.reduceMul, ↓reduceIte, Int.reduceToNat, Int.reduceLE, beq_self_eq_true]
  refine call_go (by kernel_rfl) rfl (dright_c _ _ _ hv fP (by omega) qP) fun v1 V1 hV1 h1 => ?_
  subst h1
  cases e1 : rightP P
  · simp only [XA, XB, gateX, Nat.reduceAdd, Nat.reduceLeDiff, Nat.reduceSub, Nat.reduceMul, ↓reduceIte, Int.reduceToNat, Int.reduceLE, beq_self_eq_true]
    refine hK _ ?_
    first | refine XWP.cond (t := true) rfl (fun _ => ?_) (fun h => by cases h) | refine XWP.seq (XWP.cond (t := true) rfl (fun _ => ?_) (fun h => by cases h))
    first | refine XWP.reg (by kernel_rfl) fun K hK => ?_ | refine XWP.seq (XWP.reg (by kernel_rfl) fun K hK => ?_) | refine XWP.reg1 (by kernel_rfl) fun K hK => ?_
    simp only [XA, XB, gateX, Nat.reduceAdd, Nat.reduceLeDiff, Nat.reduceSub, Nat.reduceMul, ↓reduceIte, Int.reduceToNat, Int.reduceLE, beq_self_eq_true]
    refine hK _ (XWP.ret ?_)
    try simp only [thenX_ret, inBlockX_ret]
    refine ret_go _ rfl ?_
    have hb : bad2 P Q = true := by unfold bad2; rw [e1]; rfl
    exact ⟨fun _ => rfl, fun h => by rw [hb] at h; cases h⟩
  simp only [XA, XB, gateX, Nat.reduceAdd, Nat.reduceLeDiff, Nat.reduceSub, Nat.reduceMul, ↓reduceIte, Int.reduceToNat, Int.reduceLE, beq_self_eq_true]
  refine call_go (by kernel_rfl) rfl (dright_c _ _ _ (hu.up hV1) fQ (by omega) qQ) fun v2 V2 hV2 h2 => ?_
  subst h2
  cases e2 : rightP Q
  · simp only [XA, XB, gateX, Nat.reduceAdd, Nat.reduceLeDiff, Nat.reduceSub, Nat.reduceMul, ↓reduceIte, Int.reduceToNat, Int.reduceLE, beq_self_eq_true]
    refine hK _ ?_
    first | refine XWP.cond (t := true) rfl (fun _ => ?_) (fun h => by cases h) | refine XWP.seq (XWP.cond (t := true) rfl (fun _ => ?_) (fun h => by cases h))
    first | refine XWP.reg (by kernel_rfl) fun K hK => ?_ | refine XWP.seq (XWP.reg (by kernel_rfl) fun K hK => ?_) | refine XWP.reg1 (by kernel_rfl) fun K hK => ?_
    simp only [XA, XB, gateX, Nat.reduceAdd, Nat.reduceLeDiff, Nat.reduceSub, Nat.reduceMul, ↓reduceIte, Int.reduceToNat, Int.reduceLE, beq_self_eq_true]
    refine hK _ (XWP.ret ?_)
    try simp only [thenX_ret, inBlockX_ret]
    refine ret_go _ rfl ?_
    have hb : bad2 P Q = true := by unfold bad2; rw [e1, e2]; rfl
    exact ⟨fun _ => rfl, fun h => by rw [hb] at h; cases h⟩
  have hb : bad2 P Q = false := by unfold bad2; rw [e1, e2]; rfl
  simp only [XA, XB, gateX, Nat.reduceAdd, Nat.reduceLeDiff, Nat.reduceSub, Nat.reduceMul, ↓reduceIte, Int.reduceToNat, Int.reduceLE, beq_self_eq_true]
  refine hK _ ?_
  first | refine XWP.cond (t := false) rfl (fun h => by cases h) (fun _ => ?_) | refine XWP.seq (XWP.cond (t := false) rfl (fun h => by cases h) (fun _ => ?_))
  obtain ⟨k1, k2, k3⟩ := rightP_parts e1
  obtain ⟨k4, k5, k6⟩ := rightP_parts e2
  have hp := (Raws.rats hv k1).up (View.le_trans hV1 hV2)
  have hq := (Raws.rats hu k4).up (View.le_trans hV1 hV2)
  obtain ⟨f1, f2⟩ := hAB hb
  first | refine XWP.reg (by kernel_rfl) fun K hK => ?_ | refine XWP.seq (XWP.reg (by kernel_rfl) fun K hK => ?_) | refine XWP.reg1 (by kernel_rfl) fun K hK => ?_
  by_cases n1 : P.length = 0
  · have b1 : decide ((0 : Int) < (P.length : Int)) = false := decide_eq_false (by omega)
    have b2 : decide ((P.length : Int) = 0) = true := decide_eq_true (by omega)
    simp only [XA, XB, gateX, Nat.reduceAdd, Nat.reduceLeDiff, Nat.reduceSub, Nat.reduceMul, ↓reduceIte, Int.reduceToNat, Int.reduceLE, beq_self_eq_true, b1]
    refine hK _ ?_
    first | refine XWP.cond (t := false) rfl (fun h => by cases h) (fun _ => ?_) | refine XWP.seq (XWP.cond (t := false) rfl (fun h => by cases h) (fun _ => ?_))
    first | refine XWP.reg (by kernel_rfl) fun K hK => ?_ | refine XWP.seq (XWP.reg (by kernel_rfl) fun K hK => ?_) | refine XWP.reg1 (by kernel_rfl) fun K hK => ?_
    simp only [XA, XB, gateX, Nat.reduceAdd, Nat.reduceLeDiff, Nat.reduceSub, Nat.reduceMul, ↓reduceIte, Int.reduceToNat, Int.reduceLE, beq_self_eq_true, b2]
    refine hK _ ?_
    first | refine XWP.cond (t := true) rfl (fun _ => ?_) (fun h => by cases h) | refine XWP.seq (XWP.cond (t := true) rfl (fun _ => ?_) (fun h => by cases h))
    first | refine XWP.reg (by kernel_rfl) fun K hK => ?_ | refine XWP.seq (XWP.reg (by kernel_rfl) fun K hK => ?_) | refine XWP.reg1 (by kernel_rfl) fun K hK => ?_
    refine bs_go (by kernel_rfl) #[] (by simp) (bs_zero elemT_40 zeroT_34) fun b hb1 hb2 => ?_
    simp only [XA, XB, gateX, Nat.reduceAdd, Nat.reduceLeDiff, Nat.reduceSub, Nat.reduceMul, ↓reduceIte, Int.reduceToNat, Int.reduceLE, beq_self_eq_true]
    refine hK _ (XWP.ret ?_)
    try simp only [thenX_ret, inBlockX_ret]
    refine ret_go _ rfl ?_
    refine ⟨fun h => (by rw [hb] at h; cases h), fun _ => ⟨_, rfl, ?_⟩⟩
    rw [if_pos (.inl n1)]
    exact ⟨_, 0, rfl, Nat.le_refl _, by omega, .inl rfl⟩
  have b1 : decide ((0 : Int) < (P.length : Int)) = true := decide_eq_true (by omega)
  have b2 : decide ((P.length : Int) = 0) = false := decide_eq_false (by omega)
  by_cases n2 : Q.length = 0
  · have b3 : decide ((0 : Int) < (Q.length : Int)) = false := decide_eq_false (by omega)
    have b4 : decide ((Q.length : Int) = 0) = true := decide_eq_true (by omega)
    simp only [XA, XB, gateX, Nat.reduceAdd, Nat.reduceLeDiff, Nat.reduceSub, Nat.reduceMul, ↓reduceIte, Int.reduceToNat, Int.reduceLE, beq_self_eq_true, b1, b3]
    refine hK _ ?_
    first | refine XWP.cond (t := false) rfl (fun h => by cases h) (fun _ => ?_) | refine XWP.seq (XWP.cond (t := false) rfl (fun h => by cases h) (fun _ => ?_))
    first | refine XWP.reg (by kernel_rfl) fun K hK => ?_ | refine XWP.seq (XWP.reg (by kernel_rfl) fun K hK => ?_) | refine XWP.reg1 (by kernel_rfl) fun K hK => ?_
    simp only [XA, XB, gateX, Nat.reduceAdd, Nat.reduceLeDiff, Nat.reduceSub, Nat.reduceMul, ↓reduceIte, Int.reduceToNat, Int.reduceLE, beq_self_eq_true, b2, b4]
    refine hK _ ?_
    first | refine XWP.cond (t := true) rfl (fun _ => ?_) (fun h => by cases h) | refine XWP.seq (XWP.cond (t := true) rfl (fun _ => ?_) (fun h => by cases h))
    first | refine XWP.reg (by kernel_rfl) fun K hK => ?_ | refine XWP.seq (XWP.reg (by kernel_rfl) fun K hK => ?_) | refine XWP.reg1 (by kernel_rfl) fun K hK => ?_
    refine bs_go (by kernel_rfl) #[] (by simp) (bs_zero elemT_40 zeroT_34) fun b hb1 hb2 => ?_
    simp only [XA, XB, gateX, Nat.reduceAdd, Nat.reduceLeDiff, Nat.reduceSub, Nat.reduceMul, ↓reduceIte, Int.reduceToNat, Int.reduceLE, beq_self_eq_true]
    refine hK _ (XWP.ret ?_)
    try simp only [thenX_ret, inBlockX_ret]
    refine ret_go _ rfl ?_
    refine ⟨fun h => (by rw [hb] at h; cases h), fun _ => ⟨_, rfl, ?_⟩⟩
    rw [if_pos (.inr n2)]
    exact ⟨_, 0, rfl, Nat.le_refl _, by omega, .inl rfl⟩
  have b3 : decide ((0 : Int) < (Q.length : Int)) = true := decide_eq_true (by omega)
  have b4 : decide ((Q.length : Int) = 0) = false := decide_eq_false (by omega)
  have w1 := i64_add P.length Q.length (by omega)
  have w2 := i64_pred (P.length + Q.length) (by omega) (by omega)
  have b5 : decide ((1000 : Int) < ((P.length + Q.length - 1 : Nat) : Int)) = false := decide_eq_false (by omega)
  simp only [XA, XB, gateX, Nat.reduceAdd, Nat.reduceLeDiff, Nat.reduceSub, Nat.reduceMul, ↓reduceIte, Int.reduceToNat, Int.reduceLE, beq_self_eq_true, b1, b3, w1, w2, b5]
  refine hK _ ?_
  first | refine XWP.cond (t := false) rfl (fun h => by cases h) (fun _ => ?_) | refine XWP.seq (XWP.cond (t := false) rfl (fun h => by cases h) (fun _ => ?_))
  first | refine XWP.reg (by kernel_rfl) fun K hK => ?_ | refine XWP.seq (XWP.reg (by kernel_rfl) fun K hK => ?_) | refine XWP.reg1 (by kernel_rfl) fun K hK => ?_
  simp only [XA, XB, gateX, Nat.reduceAdd, Nat.reduceLeDiff, Nat.reduceSub, Nat.reduceMul, ↓reduceIte, Int.reduceToNat, Int.reduceLE, beq_self_eq_true, b2, b4]
  refine hK _ ?_
  first | refine XWP.cond (t := false) rfl (fun h => by cases h) (fun _ => ?_) | refine XWP.seq (XWP.cond (t := false) rfl (fun h => by cases h) (fun _ => ?_))
  refine XWP.skip ?_
  first | refine XWP.reg (by kernel_rfl) fun K hK => ?_ | refine XWP.seq (XWP.reg (by kernel_rfl) fun K hK => ?_) | refine XWP.reg1 (by kernel_rfl) fun K hK => ?_
  simp only [XA, XB, gateX, Nat.reduceAdd, Nat.reduceLeDiff, Nat.reduceSub, Nat.reduceMul, ↓reduceIte, Int.reduceToNat, Int.reduceLE, beq_self_eq_true]
  refine call_go (by kernel_rfl) rfl (dprod_c _ _ _ (qs P) (qs Q) A B 10 hp hq f1 f2 (by rw [qs_len, qs_len]; omega) (by rw [qs_len, qs_len]; omega) hfit (by rw [qs_len, qs_len]; omega)) fun v4 V4 hV4 h4 => ?_
  simp only [XA, XB, gateX, Nat.reduceAdd, Nat.reduceLeDiff, Nat.reduceSub, Nat.reduceMul, ↓reduceIte, Int.reduceToNat, Int.reduceLE, beq_self_eq_true]
  refine hK _ (XWP.ret ?_)
  try simp only [thenX_ret, inBlockX_ret]
  refine ret_go _ rfl ?_
  refine ⟨fun h => (by rw [hb] at h; cases h), fun _ => ⟨_, rfl, ?_⟩⟩
  rw [if_neg (by omega)]; exact h4
theorem dDiv_c (V : View) (v u : Value) (P Q : List Raw) (hv : Raws V v P) (hu : Raws V u Q) (fP : fitR P) (fQ : fitR Q) (qP : qfR P) (qQ : qfR Q) (lP : P.length ≤ 500) (lQ : Q.length ≤ 500) (A B : Nat) (hAB : bad2 P Q = false → CB A (qs P) ∧ CB B (qs Q)) (hfit : 2 ^ (P.length - Q.length + 1) * (A + 2 * B + 2) ≤ 17592186044416) :
    Spec Try.prog 22 [v, u] V fun v' V' => (bad2 P Q = true → v' = .tuple #[.slice none 0 0, .slice none 0 0, .int .i64 1]) ∧ (bad2 P Q = false → Q.length = 0 → v' = .tuple #[.slice none 0 0, .slice none 0 0, .int .i64 31]) ∧ (bad2 P Q = false → Q.length ≠ 0 → ∃ wq wr, v' = .tuple #[wq, wr, .int .i64 0] ∧ Rats V' wq (partP (qs P) (qs Q)).1 ∧ Rats V' wr (partP (qs P) (qs Q)).2 ∧ CB (2 ^ (P.length - Q.length + 1) * (A + 2 * B + 2)) (partP (qs P) (qs Q)).2 ∧ CB (2 ^ (P.length - Q.length + 1) * (A + 2 * B + 2)) (partP (qs P) (qs Q)).1) := by
  obtain ⟨A1, c1, rfl, hc1, hm1⟩ := hv.form
  obtain ⟨A2, c2, rfl, hc2, hm2⟩ := hu.form
  refine (Spec.enter Try.func22 rfl fun Γ => ?_)
  simp only [Try.ntmps22, List.map_cons, List.map_nil, List.length_cons, List.length_nil, Nat.reduceAdd, Nat.reduceSub, List.replicate_succ, List.replicate_zero, List.cons_append, List.nil_append]
  first | refine XWP.reg (by kernel_rfl) fun K hK => ?_ | refine XWP.seq (XWP.reg (by kernel_rfl) fun K hK => ?_) | refine XWP.reg1 (by kernel_rfl) fun K hK => ?_
  simp only [XA, XB, gateX, Nat.reduceAdd, Nat.reduceLeDiff, Nat.reduceSub, Nat.reduceMul, ↓reduceIte, Int.reduceToNat, Int.reduceLE, beq_self_eq_true]
  refine hK _ ?_
  refine XWP.seq ?_
  first | refine XWP.block ?_ | refine XWP.seq (XWP.block ?_)
  first | refine XWP.reg (by kernel_rfl) fun K hK => ?_ | refine XWP.seq (XWP.reg (by kernel_rfl) fun K hK => ?_) | refine XWP.reg1 (by kernel_rfl) fun K hK => ?_
  simp only [XA, XB, gateX, Nat.reduceAdd, Nat.reduceLeDiff, Nat.reduceSub, Nat.reduceMul, ↓reduceIte, Int.reduceToNat, Int.reduceLE, beq_self_eq_true]
  refine call_go (by kernel_rfl) rfl (dright_c _ _ _ hv fP (by omega) qP) fun v1 V1 hV1 h1 => ?_
  subst h1
  cases e1 : rightP P
  · simp only [XA, XB, gateX, Nat.reduceAdd, Nat.reduceLeDiff, Nat.reduceSub, Nat.reduceMul, ↓reduceIte, Int.reduceToNat, Int.reduceLE, beq_self_eq_true]
    refine hK _ ?_
    first | refine XWP.cond (t := true) rfl (fun _ => ?_) (fun h => by cases h) | refine XWP.seq (XWP.cond (t := true) rfl (fun _ => ?_) (fun h => by cases h))
    first | refine XWP.reg (by kernel_rfl) fun K hK => ?_ | refine XWP.seq (XWP.reg (by kernel_rfl) fun K hK => ?_) | refine XWP.reg1 (by kernel_rfl) fun K hK => ?_
    simp only [XA, XB, gateX, Nat.reduceAdd, Nat.reduceLeDiff, Nat.reduceSub, Nat.reduceMul, ↓reduceIte, Int.reduceToNat, Int.reduceLE, beq_self_eq_true]
    refine hK _ (XWP.ret ?_)
    try simp only [thenX_ret, inBlockX_ret]
    refine ret_go _ rfl ?_
    have hb : bad2 P Q = true := by unfold bad2; rw [e1]; rfl
    exact ⟨fun _ => rfl, fun h => (by rw [hb] at h; cases h), fun h => by rw [hb] at h; cases h⟩
  simp only [XA, XB, gateX, Nat.reduceAdd, Nat.reduceLeDiff, Nat.reduceSub, Nat.reduceMul, ↓reduceIte, Int.reduceToNat, Int.reduceLE, beq_self_eq_true]
  refine call_go (by kernel_rfl) rfl (dright_c _ _ _ (hu.up hV1) fQ (by omega) qQ) fun v2 V2 hV2 h2 => ?_
  subst h2
  cases e2 : rightP Q
  · simp only [XA, XB, gateX, Nat.reduceAdd, Nat.reduceLeDiff, Nat.reduceSub, Nat.reduceMul, ↓reduceIte, Int.reduceToNat, Int.reduceLE, beq_self_eq_true]
    refine hK _ ?_
    first | refine XWP.cond (t := true) rfl (fun _ => ?_) (fun h => by cases h) | refine XWP.seq (XWP.cond (t := true) rfl (fun _ => ?_) (fun h => by cases h))
    first | refine XWP.reg (by kernel_rfl) fun K hK => ?_ | refine XWP.seq (XWP.reg (by kernel_rfl) fun K hK => ?_) | refine XWP.reg1 (by kernel_rfl) fun K hK => ?_
    simp only [XA, XB, gateX, Nat.reduceAdd, Nat.reduceLeDiff, Nat.reduceSub, Nat.reduceMul, ↓reduceIte, Int.reduceToNat, Int.reduceLE, beq_self_eq_true]
    refine hK _ (XWP.ret ?_)
    try simp only [thenX_ret, inBlockX_ret]
    refine ret_go _ rfl ?_
    have hb : bad2 P Q = true := by unfold bad2; rw [e1, e2]; rfl
    exact ⟨fun _ => rfl, fun h => (by rw [hb] at h; cases h), fun h => by rw [hb] at h; cases h⟩
  have hb : bad2 P Q = false := by unfold bad2; rw [e1, e2]; rfl
  simp only [XA, XB, gateX, Nat.reduceAdd, Nat.reduceLeDiff, Nat.reduceSub, Nat.reduceMul, ↓reduceIte, Int.reduceToNat, Int.reduceLE, beq_self_eq_true]
  refine hK _ ?_
  first | refine XWP.cond (t := false) rfl (fun h => by cases h) (fun _ => ?_) | refine XWP.seq (XWP.cond (t := false) rfl (fun h => by cases h) (fun _ => ?_))
  obtain ⟨k1, k2, k3⟩ := rightP_parts e1
  obtain ⟨k4, k5, k6⟩ := rightP_parts e2
  have hp := (Raws.rats hv k1).up (View.le_trans hV1 hV2)
  have hq := (Raws.rats hu k4).up (View.le_trans hV1 hV2)
  obtain ⟨f1, f2⟩ := hAB hb
  by_cases n2 : Q.length = 0
  · have b2 : decide ((Q.length : Int) = 0) = true := decide_eq_true (by omega)
    first | refine XWP.reg (by kernel_rfl) fun K hK => ?_ | refine XWP.seq (XWP.reg (by kernel_rfl) fun K hK => ?_) | refine XWP.reg1 (by kernel_rfl) fun K hK => ?_
    simp only [XA, XB, gateX, Nat.reduceAdd, Nat.reduceLeDiff, Nat.reduceSub, Nat.reduceMul, ↓reduceIte, Int.reduceToNat, Int.reduceLE, beq_self_eq_true, b2]
    refine hK _ ?_
    first | refine XWP.cond (t := true) rfl (fun _ => ?_) (fun h => by cases h) | refine XWP.seq (XWP.cond (t := true) rfl (fun _ => ?_) (fun h => by cases h))
    first | refine XWP.reg (by kernel_rfl) fun K hK => ?_ | refine XWP.seq (XWP.reg (by kernel_rfl) fun K hK => ?_) | refine XWP.reg1 (by kernel_rfl) fun K hK => ?_
    simp only [XA, XB, gateX, Nat.reduceAdd, Nat.reduceLeDiff, Nat.reduceSub, Nat.reduceMul, ↓reduceIte, Int.reduceToNat, Int.reduceLE, beq_self_eq_true]
    refine hK _ (XWP.ret ?_)
    try simp only [thenX_ret, inBlockX_ret]
    refine ret_go _ rfl ?_
    exact ⟨fun h => (by rw [hb] at h; cases h), fun _ _ => rfl, fun _ h => absurd n2 h⟩
  have b2 : decide ((Q.length : Int) = 0) = false := decide_eq_false (by omega)
  first | refine XWP.reg (by kernel_rfl) fun K hK => ?_ | refine XWP.seq (XWP.reg (by kernel_rfl) fun K hK => ?_) | refine XWP.reg1 (by kernel_rfl) fun K hK => ?_
  simp only [XA, XB, gateX, Nat.reduceAdd, Nat.reduceLeDiff, Nat.reduceSub, Nat.reduceMul, ↓reduceIte, Int.reduceToNat, Int.reduceLE, beq_self_eq_true, b2]
  refine hK _ ?_
  first | refine XWP.cond (t := false) rfl (fun h => by cases h) (fun _ => ?_) | refine XWP.seq (XWP.cond (t := false) rfl (fun h => by cases h) (fun _ => ?_))
  refine XWP.skip ?_
  have hl := k5 (by rw [qs_len]; omega)
  first | refine XWP.reg (by kernel_rfl) fun K hK => ?_ | refine XWP.seq (XWP.reg (by kernel_rfl) fun K hK => ?_) | refine XWP.reg1 (by kernel_rfl) fun K hK => ?_
  simp only [XA, XB, gateX, Nat.reduceAdd, Nat.reduceLeDiff, Nat.reduceSub, Nat.reduceMul, ↓reduceIte, Int.reduceToNat, Int.reduceLE, beq_self_eq_true]
  refine call_go (by kernel_rfl) rfl (dpart_c _ _ _ (qs P) (qs Q) A B hp hq f1 f2 (by rw [qs_len]; omega) hl (by rw [qs_len, qs_len]; exact hfit) (by rw [qs_len]; omega) (by rw [qs_len]; omega)) fun v4 V4 hV4 h4 => ?_
  obtain ⟨wq, wr, rfl, h5, h6, h7, h8⟩ := h4
  simp only [XA, XB, gateX, Nat.reduceAdd, Nat.reduceLeDiff, Nat.reduceSub, Nat.reduceMul, ↓reduceIte, Int.reduceToNat, Int.reduceLE, beq_self_eq_true]
  refine hK _ ?_
  first | refine XWP.reg (by kernel_rfl) fun K hK => ?_ | refine XWP.seq (XWP.reg (by kernel_rfl) fun K hK => ?_) | refine XWP.reg1 (by kernel_rfl) fun K hK => ?_
  simp only [XA, XB, gateX, Nat.reduceAdd, Nat.reduceLeDiff, Nat.reduceSub, Nat.reduceMul, ↓reduceIte, Int.reduceToNat, Int.reduceLE, beq_self_eq_true]
  refine hK _ (XWP.ret ?_)
  try simp only [thenX_ret, inBlockX_ret]
  refine ret_go _ rfl ?_
  rw [qs_len, qs_len] at h7 h8
  exact ⟨fun h => (by rw [hb] at h; cases h), fun _ h => absurd h n2, fun _ _ => ⟨_, _, rfl, h5, h6, h7, h8⟩⟩
theorem dCommon_c (V : View) (v u : Value) (P Q : List Raw) (hv : Raws V v P) (hu : Raws V u Q) (fP : fitR P) (fQ : fitR Q) (qP : qfR P) (qQ : qfR Q) (lP : P.length ≤ 500) (lQ : Q.length ≤ 500) (M : Nat) (hAB : bad2 P Q = false → CB M (qs P) ∧ CB M (qs Q)) (hfit : comFit P.length Q.length M) (hM : 2 * (M + 1) ≤ 17592186044416) :
    Spec Try.prog 24 [v, u] V fun v' V' => (bad2 P Q = true → v' = .tuple #[.slice none 0 0, .int .i64 1]) ∧ (bad2 P Q = false → P.length = 0 ∧ Q.length = 0 → v' = .tuple #[.slice none 0 0, .int .i64 31]) ∧ (bad2 P Q = false → ¬ (P.length = 0 ∧ Q.length = 0) → ∃ w, v' = .tuple #[w, .int .i64 0] ∧ Rats V' w (comRP (qs P) (qs Q)) ∧ CB 17592186044416 (comRP (qs P) (qs Q))) := by
  obtain ⟨A1, c1, rfl, hc1, hm1⟩ := hv.form
  obtain ⟨A2, c2, rfl, hc2, hm2⟩ := hu.form
  refine (Spec.enter Try.func24 rfl fun Γ => ?_)
  simp only [Try.ntmps24, List.map_cons, List.map_nil, List.length_cons, List.length_nil, Nat.reduceAdd, Nat.reduceSub, List.replicate_succ, List.replicate_zero, List.cons_append, List.nil_append]
  first | refine XWP.reg (by kernel_rfl) fun K hK => ?_ | refine XWP.seq (XWP.reg (by kernel_rfl) fun K hK => ?_) | refine XWP.reg1 (by kernel_rfl) fun K hK => ?_
  simp only [XA, XB, gateX, Nat.reduceAdd, Nat.reduceLeDiff, Nat.reduceSub, Nat.reduceMul, ↓reduceIte, Int.reduceToNat, Int.reduceLE, beq_self_eq_true]
  refine hK _ ?_
  refine XWP.seq ?_
  first | refine XWP.block ?_ | refine XWP.seq (XWP.block ?_)
  first | refine XWP.reg (by kernel_rfl) fun K hK => ?_ | refine XWP.seq (XWP.reg (by kernel_rfl) fun K hK => ?_) | refine XWP.reg1 (by kernel_rfl) fun K hK => ?_
  simp only [XA, XB, gateX, Nat.reduceAdd, Nat.reduceLeDiff, Nat.reduceSub, Nat.reduceMul, ↓reduceIte, Int.reduceToNat, Int.reduceLE, beq_self_eq_true]
  refine call_go (by kernel_rfl) rfl (dright_c _ _ _ hv fP (by omega) qP) fun v1 V1 hV1 h1 => ?_
  subst h1
  cases e1 : rightP P
  · simp only [XA, XB, gateX, Nat.reduceAdd, Nat.reduceLeDiff, Nat.reduceSub, Nat.reduceMul, ↓reduceIte, Int.reduceToNat, Int.reduceLE, beq_self_eq_true]
    refine hK _ ?_
    first | refine XWP.cond (t := true) rfl (fun _ => ?_) (fun h => by cases h) | refine XWP.seq (XWP.cond (t := true) rfl (fun _ => ?_) (fun h => by cases h))
    first | refine XWP.reg (by kernel_rfl) fun K hK => ?_ | refine XWP.seq (XWP.reg (by kernel_rfl) fun K hK => ?_) | refine XWP.reg1 (by kernel_rfl) fun K hK => ?_
    simp only [XA, XB, gateX, Nat.reduceAdd, Nat.reduceLeDiff, Nat.reduceSub, Nat.reduceMul, ↓reduceIte, Int.reduceToNat, Int.reduceLE, beq_self_eq_true]
    refine hK _ (XWP.ret ?_)
    try simp only [thenX_ret, inBlockX_ret]
    refine ret_go _ rfl ?_
    have hb : bad2 P Q = true := by unfold bad2; rw [e1]; rfl
    exact ⟨fun _ => rfl, fun h => (by rw [hb] at h; cases h), fun h => by rw [hb] at h; cases h⟩
  simp only [XA, XB, gateX, Nat.reduceAdd, Nat.reduceLeDiff, Nat.reduceSub, Nat.reduceMul, ↓reduceIte, Int.reduceToNat, Int.reduceLE, beq_self_eq_true]
  refine call_go (by kernel_rfl) rfl (dright_c _ _ _ (hu.up hV1) fQ (by omega) qQ) fun v2 V2 hV2 h2 => ?_
  subst h2
  cases e2 : rightP Q
  · simp only [XA, XB, gateX, Nat.reduceAdd, Nat.reduceLeDiff, Nat.reduceSub, Nat.reduceMul, ↓reduceIte, Int.reduceToNat, Int.reduceLE, beq_self_eq_true]
    refine hK _ ?_
    first | refine XWP.cond (t := true) rfl (fun _ => ?_) (fun h => by cases h) | refine XWP.seq (XWP.cond (t := true) rfl (fun _ => ?_) (fun h => by cases h))
    first | refine XWP.reg (by kernel_rfl) fun K hK => ?_ | refine XWP.seq (XWP.reg (by kernel_rfl) fun K hK => ?_) | refine XWP.reg1 (by kernel_rfl) fun K hK => ?_
    simp only [XA, XB, gateX, Nat.reduceAdd, Nat.reduceLeDiff, Nat.reduceSub, Nat.reduceMul, ↓reduceIte, Int.reduceToNat, Int.reduceLE, beq_self_eq_true]
    refine hK _ (XWP.ret ?_)
    try simp only [thenX_ret, inBlockX_ret]
    refine ret_go _ rfl ?_
    have hb : bad2 P Q = true := by unfold bad2; rw [e1, e2]; rfl
    exact ⟨fun _ => rfl, fun h => (by rw [hb] at h; cases h), fun h => by rw [hb] at h; cases h⟩
  have hb : bad2 P Q = false := by unfold bad2; rw [e1, e2]; rfl
  simp only [XA, XB, gateX, Nat.reduceAdd, Nat.reduceLeDiff, Nat.reduceSub, Nat.reduceMul, ↓reduceIte, Int.reduceToNat, Int.reduceLE, beq_self_eq_true]
  refine hK _ ?_
  first | refine XWP.cond (t := false) rfl (fun h => by cases h) (fun _ => ?_) | refine XWP.seq (XWP.cond (t := false) rfl (fun h => by cases h) (fun _ => ?_))
  obtain ⟨k1, k2, k3⟩ := rightP_parts e1
  obtain ⟨k4, k5, k6⟩ := rightP_parts e2
  have hp := (Raws.rats hv k1).up (View.le_trans hV1 hV2)
  have hq := (Raws.rats hu k4).up (View.le_trans hV1 hV2)
  obtain ⟨f1, f2⟩ := hAB hb
  refine XWP.post (fun s => StIs (fun τ => [.v (.slice A1 P.length c1), .v (.slice A2 Q.length c2), τ 2, τ 3, τ 4, τ 5, τ 6, τ 7, τ 8, τ 9, τ 10, τ 11, τ 12, τ 13, τ 14, τ 15, τ 16, τ 17, τ 18, τ 19, τ 20, τ 21, τ 22, τ 23, τ 24, τ 25, τ 26]) [] (fun _ => none) V2 s ∧ ¬ (P.length = 0 ∧ Q.length = 0)) ?_ ?_
  · first | refine XWP.reg (by kernel_rfl) fun K hK => ?_ | refine XWP.seq (XWP.reg (by kernel_rfl) fun K hK => ?_) | refine XWP.reg1 (by kernel_rfl) fun K hK => ?_
    by_cases n1 : P.length = 0
    · have b1 : decide ((P.length : Int) = 0) = true := decide_eq_true (by omega)
      by_cases n2 : Q.length = 0
      · have b2 : decide ((Q.length : Int) = 0) = true := decide_eq_true (by omega)
        simp only [XA, XB, gateX, Nat.reduceAdd, Nat.reduceLeDiff, Nat.reduceSub, Nat.reduceMul, ↓reduceIte, Int.reduceToNat, Int.reduceLE, beq_self_eq_true, b1, b2]
        refine hK _ ?_
        first | refine XWP.cond (t := true) rfl (fun _ => ?_) (fun h => by cases h) | refine XWP.seq (XWP.cond (t := true) rfl (fun _ => ?_) (fun h => by cases h))
        first | refine XWP.reg (by kernel_rfl) fun K hK => ?_ | refine XWP.seq (XWP.reg (by kernel_rfl) fun K hK => ?_) | refine XWP.reg1 (by kernel_rfl) fun K hK => ?_
        simp only [XA, XB, gateX, Nat.reduceAdd, Nat.reduceLeDiff, Nat.reduceSub, Nat.reduceMul, ↓reduceIte, Int.reduceToNat, Int.reduceLE, beq_self_eq_true]
        refine hK _ (XWP.ret ?_)
        try simp only [thenX_ret, inBlockX_ret]
        refine ret_go _ rfl ?_
        exact ⟨fun h => (by rw [hb] at h; cases h), fun _ _ => rfl, fun _ h => absurd ⟨n1, n2⟩ h⟩
      · have b2 : decide ((Q.length : Int) = 0) = false := decide_eq_false (by omega)
        simp only [XA, XB, gateX, Nat.reduceAdd, Nat.reduceLeDiff, Nat.reduceSub, Nat.reduceMul, ↓reduceIte, Int.reduceToNat, Int.reduceLE, beq_self_eq_true, b1, b2]
        refine hK _ ?_
        first | refine XWP.cond (t := false) rfl (fun h => by cases h) (fun _ => ?_) | refine XWP.seq (XWP.cond (t := false) rfl (fun h => by cases h) (fun _ => ?_))
        refine XWP.skip ?_
        exact ⟨StIs.of (by exact rfl), fun h => n2 h.2⟩
    · have b1 : decide ((P.length : Int) = 0) = false := decide_eq_false (by omega)
      simp only [XA, XB, gateX, Nat.reduceAdd, Nat.reduceLeDiff, Nat.reduceSub, Nat.reduceMul, ↓reduceIte, Int.reduceToNat, Int.reduceLE, beq_self_eq_true, b1]
      refine hK _ ?_
      first | refine XWP.cond (t := false) rfl (fun h => by cases h) (fun _ => ?_) | refine XWP.seq (XWP.cond (t := false) rfl (fun h => by cases h) (fun _ => ?_))
      refine XWP.skip ?_
      exact ⟨StIs.of (by exact rfl), fun h => n1 h.1⟩
  rintro s ⟨hs, hne⟩
  obtain ⟨z, rfl⟩ := hs.out
  try dsimp only
  show XWP _ _ _ _ _
  first | refine XWP.reg (by kernel_rfl) fun K hK => ?_ | refine XWP.seq (XWP.reg (by kernel_rfl) fun K hK => ?_) | refine XWP.reg1 (by kernel_rfl) fun K hK => ?_
  simp only [XA, XB, gateX, Nat.reduceAdd, Nat.reduceLeDiff, Nat.reduceSub, Nat.reduceMul, ↓reduceIte, Int.reduceToNat, Int.reduceLE, beq_self_eq_true]
  refine call_go (by kernel_rfl) rfl (dcommon_c _ _ _ (qs P) (qs Q) M hp hq k2 k5 f1 f2 (by rw [qs_len]; omega) (by rw [qs_len]; omega) (by rw [qs_len, qs_len]; exact hfit) hM (by rw [qs_len, qs_len]; exact hne)) fun v4 V4 hV4 h4 => ?_
  simp only [XA, XB, gateX, Nat.reduceAdd, Nat.reduceLeDiff, Nat.reduceSub, Nat.reduceMul, ↓reduceIte, Int.reduceToNat, Int.reduceLE, beq_self_eq_true]
  refine hK _ (XWP.ret ?_)
  try simp only [thenX_ret, inBlockX_ret]
  refine ret_go _ rfl ?_
  exact ⟨fun h => (by rw [hb] at h; cases h), fun _ h => absurd h hne, fun _ _ => ⟨_, rfl, h4.1, h4.2⟩⟩
end Go.Proofs.Ythoboehbadmlmaa
end
section
namespace Go.Proofs.Ythoboehbadmlmaa
set_option linter.unusedVariables false
theorem pAdd_nil (p : List Rat) : pAdd p [] 1 0 = trimQ p := by
  refine PolQ.ext (pAdd_pol _ _ _ _) (trimQ_pol _) fun i => ?_
  rw [cf_pAdd, cf_trimQ]
  unfold pAt
  rw [if_pos (Nat.zero_le _), cf_none (l := []) (by simp), Rat.zero_mul, Rat.add_zero]
theorem div_part_rest (q : List Rat) : ∀ (n : Nat) (rest out quo : List Rat), (divF q n rest out).2 = (partF q n quo rest).2 := by
  intro n
  induction n with
  | zero => intro rest out quo; rfl
  | succ n ih =>
    intro rest out quo
    rw [divF, partF]
    split
    · exact ih _ _ _
    · rfl
theorem cf_set (l : List Rat) (k : Nat) (x : Rat) (i : Nat) (hk : k < l.length) : cf (l.set k x) i = if i = k then x else cf l i := by
  unfold cf
  simp only [List.getD_eq_getElem?_getD]
  by_cases e : i = k
  · subst e; rw [List.getElem?_set_self hk, if_pos rfl]; rfl
  · rw [List.getElem?_set_ne (fun h => e h.symm), if_neg e]
theorem cf_one (i : Nat) : cf [1] i = if i = 0 then 1 else 0 := by
  cases i with
  | zero => rfl
  | succ i => rw [cf_none (by simp)]; rfl
theorem div_part_quo {q : List Rat} (hq : 0 < q.length) (hl : cf q (q.length - 1) ≠ 0) : ∀ (n : Nat) (rest out quo : List Rat), PolQ quo → (∀ i, cf out i = cf quo i) → (∀ i, i + q.length ≤ rest.length → cf out i = 0) → (q.length ≤ rest.length → rest.length - q.length < out.length) → trimQ (divF q n rest out).1 = (partF q n quo rest).1 := by
  intro n
  induction n with
  | zero =>
    intro rest out quo hp h1 _ _
    exact PolQ.ext (trimQ_pol _) hp fun i => by rw [cf_trimQ]; exact h1 i
  | succ n ih =>
    intro rest out quo hp h1 h2 h3
    rw [divF, partF]
    split
    · rename_i hle
      have hlt := div_less hq hl hle
      refine ih _ _ _ (pAdd_pol _ _ _ _) (fun i => ?_) (fun i hi => ?_) (fun h => by rw [List.length_set]; have := h3 hle; omega)
      · rw [cf_set _ _ _ _ (h3 hle), cf_pAdd]
        unfold pAt
        by_cases e : i = rest.length - q.length
        · rw [if_pos e, if_pos (by omega), ← h1 i, h2 i (by omega), cf_one, if_pos (by omega), Rat.one_mul, Rat.zero_add]
        · rw [if_neg e, h1 i]
          split
          · rw [cf_one, if_neg (by omega), Rat.zero_mul, Rat.add_zero]
          · rw [Rat.add_zero]
      · rw [cf_set _ _ _ _ (h3 hle), if_neg (by omega)]
        exact h2 i (by omega)
    · exact PolQ.ext (trimQ_pol _) hp fun i => by rw [cf_trimQ]; exact h1 i
theorem cf_replicate (n i : Nat) : cf (List.replicate n 0) i = 0 := by
  unfold cf
  simp only [List.getD_eq_getElem?_getD, List.getElem?_replicate]
  split <;> rfl
/-- the two quotients -/
theorem div_part {p q : List Rat} (hq : 0 < q.length) (hl : cf q (q.length - 1) ≠ 0) : divP p q = partP p q := by
  unfold divP partP
  dsimp only
  rw [pAdd_nil]
  refine Prod.ext ?_ ?_
  · refine div_part_quo hq hl _ _ _ _ (fun h => by simp at h) (fun i => ?_) (fun i _ => ?_) (fun h => ?_)
    · split
      · rw [cf_replicate, cf_none (by simp)]
      · rfl
    · split
      · exact cf_replicate _ _
      · exact cf_none (by simp)
    · rw [if_pos h]; simp
  · exact div_part_rest q _ _ _ _
theorem top_scaled {q : List Rat} (hq : PolQ q) (h0 : 0 < q.length) (rest : List Rat) (k : Nat) : pAdd rest (scaledP q) (-topQ rest (scaledP q)) k = pAdd rest q (-topQ rest q) k := by
  refine PolQ.ext (pAdd_pol _ _ _ _) (pAdd_pol _ _ _ _) fun i => ?_
  rw [cf_pAdd, cf_pAdd]
  unfold pAt
  congr 1
  split
  · rw [cf_scaledP]
    unfold topQ
    rw [scaledP_last hq h0]
    simp only [Rat.div_def]
    have : (1 : Rat)⁻¹ = 1 := Rat.inv_eq_of_mul_eq_one (Rat.mul_one 1)
    rw [this]
    grind
  · rfl
theorem scaled_rest {q : List Rat} (hq : PolQ q) (h0 : 0 < q.length) : ∀ (n : Nat) (rest out quo : List Rat), (divF (scaledP q) n rest out).2 = (partF q n quo rest).2 := by
  intro n
  induction n with
  | zero => intro rest out quo; rfl
  | succ n ih =>
    intro rest out quo
    rw [divF, partF, scaledP_len hq]
    split
    · rw [top_scaled hq h0]; exact ih _ _ _
    · rfl
theorem com_rest {p q : List Rat} (hq : PolQ q) (h0 : 0 < q.length) : (divP p (scaledP q)).2 = (partP p q).2 := by
  unfold divP partP
  dsimp only
  rw [pAdd_nil]
  exact scaled_rest hq h0 _ _ _ _
theorem com_same : ∀ (n : Nat) (p q : List Rat), PolQ q → comF n p q = comR n p q := by
  intro n
  induction n with
  | zero => intro p q _; rfl
  | succ n ih =>
    intro p q hq
    rw [comF, comR]
    split
    · rename_i h0
      rw [com_rest hq h0]
      exact ih _ _ (partP_rest hq h0).2
    · rfl
theorem comP_same {p q : List Rat} (hq : PolQ q) : comP p q = comRP p q := by unfold comP comRP; rw [com_same _ _ _ hq]

/-! the product -/
/-- the sum of the products that meet at a place -/
def meet (p q : List Rat) (i : Nat) : Nat → Rat
  | 0 => 0
  | k + 1 => meet p q i k + if k ≤ i then cf p k * cf q (i - k) else 0
theorem mul_meet (p q : List Rat) (i k : Nat) : cf (mulI p q k) i = meet p q i k := by
  induction k with
  | zero => exact cf_none (by simp [mulI])
  | succ k ih =>
    rw [mulI, meet]
    split
    · rename_i h
      rw [ih, h]
      split
      · rw [Rat.zero_mul, Rat.add_zero]
      · rw [Rat.add_zero]
    · rw [cf_pAdd]
      unfold pAt
      rw [ih]
      congr 1
      split
      · rw [Rat.mul_comm]
      · rfl
theorem off_meet (p q : List Rat) (i k : Nat) (hk : k ≤ i + 1) : offS q p i k = meet p q i k := by
  induction k with
  | zero => rfl
  | succ k ih => rw [offS, meet, ih (by omega), if_pos (by omega)]
theorem meet_more (p q : List Rat) (i : Nat) {k m : Nat} (hk : k ≤ m) (h : ∀ j, k ≤ j → j < m → i < j ∨ p.length ≤ j) : meet p q i m = meet p q i k := by
  induction m with
  | zero => have : k = 0 := by omega
            rw [this]
  | succ m ih =>
    rcases Nat.eq_or_lt_of_le hk with e | e
    · rw [e]
    · rw [meet, ih (by omega) fun j h1 h2 => h j h1 (by omega)]
      have : (if m ≤ i then cf p m * cf q (i - m) else 0) = 0 := by
        split
        · rcases h m (by omega) (by omega) with h1 | h1
          · omega
          · rw [cf_none h1, Rat.zero_mul]
        · rfl
      rw [this, Rat.add_zero]
theorem meet_all (p q : List Rat) (i : Nat) : meet p q i p.length = meet p q i (i + 1) := by
  rcases Nat.le_total p.length (i + 1) with h | h
  · exact (meet_more p q i h fun j h1 _ => .inr h1).symm
  · exact meet_more p q i h fun j h1 _ => .inl (by omega)
theorem meet_zero (p q : List Rat) (i k : Nat) (h : p.length + q.length ≤ i + 1) : meet p q i k = 0 := by
  induction k with
  | zero => rfl
  | succ k ih =>
    rw [meet, ih, Rat.zero_add]
    split
    · by_cases hk : k < p.length
      · rw [cf_none (l := q) (by omega), Rat.mul_zero]
      · rw [cf_none (l := p) (by omega), Rat.zero_mul]
    · rfl
theorem cf_mulP (p q : List Rat) (i : Nat) : cf (mulP p q) i = meet p q i p.length := mul_meet p q i _
theorem mulP_pol (p q : List Rat) : PolQ (mulP p q) := mulI_pol _ _ _
theorem mul_prod (p q : List Rat) : mulP p q = prodP p q := by
  refine PolQ.ext (mulP_pol _ _) (trimQ_pol _) fun i => ?_
  unfold prodP
  rw [cf_trimQ, cf_mk, cf_mulP]
  split
  · rw [off_meet _ _ _ _ (Nat.le_refl _), meet_all]
  · rename_i h
    exact meet_zero p q i _ (by omega)
theorem mul_none (p q : List Rat) (h : p.length = 0 ∨ q.length = 0) : mulP p q = [] := by
  refine PolQ.ext (mulP_pol _ _) (fun h => by simp at h) fun i => ?_
  rw [cf_mulP, cf_none (l := []) (by simp)]
  rcases h with h | h
  · rw [h]; rfl
  · have : q = [] := List.length_eq_zero_iff.1 h
    subst this
    have : ∀ k, meet p [] i k = 0 := by
      intro k
      induction k with
      | zero => rfl
      | succ k ih =>
        rw [meet, ih, Rat.zero_add]
        split
        · rw [cf_none (l := []) (by simp), Rat.mul_zero]
        · rfl
    exact this _
end Go.Proofs.Ythoboehbadmlmaa
end
section
namespace Go.Proofs.Ythoboehbadmlmaa
open Go Go.RowKit
set_option linter.unusedSimpArgs false
set_option linter.unusedVariables false
attribute [local irreducible] XWP Spec SpecO XPub XCall seqX clX apX stX ldX iaX slX
theorem bs_rat2 {t : Nat} {a b c a' b' c' : Value} (he : elemT Try.prog t = some 34) : BuildsSlice Try.prog t 2 #[(0, .agg #[a, b, c]), (1, .agg #[a', b', c'])] 34 [a, b, c, a', b', c'] := by
  obtain ⟨i, zv, hi, hzv, h1, h2, _⟩ := zero_parts zeroT_34
  have hc : zv.cells = #[.bool false, .slice none 0 0, .slice none 0 0] := Array.toList_inj.1 h1
  refine bs_run (cells := #[a, b, c, a', b', c']) he hi hzv (by omega) (by omega) ?_
  rw [h2, hc]
  have : madeCells #[.bool false, .slice none 0 0, .slice none 0 0] (2 * 3) = #[.bool false, .slice none 0 0, .slice none 0 0, .bool false, .slice none 0 0, .slice none 0 0] := Array.toList_inj.1 (by rw [made_flat _ 3 rfl (by omega)]; rfl)
  rw [this, fill_three (off := 0) rfl (by simp), fill_three (off := 3) rfl (by simp)]; rfl
theorem bs_rat4 {t : Nat} {a b c a' b' c' d e f d' e' f' : Value} (he : elemT Try.prog t = some 34) : BuildsSlice Try.prog t 4 #[(0, .agg #[a, b, c]), (1, .agg #[a', b', c']), (2, .agg #[d, e, f]), (3, .agg #[d', e', f'])] 34 [a, b, c, a', b', c', d, e, f, d', e', f'] := by
  obtain ⟨i, zv, hi, hzv, h1, h2, _⟩ := zero_parts zeroT_34
  have hc : zv.cells = #[.bool false, .slice none 0 0, .slice none 0 0] := Array.toList_inj.1 h1
  refine bs_run (cells := #[a, b, c, a', b', c', d, e, f, d', e', f']) he hi hzv (by omega) (by omega) ?_
  rw [h2, hc]
  have : madeCells #[.bool false, .slice none 0 0, .slice none 0 0] (4 * 3) = #[.bool false, .slice none 0 0, .slice none 0 0, .bool false, .slice none 0 0, .slice none 0 0, .bool false, .slice none 0 0, .slice none 0 0, .bool false, .slice none 0 0, .slice none 0 0] := Array.toList_inj.1 (by rw [made_flat _ 3 rfl (by omega)]; rfl)
  rw [this, fill_three (off := 0) rfl (by simp), fill_three (off := 3) rfl (by simp), fill_three (off := 6) rfl (by simp), fill_three (off := 9) rfl (by simp)]
  simp [Instr.fill]
def fib : List Rat := [1, 1, 1 + 1, 1 + (1 + 1)]
theorem fib_bm : bmOut (bmI fib 4) = [1, 1] ∧ (bmI fib 4).size = 2 := by
  have s1 : bmI fib 1 = ⟨[1, -1], [1], 1, 1, 1⟩ := by
    show bmStep fib ⟨[1], [1], 0, 1, 1⟩ 0 = _
    decide +kernel
  have s2 : bmI fib 2 = ⟨[1, -1], [1], 1, 2, 1⟩ := by rw [bmI, s1]; decide +kernel
  have s3 : bmI fib 3 = ⟨[1, -1, -1], [1, -1], 2, 1, 1⟩ := by rw [bmI, s2]; decide +kernel
  have s4 : bmI fib 4 = ⟨[1, -1, -1], [1, -1], 2, 2, 1⟩ := by rw [bmI, s3]; decide +kernel
  rw [s4]
  decide +kernel
theorem fib_QB : ∀ x ∈ fib, QB 2 x := by
  intro x hx
  have h2 : QB 1 ((1 : Rat) + 1) := (QB_one 0).add (QB_one 0)
  simp only [fib, List.mem_cons, List.not_mem_nil, or_false] at hx
  rcases hx with rfl | rfl | rfl | rfl
  · exact QB_one 2
  · exact QB_one 2
  · exact h2.mono (by omega)
  · exact (QB_one 0).add h2
theorem fib_CB : CB 8 fib := CB_of fib fib_QB
theorem fib_fit (i : Nat) (hi : i < 4) : BMFit fib (bmI fib i) i := bm_fit (e := 2) fib_CB (by simp [fib]) (by simp [bb, fib]) i (by simpa [fib] using hi)
theorem fib_q (i : Nat) : QF (cf (bmI fib 4).q i) := by
  obtain ⟨h1, _, _⟩ := bm_CB (e := 2) fib_CB 4 (by omega) 4 (by omega)
  exact QF.of (h1.at i) (by simp [bb])
theorem fib_len : fib.length = 4 := rfl
theorem fib_eq : [] ++ [1] ++ [1] ++ [1 + 1] ++ [1 + (1 + 1)] = fib := rfl
theorem fib_rec (V : View) (v : Value) (hl : Rats V v fib) : Spec Try.prog 13 [v] V fun v' V' => ∃ w, v' = .tuple #[w, .int .i64 0] ∧ Rats V' w [1, 1] := by
  have eq : qs (fib.map toRaw) = fib := qs_toRaw fib
  have el : (fib.map toRaw).length = 4 := by rw [List.length_map]; exact fib_len
  refine (crec_c V v (fib.map toRaw) (Rats.raws hl) (fitR_toRaw (fun x hx => QF.of (fib_QB x hx) (by omega))) (by omega) (fun _ i hi => ?_) (fun _ x hx => ?_) (fun _ i => ?_)).mono fun v' V' hV h => ?_
  · rw [eq]; exact fib_fit i (by omega)
  · rw [eq] at hx; exact QF.of (fib_QB x hx) (by omega)
  · rw [eq, el]; exact fib_q i
  · have h5 := h.2.2 (okR_toRaw _)
    rw [eq, el, fib_bm.1, fib_bm.2] at h5
    exact h5 (by omega)
attribute [local irreducible] fib
theorem alive_c (V : View) : Spec Try.prog 18 [] V fun v' V' => v' = .bool true := by
  refine (Spec.enter Try.func18 rfl fun Γ => ?_)
  simp only [Try.ntmps18, List.map_cons, List.map_nil, List.length_cons, List.length_nil, Nat.reduceAdd, Nat.reduceSub, List.replicate_succ, List.replicate_zero, List.cons_append, List.nil_append]
  first | refine XWP.reg (by kernel_rfl) fun K hK => ?_ | refine XWP.seq (XWP.reg (by kernel_rfl) fun K hK => ?_) | refine XWP.reg1 (by kernel_rfl) fun K hK => ?_
  simp only [XA, XB, gateX, Nat.reduceAdd, Nat.reduceLeDiff, Nat.reduceSub, Nat.reduceMul, ↓reduceIte, Int.reduceToNat, Int.reduceLE, beq_self_eq_true]
  refine hK _ ?_
  first | refine XWP.reg (by kernel_rfl) fun K hK => ?_ | refine XWP.seq (XWP.reg (by kernel_rfl) fun K hK => ?_) | refine XWP.reg1 (by kernel_rfl) fun K hK => ?_
  simp only [XA, XB, gateX, Nat.reduceAdd, Nat.reduceLeDiff, Nat.reduceSub, Nat.reduceMul, ↓reduceIte, Int.reduceToNat, Int.reduceLE, beq_self_eq_true]
  refine call_go (by kernel_rfl) rfl (pone_c _) fun v1 V1 hV1 h1 => ?_
  obtain ⟨x1, y1, rfl, o1, o2⟩ := h1.form
  simp only [XA, XB, gateX, Nat.reduceAdd, Nat.reduceLeDiff, Nat.reduceSub, Nat.reduceMul, ↓reduceIte, Int.reduceToNat, Int.reduceLE, beq_self_eq_true]
  refine st_rat rfl rfl rfl o1 o2 ?_
  simp only [XA, XB, gateX, Nat.reduceAdd, Nat.reduceLeDiff, Nat.reduceSub, Nat.reduceMul, ↓reduceIte, Int.reduceToNat, Int.reduceLE, beq_self_eq_true]
  refine hK _ ?_
  (first | refine XWP.drw [0, 1, 2, 3, 5, 6, 7, 4, 8, 9, 10, 11, 12, 13, 14, 15, 16] (by kernel_rfl) (by kernel_rfl) (by kernel_rfl) fun K hK => ?_ | refine XWP.seq (XWP.drw [0, 1, 2, 3, 5, 6, 7, 4, 8, 9, 10, 11, 12, 13, 14, 15, 16] (by kernel_rfl) (by kernel_rfl) (by kernel_rfl) fun K hK => ?_) | refine XWP.drw1 [0, 1, 2, 3, 5, 6, 7, 4, 8, 9, 10, 11, 12, 13, 14, 15, 16] (by kernel_rfl) (by kernel_rfl) (by kernel_rfl) fun K hK => ?_) <;> dsimp only [pickOps, List.getElem?_cons_zero, List.getElem?_cons_succ]
  simp only [XA, XB, gateX, Nat.reduceAdd, Nat.reduceLeDiff, Nat.reduceSub, Nat.reduceMul, ↓reduceIte, Int.reduceToNat, Int.reduceLE, beq_self_eq_true]
  refine call_go (by kernel_rfl) rfl (padd_c _ _ _ _ _ (h1.toV QF_one) (h1.toV QF_one) QF_one QF_one) fun v2 V2 hV2 h2 => ?_
  have h1 := h1.mono hV2
  simp only [XA, XB, gateX, Nat.reduceAdd, Nat.reduceLeDiff, Nat.reduceSub, Nat.reduceMul, ↓reduceIte, Int.reduceToNat, Int.reduceLE, beq_self_eq_true]
  refine call_go (by kernel_rfl) rfl (padd_c _ _ _ _ _ (h1.toV QF_one) (h1.toV QF_one) QF_one QF_one) fun v3 V3 hV3 h3 => ?_
  have h1 := h1.mono hV3
  have h2 := h2.mono hV3
  have f2 : QF ((1 : Rat) + 1) := QF.of ((QB_one 0).add (QB_one 0)) (by omega)
  simp only [XA, XB, gateX, Nat.reduceAdd, Nat.reduceLeDiff, Nat.reduceSub, Nat.reduceMul, ↓reduceIte, Int.reduceToNat, Int.reduceLE, beq_self_eq_true]
  refine call_go (by kernel_rfl) rfl (padd_c _ _ _ _ _ (h1.toV QF_one) (h3.toV f2) QF_one f2) fun v4 V4 hV4 h4 => ?_
  have h1 := h1.mono hV4
  have h2 := h2.mono hV4
  obtain ⟨x2, y2, rfl, o3, o4⟩ := h2.form
  obtain ⟨x4, y4, rfl, o5, o6⟩ := h4.form
  simp only [XA, XB, gateX, Nat.reduceAdd, Nat.reduceLeDiff, Nat.reduceSub, Nat.reduceMul, ↓reduceIte, Int.reduceToNat, Int.reduceLE, beq_self_eq_true]
  refine bs_go (by kernel_rfl) #[(0, .agg #[.bool (ng 1), x1, y1]), (1, .agg #[.bool (ng 1), x1, y1]), (2, .agg #[.bool (ng (1 + 1)), x2, y2]), (3, .agg #[.bool (ng (1 + (1 + 1))), x4, y4])] (by simp [ev_tmp, SV.val]) (bs_rat4 elemT_22) fun b hb1 hb2 => ?_
  simp only [XA, XB, gateX, Nat.reduceAdd, Nat.reduceLeDiff, Nat.reduceSub, Nat.reduceMul, ↓reduceIte, Int.reduceToNat, Int.reduceLE, beq_self_eq_true]
  refine call_pub b ⟨34, [.bool (ng 1), x1, y1, .bool (ng 1), x1, y1, .bool (ng (1 + 1)), x2, y2, .bool (ng (1 + (1 + 1))), x4, y4], 12⟩ (by simp only [upd_at]) (fun o ho hle' => ?_) (by kernel_rfl) rfl
  have hrow := ((((RowAt.nil (E := ratE) V4).snoc (x := 1) (show isOne (.bool (ng 1)) = true from rfl) o1 o2 h1).snoc (x := 1) (show isOne (.bool (ng 1)) = true from rfl) o1 o2 h1).snoc (x := 1 + 1) (show isOne (.bool (ng (1 + 1))) = true from rfl) o3 o4 h2).snoc (x := 1 + (1 + 1)) (show isOne (.bool (ng (1 + (1 + 1)))) = true from rfl) o5 o6 h4
  rw [fib_eq] at hrow
  simp only [List.nil_append, List.cons_append] at hrow
  have hl := hrow.pub ratE_ok ho hle' (n := 4) (c := 4) fib_len (Nat.le_refl _) (by omega)
  refine call_go (by kernel_rfl) rfl (fib_rec _ _ hl) fun v5 V5 hV5 h5 => ?_
  obtain ⟨w, rfl, hw⟩ := h5
  simp only [XA, XB, gateX, Nat.reduceAdd, Nat.reduceLeDiff, Nat.reduceSub, Nat.reduceMul, ↓reduceIte, Int.reduceToNat, Int.reduceLE, beq_self_eq_true]
  refine hK _ ?_
  have h1 := (h1.mono hle').mono hV5
  first | refine XWP.reg (by kernel_rfl) fun K hK => ?_ | refine XWP.seq (XWP.reg (by kernel_rfl) fun K hK => ?_) | refine XWP.reg1 (by kernel_rfl) fun K hK => ?_
  simp only [XA, XB, gateX, Nat.reduceAdd, Nat.reduceLeDiff, Nat.reduceSub, Nat.reduceMul, ↓reduceIte, Int.reduceToNat, Int.reduceLE, beq_self_eq_true, decide_true]
  refine bs_go (by kernel_rfl) #[(0, .agg #[.bool (ng 1), x1, y1]), (1, .agg #[.bool (ng 1), x1, y1])] (by simp [ev_tmp, SV.val]) (bs_rat2 elemT_22) fun b3 hb3 hb4 => ?_
  simp only [XA, XB, gateX, Nat.reduceAdd, Nat.reduceLeDiff, Nat.reduceSub, Nat.reduceMul, ↓reduceIte, Int.reduceToNat, Int.reduceLE, beq_self_eq_true]
  refine call_pub b3 ⟨34, [.bool (ng 1), x1, y1, .bool (ng 1), x1, y1], 6⟩ (by simp only [upd_at]) (fun o2' ho2 hle2 => ?_) (by kernel_rfl) rfl
  have hrow2 := (((RowAt.nil (E := ratE) V5).snoc (x := 1) (show isOne (.bool (ng 1)) = true from rfl) o1 o2 h1).snoc (x := 1) (show isOne (.bool (ng 1)) = true from rfl) o1 o2 h1)
  simp only [List.nil_append, List.cons_append] at hrow2
  have q11 : ∀ x ∈ [(1 : Rat), 1], QF x := fun x hx => by
    simp only [List.mem_cons, List.not_mem_nil, or_false, or_self] at hx
    rw [hx]; exact QF_one
  refine call_go (by kernel_rfl) rfl (lsame_c _ _ _ [1, 1] [1, 1] (hw.up hle2) (hrow2.pub ratE_ok ho2 hle2 (n := 2) (c := 2) rfl (Nat.le_refl _) (by omega)) q11 q11) fun v6 V6 hV6 h6 => ?_
  subst h6
  simp only [XA, XB, gateX, Nat.reduceAdd, Nat.reduceLeDiff, Nat.reduceSub, Nat.reduceMul, ↓reduceIte, Int.reduceToNat, Int.reduceLE, beq_self_eq_true]
  refine hK _ (XWP.ret ?_)
  try simp only [thenX_ret, inBlockX_ret]
  refine ret_go _ rfl ?_
  show Value.bool _ = _
  simp
theorem cut_take (P : List Raw) {a b : Nat} (h : a ≤ b) : fewL P a = (fewL P b).take a := by
  unfold fewL
  rw [← List.map_take, List.take_take, Nat.min_eq_left h]
theorem fewR_qf {l : List Raw} (h : fewR l) (hd : digR l) : ∀ x ∈ qs l, QF x := fun x hx => QF.of (fewR_QB h hd x hx) (by omega)
theorem lpoly_c (V : View) (v : Value) (P : List Raw) (n : Nat) (hv : Raws V v P) (hn : n ≤ 1000) : Spec Try.prog 20 [v, .int .i64 (n : Int)] V fun v' V' => ∃ R, Raws V' v' R ∧ R.length ≤ n ∧ fewR R := by
  obtain ⟨A1, c1, rfl, hc1, hm1⟩ := hv.form
  refine (Spec.enter Try.func20 rfl fun Γ => ?_)
  simp only [Try.ntmps20, List.map_cons, List.map_nil, List.length_cons, List.length_nil, Nat.reduceAdd, Nat.reduceSub, List.replicate_succ, List.replicate_zero, List.cons_append, List.nil_append]
  first | refine XWP.reg (by kernel_rfl) fun K hK => ?_ | refine XWP.seq (XWP.reg (by kernel_rfl) fun K hK => ?_) | refine XWP.reg1 (by kernel_rfl) fun K hK => ?_
  simp only [XA, XB, gateX, Nat.reduceAdd, Nat.reduceLeDiff, Nat.reduceSub, Nat.reduceMul, ↓reduceIte, Int.reduceToNat, Int.reduceLE, beq_self_eq_true]
  refine hK _ ?_
  first | refine XWP.reg (by kernel_rfl) fun K hK => ?_ | refine XWP.seq (XWP.reg (by kernel_rfl) fun K hK => ?_) | refine XWP.reg1 (by kernel_rfl) fun K hK => ?_
  simp only [XA, XB, gateX, Nat.reduceAdd, Nat.reduceLeDiff, Nat.reduceSub, Nat.reduceMul, ↓reduceIte, Int.reduceToNat, Int.reduceLE, beq_self_eq_true]
  refine call_go (by kernel_rfl) rfl (lfew_c _ _ P n hv (by omega)) fun v1 V1 hV1 h1 => ?_
  simp only [XA, XB, gateX, Nat.reduceAdd, Nat.reduceLeDiff, Nat.reduceSub, Nat.reduceMul, ↓reduceIte, Int.reduceToNat, Int.reduceLE, beq_self_eq_true]
  refine hK _ ?_
  clear hK
  obtain ⟨A2, c2, rfl, hc2, hm2⟩ := h1.form
  have hlen := fewL_len P n
  have hfew := fewL_few P n
  have hdig := Raws.dig h1
  generalize hL : fewL P n = L at *
  refine XWP.cut (fun s => ∃ (k : Nat) (V2 : View), StIs (fun τ => [τ 0, τ 1, τ 2, τ 3, τ 4, .v (.slice A2 k c2), τ 6, τ 7, τ 8, τ 9, τ 10, τ 11, τ 12, τ 13, τ 14, τ 15, τ 16, τ 17, τ 18, τ 19, τ 20, τ 21, τ 22, τ 23, τ 24, τ 25, τ 26, τ 27, τ 28, τ 29, τ 30, τ 31, τ 32, τ 33, τ 34, τ 35, τ 36]) [] (fun _ => none) V2 s ∧ Raws V2 (.slice A2 k c2) (L.take k) ∧ k ≤ L.length) ?_ ?_
  · first | refine XWP.reg (by kernel_rfl) fun K hK => ?_ | refine XWP.seq (XWP.reg (by kernel_rfl) fun K hK => ?_) | refine XWP.reg1 (by kernel_rfl) fun K hK => ?_
    by_cases h0 : n < P.length
    · have b1 : decide ((n : Int) < (P.length : Int)) = true := decide_eq_true (by omega)
      simp only [XA, XB, gateX, Nat.reduceAdd, Nat.reduceLeDiff, Nat.reduceSub, Nat.reduceMul, ↓reduceIte, Int.reduceToNat, Int.reduceLE, beq_self_eq_true, b1]
      refine call_go (by kernel_rfl) rfl (lfew_c _ _ P 1000 (hv.up hV1) (by omega)) fun v3 V3 hV3 h3 => ?_
      simp only [XA, XB, gateX, Nat.reduceAdd, Nat.reduceLeDiff, Nat.reduceSub, Nat.reduceMul, ↓reduceIte, Int.reduceToNat, Int.reduceLE, beq_self_eq_true]
      have f3 := fewL_few P 1000
      have d3 := Raws.dig h3
      have l3 := fewL_len P 1000
      refine call_go (by kernel_rfl) rfl (dright_c _ _ _ h3 f3.fit (by omega) (fun _ => fewR_qf f3 d3)) fun v4 V4 hV4 h4 => ?_
      subst h4
      cases hr : rightP (fewL P 1000)
      · simp only [XA, XB, gateX, Nat.reduceAdd, Nat.reduceLeDiff, Nat.reduceSub, Nat.reduceMul, ↓reduceIte, Int.reduceToNat, Int.reduceLE, beq_self_eq_true]
        refine hK _ ?_
        first | refine XWP.cond (t := false) rfl (fun h => by cases h) (fun _ => ?_) | refine XWP.seq (XWP.cond (t := false) rfl (fun h => by cases h) (fun _ => ?_))
        refine XWP.skip ?_
        exact ⟨L.length, V4, StIs.of (by exact rfl), by rw [List.take_length]; exact (h1.up hV3).up hV4, Nat.le_refl _⟩
      · simp only [XA, XB, gateX, Nat.reduceAdd, Nat.reduceLeDiff, Nat.reduceSub, Nat.reduceMul, ↓reduceIte, Int.reduceToNat, Int.reduceLE, beq_self_eq_true]
        refine hK _ ?_
        first | refine XWP.cond (t := true) rfl (fun _ => ?_) (fun h => by cases h) | refine XWP.seq (XWP.cond (t := true) rfl (fun _ => ?_) (fun h => by cases h))
        clear hK
        have hok : okR L = true := by
          have := (rightP_parts hr).1
          rw [← hL, cut_take P hn]
          unfold okR at this ⊢
          exact List.all_eq_true.2 fun r hr => List.all_eq_true.1 this r (List.mem_of_mem_take hr)
        first | refine XWP.block ?_ | refine XWP.seq (XWP.block ?_)
        refine XWP.loop (fun k s => ∃ (V2 : View), StIs (fun τ => [τ 0, τ 1, τ 2, τ 3, τ 4, .v (.slice A2 k c2), τ 6, τ 7, τ 8, τ 9, τ 10, τ 11, τ 12, τ 13, τ 14, τ 15, τ 16, τ 17, τ 18, τ 19, τ 20, τ 21, τ 22, τ 23, τ 24, τ 25, τ 26, τ 27, τ 28, τ 29, τ 30, τ 31, τ 32, τ 33, τ 34, τ 35, τ 36]) [] (fun _ => none) V2 s ∧ V1.le V2 ∧ k ≤ L.length) L.length ⟨V4, StIs.of (by exact rfl), View.le_trans hV3 hV4, Nat.le_refl _⟩ ?_
        rintro k s ⟨V2, hs, hV2, hk⟩
        obtain ⟨z, rfl⟩ := hs.out
        try dsimp only
        have hv2 := Raws.up h1 hV2
        refine XWP.seq ?_
        by_cases hk0 : k = 0
        · subst hk0
          have b2 : decide ((0 : Int) < ((0 : Nat) : Int)) = false := decide_eq_false (by omega)
          first | refine XWP.reg (by kernel_rfl) fun K hK => ?_ | refine XWP.seq (XWP.reg (by kernel_rfl) fun K hK => ?_) | refine XWP.reg1 (by kernel_rfl) fun K hK => ?_
          simp only [XA, XB, gateX, Nat.reduceAdd, Nat.reduceLeDiff, Nat.reduceSub, Nat.reduceMul, ↓reduceIte, Int.reduceToNat, Int.reduceLE, beq_self_eq_true, b2]
          refine hK _ ?_
          first | refine XWP.cond (t := false) rfl (fun h => by cases h) (fun _ => ?_) | refine XWP.seq (XWP.cond (t := false) rfl (fun h => by cases h) (fun _ => ?_))
          refine XWP.exit ?_
          exact ⟨0, V2, StIs.of (by exact rfl), SlAt.take hv2 hk, hk⟩
        · have b2 : decide ((0 : Int) < (k : Int)) = true := decide_eq_true (by omega)
          have hr2 := Raws.rats hv2 hok
          obtain ⟨b, o, rfl⟩ := SlAt.addr hv2 (by omega)
          obtain ⟨m3, n3, d3', hx, ⟨p1, p2, p3⟩, hld⟩ := Rats.get hr2 (k - 1) (by rw [qs_len]; omega)
          have w1 := i64_pred k (by omega) (by omega)
          first | refine XWP.reg (by kernel_rfl) fun K hK => ?_ | refine XWP.seq (XWP.reg (by kernel_rfl) fun K hK => ?_) | refine XWP.reg1 (by kernel_rfl) fun K hK => ?_
          simp only [XA, XB, gateX, Nat.reduceAdd, Nat.reduceLeDiff, Nat.reduceSub, Nat.reduceMul, ↓reduceIte, Int.reduceToNat, Int.reduceLE, beq_self_eq_true, b2, w1]
          refine ⟨by omega, by omega, ld_mem (hld _) ?_⟩
          simp only [XA, XB, gateX, Nat.reduceAdd, Nat.reduceLeDiff, Nat.reduceSub, Nat.reduceMul, ↓reduceIte, Int.reduceToNat, Int.reduceLE, beq_self_eq_true]
          refine call_go (by kernel_rfl) rfl (psign_c _ _ _ (hx.toV (fewR_qf hfew hdig _ (cf_mem (by rw [qs_len]; omega))))) fun v5 V5 hV5 h5 => ?_
          subst h5
          by_cases hz : cf (qs L) (k - 1) = 0
          · have b3 : decide (cf (qs L) (k - 1) = 0) = true := decide_eq_true hz
            simp only [XA, XB, gateX, Nat.reduceAdd, Nat.reduceLeDiff, Nat.reduceSub, Nat.reduceMul, ↓reduceIte, Int.reduceToNat, Int.reduceLE, beq_self_eq_true, sgI_zero, b3]
            refine hK _ ?_
            first | refine XWP.cond (t := true) rfl (fun _ => ?_) (fun h => by cases h) | refine XWP.seq (XWP.cond (t := true) rfl (fun _ => ?_) (fun h => by cases h))
            refine XWP.skip ?_
            first | refine XWP.block ?_ | refine XWP.seq (XWP.block ?_)
            first | refine XWP.reg (by kernel_rfl) fun K hK => ?_ | refine XWP.seq (XWP.reg (by kernel_rfl) fun K hK => ?_) | refine XWP.reg1 (by kernel_rfl) fun K hK => ?_
            simp only [XA, XB, gateX, Nat.reduceAdd, Nat.reduceLeDiff, Nat.reduceSub, Nat.reduceMul, ↓reduceIte, Int.reduceToNat, Int.reduceLE, beq_self_eq_true, w1]
            refine ⟨by omega, by omega, by omega, ?_⟩
            exact hK _ ⟨k - 1, by omega, V5, StIs.of (by exact rfl), View.le_trans hV2 hV5, by omega⟩
          · have b3 : decide (cf (qs L) (k - 1) = 0) = false := decide_eq_false hz
            simp only [XA, XB, gateX, Nat.reduceAdd, Nat.reduceLeDiff, Nat.reduceSub, Nat.reduceMul, ↓reduceIte, Int.reduceToNat, Int.reduceLE, beq_self_eq_true, sgI_zero, b3]
            refine hK _ ?_
            first | refine XWP.cond (t := false) rfl (fun h => by cases h) (fun _ => ?_) | refine XWP.seq (XWP.cond (t := false) rfl (fun h => by cases h) (fun _ => ?_))
            refine XWP.exit ?_
            exact ⟨k, V5, StIs.of (by exact rfl), SlAt.take (hv2.up hV5) hk, hk⟩
    · have b1 : decide ((n : Int) < (P.length : Int)) = false := decide_eq_false (by omega)
      simp only [XA, XB, gateX, Nat.reduceAdd, Nat.reduceLeDiff, Nat.reduceSub, Nat.reduceMul, ↓reduceIte, Int.reduceToNat, Int.reduceLE, beq_self_eq_true, b1]
      refine hK _ ?_
      first | refine XWP.cond (t := false) rfl (fun h => by cases h) (fun _ => ?_) | refine XWP.seq (XWP.cond (t := false) rfl (fun h => by cases h) (fun _ => ?_))
      refine XWP.skip ?_
      exact ⟨L.length, V1, StIs.of (by exact rfl), by rw [List.take_length]; exact h1, Nat.le_refl _⟩
  rintro s ⟨k, V2, hs, hk, hkl⟩
  obtain ⟨z, rfl⟩ := hs.out
  try dsimp only
  first | refine XWP.reg (by kernel_rfl) fun K hK => ?_ | refine XWP.seq (XWP.reg (by kernel_rfl) fun K hK => ?_) | refine XWP.reg1 (by kernel_rfl) fun K hK => ?_
  simp only [XA, XB, gateX, Nat.reduceAdd, Nat.reduceLeDiff, Nat.reduceSub, Nat.reduceMul, ↓reduceIte, Int.reduceToNat, Int.reduceLE, beq_self_eq_true]
  refine hK _ (XWP.ret ?_)
  try simp only [thenX_ret, inBlockX_ret]
  refine ret_go _ rfl ?_
  exact ⟨_, hk, by simp; omega, fun r hr => hfew r (List.mem_of_mem_take hr)⟩
end Go.Proofs.Ythoboehbadmlmaa
end
