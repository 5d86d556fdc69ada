/- the total variation distance of two distributions (part 12 of 12) -/
import Derived.OrdersHeld
import Derived.Below
import Derived.Tactics
import Derived.KernelRfl
import Derived.RangeFuncCalls
import Derived.RangeFuncFrom
import Derived.RangeFuncLeaves
import Derived.OrdersIn
import Derived.Laws.AppendOwn
import Derived.Laws.MakeOwn
import Derived.Laws.CopyRow
import Derived.Laws.Cells
import Derived.Laws.World
import Derived.Laws.Alloc2
import Derived.Laws.NewBlocks
import Derived.Maps.AppendAt
import Derived.Test.YtkgmicakfmllmaaProg
import Init.Data.List.Lemmas
import Init.Omega
import Derived.WalkKit
import Derived.ProofKit
import Derived.OpenShut
import Derived.ChangeOld
import Derived.SizedLaws
import Derived.ChangeSlices
import Derived.ChangeArms
import Derived.Deep.Slices
import Derived.Test.YtkgmicakfmllmaaRows
import Derived.ShutString
import Derived.Test.YtkgmicakfmllmaaAP11
section
namespace Go.Proofs.Ytkgmicakfmllmaa
open Go Go.RowKit
set_option linter.unusedSimpArgs false
set_option linter.unusedVariables false
attribute [local irreducible] XWP Spec SpecO XPub XCall seqX clX apX stX ldX iaX slX
theorem matR_rats {n m : Nat} {l : List Rat} (hl : l.length = n * m) (hn : n ≤ 60) (hm : m ≤ 60) : matR (n : Int) (m : Int) (l.map toRaw) = true := by
  unfold matR
  rw [okR_toRaw, Bool.and_true, decide_eq_true_eq, List.length_map]
  refine ⟨by omega, by omega, by omega, by omega, ?_⟩
  rw [hl]; exact Int.natCast_mul n m
/-- what solving gives: the x of the equations, where there is just one -/
def SolR (V' : View) (n m B : Nat) (la lb : List Rat) (v' : Value) : Prop :=
  (¬ UniG (gridL la n) n n → v' = .tuple #[.agg #[.int .i64 0, .int .i64 0, .slice none 0 0], .int .i64 31]) ∧
  (UniG (gridL la n) n n → ∃ w X, v' = .tuple #[.agg #[.int .i64 (n : Int), .int .i64 (m : Int), w], .int .i64 0] ∧ Rats V' w (flatG X n m) ∧ (∀ c, c < m → LinG (gridL la n) n n (fun i => gridL lb m i c) (fun j => X j c)) ∧ ∀ i k, i < n → k < m → QB (2 * ge B (2 * n)) (X i k))
theorem mSolve_c (V : View) (sa sb : Value) (n m B : Nat) (la lb : List Rat) (ha : Rats V sa la) (hb : Rats V sb lb) (lla : la.length = n * n) (llb : lb.length = n * m) (h1 : 1 ≤ n) (hn : n ≤ 60) (hm : m ≤ 60) (hqa : ∀ x ∈ la, QB B x) (hqb : ∀ x ∈ lb, QB B x) (hB : ge B (2 * n + 1) ≤ 17592186044416) :
    Spec Try.prog 121 [.agg #[.int .i64 (n : Int), .int .i64 (n : Int), sa], .agg #[.int .i64 (n : Int), .int .i64 (m : Int), sb]] V fun v' V' => SolR V' n m B la lb v' := by
  have hB0 : B ≤ 17592186044416 := Nat.le_trans (ge_le B _) hB
  have l1 := matR_rats lla hn hn
  have l2 := matR_rats llb hn hm
  have hnn : n * n ≤ 3600 := Nat.le_trans (Nat.mul_le_mul hn hn) (by decide)
  have hnm : n * m ≤ 3600 := Nat.le_trans (Nat.mul_le_mul hn hm) (by decide)
  have f1 : fitR (la.map toRaw) := fitR_toRaw fun x hx => (hqa x hx).qf hB0
  have f2 : fitR (lb.map toRaw) := fitR_toRaw fun x hx => (hqb x hx).qf hB0
  obtain ⟨A1, c1, rfl, hc1, hm1⟩ := ha.form
  obtain ⟨A2, c2, rfl, hc2, hm2⟩ := hb.form
  refine (Spec.enter Try.func121 rfl fun Γ => ?_)
  simp only [Try.ntmps121, List.map_cons, List.map_nil, List.length_cons, List.length_nil, Nat.reduceAdd, Nat.reduceSub, List.replicate_succ, List.replicate_zero, List.cons_append, List.nil_append]
  first | refine Gx.a (by kernel_rfl) fun K hK => ?_ | refine Gx.b (by kernel_rfl) fun K hK => ?_ | refine Gx.c (by kernel_rfl) fun K hK => ?_
  simp only [XM, XA, XB, gateX, Nat.reduceAdd, Nat.reduceLeDiff, Nat.reduceSub, Nat.reduceMul, ↓reduceIte, Int.reduceToNat, Int.reduceLE, beq_self_eq_true]
  refine hK _ ?_
  refine XWP.seq ?_
  first | refine Gx.a (by kernel_rfl) fun K hK => ?_ | refine Gx.b (by kernel_rfl) fun K hK => ?_ | refine Gx.c (by kernel_rfl) fun K hK => ?_
  simp only [XM, XA, XB, gateX, Nat.reduceAdd, Nat.reduceLeDiff, Nat.reduceSub, Nat.reduceMul, ↓reduceIte, Int.reduceToNat, Int.reduceLE, beq_self_eq_true]
  refine call_go (by kernel_rfl) rfl (cmright_c _ _ _ _ (la.map toRaw) (Rats.raws ha) f1 (by rw [List.length_map]; omega)) fun v1 V1 hV1 g1 => ?_
  rw [l1] at g1
  subst g1
  simp only [XM, XA, XB, gateX, Nat.reduceAdd, Nat.reduceLeDiff, Nat.reduceSub, Nat.reduceMul, ↓reduceIte, Int.reduceToNat, Int.reduceLE, beq_self_eq_true]
  refine call_go (by kernel_rfl) rfl (cmright_c _ _ _ _ (lb.map toRaw) (Rats.raws (hb.up hV1)) f2 (by rw [List.length_map]; omega)) fun v2 V2 hV2 g2 => ?_
  rw [l2] at g2
  subst g2
  simp only [XM, XA, XB, gateX, Nat.reduceAdd, Nat.reduceLeDiff, Nat.reduceSub, Nat.reduceMul, ↓reduceIte, Int.reduceToNat, Int.reduceLE, beq_self_eq_true]
  refine hK _ ?_
  first | refine Gx.f rfl ?_ | refine XWP.seq (Gx.f rfl ?_)
  refine XWP.skip ?_
  refine XWP.seq ?_
  first | refine Gx.a (by kernel_rfl) fun K hK => ?_ | refine Gx.b (by kernel_rfl) fun K hK => ?_ | refine Gx.c (by kernel_rfl) fun K hK => ?_
  simp only [XM, XA, XB, gateX, Nat.reduceAdd, Nat.reduceLeDiff, Nat.reduceSub, Nat.reduceMul, ↓reduceIte, Int.reduceToNat, Int.reduceLE, beq_self_eq_true, decide_true]
  refine hK _ ?_
  first | refine Gx.f rfl ?_ | refine XWP.seq (Gx.f rfl ?_)
  refine XWP.skip ?_
  have hle := View.le_trans hV1 hV2
  first | refine Gx.a (by kernel_rfl) fun K hK => ?_ | refine Gx.b (by kernel_rfl) fun K hK => ?_ | refine Gx.c (by kernel_rfl) fun K hK => ?_
  simp only [XM, XA, XB, gateX, Nat.reduceAdd, Nat.reduceLeDiff, Nat.reduceSub, Nat.reduceMul, ↓reduceIte, Int.reduceToNat, Int.reduceLE, beq_self_eq_true]
  refine call_go (by kernel_rfl) rfl (mSolved_c _ _ _ n m B la lb (ha.up hle) (hb.up hle) lla llb h1 (by omega) (by omega) hqa hqb hB) fun v3 V3 hV3 g3 => ?_
  by_cases hu : UniG (gridL la n) n n
  · obtain ⟨w, X, rfl, hw, hl, hq⟩ := g3.2 hu
    obtain ⟨A3, c3, rfl, _, _⟩ := hw.form
    simp only [XM, XA, XB, gateX, Nat.reduceAdd, Nat.reduceLeDiff, Nat.reduceSub, Nat.reduceMul, ↓reduceIte, Int.reduceToNat, Int.reduceLE, beq_self_eq_true]
    refine st_mat shapeT_37 rfl rfl rfl rfl rfl ?_
    simp only [XM, XA, XB, gateX, Nat.reduceAdd, Nat.reduceLeDiff, Nat.reduceSub, Nat.reduceMul, ↓reduceIte, Int.reduceToNat, Int.reduceLE, beq_self_eq_true]
    refine hK _ ?_
    refine XWP.seq ?_
    first | refine Gx.a (by kernel_rfl) fun K hK => ?_ | refine Gx.b (by kernel_rfl) fun K hK => ?_ | refine Gx.c (by kernel_rfl) fun K hK => ?_
    simp only [XM, XA, XB, gateX, Nat.reduceAdd, Nat.reduceLeDiff, Nat.reduceSub, Nat.reduceMul, ↓reduceIte, Int.reduceToNat, Int.reduceLE, beq_self_eq_true]
    refine hK _ ?_
    first | refine Gx.f rfl ?_ | refine XWP.seq (Gx.f rfl ?_)
    refine XWP.skip ?_
    first | refine Gx.a (by kernel_rfl) fun K hK => ?_ | refine Gx.b (by kernel_rfl) fun K hK => ?_ | refine Gx.c (by kernel_rfl) fun K hK => ?_
    simp only [XM, XA, XB, gateX, Nat.reduceAdd, Nat.reduceLeDiff, Nat.reduceSub, Nat.reduceMul, ↓reduceIte, Int.reduceToNat, Int.reduceLE, beq_self_eq_true]
    refine st_mat shapeT_37 rfl rfl rfl rfl rfl ?_
    simp only [XM, XA, XB, gateX, Nat.reduceAdd, Nat.reduceLeDiff, Nat.reduceSub, Nat.reduceMul, ↓reduceIte, Int.reduceToNat, Int.reduceLE, beq_self_eq_true]
    refine hK _ (XWP.ret ?_)
    try simp only [thenX_ret, inBlockX_ret]
    exact ret_go _ (by simp [resAll, resV, cellsV, shapeT_37]; rfl) ⟨fun h => absurd hu h, fun _ => ⟨_, X, rfl, hw, hl, hq⟩⟩
  · have e3 := g3.1 hu
    subst e3
    simp only [XM, XA, XB, gateX, Nat.reduceAdd, Nat.reduceLeDiff, Nat.reduceSub, Nat.reduceMul, ↓reduceIte, Int.reduceToNat, Int.reduceLE, beq_self_eq_true]
    refine st_mat shapeT_37 rfl rfl rfl rfl rfl ?_
    simp only [XM, XA, XB, gateX, Nat.reduceAdd, Nat.reduceLeDiff, Nat.reduceSub, Nat.reduceMul, ↓reduceIte, Int.reduceToNat, Int.reduceLE, beq_self_eq_true]
    refine hK _ ?_
    refine XWP.seq ?_
    first | refine Gx.a (by kernel_rfl) fun K hK => ?_ | refine Gx.b (by kernel_rfl) fun K hK => ?_ | refine Gx.c (by kernel_rfl) fun K hK => ?_
    simp only [XM, XA, XB, gateX, Nat.reduceAdd, Nat.reduceLeDiff, Nat.reduceSub, Nat.reduceMul, ↓reduceIte, Int.reduceToNat, Int.reduceLE, beq_self_eq_true]
    refine hK _ ?_
    first | refine Gx.t rfl ?_ | refine XWP.seq (Gx.t rfl ?_)
    first | refine Gx.a (by kernel_rfl) fun K hK => ?_ | refine Gx.b (by kernel_rfl) fun K hK => ?_ | refine Gx.c (by kernel_rfl) fun K hK => ?_
    simp only [XM, XA, XB, gateX, Nat.reduceAdd, Nat.reduceLeDiff, Nat.reduceSub, Nat.reduceMul, ↓reduceIte, Int.reduceToNat, Int.reduceLE, beq_self_eq_true]
    refine bd_go (by kernel_rfl) #[] (by simp) bd_mtx0 ?_
    simp only [XM, XA, XB, gateX, Nat.reduceAdd, Nat.reduceLeDiff, Nat.reduceSub, Nat.reduceMul, ↓reduceIte, Int.reduceToNat, Int.reduceLE, beq_self_eq_true]
    refine st_mat shapeT_37 rfl rfl rfl rfl rfl ?_
    simp only [XM, XA, XB, gateX, Nat.reduceAdd, Nat.reduceLeDiff, Nat.reduceSub, Nat.reduceMul, ↓reduceIte, Int.reduceToNat, Int.reduceLE, beq_self_eq_true]
    refine hK _ (XWP.ret ?_)
    try simp only [thenX_ret, inBlockX_ret]
    exact ret_go _ (by simp [resAll, resV, cellsV, shapeT_37]; rfl) ⟨fun _ => rfl, fun h => absurd h hu⟩
end Go.Proofs.Ytkgmicakfmllmaa
end
section
namespace Go.Proofs.Ytkgmicakfmllmaa
open Go Go.RowKit
set_option linter.unusedSimpArgs false
set_option linter.unusedVariables false
attribute [local irreducible] XWP Spec SpecO XPub XCall seqX clX apX stX ldX iaX slX
theorem LinG.congr {G G' : Grid} {R n : Nat} {r r' x : Nat → Rat} (h : LinG G R n r x) (e : ∀ i j, i < R → j < n → G i j = G' i j) (er : ∀ i, i < R → r i = r' i) : LinG G' R n r' x := fun i hi => by
  rw [← er i hi, ← h i hi]
  exact Sm_congr _ fun j hj => by rw [e i j hi hj]
theorem UniG.congr {G G' : Grid} {R n : Nat} (h : UniG G R n) (e : ∀ i j, i < R → j < n → G i j = G' i j) : UniG G' R n := fun x hx => h x (hx.congr (fun i j hi hj => (e i j hi hj).symm) fun _ _ => rfl)
theorem gridL_flat (G : Grid) {R C i j : Nat} (hi : i < R) (hj : j < C) : gridL (flatG G R C) C i j = G i j := flatG_at G hi hj
/-- the right-hand sides -/
def oneB (n : Nat) (k : Nat) : Rat := if k + 1 = n then 1 else 0
/-- parts of a class, laid at their states -/
def scat (C : List Nat) (X : Nat → Rat) (n : Nat) : Nat → List Rat
  | 0 => mk n fun _ => 0
  | k + 1 => (scat C X n k).set (C.getD k 0) (X k)
theorem scat_len (C : List Nat) (X : Nat → Rat) (n : Nat) : ∀ k, (scat C X n k).length = n
  | 0 => mk_len _ _
  | k + 1 => by rw [scat, List.length_set]; exact scat_len C X n k
theorem scat_congr {C : List Nat} {X Y : Nat → Rat} {n : Nat} : ∀ k, (∀ j, j < k → X j = Y j) → scat C X n k = scat C Y n k
  | 0, _ => rfl
  | k + 1, h => by rw [scat, scat, scat_congr k fun j hj => h j (by omega), h k (by omega)]
theorem own_keep {H H' : Heap} {V : View} {e e2 sz sz2 n n2 : Nat} {v v' v2 : Value} {xs xs2 : List Value} (h2 : Own H e2 sz2 v2 n2 xs2) (h : AppRes H V e sz v n xs v' H') (hd : ∀ b, v2.ownBlock = some b → v.ownBlock ≠ some b) : Own H' e2 sz2 v2 n2 xs2 ∧ ∀ b, v2.ownBlock = some b → v'.ownBlock ≠ some b := by
  rcases h2.2 with ⟨rfl, hn⟩ | ⟨b, cap, rfl, hb, h3⟩
  · exact ⟨⟨h2.1, .inl ⟨rfl, hn⟩⟩, fun b e => by cases e⟩
  · have := app_keep h hb (hd b rfl)
    exact ⟨⟨h2.1, .inr ⟨b, cap, rfl, this.1, h3⟩⟩, fun b' e => by
      have : b = b' := by simpa [Value.ownBlock] using e
      subst this; exact (app_keep h hb (hd b rfl)).2⟩
theorem lawQ_QB {l : List Rat} {n B : Nat} {C : List Nat} (hq : ∀ x ∈ l, QB B x) (ll : l.length = n * n) (hC : ∀ x ∈ C, x < n) {k i : Nat} (hk : k < C.length) (hi : i < C.length) : QB (B + 1) (lawG (subG (gridL l n) C) C.length k i) := by
  have hm : ∀ j, j < C.length → C.getD j 0 < n := fun j hj => hC _ (by rw [List.getD_eq_getElem?_getD, List.getElem?_eq_getElem hj]; exact List.getElem_mem hj)
  have h1 : QB B (subG (gridL l n) C i k) := hq _ (cf_mem (by rw [ll]; exact pos_lt (hm i hi) (hm k hk)))
  unfold lawG
  split
  · exact QB_one _
  · split
    · exact (h1.sub (QB_one 0)).mono (by omega)
    · exact h1.mono (by omega)
set_option maxHeartbeats 4000000 in
theorem balone_c (V : View) (s vC : Value) (n B : Nat) (l : List Rat) (C : List Nat) (h : Rats V s l) (ll : l.length = n * n) (hn : n ≤ 60) (hC : Sl1 natE V vC C) (hlt : ∀ x ∈ C, x < n) (h1 : 1 ≤ C.length) (hl : C.length ≤ 60)
    (hu : UniG (lawG (subG (gridL l n) C) C.length) C.length C.length) (hq : ∀ x ∈ l, QB B x) (hB : ge (B + 1) (2 * C.length + 1) ≤ 17592186044416) :
    Spec Try.prog 108 [.agg #[.int .i64 (n : Int), .int .i64 (n : Int), s], vC] V fun v' V' => ∃ X : Nat → Rat, LinG (lawG (subG (gridL l n) C) C.length) C.length C.length (oneB C.length) X ∧ (∀ j, j < C.length → QB (2 * ge (B + 1) (2 * C.length)) (X j)) ∧ Rats V' v' (scat C X n C.length) := by
  obtain ⟨A, cp, rfl, hc, hm⟩ := h.form
  obtain ⟨A2, c2, rfl, hc2, hm2⟩ := hC.form
  obtain ⟨m, hmm⟩ : ∃ m, m = C.length := ⟨_, rfl⟩
  obtain ⟨bC, oC, rfl⟩ := hC.addr (by omega)
  obtain ⟨Q, hQ⟩ : ∃ Q, Q = lawG (subG (gridL l n) C) C.length := ⟨_, rfl⟩
  have hqQ : ∀ k i, k < m → i < m → QB (B + 1) (Q k i) := fun k i hk hi => by rw [hQ]; exact lawQ_QB hq ll hlt (by omega) (by omega)
  have hQd : ∀ k i, Q k i = if k + 1 = m then 1 else if i = k then cf l (C.getD i 0 * n + C.getD k 0) - 1 else cf l (C.getD i 0 * n + C.getD k 0) := fun k i => by rw [hQ, hmm]; rfl
  rw [← hQ] at hu ⊢
  have hnn : n * n ≤ 3600 := Nat.le_trans (Nat.mul_le_mul hn hn) (by decide)
  have hmmm : m * m ≤ 3600 := Nat.le_trans (Nat.mul_le_mul (by omega) (by omega)) (by decide : 60 * 60 ≤ 3600)
  have hB0 : B + 1 ≤ 17592186044416 := Nat.le_trans (ge_le _ _) hB
  have hCl : ∀ i, i < m → C.getD i 0 < n ∧ ∀ V', V.le V' → ∀ H, Loads Try.prog H V' 3 bC (oC + i) (.int .i64 ((C.getD i 0 : Nat) : Int)) := fun i hi => by
    have hi' : i < C.length := by omega
    have e : C.getD i 0 = C[i] := by rw [List.getD_eq_getElem?_getD, List.getElem?_eq_getElem hi']; rfl
    refine ⟨by rw [e]; exact hlt _ (List.getElem_mem hi'), fun V' hV H => ?_⟩
    obtain ⟨u, g1, _, g2⟩ := Sl1.load (hC.mono natE_ok hV) i hi'
    cases g1
    rw [e]; exact g2 H _ _ shapeT_3
  rw [← hmm] at hu hl h1 hc2 hB ⊢
  clear hC
  refine (Spec.enter Try.func108 rfl fun Γ => ?_)
  simp only [Try.ntmps108, List.map_cons, List.map_nil, List.length_cons, List.length_nil, Nat.reduceAdd, Nat.reduceSub, List.replicate_succ, List.replicate_zero, List.cons_append, List.nil_append]
  first | refine Gx.a (by kernel_rfl) fun K hK => ?_ | refine Gx.b (by kernel_rfl) fun K hK => ?_ | refine Gx.c (by kernel_rfl) fun K hK => ?_
  simp only [XM, XN, XA, XB, gateX, Nat.reduceAdd, Nat.reduceLeDiff, Nat.reduceSub, Nat.reduceMul, ↓reduceIte, Int.reduceToNat, Int.reduceLE, beq_self_eq_true]
  refine hK _ ?_
  first | refine Gx.a (by kernel_rfl) fun K hK => ?_ | refine Gx.b (by kernel_rfl) fun K hK => ?_ | refine Gx.c (by kernel_rfl) fun K hK => ?_
  simp only [XM, XN, XA, XB, gateX, Nat.reduceAdd, Nat.reduceLeDiff, Nat.reduceSub, Nat.reduceMul, ↓reduceIte, Int.reduceToNat, Int.reduceLE, beq_self_eq_true]
  refine hK _ ?_
  first | refine Gx.a (by kernel_rfl) fun K hK => ?_ | refine Gx.b (by kernel_rfl) fun K hK => ?_ | refine Gx.c (by kernel_rfl) fun K hK => ?_
  simp only [XM, XN, XA, XB, gateX, Nat.reduceAdd, Nat.reduceLeDiff, Nat.reduceSub, Nat.reduceMul, ↓reduceIte, Int.reduceToNat, Int.reduceLE, beq_self_eq_true]
  refine bd_go (by kernel_rfl) #[(0, .int .i64 (m : Int)), (1, .int .i64 (m : Int))] (by simp [ev_tmp, SV.val]) (bd_mtx2 rfl rfl) ?_
  simp only [XM, XN, XA, XB, gateX, Nat.reduceAdd, Nat.reduceLeDiff, Nat.reduceSub, Nat.reduceMul, ↓reduceIte, Int.reduceToNat, Int.reduceLE, beq_self_eq_true]
  refine bd_go (by kernel_rfl) #[(0, .int .i64 (m : Int)), (1, .int .i64 1)] (by simp [ev_tmp, ev_const, SV.val]) (bd_mtx2 rfl rfl) ?_
  simp only [XM, XN, XA, XB, gateX, Nat.reduceAdd, Nat.reduceLeDiff, Nat.reduceSub, Nat.reduceMul, ↓reduceIte, Int.reduceToNat, Int.reduceLE, beq_self_eq_true]
  refine st_mat shapeT_37 rfl rfl rfl rfl rfl ?_
  simp only [XM, XN, XA, XB, gateX, Nat.reduceAdd, Nat.reduceLeDiff, Nat.reduceSub, Nat.reduceMul, ↓reduceIte, Int.reduceToNat, Int.reduceLE, beq_self_eq_true]
  refine st_mat shapeT_37 rfl rfl rfl rfl rfl ?_
  simp only [XM, XN, XA, XB, gateX, Nat.reduceAdd, Nat.reduceLeDiff, Nat.reduceSub, Nat.reduceMul, ↓reduceIte, Int.reduceToNat, Int.reduceLE, beq_self_eq_true]
  refine hK _ ?_
  refine XWP.cutD 3 (fun s => ∃ (V2 : View) (H2 : Heap) (sa sb : Value) (ca cb : List Value), StIs (fun Z => [Z 0, .v (.slice (some ⟨bC, oC, none⟩) m c2), .p 0 0, Z 3,Z 4, .v (.int .i64 (m : Int)), .p 1 0, .p 2 0, Z 8,Z 9,Z 10,Z 11,Z 12,Z 13,Z 14,Z 15,Z 16,Z 17,Z 18,Z 19,Z 20,Z 21,Z 22,Z 23,Z 24,Z 25,Z 26,Z 27,Z 28,Z 29,Z 30,Z 31,Z 32,Z 33,Z 34,Z 35,Z 36,Z 37,Z 38,Z 39,Z 40,Z 41,Z 42,Z 43,Z 44,Z 45,Z 46,Z 47,Z 48,Z 49,Z 50,Z 51,Z 52,Z 53,Z 54,Z 55,Z 56,Z 57,Z 58,Z 59,Z 60,Z 61,Z 62,Z 63,Z 64,Z 65,Z 66,Z 67,Z 68,Z 69,Z 70,Z 71,Z 72,Z 73,Z 74,Z 75,Z 76,Z 77,Z 78,Z 79,Z 80,Z 81,Z 82,Z 83,Z 84,Z 85,Z 86,Z 87,Z 88,Z 89,Z 90,Z 91,Z 92,Z 93,Z 94,Z 95,Z 96,Z 97,Z 98,Z 99,Z 100,Z 101,Z 102,Z 103,Z 104,Z 105,Z 106,Z 107]) [[.int .i64 (n : Int), .int .i64 (n : Int), .slice A l.length cp], [.int .i64 (m : Int), .int .i64 (m : Int), sa], [.int .i64 (m : Int), .int .i64 1, sb]] H2 V2 s ∧ V.le V2 ∧ Own H2 27 3 sa (m * m) ca ∧ RowAt ratE V2 ca (mk (m * m) (flatF Q m)) ∧ Own H2 27 3 sb m cb ∧ RowAt ratE V2 cb (mk m (oneB m)) ∧ ∀ b, sa.ownBlock = some b → sb.ownBlock ≠ some b) ?_ ?_
  · first | refine Gx.a (by kernel_rfl) fun K hK => ?_ | refine Gx.b (by kernel_rfl) fun K hK => ?_ | refine Gx.c (by kernel_rfl) fun K hK => ?_
    simp only [XM, XN, XA, XB, gateX, Nat.reduceAdd, Nat.reduceLeDiff, Nat.reduceSub, Nat.reduceMul, ↓reduceIte, Int.reduceToNat, Int.reduceLE, beq_self_eq_true]
    refine hK _ ?_
    clear hK
    first | refine XWP.block ?_ | refine XWP.seq (XWP.block ?_)
    refine XWP.loopD 3 (fun q s => ∃ (k : Nat) (V2 : View) (H2 : Heap) (sa sb : Value) (ca cb : List Value), StIs (fun Z => [Z 0, .v (.slice (some ⟨bC, oC, none⟩) m c2), .p 0 0, Z 3,Z 4, .v (.int .i64 (m : Int)), .p 1 0, .p 2 0, Z 8,Z 9,Z 10,Z 11,Z 12,Z 13,Z 14,Z 15,Z 16,Z 17,Z 18,Z 19,Z 20,Z 21,Z 22,Z 23,Z 24,Z 25,Z 26, .v (.slice (some ⟨bC, oC, none⟩) m c2), .v (.int .i64 (m : Int)), .v (.int .i64 (k : Int)), Z 30,Z 31,Z 32,Z 33,Z 34,Z 35,Z 36,Z 37,Z 38,Z 39,Z 40,Z 41,Z 42,Z 43,Z 44,Z 45,Z 46,Z 47,Z 48,Z 49,Z 50,Z 51,Z 52,Z 53,Z 54,Z 55,Z 56,Z 57,Z 58,Z 59,Z 60,Z 61,Z 62,Z 63,Z 64,Z 65,Z 66,Z 67,Z 68,Z 69,Z 70,Z 71,Z 72,Z 73,Z 74,Z 75,Z 76,Z 77,Z 78,Z 79,Z 80,Z 81,Z 82,Z 83,Z 84,Z 85,Z 86,Z 87,Z 88,Z 89,Z 90,Z 91,Z 92,Z 93,Z 94,Z 95,Z 96,Z 97,Z 98,Z 99,Z 100,Z 101,Z 102,Z 103,Z 104,Z 105,Z 106,Z 107]) [[.int .i64 (n : Int), .int .i64 (n : Int), .slice A l.length cp], [.int .i64 (m : Int), .int .i64 (m : Int), sa], [.int .i64 (m : Int), .int .i64 1, sb]] H2 V2 s ∧ q + k = m ∧ V.le V2 ∧ Own H2 27 3 sa (k * m) ca ∧ RowAt ratE V2 ca (mk (k * m) (flatF Q m)) ∧ Own H2 27 3 sb k cb ∧ RowAt ratE V2 cb (mk k (oneB m)) ∧ ∀ b, sa.ownBlock = some b → sb.ownBlock ≠ some b) m ⟨0, V, _, _, _, [], [], StIs.of (by exact rfl), by omega, View.le_refl _, by rw [Nat.zero_mul]; exact own_nil, by rw [Nat.zero_mul]; exact RowAt.nil _, own_nil, RowAt.nil _, fun b e => by cases e⟩ ?_
    rintro q s ⟨k, V2, H2, sa, sb, ca, cb, hs, hqk, hV2, hoa, hra, hob, hrb, hdis⟩
    obtain ⟨z, rfl⟩ := hs.out
    try dsimp only
    clear hs
    by_cases hk : k < m
    rotate_left
    · obtain rfl : k = m := by omega
      have b1 : decide ((k : Int) < (k : Int)) = false := decide_eq_false (by omega)
      first | refine Gx.a (by kernel_rfl) fun K hK => ?_ | refine Gx.b (by kernel_rfl) fun K hK => ?_ | refine Gx.c (by kernel_rfl) fun K hK => ?_
      simp only [XM, XN, XA, XB, gateX, Nat.reduceAdd, Nat.reduceLeDiff, Nat.reduceSub, Nat.reduceMul, ↓reduceIte, Int.reduceToNat, Int.reduceLE, beq_self_eq_true, b1]
      refine hK _ ?_
      first | refine Gx.f rfl ?_ | refine XWP.seq (Gx.f rfl ?_)
      refine XWP.exit ?_
      exact fun f => ⟨V2, H2, sa, sb, ca, cb, StIs.of (by exact rfl), hV2, hoa, hra, hob, hrb, hdis⟩
    have b1 : decide ((k : Int) < (m : Int)) = true := decide_eq_true (by omega)
    first | refine Gx.a (by kernel_rfl) fun K hK => ?_ | refine Gx.b (by kernel_rfl) fun K hK => ?_ | refine Gx.c (by kernel_rfl) fun K hK => ?_
    simp only [XM, XN, XA, XB, gateX, Nat.reduceAdd, Nat.reduceLeDiff, Nat.reduceSub, Nat.reduceMul, ↓reduceIte, Int.reduceToNat, Int.reduceLE, beq_self_eq_true, b1]
    refine hK _ ?_
    first | refine Gx.t rfl ?_ | refine XWP.seq (Gx.t rfl ?_)
    refine XWP.skip ?_
    obtain ⟨hck, hldk⟩ := hCl k hk
    refine XWP.cutD 3 (fun s => ∃ (V3 : View) (H3 : Heap) (sa sb : Value) (ca cb : List Value), StIs (fun Z => [Z 0, .v (.slice (some ⟨bC, oC, none⟩) m c2), .p 0 0, Z 3,Z 4, .v (.int .i64 (m : Int)), .p 1 0, .p 2 0, Z 8,Z 9,Z 10,Z 11,Z 12,Z 13,Z 14,Z 15,Z 16,Z 17,Z 18,Z 19,Z 20,Z 21,Z 22,Z 23,Z 24,Z 25,Z 26, .v (.slice (some ⟨bC, oC, none⟩) m c2), .v (.int .i64 (m : Int)), .v (.int .i64 (k : Int)), Z 30,Z 31,Z 32,Z 33,Z 34,Z 35,Z 36,Z 37,Z 38,Z 39,Z 40,Z 41,Z 42,Z 43,Z 44,Z 45,Z 46,Z 47,Z 48,Z 49,Z 50,Z 51,Z 52,Z 53,Z 54,Z 55,Z 56,Z 57,Z 58,Z 59,Z 60,Z 61,Z 62,Z 63,Z 64,Z 65,Z 66,Z 67,Z 68,Z 69,Z 70,Z 71,Z 72,Z 73,Z 74,Z 75,Z 76,Z 77,Z 78,Z 79,Z 80,Z 81,Z 82,Z 83,Z 84,Z 85,Z 86,Z 87,Z 88,Z 89,Z 90,Z 91,Z 92,Z 93,Z 94,Z 95,Z 96,Z 97,Z 98,Z 99,Z 100,Z 101,Z 102,Z 103,Z 104,Z 105,Z 106,Z 107]) [[.int .i64 (n : Int), .int .i64 (n : Int), .slice A l.length cp], [.int .i64 (m : Int), .int .i64 (m : Int), sa], [.int .i64 (m : Int), .int .i64 1, sb]] H3 V3 s ∧ V2.le V3 ∧ Own H3 27 3 sa ((k + 1) * m) ca ∧ RowAt ratE V3 ca (mk ((k + 1) * m) (flatF Q m)) ∧ Own H3 27 3 sb (k + 1) cb ∧ RowAt ratE V3 cb (mk (k + 1) (oneB m)) ∧ ∀ b, sa.ownBlock = some b → sb.ownBlock ≠ some b) ?_ ?_
    · first | refine XWP.block ?_ | refine XWP.seq (XWP.block ?_)
      first | refine Gx.a (by kernel_rfl) fun K hK => ?_ | refine Gx.b (by kernel_rfl) fun K hK => ?_ | refine Gx.c (by kernel_rfl) fun K hK => ?_
      simp only [XM, XN, XA, XB, gateX, Nat.reduceAdd, Nat.reduceLeDiff, Nat.reduceSub, Nat.reduceMul, ↓reduceIte, Int.reduceToNat, Int.reduceLE, beq_self_eq_true]
      refine ⟨by omega, by omega, ?_⟩
      refine ld_mem (by simpa using hldk V2 hV2 _) ?_
      simp only [XM, XN, XA, XB, gateX, Nat.reduceAdd, Nat.reduceLeDiff, Nat.reduceSub, Nat.reduceMul, ↓reduceIte, Int.reduceToNat, Int.reduceLE, beq_self_eq_true]
      refine hK _ ?_
      first | refine Gx.a (by kernel_rfl) fun K hK => ?_ | refine Gx.b (by kernel_rfl) fun K hK => ?_ | refine Gx.c (by kernel_rfl) fun K hK => ?_
      simp only [XM, XN, XA, XB, gateX, Nat.reduceAdd, Nat.reduceLeDiff, Nat.reduceSub, Nat.reduceMul, ↓reduceIte, Int.reduceToNat, Int.reduceLE, beq_self_eq_true]
      refine call_go (by kernel_rfl) rfl (qzero_c _) fun v4 V4 hV4 h4 => ?_
      obtain ⟨x4, y4, rfl, o1, o2⟩ := h4.form
      simp only [XM, XN, XA, XB, gateX, Nat.reduceAdd, Nat.reduceLeDiff, Nat.reduceSub, Nat.reduceMul, ↓reduceIte, Int.reduceToNat, Int.reduceLE, beq_self_eq_true]
      refine st_rat rfl rfl rfl o1 o2 ?_
      simp only [XM, XN, XA, XB, gateX, Nat.reduceAdd, Nat.reduceLeDiff, Nat.reduceSub, Nat.reduceMul, ↓reduceIte, Int.reduceToNat, Int.reduceLE, beq_self_eq_true]
      refine hK _ ?_
      refine XWP.cutD 4 (fun s => ∃ (V5 : View) (H5 : Heap) (sa : Value) (ca : List Value) (bs : Bool) (xs ys : Value), StIs (fun Z => [Z 0, .v (.slice (some ⟨bC, oC, none⟩) m c2), .p 0 0, Z 3,Z 4, .v (.int .i64 (m : Int)), .p 1 0, .p 2 0, .v (.int .i64 (k : Int)), Z 9, .p 3 0, Z 11,Z 12,Z 13,Z 14,Z 15,Z 16,Z 17,Z 18,Z 19,Z 20,Z 21,Z 22,Z 23,Z 24,Z 25,Z 26, .v (.slice (some ⟨bC, oC, none⟩) m c2), .v (.int .i64 (m : Int)), .v (.int .i64 (k : Int)), Z 30,Z 31,Z 32,Z 33,Z 34,Z 35,Z 36,Z 37,Z 38,Z 39,Z 40,Z 41,Z 42,Z 43,Z 44,Z 45,Z 46,Z 47,Z 48,Z 49,Z 50,Z 51,Z 52,Z 53,Z 54,Z 55,Z 56,Z 57,Z 58,Z 59,Z 60,Z 61,Z 62,Z 63,Z 64,Z 65,Z 66,Z 67,Z 68,Z 69,Z 70,Z 71,Z 72,Z 73,Z 74,Z 75,Z 76,Z 77,Z 78,Z 79,Z 80,Z 81,Z 82,Z 83,Z 84,Z 85,Z 86,Z 87,Z 88,Z 89,Z 90,Z 91,Z 92,Z 93,Z 94,Z 95,Z 96,Z 97,Z 98,Z 99,Z 100,Z 101,Z 102,Z 103,Z 104,Z 105,Z 106,Z 107]) [[.int .i64 (n : Int), .int .i64 (n : Int), .slice A l.length cp], [.int .i64 (m : Int), .int .i64 (m : Int), sa], [.int .i64 (m : Int), .int .i64 1, sb], [.bool bs, xs, ys]] H5 V5 s ∧ V2.le V5 ∧ Own H5 27 3 sa (k * m + m) ca ∧ RowAt ratE V5 ca (mk (k * m + m) (flatF Q m)) ∧ Own H5 27 3 sb k cb ∧ (∀ b, sb.ownBlock = some b → sa.ownBlock ≠ some b) ∧ RatC V5 (.agg #[.bool bs, xs, ys]) (oneB m k) ∧ isOne xs = true ∧ isOne ys = true) ?_ ?_
      · first | refine Gx.a (by kernel_rfl) fun K hK => ?_ | refine Gx.b (by kernel_rfl) fun K hK => ?_ | refine Gx.c (by kernel_rfl) fun K hK => ?_
        simp only [XM, XN, XA, XB, gateX, Nat.reduceAdd, Nat.reduceLeDiff, Nat.reduceSub, Nat.reduceMul, ↓reduceIte, Int.reduceToNat, Int.reduceLE, beq_self_eq_true]
        refine hK _ ?_
        clear hK
        first | refine XWP.block ?_ | refine XWP.seq (XWP.block ?_)
        refine XWP.loopD 4 (fun p s => ∃ (i : Nat) (V5 : View) (H5 : Heap) (sa : Value) (ca : List Value) (bs : Bool) (xs ys : Value), StIs (fun Z => [Z 0, .v (.slice (some ⟨bC, oC, none⟩) m c2), .p 0 0, Z 3,Z 4, .v (.int .i64 (m : Int)), .p 1 0, .p 2 0, .v (.int .i64 (k : Int)), .v (.int .i64 ((C.getD k 0 : Nat) : Int)), .p 3 0, Z 11,Z 12,Z 13,Z 14,Z 15,Z 16,Z 17,Z 18,Z 19,Z 20,Z 21,Z 22,Z 23,Z 24,Z 25,Z 26, .v (.slice (some ⟨bC, oC, none⟩) m c2), .v (.int .i64 (m : Int)), .v (.int .i64 (k : Int)), Z 30,Z 31,Z 32,Z 33,Z 34, .v (.slice (some ⟨bC, oC, none⟩) m c2), .v (.int .i64 (m : Int)), .v (.int .i64 (i : Int)), Z 38,Z 39,Z 40,Z 41,Z 42,Z 43,Z 44,Z 45,Z 46,Z 47,Z 48,Z 49,Z 50,Z 51,Z 52,Z 53,Z 54,Z 55,Z 56,Z 57,Z 58,Z 59,Z 60,Z 61,Z 62,Z 63,Z 64,Z 65,Z 66,Z 67,Z 68,Z 69,Z 70,Z 71,Z 72,Z 73,Z 74,Z 75,Z 76,Z 77,Z 78,Z 79,Z 80,Z 81,Z 82,Z 83,Z 84,Z 85,Z 86,Z 87,Z 88,Z 89,Z 90,Z 91,Z 92,Z 93,Z 94,Z 95,Z 96,Z 97,Z 98,Z 99,Z 100,Z 101,Z 102,Z 103,Z 104,Z 105,Z 106,Z 107]) [[.int .i64 (n : Int), .int .i64 (n : Int), .slice A l.length cp], [.int .i64 (m : Int), .int .i64 (m : Int), sa], [.int .i64 (m : Int), .int .i64 1, sb], [.bool bs, xs, ys]] H5 V5 s ∧ p + i = m ∧ V2.le V5 ∧ Own H5 27 3 sa (k * m + i) ca ∧ RowAt ratE V5 ca (mk (k * m + i) (flatF Q m)) ∧ Own H5 27 3 sb k cb ∧ (∀ b, sb.ownBlock = some b → sa.ownBlock ≠ some b) ∧ RatC V5 (.agg #[.bool bs, xs, ys]) (if 0 < i then oneB m k else 0) ∧ isOne xs = true ∧ isOne ys = true) m ⟨0, V4, H2, sa, ca, _, x4, y4, StIs.of (by exact rfl), by omega, hV4, hoa, hra.mono ratE_ok hV4, hob, fun b e1 e2 => hdis b e2 e1, h4, o1, o2⟩ ?_
        clear h4 o1 o2 hoa hra hob
        rintro p s ⟨i, V5, H5, sa, ca, bs, xs, ys, hs, hp, hV5, hoa, hra, hob, hds, h5, o1, o2⟩
        obtain ⟨z, rfl⟩ := hs.out
        try dsimp only
        clear hs
        by_cases hi : i < m
        rotate_left
        · obtain rfl : i = m := by omega
          have b2 : decide ((i : Int) < (i : Int)) = false := decide_eq_false (by omega)
          first | refine Gx.a (by kernel_rfl) fun K hK => ?_ | refine Gx.b (by kernel_rfl) fun K hK => ?_ | refine Gx.c (by kernel_rfl) fun K hK => ?_
          simp only [XM, XN, XA, XB, gateX, Nat.reduceAdd, Nat.reduceLeDiff, Nat.reduceSub, Nat.reduceMul, ↓reduceIte, Int.reduceToNat, Int.reduceLE, beq_self_eq_true, b2]
          refine hK _ ?_
          first | refine Gx.f rfl ?_ | refine XWP.seq (Gx.f rfl ?_)
          refine XWP.exit ?_
          rw [if_pos (by omega)] at h5
          exact fun f => ⟨V5, H5, sa, ca, bs, xs, ys, StIs.of (by exact rfl), hV5, hoa, hra, hob, hds, h5, o1, o2⟩
        have b2 : decide ((i : Int) < (m : Int)) = true := decide_eq_true (by omega)
        first | refine Gx.a (by kernel_rfl) fun K hK => ?_ | refine Gx.b (by kernel_rfl) fun K hK => ?_ | refine Gx.c (by kernel_rfl) fun K hK => ?_
        simp only [XM, XN, XA, XB, gateX, Nat.reduceAdd, Nat.reduceLeDiff, Nat.reduceSub, Nat.reduceMul, ↓reduceIte, Int.reduceToNat, Int.reduceLE, beq_self_eq_true, b2]
        refine hK _ ?_
        first | refine Gx.t rfl ?_ | refine XWP.seq (Gx.t rfl ?_)
        refine XWP.skip ?_
        obtain ⟨hci, hldi⟩ := hCl i hi
        have hp1 := pos_lt hk hi
        have hp2 := pos_lt hci hck
        have hle5 := View.le_trans hV2 hV5
        refine XWP.cutD 4 (fun s => ∃ (V6 : View) (H6 : Heap) (sa : Value) (ca : List Value) (bs : Bool) (xs ys : Value), StIs (fun Z => [Z 0, .v (.slice (some ⟨bC, oC, none⟩) m c2), .p 0 0, Z 3,Z 4, .v (.int .i64 (m : Int)), .p 1 0, .p 2 0, .v (.int .i64 (k : Int)), .v (.int .i64 ((C.getD k 0 : Nat) : Int)), .p 3 0, Z 11,Z 12,Z 13,Z 14,Z 15,Z 16,Z 17,Z 18,Z 19,Z 20,Z 21,Z 22,Z 23,Z 24,Z 25,Z 26, .v (.slice (some ⟨bC, oC, none⟩) m c2), .v (.int .i64 (m : Int)), .v (.int .i64 (k : Int)), Z 30,Z 31,Z 32,Z 33,Z 34, .v (.slice (some ⟨bC, oC, none⟩) m c2), .v (.int .i64 (m : Int)), .v (.int .i64 (i : Int)), Z 38,Z 39,Z 40,Z 41,Z 42,Z 43,Z 44,Z 45,Z 46,Z 47,Z 48,Z 49,Z 50,Z 51,Z 52,Z 53,Z 54,Z 55,Z 56,Z 57,Z 58,Z 59,Z 60,Z 61,Z 62,Z 63,Z 64,Z 65,Z 66,Z 67,Z 68,Z 69,Z 70,Z 71,Z 72,Z 73,Z 74,Z 75,Z 76,Z 77,Z 78,Z 79,Z 80,Z 81,Z 82,Z 83,Z 84,Z 85,Z 86,Z 87,Z 88,Z 89,Z 90,Z 91,Z 92,Z 93,Z 94,Z 95,Z 96,Z 97,Z 98,Z 99,Z 100,Z 101,Z 102,Z 103,Z 104,Z 105,Z 106,Z 107]) [[.int .i64 (n : Int), .int .i64 (n : Int), .slice A l.length cp], [.int .i64 (m : Int), .int .i64 (m : Int), sa], [.int .i64 (m : Int), .int .i64 1, sb], [.bool bs, xs, ys]] H6 V6 s ∧ V5.le V6 ∧ Own H6 27 3 sa (k * m + i + 1) ca ∧ RowAt ratE V6 ca (mk (k * m + i + 1) (flatF Q m)) ∧ Own H6 27 3 sb k cb ∧ (∀ b, sb.ownBlock = some b → sa.ownBlock ≠ some b) ∧ RatC V6 (.agg #[.bool bs, xs, ys]) (oneB m k) ∧ isOne xs = true ∧ isOne ys = true) ?_ ?_
        · first | refine XWP.block ?_ | refine XWP.seq (XWP.block ?_)
          first | refine Gx.a (by kernel_rfl) fun K hK => ?_ | refine Gx.b (by kernel_rfl) fun K hK => ?_ | refine Gx.c (by kernel_rfl) fun K hK => ?_
          simp only [XM, XN, XA, XB, gateX, Nat.reduceAdd, Nat.reduceLeDiff, Nat.reduceSub, Nat.reduceMul, ↓reduceIte, Int.reduceToNat, Int.reduceLE, beq_self_eq_true]
          refine ⟨by omega, by omega, ?_⟩
          refine ld_mem (by simpa using hldi V5 hle5 _) ?_
          simp only [XM, XN, XA, XB, gateX, Nat.reduceAdd, Nat.reduceLeDiff, Nat.reduceSub, Nat.reduceMul, ↓reduceIte, Int.reduceToNat, Int.reduceLE, beq_self_eq_true]
          refine hK _ ?_
          first | refine Gx.a (by kernel_rfl) fun K hK => ?_ | refine Gx.b (by kernel_rfl) fun K hK => ?_ | refine Gx.c (by kernel_rfl) fun K hK => ?_
          simp only [XM, XN, XA, XB, gateX, Nat.reduceAdd, Nat.reduceLeDiff, Nat.reduceSub, Nat.reduceMul, ↓reduceIte, Int.reduceToNat, Int.reduceLE, beq_self_eq_true]
          refine call_go (by kernel_rfl) rfl (bat_c _ _ _ n (C.getD i 0) (C.getD k 0) l (h.up hle5) (by omega) hn (by omega) (by omega)) fun v7 V7 hV7 h7 => ?_
          obtain ⟨x7, y7, rfl, p1, p2⟩ := h7.form
          simp only [XM, XN, XA, XB, gateX, Nat.reduceAdd, Nat.reduceLeDiff, Nat.reduceSub, Nat.reduceMul, ↓reduceIte, Int.reduceToNat, Int.reduceLE, beq_self_eq_true]
          refine st_rat rfl rfl rfl p1 p2 ?_
          simp only [XM, XN, XA, XB, gateX, Nat.reduceAdd, Nat.reduceLeDiff, Nat.reduceSub, Nat.reduceMul, ↓reduceIte, Int.reduceToNat, Int.reduceLE, beq_self_eq_true]
          refine hK _ ?_
          obtain ⟨e0, he0⟩ : ∃ e0, e0 = cf l (C.getD i 0 * n + C.getD k 0) := ⟨_, rfl⟩
          have hqe : QB B e0 := by rw [he0]; exact hq _ (cf_mem (by omega))
          rw [← he0] at h7
          refine XWP.cutD 5 (fun s => ∃ (V8 : View) (br : Bool) (xr yr : Value), StIs (fun Z => [Z 0, .v (.slice (some ⟨bC, oC, none⟩) m c2), .p 0 0, Z 3,Z 4, .v (.int .i64 (m : Int)), .p 1 0, .p 2 0, .v (.int .i64 (k : Int)), .v (.int .i64 ((C.getD k 0 : Nat) : Int)), .p 3 0, .v (.int .i64 (i : Int)), Z 12, .p 4 0, Z 14,Z 15,Z 16,Z 17,Z 18,Z 19,Z 20,Z 21,Z 22,Z 23,Z 24,Z 25,Z 26, .v (.slice (some ⟨bC, oC, none⟩) m c2), .v (.int .i64 (m : Int)), .v (.int .i64 (k : Int)), Z 30,Z 31,Z 32,Z 33,Z 34, .v (.slice (some ⟨bC, oC, none⟩) m c2), .v (.int .i64 (m : Int)), .v (.int .i64 (i : Int)), Z 38,Z 39,Z 40,Z 41,Z 42,Z 43,Z 44,Z 45,Z 46,Z 47,Z 48,Z 49,Z 50,Z 51,Z 52,Z 53,Z 54,Z 55,Z 56,Z 57,Z 58,Z 59,Z 60,Z 61,Z 62,Z 63,Z 64,Z 65,Z 66,Z 67,Z 68,Z 69,Z 70,Z 71,Z 72,Z 73,Z 74,Z 75,Z 76,Z 77,Z 78,Z 79,Z 80,Z 81,Z 82,Z 83,Z 84,Z 85,Z 86,Z 87,Z 88,Z 89,Z 90,Z 91,Z 92,Z 93,Z 94,Z 95,Z 96,Z 97,Z 98,Z 99,Z 100,Z 101,Z 102,Z 103,Z 104,Z 105,Z 106,Z 107]) [[.int .i64 (n : Int), .int .i64 (n : Int), .slice A l.length cp], [.int .i64 (m : Int), .int .i64 (m : Int), sa], [.int .i64 (m : Int), .int .i64 1, sb], [.bool bs, xs, ys], [.bool br, xr, yr]] H5 V8 s ∧ V7.le V8 ∧ RatC V8 (.agg #[.bool br, xr, yr]) (if i = k then e0 - 1 else e0) ∧ isOne xr = true ∧ isOne yr = true) ?_ ?_
          · by_cases hik : i = k
            · subst hik
              rw [← he0]
              first | refine Gx.a (by kernel_rfl) fun K hK => ?_ | refine Gx.b (by kernel_rfl) fun K hK => ?_ | refine Gx.c (by kernel_rfl) fun K hK => ?_
              simp only [XM, XN, XA, XB, gateX, Nat.reduceAdd, Nat.reduceLeDiff, Nat.reduceSub, Nat.reduceMul, ↓reduceIte, Int.reduceToNat, Int.reduceLE, beq_self_eq_true, decide_true]
              refine hK _ ?_
              first | refine Gx.t rfl ?_ | refine XWP.seq (Gx.t rfl ?_)
              (first | refine XWP.drw [0, 1, 2, 3] (by kernel_rfl) (by kernel_rfl) (by kernel_rfl) fun K hK => ?_ | refine XWP.seq (XWP.drw [0, 1, 2, 3] (by kernel_rfl) (by kernel_rfl) (by kernel_rfl) fun K hK => ?_) | refine XWP.drw1 [0, 1, 2, 3] (by kernel_rfl) (by kernel_rfl) (by kernel_rfl) fun K hK => ?_) <;> dsimp only [pickOps, List.getElem?_cons_zero, List.getElem?_cons_succ]
              simp only [XM, XN, XA, XB, gateX, Nat.reduceAdd, Nat.reduceLeDiff, Nat.reduceSub, Nat.reduceMul, ↓reduceIte, Int.reduceToNat, Int.reduceLE, beq_self_eq_true]
              refine call_go (by kernel_rfl) rfl (qone_c _) fun v8 V8 hV8 h8 => ?_
              simp only [XM, XN, XA, XB, gateX, Nat.reduceAdd, Nat.reduceLeDiff, Nat.reduceSub, Nat.reduceMul, ↓reduceIte, Int.reduceToNat, Int.reduceLE, beq_self_eq_true]
              refine call_go (by kernel_rfl) rfl (qsub_c _ _ _ _ _ (h7.mono hV8) h8 (hqe.qf (by omega)) QF_one) fun v9 V9 hV9 h9 => ?_
              obtain ⟨x9, y9, rfl, r1, r2⟩ := h9.form
              simp only [XM, XN, XA, XB, gateX, Nat.reduceAdd, Nat.reduceLeDiff, Nat.reduceSub, Nat.reduceMul, ↓reduceIte, Int.reduceToNat, Int.reduceLE, beq_self_eq_true]
              refine st_rat rfl rfl rfl r1 r2 ?_
              simp only [XM, XN, XA, XB, gateX, Nat.reduceAdd, Nat.reduceLeDiff, Nat.reduceSub, Nat.reduceMul, ↓reduceIte, Int.reduceToNat, Int.reduceLE, beq_self_eq_true]
              exact hK _ fun f => ⟨V9, _, x9, y9, StIs.of (by exact rfl), View.le_trans hV8 hV9, by rw [if_pos rfl]; exact h9, r1, r2⟩
            · have b4 : decide ((i : Int) = (k : Int)) = false := decide_eq_false (by omega)
              rw [← he0]
              first | refine Gx.a (by kernel_rfl) fun K hK => ?_ | refine Gx.b (by kernel_rfl) fun K hK => ?_ | refine Gx.c (by kernel_rfl) fun K hK => ?_
              simp only [XM, XN, XA, XB, gateX, Nat.reduceAdd, Nat.reduceLeDiff, Nat.reduceSub, Nat.reduceMul, ↓reduceIte, Int.reduceToNat, Int.reduceLE, beq_self_eq_true, b4]
              refine hK _ ?_
              first | refine Gx.f rfl ?_ | refine XWP.seq (Gx.f rfl ?_)
              refine XWP.skip ?_
              exact fun f => ⟨V7, _, x7, y7, StIs.of (by exact rfl), View.le_refl _, by rw [if_neg hik]; exact h7, p1, p2⟩
          rintro s ⟨V8, br, xr, yr, hs, hV8, h8, r1, r2⟩
          obtain ⟨z, rfl⟩ := hs.out
          try dsimp only
          clear hs h7 p1 p2
          have hV58 := View.le_trans hV7 hV8
          have h5' := h5.mono hV58
          refine XWP.cutD 5 (fun s => ∃ (V9 : View) (bs : Bool) (xs ys : Value) (br : Bool) (xr yr : Value), StIs (fun Z => [Z 0, .v (.slice (some ⟨bC, oC, none⟩) m c2), .p 0 0, Z 3,Z 4, .v (.int .i64 (m : Int)), .p 1 0, .p 2 0, .v (.int .i64 (k : Int)), .v (.int .i64 ((C.getD k 0 : Nat) : Int)), .p 3 0, .v (.int .i64 (i : Int)), Z 12, .p 4 0, Z 14,Z 15,Z 16,Z 17,Z 18,Z 19,Z 20,Z 21,Z 22,Z 23,Z 24,Z 25,Z 26, .v (.slice (some ⟨bC, oC, none⟩) m c2), .v (.int .i64 (m : Int)), .v (.int .i64 (k : Int)), Z 30,Z 31,Z 32,Z 33,Z 34, .v (.slice (some ⟨bC, oC, none⟩) m c2), .v (.int .i64 (m : Int)), .v (.int .i64 (i : Int)), Z 38,Z 39,Z 40,Z 41,Z 42,Z 43,Z 44,Z 45,Z 46,Z 47,Z 48,Z 49,Z 50,Z 51,Z 52,Z 53,Z 54,Z 55,Z 56,Z 57,Z 58,Z 59,Z 60,Z 61,Z 62,Z 63,Z 64,Z 65,Z 66,Z 67,Z 68,Z 69,Z 70,Z 71,Z 72,Z 73,Z 74,Z 75,Z 76,Z 77,Z 78,Z 79,Z 80,Z 81,Z 82,Z 83,Z 84,Z 85,Z 86,Z 87,Z 88,Z 89,Z 90,Z 91,Z 92,Z 93,Z 94,Z 95,Z 96,Z 97,Z 98,Z 99,Z 100,Z 101,Z 102,Z 103,Z 104,Z 105,Z 106,Z 107]) [[.int .i64 (n : Int), .int .i64 (n : Int), .slice A l.length cp], [.int .i64 (m : Int), .int .i64 (m : Int), sa], [.int .i64 (m : Int), .int .i64 1, sb], [.bool bs, xs, ys], [.bool br, xr, yr]] H5 V9 s ∧ V8.le V9 ∧ RatC V9 (.agg #[.bool br, xr, yr]) (Q k i) ∧ isOne xr = true ∧ isOne yr = true ∧ RatC V9 (.agg #[.bool bs, xs, ys]) (oneB m k) ∧ isOne xs = true ∧ isOne ys = true) ?_ ?_
          · have w1 : IntKind.i64.wrap ((m : Int) - 1) = ((m - 1 : Nat) : Int) := by rw [wrap_id (by omega) (by omega)]; omega
            by_cases hkm : k + 1 = m
            · have b5 : decide ((k : Int) = ((m - 1 : Nat) : Int)) = true := decide_eq_true (by omega)
              first | refine Gx.a (by kernel_rfl) fun K hK => ?_ | refine Gx.b (by kernel_rfl) fun K hK => ?_ | refine Gx.c (by kernel_rfl) fun K hK => ?_
              simp only [XM, XN, XA, XB, gateX, Nat.reduceAdd, Nat.reduceLeDiff, Nat.reduceSub, Nat.reduceMul, ↓reduceIte, Int.reduceToNat, Int.reduceLE, beq_self_eq_true, w1, b5]
              refine hK _ ?_
              first | refine Gx.t rfl ?_ | refine XWP.seq (Gx.t rfl ?_)
              first | refine Gx.a (by kernel_rfl) fun K hK => ?_ | refine Gx.b (by kernel_rfl) fun K hK => ?_ | refine Gx.c (by kernel_rfl) fun K hK => ?_
              simp only [XM, XN, XA, XB, gateX, Nat.reduceAdd, Nat.reduceLeDiff, Nat.reduceSub, Nat.reduceMul, ↓reduceIte, Int.reduceToNat, Int.reduceLE, beq_self_eq_true]
              refine call_go (by kernel_rfl) rfl (qone_c _) fun v9 V9 hV9 h9 => ?_
              obtain ⟨x9, y9, rfl, q1, q2⟩ := h9.form
              simp only [XM, XN, XA, XB, gateX, Nat.reduceAdd, Nat.reduceLeDiff, Nat.reduceSub, Nat.reduceMul, ↓reduceIte, Int.reduceToNat, Int.reduceLE, beq_self_eq_true]
              refine call_go (by kernel_rfl) rfl (qone_c _) fun v10 V10 hV10 h10 => ?_
              obtain ⟨x10, y10, rfl, q3, q4⟩ := h10.form
              simp only [XM, XN, XA, XB, gateX, Nat.reduceAdd, Nat.reduceLeDiff, Nat.reduceSub, Nat.reduceMul, ↓reduceIte, Int.reduceToNat, Int.reduceLE, beq_self_eq_true]
              refine st_rat rfl rfl rfl q1 q2 ?_
              simp only [XM, XN, XA, XB, gateX, Nat.reduceAdd, Nat.reduceLeDiff, Nat.reduceSub, Nat.reduceMul, ↓reduceIte, Int.reduceToNat, Int.reduceLE, beq_self_eq_true]
              refine st_rat rfl rfl rfl q3 q4 ?_
              simp only [XM, XN, XA, XB, gateX, Nat.reduceAdd, Nat.reduceLeDiff, Nat.reduceSub, Nat.reduceMul, ↓reduceIte, Int.reduceToNat, Int.reduceLE, beq_self_eq_true]
              have eQ : Q k i = 1 := by rw [hQd, if_pos hkm]
              have eo : oneB m k = 1 := by unfold oneB; rw [if_pos hkm]
              exact hK _ fun f => ⟨V10, _, x10, y10, _, x9, y9, StIs.of (by exact rfl), View.le_trans hV9 hV10, by rw [eQ]; exact h9.mono hV10, q1, q2, by rw [eo]; exact h10, q3, q4⟩
            · have b5 : decide ((k : Int) = ((m - 1 : Nat) : Int)) = false := decide_eq_false (by omega)
              first | refine Gx.a (by kernel_rfl) fun K hK => ?_ | refine Gx.b (by kernel_rfl) fun K hK => ?_ | refine Gx.c (by kernel_rfl) fun K hK => ?_
              simp only [XM, XN, XA, XB, gateX, Nat.reduceAdd, Nat.reduceLeDiff, Nat.reduceSub, Nat.reduceMul, ↓reduceIte, Int.reduceToNat, Int.reduceLE, beq_self_eq_true, w1, b5]
              refine hK _ ?_
              first | refine Gx.f rfl ?_ | refine XWP.seq (Gx.f rfl ?_)
              refine XWP.skip ?_
              have eQ : Q k i = if i = k then e0 - 1 else e0 := by rw [hQd, if_neg hkm, he0]
              have eo : oneB m k = 0 := by unfold oneB; rw [if_neg hkm]
              rw [eo, ite_self] at h5'
              exact fun f => ⟨V8, _, xs, ys, _, xr, yr, StIs.of (by exact rfl), View.le_refl _, by rw [eQ]; exact h8, r1, r2, by rw [eo]; exact h5', o1, o2⟩
          clear h8 r1 r2 h5' h5 o1 o2
          rintro s ⟨V9, bs, xs, ys, br, xr, yr, hs, hV9, h9, r1, r2, h5, o1, o2⟩
          obtain ⟨z, rfl⟩ := hs.out
          try dsimp only
          clear hs
          have hV59 := View.le_trans hV58 hV9
          first | refine Gx.a (by kernel_rfl) fun K hK => ?_ | refine Gx.b (by kernel_rfl) fun K hK => ?_ | refine Gx.c (by kernel_rfl) fun K hK => ?_
          simp only [XM, XN, XA, XB, gateX, Nat.reduceAdd, Nat.reduceLeDiff, Nat.reduceSub, Nat.reduceMul, ↓reduceIte, Int.reduceToNat, Int.reduceLE, beq_self_eq_true]
          refine bs_go (by kernel_rfl) #[(0, .agg #[.bool br, xr, yr])] (by simp [ev_tmp, SV.val]) (bs_rat elemT_22) fun b3 hb3 hb4 => ?_
          simp only [XM, XN, XA, XB, gateX, Nat.reduceAdd, Nat.reduceLeDiff, Nat.reduceSub, Nat.reduceMul, ↓reduceIte, Int.reduceToNat, Int.reduceLE, beq_self_eq_true]
          refine ap_go elemT_22 (by kernel_rfl) zeroT_27 rfl (by omega) (own_upd hoa hb3) (src3 (upd_at _ _ _) rfl r1 r2) (by omega) (by omega) fun v' H' hres => ?_
          obtain ⟨hob', hds'⟩ := own_keep (own_upd (r := some ⟨27, [.bool br, xr, yr], 3⟩) hob hb3) hres hds
          simp only [XM, XN, XA, XB, gateX, Nat.reduceAdd, Nat.reduceLeDiff, Nat.reduceSub, Nat.reduceMul, ↓reduceIte, Int.reduceToNat, Int.reduceLE, beq_self_eq_true]
          refine st_one shapeT_22 rfl (own_isOne hres.1) (by simp) ?_
          simp only [XM, XN, XA, XB, gateX, Nat.reduceAdd, Nat.reduceLeDiff, Nat.reduceSub, Nat.reduceMul, ↓reduceIte, Int.reduceToNat, Int.reduceLE, beq_self_eq_true]
          have hra' := (hra.mono ratE_ok hV59).snoc (show isOne (.bool br) = true from rfl) r1 r2 h9
          rw [← flatF_at Q hi, ← mk_succ (k * m + i) (flatF Q m)] at hra'
          exact hK _ fun f => ⟨V9, H', v', _, bs, xs, ys, StIs.of (by exact rfl), hV59, hres.1, hra', hob', hds', h5, o1, o2⟩
        clear hoa hra hob hds h5 o1 o2
        rintro s ⟨V6, H6, sa, ca, bs, xs, ys, hs, hV6, hoa, hra, hob, hds, h5, o1, o2⟩
        obtain ⟨z, rfl⟩ := hs.out
        try dsimp only
        first | refine Gx.a (by kernel_rfl) fun K hK => ?_ | refine Gx.b (by kernel_rfl) fun K hK => ?_ | refine Gx.c (by kernel_rfl) fun K hK => ?_
        simp only [XM, XN, XA, XB, gateX, Nat.reduceAdd, Nat.reduceLeDiff, Nat.reduceSub, Nat.reduceMul, ↓reduceIte, Int.reduceToNat, Int.reduceLE, beq_self_eq_true, i64_succ i (by omega)]
        exact hK _ ⟨p - 1, by omega, fun f => ⟨i + 1, V6, H6, sa, ca, bs, xs, ys, StIs.of (by exact rfl), by omega, View.le_trans hV5 hV6, hoa, hra, hob, hds, by rw [if_pos (by omega)]; exact h5, o1, o2⟩⟩
      clear h4 o1 o2 hoa hra hob
      rintro s ⟨V5, H5, sa, ca, bs, xs, ys, hs, hV5, hoa, hra, hob, hds, h5, o1, o2⟩
      obtain ⟨z, rfl⟩ := hs.out
      try dsimp only
      clear hs
      first | refine Gx.a (by kernel_rfl) fun K hK => ?_ | refine Gx.b (by kernel_rfl) fun K hK => ?_ | refine Gx.c (by kernel_rfl) fun K hK => ?_
      simp only [XM, XN, XA, XB, gateX, Nat.reduceAdd, Nat.reduceLeDiff, Nat.reduceSub, Nat.reduceMul, ↓reduceIte, Int.reduceToNat, Int.reduceLE, beq_self_eq_true]
      refine bs_go (by kernel_rfl) #[(0, .agg #[.bool bs, xs, ys])] (by simp [ev_tmp, SV.val]) (bs_rat elemT_22) fun b3 hb3 hb4 => ?_
      simp only [XM, XN, XA, XB, gateX, Nat.reduceAdd, Nat.reduceLeDiff, Nat.reduceSub, Nat.reduceMul, ↓reduceIte, Int.reduceToNat, Int.reduceLE, beq_self_eq_true]
      refine ap_go elemT_22 (by kernel_rfl) zeroT_27 rfl (by omega) (own_upd hob hb3) (src3 (upd_at _ _ _) rfl o1 o2) (by omega) (by omega) fun v' H' hres => ?_
      obtain ⟨hoa', hds'⟩ := own_keep (own_upd (r := some ⟨27, [.bool bs, xs, ys], 3⟩) hoa hb3) hres (fun b e1 e2 => hds b e2 e1)
      simp only [XM, XN, XA, XB, gateX, Nat.reduceAdd, Nat.reduceLeDiff, Nat.reduceSub, Nat.reduceMul, ↓reduceIte, Int.reduceToNat, Int.reduceLE, beq_self_eq_true]
      refine st_one shapeT_22 rfl (own_isOne hres.1) (by simp) ?_
      simp only [XM, XN, XA, XB, gateX, Nat.reduceAdd, Nat.reduceLeDiff, Nat.reduceSub, Nat.reduceMul, ↓reduceIte, Int.reduceToNat, Int.reduceLE, beq_self_eq_true]
      have hrb' := (hrb.mono ratE_ok hV5).snoc (show isOne (.bool bs) = true from rfl) o1 o2 h5
      rw [← mk_succ k (oneB m)] at hrb'
      have ekm : (k + 1) * m = k * m + m := by rw [Nat.add_mul, Nat.one_mul]
      exact hK _ fun f => ⟨V5, H', sa, v', ca, _, StIs.of (by exact rfl), hV5, by rw [ekm]; exact hoa', by rw [ekm]; exact hra, hres.1, hrb', hds'⟩
    clear hoa hra hob hrb hdis
    rintro s ⟨V3, H3, sa, sb, ca, cb, hs, hV3, hoa, hra, hob, hrb, hdis⟩
    obtain ⟨z, rfl⟩ := hs.out
    try dsimp only
    first | refine Gx.a (by kernel_rfl) fun K hK => ?_ | refine Gx.b (by kernel_rfl) fun K hK => ?_ | refine Gx.c (by kernel_rfl) fun K hK => ?_
    simp only [XM, XN, XA, XB, gateX, Nat.reduceAdd, Nat.reduceLeDiff, Nat.reduceSub, Nat.reduceMul, ↓reduceIte, Int.reduceToNat, Int.reduceLE, beq_self_eq_true, i64_succ k (by omega)]
    exact hK _ ⟨q - 1, by omega, fun f => ⟨k + 1, V3, H3, sa, sb, ca, cb, StIs.of (by exact rfl), by omega, View.le_trans hV2 hV3, hoa, hra, hob, hrb, hdis⟩⟩
  rintro s ⟨V2, H2, sa, sb, ca, cb, hs, hV2, hoa, hra, hob, hrb, hdis⟩
  obtain ⟨z, rfl⟩ := hs.out
  try dsimp only
  clear hs
  refine XWP.pubR ratE_ok hoa hra fun H3 V3 hV3 ra hk3 => ?_
  have hob3 : Own H3 27 3 sb m cb := by
    refine ⟨hob.1, ?_⟩
    rcases hob.2 with h | ⟨g, cap, e, hg, h⟩
    · exact .inl h
    · exact .inr ⟨g, cap, e, by rw [hk3 g fun e2 => hdis g e2 (by rw [e]; rfl)]; exact hg, h⟩
  refine XWP.pubR ratE_ok hob3 (hrb.mono ratE_ok hV3) fun H4 V4 hV4 rb hk4 => ?_
  have ra : Rats V4 sa (flatG Q m m) := Rats.up ra hV4
  have hV24 := View.le_trans hV3 hV4
  have g1 : ∀ x ∈ flatG Q m m, QB (B + 1) x := fun x hx => by
    unfold flatG mk at hx
    obtain ⟨p, hp, rfl⟩ := List.mem_map.1 hx
    have hp := List.mem_range.1 hp
    exact hqQ _ _ ((Nat.div_lt_iff_lt_mul (by omega)).2 hp) (Nat.mod_lt _ (by omega))
  have g2 : ∀ x ∈ mk m (oneB m), QB (B + 1) x := fun x hx => by
    unfold mk at hx
    obtain ⟨p, hp, rfl⟩ := List.mem_map.1 hx
    unfold oneB
    split
    · exact QB_one _
    · exact QB_zero _
  first | refine Gx.a (by kernel_rfl) fun K hK => ?_ | refine Gx.b (by kernel_rfl) fun K hK => ?_ | refine Gx.c (by kernel_rfl) fun K hK => ?_
  simp only [XM, XN, XA, XB, gateX, Nat.reduceAdd, Nat.reduceLeDiff, Nat.reduceSub, Nat.reduceMul, ↓reduceIte, Int.reduceToNat, Int.reduceLE, beq_self_eq_true]
  refine call_go (by kernel_rfl) rfl (mSolve_c _ _ _ m 1 (B + 1) (flatG Q m m) (mk m (oneB m)) ra rb (flatG_len _ _ _) (by rw [mk_len, Nat.mul_one]) h1 hl (by omega) g1 g2 hB) fun v5 V5 hV5 h5 => ?_
  have hu' : UniG (gridL (flatG Q m m) m) m m := hu.congr fun i j hi hj => (gridL_flat Q hi hj).symm
  obtain ⟨w, X, rfl, hw, hX, hqX⟩ := h5.2 hu'
  have hX0 : LinG Q m m (oneB m) (fun j => X j 0) := (hX 0 (by omega)).congr (fun i j hi hj => gridL_flat Q hi hj) fun i hi => by
    show cf (mk m (oneB m)) (i * 1 + 0) = oneB m i
    rw [Nat.mul_one, Nat.add_zero, cf_mk, if_pos hi]
  obtain ⟨A5, c5, rfl, _, _⟩ := hw.form
  obtain ⟨bw, ow, rfl⟩ := SlAt.addr hw (by rw [flatG_len]; omega)
  simp only [XM, XN, XA, XB, gateX, Nat.reduceAdd, Nat.reduceLeDiff, Nat.reduceSub, Nat.reduceMul, ↓reduceIte, Int.reduceToNat, Int.reduceLE, beq_self_eq_true]
  refine st_mat shapeT_37 rfl rfl rfl rfl rfl ?_
  simp only [XM, XN, XA, XB, gateX, Nat.reduceAdd, Nat.reduceLeDiff, Nat.reduceSub, Nat.reduceMul, ↓reduceIte, Int.reduceToNat, Int.reduceLE, beq_self_eq_true]
  refine hK _ ?_
  first | refine Gx.a (by kernel_rfl) fun K hK => ?_ | refine Gx.b (by kernel_rfl) fun K hK => ?_ | refine Gx.c (by kernel_rfl) fun K hK => ?_
  simp only [XM, XN, XA, XB, gateX, Nat.reduceAdd, Nat.reduceLeDiff, Nat.reduceSub, Nat.reduceMul, ↓reduceIte, Int.reduceToNat, Int.reduceLE, beq_self_eq_true]
  refine mk_go rfl rfl elemT_22 zeroT_27 (by omega) (by omega) (by omega) (by omega) rfl (by omega) fun go hgo1 hgo2 => ?_
  simp only [XM, XN, XA, XB, gateX, Nat.reduceAdd, Nat.reduceLeDiff, Nat.reduceSub, Nat.reduceMul, ↓reduceIte, Int.reduceToNat, Int.reduceLE, beq_self_eq_true]
  refine hK _ ?_
  clear hK
  have hle4 := View.le_trans hV2 hV24
  have hle5 := View.le_trans hle4 hV5
  refine XWP.cutD 4 (fun s => ∃ (V6 : View) (H6 : Heap) (co : List Value), StIs (fun Z => [Z 0, .v (.slice (some ⟨bC, oC, none⟩) m c2), Z 2,Z 3,Z 4,Z 5,Z 6,Z 7,Z 8,Z 9,Z 10,Z 11,Z 12,Z 13, .p 3 0, Z 15, .v (.slice (some ⟨go, 0, none⟩) n n), Z 17,Z 18,Z 19,Z 20,Z 21,Z 22,Z 23,Z 24,Z 25,Z 26,Z 27,Z 28,Z 29,Z 30,Z 31,Z 32,Z 33,Z 34,Z 35,Z 36,Z 37,Z 38,Z 39,Z 40,Z 41,Z 42,Z 43,Z 44,Z 45,Z 46,Z 47,Z 48,Z 49,Z 50,Z 51,Z 52,Z 53,Z 54,Z 55,Z 56,Z 57,Z 58,Z 59,Z 60,Z 61,Z 62,Z 63,Z 64,Z 65,Z 66,Z 67,Z 68,Z 69,Z 70,Z 71,Z 72,Z 73,Z 74,Z 75,Z 76,Z 77,Z 78,Z 79,Z 80,Z 81,Z 82,Z 83,Z 84,Z 85,Z 86,Z 87,Z 88,Z 89,Z 90,Z 91,Z 92,Z 93,Z 94,Z 95,Z 96,Z 97,Z 98,Z 99,Z 100,Z 101,Z 102,Z 103,Z 104,Z 105,Z 106,Z 107]) [[.int .i64 (n : Int), .int .i64 (n : Int), .slice A l.length cp], [.int .i64 (m : Int), .int .i64 (m : Int), sa], [.int .i64 (m : Int), .int .i64 1, sb], [.int .i64 (m : Int), .int .i64 1, .slice (some ⟨bw, ow, none⟩) (flatG X m 1).length c5]] H6 V6 s ∧ V5.le V6 ∧ H6 go = some ⟨27, co, n * 3⟩ ∧ RowAt ratE V6 co (mk n fun _ => 0)) ?_ ?_
  · first | refine Gx.a (by kernel_rfl) fun K hK => ?_ | refine Gx.b (by kernel_rfl) fun K hK => ?_ | refine Gx.c (by kernel_rfl) fun K hK => ?_
    simp only [XM, XN, XA, XB, gateX, Nat.reduceAdd, Nat.reduceLeDiff, Nat.reduceSub, Nat.reduceMul, ↓reduceIte, Int.reduceToNat, Int.reduceLE, beq_self_eq_true]
    refine hK _ ?_
    clear hK
    first | refine XWP.block ?_ | refine XWP.seq (XWP.block ?_)
    refine XWP.loopD 4 (fun r s => ∃ (k : Nat) (V6 : View) (H6 : Heap) (co : List Value), StIs (fun Z => [Z 0, .v (.slice (some ⟨bC, oC, none⟩) m c2), Z 2,Z 3,Z 4,Z 5,Z 6,Z 7,Z 8,Z 9,Z 10,Z 11,Z 12,Z 13, .p 3 0, Z 15, .v (.slice (some ⟨go, 0, none⟩) n n), Z 17,Z 18,Z 19,Z 20,Z 21,Z 22,Z 23,Z 24,Z 25,Z 26,Z 27,Z 28,Z 29,Z 30,Z 31,Z 32,Z 33,Z 34,Z 35,Z 36,Z 37,Z 38,Z 39,Z 40,Z 41,Z 42,Z 43,Z 44,Z 45,Z 46,Z 47,Z 48,Z 49,Z 50,Z 51,Z 52,Z 53,Z 54,Z 55,Z 56,Z 57,Z 58,Z 59,Z 60,Z 61,Z 62,Z 63,Z 64,Z 65,Z 66,Z 67,Z 68,Z 69,Z 70,Z 71,Z 72,Z 73,Z 74,Z 75,Z 76,Z 77,Z 78,Z 79,Z 80,Z 81, .v (.int .i64 (n : Int)), .v (.int .i64 (k : Int)), Z 84,Z 85,Z 86,Z 87,Z 88,Z 89,Z 90,Z 91,Z 92,Z 93,Z 94,Z 95,Z 96,Z 97,Z 98,Z 99,Z 100,Z 101,Z 102,Z 103,Z 104,Z 105,Z 106,Z 107]) [[.int .i64 (n : Int), .int .i64 (n : Int), .slice A l.length cp], [.int .i64 (m : Int), .int .i64 (m : Int), sa], [.int .i64 (m : Int), .int .i64 1, sb], [.int .i64 (m : Int), .int .i64 1, .slice (some ⟨bw, ow, none⟩) (flatG X m 1).length c5]] H6 V6 s ∧ r + k = n ∧ V5.le V6 ∧ H6 go = some ⟨27, co, n * 3⟩ ∧ RowAt (optE ratE) V6 co (part n (fun _ => 0) k)) n ⟨0, V5, _, _, StIs.of (by exact rfl), by omega, View.le_refl _, upd_at _ _ _, by rw [part_zero]; exact RowAt.new V5 n⟩ ?_
    rintro r s ⟨k, V6, H6, co, hs, hr, hV6, hH, hrow⟩
    obtain ⟨z, rfl⟩ := hs.out
    try dsimp only
    clear hs
    by_cases hk : k < n
    rotate_left
    · obtain rfl : k = n := by omega
      have b1 : decide ((k : Int) < (k : Int)) = false := decide_eq_false (by omega)
      first | refine Gx.a (by kernel_rfl) fun K hK => ?_ | refine Gx.b (by kernel_rfl) fun K hK => ?_ | refine Gx.c (by kernel_rfl) fun K hK => ?_
      simp only [XM, XN, XA, XB, gateX, Nat.reduceAdd, Nat.reduceLeDiff, Nat.reduceSub, Nat.reduceMul, ↓reduceIte, Int.reduceToNat, Int.reduceLE, beq_self_eq_true, b1]
      refine hK _ ?_
      first | refine Gx.f rfl ?_ | refine XWP.seq (Gx.f rfl ?_)
      refine XWP.exit ?_
      rw [part_all] at hrow
      exact fun f => ⟨V6, H6, co, StIs.of (by exact rfl), hV6, hH, hrow.all⟩
    have b1 : decide ((k : Int) < (n : Int)) = true := decide_eq_true (by omega)
    first | refine Gx.a (by kernel_rfl) fun K hK => ?_ | refine Gx.b (by kernel_rfl) fun K hK => ?_ | refine Gx.c (by kernel_rfl) fun K hK => ?_
    simp only [XM, XN, XA, XB, gateX, Nat.reduceAdd, Nat.reduceLeDiff, Nat.reduceSub, Nat.reduceMul, ↓reduceIte, Int.reduceToNat, Int.reduceLE, beq_self_eq_true, b1]
    refine hK _ ?_
    first | refine Gx.t rfl ?_ | refine XWP.seq (Gx.t rfl ?_)
    refine XWP.skip ?_
    refine XWP.seq ?_
    first | refine XWP.block ?_ | refine XWP.seq (XWP.block ?_)
    first | refine Gx.a (by kernel_rfl) fun K hK => ?_ | refine Gx.b (by kernel_rfl) fun K hK => ?_ | refine Gx.c (by kernel_rfl) fun K hK => ?_
    simp only [XM, XN, XA, XB, gateX, Nat.reduceAdd, Nat.reduceLeDiff, Nat.reduceSub, Nat.reduceMul, ↓reduceIte, Int.reduceToNat, Int.reduceLE, beq_self_eq_true]
    refine hK _ ?_
    first | refine Gx.a (by kernel_rfl) fun K hK => ?_ | refine Gx.b (by kernel_rfl) fun K hK => ?_ | refine Gx.c (by kernel_rfl) fun K hK => ?_
    simp only [XM, XN, XA, XB, gateX, Nat.reduceAdd, Nat.reduceLeDiff, Nat.reduceSub, Nat.reduceMul, ↓reduceIte, Int.reduceToNat, Int.reduceLE, beq_self_eq_true]
    refine call_go (by kernel_rfl) rfl (qzero_c _) fun v7 V7 hV7 h7 => ?_
    obtain ⟨x7, y7, rfl, o1, o2⟩ := h7.form
    have hrow := hrow.mono (optE_ok ratE_ok) hV7
    have hlr := hrow.1
    rw [part_len] at hlr
    simp only [XM, XN, XA, XB, gateX, Nat.reduceAdd, Nat.reduceLeDiff, Nat.reduceSub, Nat.reduceMul, ↓reduceIte, Int.reduceToNat, Int.reduceLE, beq_self_eq_true]
    refine ⟨by omega, by omega, ?_⟩
    refine st_rowA shapeT_27 (all3 rfl o1 o2) rfl hH (by dsimp only; omega) ?_
    simp only [XM, XN, XA, XB, gateX, Nat.reduceAdd, Nat.reduceLeDiff, Nat.reduceSub, Nat.reduceMul, ↓reduceIte, Int.reduceToNat, Int.reduceLE, beq_self_eq_true]
    refine hK _ ?_
    have hrow2 := hrow.set k (by rw [part_len]; omega) (x := some 0) (show isOne (.bool (ng 0)) = true from rfl) o1 o2 h7
    rw [part_step n (fun _ => 0) k] at hrow2
    first | refine Gx.a (by kernel_rfl) fun K hK => ?_ | refine Gx.b (by kernel_rfl) fun K hK => ?_ | refine Gx.c (by kernel_rfl) fun K hK => ?_
    simp only [XM, XN, XA, XB, gateX, Nat.reduceAdd, Nat.reduceLeDiff, Nat.reduceSub, Nat.reduceMul, ↓reduceIte, Int.reduceToNat, Int.reduceLE, beq_self_eq_true, i64_succ k (by omega)]
    exact hK _ ⟨r - 1, by omega, fun f => ⟨k + 1, V7, _, _, StIs.of (by exact rfl), by omega, View.le_trans hV6 hV7, upd_at _ _ _, by simpa using hrow2⟩⟩
  rintro s ⟨V6, H6, co, hs, hV6, hH, hrow⟩
  obtain ⟨z, rfl⟩ := hs.out
  try dsimp only
  clear hs
  have hw6 := hw.up hV6
  refine XWP.cutD 4 (fun s => ∃ (H7 : Heap) (co : List Value), StIs (fun Z => [Z 0,Z 1,Z 2,Z 3,Z 4,Z 5,Z 6,Z 7,Z 8,Z 9,Z 10,Z 11,Z 12,Z 13,Z 14,Z 15, .v (.slice (some ⟨go, 0, none⟩) n n), Z 17,Z 18,Z 19,Z 20,Z 21,Z 22,Z 23,Z 24,Z 25,Z 26,Z 27,Z 28,Z 29,Z 30,Z 31,Z 32,Z 33,Z 34,Z 35,Z 36,Z 37,Z 38,Z 39,Z 40,Z 41,Z 42,Z 43,Z 44,Z 45,Z 46,Z 47,Z 48,Z 49,Z 50,Z 51,Z 52,Z 53,Z 54,Z 55,Z 56,Z 57,Z 58,Z 59,Z 60,Z 61,Z 62,Z 63,Z 64,Z 65,Z 66,Z 67,Z 68,Z 69,Z 70,Z 71,Z 72,Z 73,Z 74,Z 75,Z 76,Z 77,Z 78,Z 79,Z 80,Z 81,Z 82,Z 83,Z 84,Z 85,Z 86,Z 87,Z 88,Z 89,Z 90,Z 91,Z 92,Z 93,Z 94,Z 95,Z 96,Z 97,Z 98,Z 99,Z 100,Z 101,Z 102,Z 103,Z 104,Z 105,Z 106,Z 107]) [[.int .i64 (n : Int), .int .i64 (n : Int), .slice A l.length cp], [.int .i64 (m : Int), .int .i64 (m : Int), sa], [.int .i64 (m : Int), .int .i64 1, sb], [.int .i64 (m : Int), .int .i64 1, .slice (some ⟨bw, ow, none⟩) (flatG X m 1).length c5]] H7 V6 s ∧ H7 go = some ⟨27, co, n * 3⟩ ∧ RowAt ratE V6 co (scat C (fun j => X j 0) n m)) ?_ ?_
  · first | refine Gx.a (by kernel_rfl) fun K hK => ?_ | refine Gx.b (by kernel_rfl) fun K hK => ?_ | refine Gx.c (by kernel_rfl) fun K hK => ?_
    simp only [XM, XN, XA, XB, gateX, Nat.reduceAdd, Nat.reduceLeDiff, Nat.reduceSub, Nat.reduceMul, ↓reduceIte, Int.reduceToNat, Int.reduceLE, beq_self_eq_true]
    refine hK _ ?_
    clear hK
    first | refine XWP.block ?_ | refine XWP.seq (XWP.block ?_)
    refine XWP.loopD 4 (fun r s => ∃ (k : Nat) (H7 : Heap) (co : List Value), StIs (fun Z => [Z 0, .v (.slice (some ⟨bC, oC, none⟩) m c2), Z 2,Z 3,Z 4,Z 5,Z 6,Z 7,Z 8,Z 9,Z 10,Z 11,Z 12,Z 13, .p 3 0, Z 15, .v (.slice (some ⟨go, 0, none⟩) n n), Z 17,Z 18,Z 19,Z 20,Z 21,Z 22,Z 23,Z 24,Z 25,Z 26,Z 27,Z 28,Z 29,Z 30,Z 31,Z 32,Z 33,Z 34,Z 35,Z 36,Z 37,Z 38,Z 39,Z 40,Z 41,Z 42,Z 43,Z 44,Z 45,Z 46,Z 47,Z 48,Z 49,Z 50,Z 51,Z 52,Z 53,Z 54,Z 55,Z 56,Z 57,Z 58,Z 59,Z 60,Z 61,Z 62,Z 63,Z 64,Z 65,Z 66,Z 67,Z 68,Z 69,Z 70,Z 71,Z 72,Z 73,Z 74,Z 75,Z 76,Z 77,Z 78,Z 79,Z 80,Z 81,Z 82,Z 83,Z 84,Z 85,Z 86,Z 87,Z 88,Z 89,Z 90, .v (.slice (some ⟨bC, oC, none⟩) m c2), .v (.int .i64 (m : Int)), .v (.int .i64 (k : Int)), Z 94,Z 95,Z 96,Z 97,Z 98,Z 99,Z 100,Z 101,Z 102,Z 103,Z 104,Z 105,Z 106,Z 107]) [[.int .i64 (n : Int), .int .i64 (n : Int), .slice A l.length cp], [.int .i64 (m : Int), .int .i64 (m : Int), sa], [.int .i64 (m : Int), .int .i64 1, sb], [.int .i64 (m : Int), .int .i64 1, .slice (some ⟨bw, ow, none⟩) (flatG X m 1).length c5]] H7 V6 s ∧ r + k = m ∧ H7 go = some ⟨27, co, n * 3⟩ ∧ RowAt ratE V6 co (scat C (fun j => X j 0) n k)) m ⟨0, H6, co, StIs.of (by exact rfl), by omega, hH, hrow⟩ ?_
    clear hH hrow
    rintro r s ⟨k, H7, co, hs, hr, hH, hrow⟩
    obtain ⟨z, rfl⟩ := hs.out
    try dsimp only
    clear hs
    by_cases hk : k < m
    rotate_left
    · obtain rfl : k = m := by omega
      have b1 : decide ((k : Int) < (k : Int)) = false := decide_eq_false (by omega)
      first | refine Gx.a (by kernel_rfl) fun K hK => ?_ | refine Gx.b (by kernel_rfl) fun K hK => ?_ | refine Gx.c (by kernel_rfl) fun K hK => ?_
      simp only [XM, XN, XA, XB, gateX, Nat.reduceAdd, Nat.reduceLeDiff, Nat.reduceSub, Nat.reduceMul, ↓reduceIte, Int.reduceToNat, Int.reduceLE, beq_self_eq_true, b1]
      refine hK _ ?_
      first | refine Gx.f rfl ?_ | refine XWP.seq (Gx.f rfl ?_)
      refine XWP.exit ?_
      exact fun f => ⟨H7, co, StIs.of (by exact rfl), hH, hrow⟩
    have b1 : decide ((k : Int) < (m : Int)) = true := decide_eq_true (by omega)
    first | refine Gx.a (by kernel_rfl) fun K hK => ?_ | refine Gx.b (by kernel_rfl) fun K hK => ?_ | refine Gx.c (by kernel_rfl) fun K hK => ?_
    simp only [XM, XN, XA, XB, gateX, Nat.reduceAdd, Nat.reduceLeDiff, Nat.reduceSub, Nat.reduceMul, ↓reduceIte, Int.reduceToNat, Int.reduceLE, beq_self_eq_true, b1]
    refine hK _ ?_
    first | refine Gx.t rfl ?_ | refine XWP.seq (Gx.t rfl ?_)
    refine XWP.skip ?_
    obtain ⟨hck, hldk⟩ := hCl k hk
    have hlf : (flatG X m 1).length = m := by rw [flatG_len, Nat.mul_one]
    obtain ⟨m3, n3, d3, hx, ⟨p1, p2, p3⟩, hld⟩ := Rats.get hw6 k (by omega)
    have eX : cf (flatG X m 1) k = X k 0 := by
      have := flatG_at X (R := m) (C := 1) (i := k) (k := 0) hk (by omega)
      rwa [Nat.mul_one, Nat.add_zero] at this
    rw [eX] at hx
    have hlr := hrow.1
    rw [scat_len] at hlr
    refine XWP.seq ?_
    first | refine XWP.block ?_ | refine XWP.seq (XWP.block ?_)
    first | refine Gx.a (by kernel_rfl) fun K hK => ?_ | refine Gx.b (by kernel_rfl) fun K hK => ?_ | refine Gx.c (by kernel_rfl) fun K hK => ?_
    simp only [XM, XN, XA, XB, gateX, Nat.reduceAdd, Nat.reduceLeDiff, Nat.reduceSub, Nat.reduceMul, ↓reduceIte, Int.reduceToNat, Int.reduceLE, beq_self_eq_true]
    refine ⟨by omega, by omega, ?_⟩
    refine ld_mem (hldk V6 (View.le_trans hle5 hV6) _) ?_
    simp only [XM, XN, XA, XB, gateX, Nat.reduceAdd, Nat.reduceLeDiff, Nat.reduceSub, Nat.reduceMul, ↓reduceIte, Int.reduceToNat, Int.reduceLE, beq_self_eq_true]
    refine hK _ ?_
    first | refine Gx.a (by kernel_rfl) fun K hK => ?_ | refine Gx.b (by kernel_rfl) fun K hK => ?_ | refine Gx.c (by kernel_rfl) fun K hK => ?_
    simp only [XM, XN, XA, XB, gateX, Nat.reduceAdd, Nat.reduceLeDiff, Nat.reduceSub, Nat.reduceMul, ↓reduceIte, Int.reduceToNat, Int.reduceLE, beq_self_eq_true]
    refine ⟨by omega, by omega, ld_mem (hld _) ?_⟩
    simp only [XM, XN, XA, XB, gateX, Nat.reduceAdd, Nat.reduceLeDiff, Nat.reduceSub, Nat.reduceMul, ↓reduceIte, Int.reduceToNat, Int.reduceLE, beq_self_eq_true]
    refine ⟨by omega, by omega, ?_⟩
    refine st_rowA shapeT_27 (all3 p1 p2 p3) rfl hH (by dsimp only; omega) ?_
    simp only [XM, XN, XA, XB, gateX, Nat.reduceAdd, Nat.reduceLeDiff, Nat.reduceSub, Nat.reduceMul, ↓reduceIte, Int.reduceToNat, Int.reduceLE, beq_self_eq_true]
    refine hK _ ?_
    have hrow2 := hrow.set (C.getD k 0) (by rw [scat_len]; exact hck) (x := X k 0) p1 p2 p3 hx
    first | refine Gx.a (by kernel_rfl) fun K hK => ?_ | refine Gx.b (by kernel_rfl) fun K hK => ?_ | refine Gx.c (by kernel_rfl) fun K hK => ?_
    simp only [XM, XN, XA, XB, gateX, Nat.reduceAdd, Nat.reduceLeDiff, Nat.reduceSub, Nat.reduceMul, ↓reduceIte, Int.reduceToNat, Int.reduceLE, beq_self_eq_true, i64_succ k (by omega)]
    exact hK _ ⟨r - 1, by omega, fun f => ⟨k + 1, _, _, StIs.of (by exact rfl), by omega, upd_at _ _ _, by rw [scat]; simpa using hrow2⟩⟩
  rintro s ⟨H7, co, hs, hH, hrow⟩
  obtain ⟨z, rfl⟩ := hs.out
  try dsimp only
  first | refine Gx.a (by kernel_rfl) fun K hK => ?_ | refine Gx.b (by kernel_rfl) fun K hK => ?_ | refine Gx.c (by kernel_rfl) fun K hK => ?_
  simp only [XM, XN, XA, XB, gateX, Nat.reduceAdd, Nat.reduceLeDiff, Nat.reduceSub, Nat.reduceMul, ↓reduceIte, Int.reduceToNat, Int.reduceLE, beq_self_eq_true]
  refine hK _ (XWP.ret ?_)
  try simp only [thenX_ret, inBlockX_ret]
  refine ret_pub go _ hH fun o ho hle => ret_go _ rfl ⟨fun j => X j 0, hX0, fun j hj => hqX j 0 hj (by omega), ?_⟩
  exact hrow.pub ratE_ok ho hle (scat_len _ _ _ _) (Nat.le_refl _) (by omega)
end Go.Proofs.Ytkgmicakfmllmaa
end
section
namespace Go.Proofs.Ytkgmicakfmllmaa
open Go Go.RowKit
set_option linter.unusedSimpArgs false
set_option linter.unusedVariables false
attribute [local irreducible] XWP Spec SpecO XPub XCall seqX clX apX stX ldX iaX slX
theorem Rch.imp {E E' : Nat → Nat → Prop} {n i k : Nat} (h : Rch E n i k) (e : ∀ a b, a < n → b < n → E a b → E' a b) : Rch E' n i k := by
  induction h with
  | refl h => exact .refl h
  | step hr hk he ih => exact .step ih hk (e _ _ hr.lt.2 hk he)
theorem eM_iff {l : List Rat} {n a b : Nat} : eM l n a b = true ↔ gridL l n a b ≠ 0 := by unfold eM gridL; rw [decide_eq_true_eq]
structure ClsG (l : List Rat) (n : Nat) (C : List Nat) : Prop where
  ne : 1 ≤ C.length
  le : C.length ≤ n
  lt : ∀ x ∈ C, x < n
  sto : StoG (subG (gridL l n) C) C.length
  irr : IrrG (subG (gridL l n) C) C.length
/-- a closed class of a stochastic matrix is an irreducible matrix of its own -/
theorem cls_irr {l : List Rat} {n : Nat} (hS : StoG (gridL l n) n) {C : List Nat} (hC : C ∈ clsL l n) : ClsG l n C := by
  obtain ⟨i, hi, rfl, hall⟩ := shutL_mem hC
  have hpos : ∀ a b, a < n → b < n → (eM l n a b = true ↔ 0 < gridL l n a b) := fun a b ha hb => by
    rw [eM_iff]
    have := hS.nn a b ha hb
    constructor
    · intro h; grind
    · intro h; grind
  have hc : ∀ a b, a < n → b < n → wR (eM l n) n i a = true → 0 < gridL l n a b → wR (eM l n) n i b = true := fun a b ha hb h1 h2 => by
    rw [wR_iff] at h1 ⊢
    exact .step h1 hb ((hpos a b ha hb).2 h2)
  refine ⟨?_, ?_, fun x hx => ?_, sub_sto hS hc, sub_irr hc fun a b ha hb h1 h2 => ?_⟩
  · have : i ∈ (List.range n).filter (wR (eM l n) n i) := by
      rw [List.mem_filter, List.mem_range, wR_iff]; exact ⟨hi, .refl hi⟩
    exact List.length_pos_of_mem this
  · have := List.length_filter_le (wR (eM l n) n i) (List.range n)
    rwa [List.length_range] at this
  · rw [List.mem_filter, List.mem_range] at hx; exact hx.1
  · have h3 := (hall a ha h1).1
    rw [wR_iff] at h3 h2
    exact (h3.trans h2).imp fun a b ha hb he => (hpos a b ha hb).1 he
theorem clsL_len (l : List Rat) (n : Nat) : (clsL l n).length ≤ n := shutP_len _ _ _ n
/-- the law of a class -/
noncomputable def theX (l : List Rat) (n : Nat) (C : List Nat) : Nat → Rat := @dite _ (∃ X, LinG (lawG (subG (gridL l n) C) C.length) C.length C.length (oneB C.length) X) (Classical.propDecidable _) (fun h => Classical.choose h) fun _ _ => 0
theorem theX_eq {l : List Rat} {n : Nat} {C : List Nat} (hu : UniG (lawG (subG (gridL l n) C) C.length) C.length C.length) {X : Nat → Rat} (hX : LinG (lawG (subG (gridL l n) C) C.length) C.length C.length (oneB C.length) X) : ∀ j, j < C.length → X j = theX l n C j := by
  have he : ∃ X, LinG (lawG (subG (gridL l n) C) C.length) C.length C.length (oneB C.length) X := ⟨X, hX⟩
  unfold theX
  rw [dif_pos he]
  exact hu.same hX (Classical.choose_spec he)
noncomputable def lawC (l : List Rat) (n : Nat) (C : List Nat) : List Rat := scat C (theX l n C) n C.length
noncomputable def allL (l : List Rat) (n : Nat) : List (List Rat) := (clsL l n).map (lawC l n)
structure LawOk (l : List Rat) (n B : Nat) (C : List Nat) : Prop where
  lin : LinG (lawG (subG (gridL l n) C) C.length) C.length C.length (oneB C.length) (theX l n C)
  qb : ∀ j, j < C.length → QB (2 * ge (B + 1) (2 * C.length)) (theX l n C j)
theorem balone2_c (V : View) (s vC : Value) (n B : Nat) (l : List Rat) (C : List Nat) (h : Rats V s l) (ll : l.length = n * n) (hn : n ≤ 60) (hC : Sl1 natE V vC C) (hlt : ∀ x ∈ C, x < n) (h1 : 1 ≤ C.length) (hl : C.length ≤ 60)
    (hu : UniG (lawG (subG (gridL l n) C) C.length) C.length C.length) (hq : ∀ x ∈ l, QB B x) (hB : ge (B + 1) (2 * C.length + 1) ≤ 17592186044416) :
    Spec Try.prog 108 [.agg #[.int .i64 (n : Int), .int .i64 (n : Int), s], vC] V fun v' V' => LawOk l n B C ∧ Rats V' v' (lawC l n C) :=
  (balone_c V s vC n B l C h ll hn hC hlt h1 hl hu hq hB).mono fun v' V' _ ⟨X, hX, hqX, hr⟩ => by
    have e := theX_eq hu hX
    refine ⟨⟨fun i hi => by rw [← hX i hi]; exact Sm_congr _ fun j hj => by rw [e j hj], fun j hj => by rw [← e j hj]; exact hqX j hj⟩, ?_⟩
    have e2 : scat C X n C.length = lawC l n C := scat_congr _ e
    rw [← e2]; exact hr
theorem rats_ok : ElOk Rats := fun _ _ _ _ hV h => Rats.up h hV
theorem rats_one {V : View} {v : Value} {l : List Rat} (h : Rats V v l) : isOne v = true := by obtain ⟨A, c, rfl, _⟩ := h.form; rfl
set_option maxHeartbeats 4000000 in
theorem ball_c (V : View) (s : Value) (r c : Int) (L : List Raw) (B : Nat) (h : Raws V s L) (f : fitR L) (ll : L.length ≤ 100000) (hq : okR L = true → ∀ x ∈ qs L, QB B x) (hB : 1001 * (B + 1) ≤ 17592186044416) (hB2 : stoB r c L = true → ge (B + 1) (2 * r.toNat + 1) ≤ 17592186044416) :
    Spec Try.prog 75 [.agg #[.int .i64 r, .int .i64 c, s]] V fun v' V' => (stoB r c L = false → v' = .tuple #[.slice none 0 0, .int .i64 1]) ∧ (stoB r c L = true → ∃ w, v' = .tuple #[w, .int .i64 0] ∧ (∀ C ∈ clsL (qs L) r.toNat, LawOk (qs L) r.toNat B C) ∧ Sl1 Rats V' w (allL (qs L) r.toNat)) := by
  obtain ⟨A, cp, rfl, hc, hm⟩ := h.form
  refine (Spec.enter Try.func75 rfl fun Γ => ?_)
  simp only [Try.ntmps75, List.map_cons, List.map_nil, List.length_cons, List.length_nil, Nat.reduceAdd, Nat.reduceSub, List.replicate_succ, List.replicate_zero, List.cons_append, List.nil_append]
  first | refine Gx.a (by kernel_rfl) fun K hK => ?_ | refine Gx.b (by kernel_rfl) fun K hK => ?_ | refine Gx.c (by kernel_rfl) fun K hK => ?_
  simp only [XM, XN, XA, XB, gateX, Nat.reduceAdd, Nat.reduceLeDiff, Nat.reduceSub, Nat.reduceMul, ↓reduceIte, Int.reduceToNat, Int.reduceLE, beq_self_eq_true]
  refine hK _ ?_
  first | refine Gx.a (by kernel_rfl) fun K hK => ?_ | refine Gx.b (by kernel_rfl) fun K hK => ?_ | refine Gx.c (by kernel_rfl) fun K hK => ?_
  simp only [XM, XN, XA, XB, gateX, Nat.reduceAdd, Nat.reduceLeDiff, Nat.reduceSub, Nat.reduceMul, ↓reduceIte, Int.reduceToNat, Int.reduceLE, beq_self_eq_true]
  refine call_go (by kernel_rfl) rfl (bClasses_c _ _ r c L B h f ll hq hB) fun v1 V1 hV1 h1 => ?_
  cases e : stoB r c L
  · obtain rfl := h1.1 e
    simp only [XM, XN, XA, XB, gateX, Nat.reduceAdd, Nat.reduceLeDiff, Nat.reduceSub, Nat.reduceMul, ↓reduceIte, Int.reduceToNat, Int.reduceLE, beq_self_eq_true]
    refine hK _ ?_
    refine XWP.seq ?_
    first | refine Gx.a (by kernel_rfl) fun K hK => ?_ | refine Gx.b (by kernel_rfl) fun K hK => ?_ | refine Gx.c (by kernel_rfl) fun K hK => ?_
    simp only [XM, XN, XA, XB, gateX, Nat.reduceAdd, Nat.reduceLeDiff, Nat.reduceSub, Nat.reduceMul, ↓reduceIte, Int.reduceToNat, Int.reduceLE, beq_self_eq_true]
    refine hK _ ?_
    first | refine Gx.t rfl ?_ | refine XWP.seq (Gx.t rfl ?_)
    first | refine Gx.a (by kernel_rfl) fun K hK => ?_ | refine Gx.b (by kernel_rfl) fun K hK => ?_ | refine Gx.c (by kernel_rfl) fun K hK => ?_
    simp only [XM, XN, XA, XB, gateX, Nat.reduceAdd, Nat.reduceLeDiff, Nat.reduceSub, Nat.reduceMul, ↓reduceIte, Int.reduceToNat, Int.reduceLE, beq_self_eq_true]
    refine hK _ (XWP.ret ?_)
    try simp only [thenX_ret, inBlockX_ret]
    refine ret_go _ rfl ?_
    exact ⟨fun _ => rfl, fun h => by rw [e] at h; cases h⟩
  obtain ⟨w, rfl, hw⟩ := h1.2 e
  have hB3 := hB2 e
  clear hB2
  obtain ⟨n, rfl, rfl, hn, kl, ok, hS⟩ := stoB_parts e
  rw [Int.toNat_natCast] at hw hB3
  have hq := hq ok
  have hr := Rats.up (Raws.rats h ok) hV1
  have hlen := qs_len L
  rw [← hlen] at hr
  have hr : Rats V1 (.slice A L.length cp) (qs L) := by rw [hlen] at hr; exact hr
  obtain ⟨A2, c2, rfl, hc2, hm2⟩ := hw.form
  have hcn := clsL_len (qs L) n
  have hcls := fun C => cls_irr hS (C := C)
  obtain ⟨Ks, hK0⟩ : ∃ Ks, Ks = clsL (qs L) n := ⟨_, rfl⟩
  rw [← hK0] at hw hc2 hcn hcls ⊢
  simp only [XM, XN, XA, XB, gateX, Nat.reduceAdd, Nat.reduceLeDiff, Nat.reduceSub, Nat.reduceMul, ↓reduceIte, Int.reduceToNat, Int.reduceLE, beq_self_eq_true]
  refine hK _ ?_
  refine XWP.seq ?_
  first | refine Gx.a (by kernel_rfl) fun K hK => ?_ | refine Gx.b (by kernel_rfl) fun K hK => ?_ | refine Gx.c (by kernel_rfl) fun K hK => ?_
  simp only [XM, XN, XA, XB, gateX, Nat.reduceAdd, Nat.reduceLeDiff, Nat.reduceSub, Nat.reduceMul, ↓reduceIte, Int.reduceToNat, Int.reduceLE, beq_self_eq_true]
  refine hK _ ?_
  first | refine Gx.f rfl ?_ | refine XWP.seq (Gx.f rfl ?_)
  refine XWP.skip ?_
  first | refine Gx.a (by kernel_rfl) fun K hK => ?_ | refine Gx.b (by kernel_rfl) fun K hK => ?_ | refine Gx.c (by kernel_rfl) fun K hK => ?_
  simp only [XM, XN, XA, XB, gateX, Nat.reduceAdd, Nat.reduceLeDiff, Nat.reduceSub, Nat.reduceMul, ↓reduceIte, Int.reduceToNat, Int.reduceLE, beq_self_eq_true]
  refine hK _ ?_
  refine XWP.cutD 1 (fun s => ∃ (V2 : View) (H2 : Heap) (wo : Value) (outs : List Value), StIs (fun Z => [Z 0,Z 1,Z 2,Z 3,Z 4,Z 5, .v wo, Z 7,Z 8,Z 9,Z 10,Z 11,Z 12,Z 13,Z 14,Z 15,Z 16,Z 17,Z 18,Z 19,Z 20,Z 21,Z 22,Z 23,Z 24,Z 25,Z 26,Z 27,Z 28,Z 29,Z 30]) [[.int .i64 (n : Int), .int .i64 (n : Int), .slice A L.length cp]] H2 V2 s ∧ Own H2 22 1 wo Ks.length outs ∧ R1At Rats V2 outs (Ks.map (lawC (qs L) n)) ∧ ∀ C ∈ Ks, LawOk (qs L) n B C) ?_ ?_
  · first | refine Gx.a (by kernel_rfl) fun K hK => ?_ | refine Gx.b (by kernel_rfl) fun K hK => ?_ | refine Gx.c (by kernel_rfl) fun K hK => ?_
    simp only [XM, XN, XA, XB, gateX, Nat.reduceAdd, Nat.reduceLeDiff, Nat.reduceSub, Nat.reduceMul, ↓reduceIte, Int.reduceToNat, Int.reduceLE, beq_self_eq_true]
    refine hK _ ?_
    clear hK
    first | refine XWP.block ?_ | refine XWP.seq (XWP.block ?_)
    refine XWP.loopD 1 (fun q s => ∃ (i : Nat) (V2 : View) (H2 : Heap) (wo : Value) (outs : List Value), StIs (fun Z => [Z 0, .p 0 0, Z 2,Z 3,Z 4,Z 5, .v wo, Z 7,Z 8,Z 9,Z 10,Z 11,Z 12,Z 13,Z 14,Z 15,Z 16, .v (.slice A2 Ks.length c2), .v (.int .i64 (Ks.length : Int)), .v (.int .i64 (i : Int)), Z 20,Z 21,Z 22,Z 23,Z 24,Z 25,Z 26,Z 27,Z 28,Z 29,Z 30]) [[.int .i64 (n : Int), .int .i64 (n : Int), .slice A L.length cp]] H2 V2 s ∧ q + i = Ks.length ∧ V1.le V2 ∧ Own H2 22 1 wo i outs ∧ R1At Rats V2 outs ((Ks.take i).map (lawC (qs L) n)) ∧ ∀ C ∈ Ks.take i, LawOk (qs L) n B C) Ks.length ⟨0, V1, _, _, [], StIs.of (by exact rfl), by omega, View.le_refl _, own_nil, R1At.nil _, fun C hC => by simp at hC⟩ ?_
    rintro q s ⟨i, V2, H2, wo, outs, hs, hqi, hV2, hown, hrow, hok⟩
    obtain ⟨z, rfl⟩ := hs.out
    try dsimp only
    clear hs
    by_cases hi : i < Ks.length
    rotate_left
    · obtain rfl : i = Ks.length := by omega
      have b1 : decide ((Ks.length : Int) < (Ks.length : Int)) = false := decide_eq_false (by omega)
      first | refine Gx.a (by kernel_rfl) fun K hK => ?_ | refine Gx.b (by kernel_rfl) fun K hK => ?_ | refine Gx.c (by kernel_rfl) fun K hK => ?_
      simp only [XM, XN, XA, XB, gateX, Nat.reduceAdd, Nat.reduceLeDiff, Nat.reduceSub, Nat.reduceMul, ↓reduceIte, Int.reduceToNat, Int.reduceLE, beq_self_eq_true, b1]
      refine hK _ ?_
      first | refine Gx.f rfl ?_ | refine XWP.seq (Gx.f rfl ?_)
      refine XWP.exit ?_
      rw [List.take_length] at hrow hok
      exact fun f => ⟨V2, H2, wo, outs, StIs.of (by exact rfl), hown, hrow, hok⟩
    have b1 : decide ((i : Int) < (Ks.length : Int)) = true := decide_eq_true (by omega)
    first | refine Gx.a (by kernel_rfl) fun K hK => ?_ | refine Gx.b (by kernel_rfl) fun K hK => ?_ | refine Gx.c (by kernel_rfl) fun K hK => ?_
    simp only [XM, XN, XA, XB, gateX, Nat.reduceAdd, Nat.reduceLeDiff, Nat.reduceSub, Nat.reduceMul, ↓reduceIte, Int.reduceToNat, Int.reduceLE, beq_self_eq_true, b1]
    refine hK _ ?_
    first | refine Gx.t rfl ?_ | refine XWP.seq (Gx.t rfl ?_)
    refine XWP.skip ?_
    obtain ⟨bw, ow, rfl⟩ := hw.addr (by omega)
    obtain ⟨u, g1, o1, g2⟩ := Sl1.load (hw.mono (Sl1_ok natE_ok) hV2) i hi
    have g2 := fun H => g2 H _ _ shapeT_125
    have hm := List.getElem_mem hi
    obtain ⟨C, hCe⟩ : ∃ C, C = Ks[i] := ⟨_, rfl⟩
    rw [← hCe] at g1 hm
    have hc := hcls C hm
    obtain ⟨A3, c3, rfl, _, _⟩ := g1.form
    refine XWP.cutD 1 (fun s => ∃ (V3 : View) (H3 : Heap) (wo : Value) (outs : List Value), StIs (fun Z => [Z 0, .p 0 0, Z 2,Z 3,Z 4,Z 5, .v wo, Z 7,Z 8,Z 9,Z 10,Z 11,Z 12,Z 13,Z 14,Z 15,Z 16, .v (.slice (some ⟨bw, ow, none⟩) Ks.length c2), .v (.int .i64 (Ks.length : Int)), .v (.int .i64 (i : Int)), Z 20,Z 21,Z 22,Z 23,Z 24,Z 25,Z 26,Z 27,Z 28,Z 29,Z 30]) [[.int .i64 (n : Int), .int .i64 (n : Int), .slice A L.length cp]] H3 V3 s ∧ V2.le V3 ∧ Own H3 22 1 wo (i + 1) outs ∧ R1At Rats V3 outs ((Ks.take (i + 1)).map (lawC (qs L) n)) ∧ ∀ C ∈ Ks.take (i + 1), LawOk (qs L) n B C) ?_ ?_
    · first | refine XWP.block ?_ | refine XWP.seq (XWP.block ?_)
      first | refine Gx.a (by kernel_rfl) fun K hK => ?_ | refine Gx.b (by kernel_rfl) fun K hK => ?_ | refine Gx.c (by kernel_rfl) fun K hK => ?_
      simp only [XM, XN, XA, XB, gateX, Nat.reduceAdd, Nat.reduceLeDiff, Nat.reduceSub, Nat.reduceMul, ↓reduceIte, Int.reduceToNat, Int.reduceLE, beq_self_eq_true]
      refine ⟨by omega, by omega, ?_⟩
      refine ld_mem (by simpa using g2 _) ?_
      simp only [XM, XN, XA, XB, gateX, Nat.reduceAdd, Nat.reduceLeDiff, Nat.reduceSub, Nat.reduceMul, ↓reduceIte, Int.reduceToNat, Int.reduceLE, beq_self_eq_true]
      refine hK _ ?_
      first | refine Gx.a (by kernel_rfl) fun K hK => ?_ | refine Gx.b (by kernel_rfl) fun K hK => ?_ | refine Gx.c (by kernel_rfl) fun K hK => ?_
      simp only [XM, XN, XA, XB, gateX, Nat.reduceAdd, Nat.reduceLeDiff, Nat.reduceSub, Nat.reduceMul, ↓reduceIte, Int.reduceToNat, Int.reduceLE, beq_self_eq_true]
      refine call_go (by kernel_rfl) rfl (balone2_c _ _ _ n B (qs L) C (hr.up hV2) (by omega) hn g1 hc.lt hc.ne (by have := hc.le; omega) (law_uni hc.sto hc.irr) hq (Nat.le_trans (ge_mono _ (by have := hc.le; omega)) hB3)) fun v3 V3 hV3 h3 => ?_
      obtain ⟨h3, r3⟩ := h3
      have o3 := rats_one r3
      simp only [XM, XN, XA, XB, gateX, Nat.reduceAdd, Nat.reduceLeDiff, Nat.reduceSub, Nat.reduceMul, ↓reduceIte, Int.reduceToNat, Int.reduceLE, beq_self_eq_true]
      refine bs_go (by kernel_rfl) #[(0, v3)] (by simp [ev_tmp, SV.val]) (bs_one elemT_91 zeroT_22 o3) fun bq hbq1 hbq2 => ?_
      simp only [XM, XN, XA, XB, gateX, Nat.reduceAdd, Nat.reduceLeDiff, Nat.reduceSub, Nat.reduceMul, ↓reduceIte, Int.reduceToNat, Int.reduceLE, beq_self_eq_true]
      refine ap_go elemT_91 (by kernel_rfl) zeroT_22 rfl (by omega) (own_upd hown hbq1) (src_one (upd_at _ _ _) o3) (by omega) (by omega) fun v' H' hres => ?_
      simp only [XM, XN, XA, XB, gateX, Nat.reduceAdd, Nat.reduceLeDiff, Nat.reduceSub, Nat.reduceMul, ↓reduceIte, Int.reduceToNat, Int.reduceLE, beq_self_eq_true]
      have et : Ks.take (i + 1) = Ks.take i ++ [C] := by rw [List.take_add_one, List.getElem?_eq_getElem hi, ← hCe]; rfl
      have hrow' := (hrow.mono rats_ok hV3).snoc o3 r3
      exact hK _ fun f => ⟨V3, H', v', outs ++ [v3], StIs.of (by exact rfl), hV3, hres.1, by rw [et, List.map_append]; exact hrow', fun D hD => by
        rw [et, List.mem_append] at hD
        rcases hD with hD | hD
        · exact hok D hD
        · rw [List.mem_singleton.1 hD]; exact h3⟩
    clear hown hrow hok
    rintro s ⟨V3, H3, wo, outs, hs, hV3, hown, hrow, hok⟩
    obtain ⟨z, rfl⟩ := hs.out
    try dsimp only
    first | refine Gx.a (by kernel_rfl) fun K hK => ?_ | refine Gx.b (by kernel_rfl) fun K hK => ?_ | refine Gx.c (by kernel_rfl) fun K hK => ?_
    simp only [XM, XN, XA, XB, gateX, Nat.reduceAdd, Nat.reduceLeDiff, Nat.reduceSub, Nat.reduceMul, ↓reduceIte, Int.reduceToNat, Int.reduceLE, beq_self_eq_true, i64_succ i (by omega)]
    exact hK _ ⟨q - 1, by omega, fun f => ⟨i + 1, V3, H3, wo, outs, StIs.of (by exact rfl), by omega, View.le_trans hV2 hV3, hown, hrow, hok⟩⟩
  rintro s ⟨V2, H2, wo, outs, hs, hown, hrow, hok⟩
  obtain ⟨z, rfl⟩ := hs.out
  try dsimp only
  first | refine Gx.a (by kernel_rfl) fun K hK => ?_ | refine Gx.b (by kernel_rfl) fun K hK => ?_ | refine Gx.c (by kernel_rfl) fun K hK => ?_
  simp only [XM, XN, XA, XB, gateX, Nat.reduceAdd, Nat.reduceLeDiff, Nat.reduceSub, Nat.reduceMul, ↓reduceIte, Int.reduceToNat, Int.reduceLE, beq_self_eq_true]
  refine hK _ ?_
  have hown' : Own H2 22 1 wo (Ks.map (lawC (qs L) n)).length outs := by rw [List.length_map]; exact hown
  refine XWP.pub1 rats_ok hown' hrow fun H4 V4 hV4 hs4 _ => ?_
  refine XWP.ret ?_
  try simp only [thenX_ret, inBlockX_ret]
  refine ret_go _ rfl ⟨fun h => (by rw [e] at h; cases h), fun _ => ⟨_, rfl, by rw [Int.toNat_natCast, ← hK0]; exact hok, ?_⟩⟩
  rw [Int.toNat_natCast]; unfold allL; rw [← hK0]; exact hs4
/-- the only law of a matrix: none where there are several classes -/
theorem balone1_c (V : View) (s : Value) (r c : Int) (L : List Raw) (B : Nat) (h : Raws V s L) (f : fitR L) (ll : L.length ≤ 100000) (hq : okR L = true → ∀ x ∈ qs L, QB B x) (hB : 1001 * (B + 1) ≤ 17592186044416) (hB2 : stoB r c L = true → ge (B + 1) (2 * r.toNat + 1) ≤ 17592186044416) :
    Spec Try.prog 32 [.agg #[.int .i64 r, .int .i64 c, s]] V fun v' V' => (stoB r c L = false → v' = .tuple #[.slice none 0 0, .int .i64 1]) ∧ (stoB r c L = true → (∀ C ∈ clsL (qs L) r.toNat, LawOk (qs L) r.toNat B C) ∧ ((clsL (qs L) r.toNat).length ≠ 1 → v' = .tuple #[.slice none 0 0, .int .i64 3]) ∧ ∀ C, clsL (qs L) r.toNat = [C] → ∃ w, v' = .tuple #[w, .int .i64 0] ∧ Rats V' w (lawC (qs L) r.toNat C)) := by
  obtain ⟨A, cp, rfl, hc, hm⟩ := h.form
  refine (Spec.enter Try.func32 rfl fun Γ => ?_)
  simp only [Try.ntmps32, List.map_cons, List.map_nil, List.length_cons, List.length_nil, Nat.reduceAdd, Nat.reduceSub, List.replicate_succ, List.replicate_zero, List.cons_append, List.nil_append]
  first | refine Gx.a (by kernel_rfl) fun K hK => ?_ | refine Gx.b (by kernel_rfl) fun K hK => ?_ | refine Gx.c (by kernel_rfl) fun K hK => ?_
  simp only [XM, XN, XA, XB, gateX, Nat.reduceAdd, Nat.reduceLeDiff, Nat.reduceSub, Nat.reduceMul, ↓reduceIte, Int.reduceToNat, Int.reduceLE, beq_self_eq_true]
  refine hK _ ?_
  first | refine Gx.a (by kernel_rfl) fun K hK => ?_ | refine Gx.b (by kernel_rfl) fun K hK => ?_ | refine Gx.c (by kernel_rfl) fun K hK => ?_
  simp only [XM, XN, XA, XB, gateX, Nat.reduceAdd, Nat.reduceLeDiff, Nat.reduceSub, Nat.reduceMul, ↓reduceIte, Int.reduceToNat, Int.reduceLE, beq_self_eq_true]
  refine call_go (by kernel_rfl) rfl (ball_c _ _ r c L B h f ll hq hB hB2) fun v1 V1 hV1 h1 => ?_
  cases e : stoB r c L
  · obtain rfl := h1.1 e
    simp only [XM, XN, XA, XB, gateX, Nat.reduceAdd, Nat.reduceLeDiff, Nat.reduceSub, Nat.reduceMul, ↓reduceIte, Int.reduceToNat, Int.reduceLE, beq_self_eq_true]
    refine hK _ ?_
    refine XWP.seq ?_
    first | refine Gx.a (by kernel_rfl) fun K hK => ?_ | refine Gx.b (by kernel_rfl) fun K hK => ?_ | refine Gx.c (by kernel_rfl) fun K hK => ?_
    simp only [XM, XN, XA, XB, gateX, Nat.reduceAdd, Nat.reduceLeDiff, Nat.reduceSub, Nat.reduceMul, ↓reduceIte, Int.reduceToNat, Int.reduceLE, beq_self_eq_true]
    refine hK _ ?_
    first | refine Gx.t rfl ?_ | refine XWP.seq (Gx.t rfl ?_)
    first | refine Gx.a (by kernel_rfl) fun K hK => ?_ | refine Gx.b (by kernel_rfl) fun K hK => ?_ | refine Gx.c (by kernel_rfl) fun K hK => ?_
    simp only [XM, XN, XA, XB, gateX, Nat.reduceAdd, Nat.reduceLeDiff, Nat.reduceSub, Nat.reduceMul, ↓reduceIte, Int.reduceToNat, Int.reduceLE, beq_self_eq_true]
    refine hK _ (XWP.ret ?_)
    try simp only [thenX_ret, inBlockX_ret]
    refine ret_go _ rfl ?_
    exact ⟨fun _ => rfl, fun h => by rw [e] at h; cases h⟩
  obtain ⟨w, rfl, hok, hw⟩ := h1.2 e
  obtain ⟨A2, c2, rfl, hc2, hm2⟩ := hw.form
  have hl : (allL (qs L) r.toNat).length = (clsL (qs L) r.toNat).length := List.length_map ..
  simp only [XM, XN, XA, XB, gateX, Nat.reduceAdd, Nat.reduceLeDiff, Nat.reduceSub, Nat.reduceMul, ↓reduceIte, Int.reduceToNat, Int.reduceLE, beq_self_eq_true]
  refine hK _ ?_
  refine XWP.seq ?_
  first | refine Gx.a (by kernel_rfl) fun K hK => ?_ | refine Gx.b (by kernel_rfl) fun K hK => ?_ | refine Gx.c (by kernel_rfl) fun K hK => ?_
  simp only [XM, XN, XA, XB, gateX, Nat.reduceAdd, Nat.reduceLeDiff, Nat.reduceSub, Nat.reduceMul, ↓reduceIte, Int.reduceToNat, Int.reduceLE, beq_self_eq_true]
  refine hK _ ?_
  first | refine Gx.f rfl ?_ | refine XWP.seq (Gx.f rfl ?_)
  refine XWP.skip ?_
  refine XWP.seq ?_
  have hcl := clsL_len (qs L) r.toNat
  by_cases e1 : (clsL (qs L) r.toNat).length = 1
  rotate_left
  · have b1 : decide (((allL (qs L) r.toNat).length : Int) = 1) = false := decide_eq_false (by omega)
    first | refine Gx.a (by kernel_rfl) fun K hK => ?_ | refine Gx.b (by kernel_rfl) fun K hK => ?_ | refine Gx.c (by kernel_rfl) fun K hK => ?_
    simp only [XM, XN, XA, XB, gateX, Nat.reduceAdd, Nat.reduceLeDiff, Nat.reduceSub, Nat.reduceMul, ↓reduceIte, Int.reduceToNat, Int.reduceLE, beq_self_eq_true, b1]
    refine hK _ ?_
    first | refine Gx.t rfl ?_ | refine XWP.seq (Gx.t rfl ?_)
    first | refine Gx.a (by kernel_rfl) fun K hK => ?_ | refine Gx.b (by kernel_rfl) fun K hK => ?_ | refine Gx.c (by kernel_rfl) fun K hK => ?_
    simp only [XM, XN, XA, XB, gateX, Nat.reduceAdd, Nat.reduceLeDiff, Nat.reduceSub, Nat.reduceMul, ↓reduceIte, Int.reduceToNat, Int.reduceLE, beq_self_eq_true]
    refine hK _ (XWP.ret ?_)
    try simp only [thenX_ret, inBlockX_ret]
    refine ret_go _ rfl ?_
    exact ⟨fun h => (by rw [e] at h; cases h), fun _ => ⟨hok, fun _ => rfl, fun C hC => absurd (by rw [hC]; rfl) e1⟩⟩
  obtain ⟨C, hC⟩ := List.length_eq_one_iff.1 e1
  have eA : allL (qs L) r.toNat = [lawC (qs L) r.toNat C] := by unfold allL; rw [hC]; rfl
  have b1 : decide (((allL (qs L) r.toNat).length : Int) = 1) = true := decide_eq_true (by omega)
  first | refine Gx.a (by kernel_rfl) fun K hK => ?_ | refine Gx.b (by kernel_rfl) fun K hK => ?_ | refine Gx.c (by kernel_rfl) fun K hK => ?_
  simp only [XM, XN, XA, XB, gateX, Nat.reduceAdd, Nat.reduceLeDiff, Nat.reduceSub, Nat.reduceMul, ↓reduceIte, Int.reduceToNat, Int.reduceLE, beq_self_eq_true, b1]
  refine hK _ ?_
  first | refine Gx.f rfl ?_ | refine XWP.seq (Gx.f rfl ?_)
  refine XWP.skip ?_
  rw [eA] at hw
  obtain ⟨bw, ow, rfl⟩ := hw.addr (by simp)
  obtain ⟨u, g1, _, g2⟩ := Sl1.load hw 0 (by simp)
  have g2 := fun H => g2 H _ _ shapeT_22
  obtain ⟨A3, c3, rfl, _, _⟩ := SlAt.form g1
  first | refine Gx.a (by kernel_rfl) fun K hK => ?_ | refine Gx.b (by kernel_rfl) fun K hK => ?_ | refine Gx.c (by kernel_rfl) fun K hK => ?_
  simp only [XM, XN, XA, XB, gateX, Nat.reduceAdd, Nat.reduceLeDiff, Nat.reduceSub, Nat.reduceMul, ↓reduceIte, Int.reduceToNat, Int.reduceLE, beq_self_eq_true]
  refine ⟨by omega, ?_⟩
  refine ld_mem (by simpa using g2 _) ?_
  simp only [XM, XN, XA, XB, gateX, Nat.reduceAdd, Nat.reduceLeDiff, Nat.reduceSub, Nat.reduceMul, ↓reduceIte, Int.reduceToNat, Int.reduceLE, beq_self_eq_true]
  refine hK _ (XWP.ret ?_)
  try simp only [thenX_ret, inBlockX_ret]
  refine ret_go _ rfl ⟨fun h => (by rw [e] at h; cases h), fun _ => ⟨hok, fun h => absurd e1 h, fun D hD => ⟨_, rfl, ?_⟩⟩⟩
  rw [hC] at hD
  cases hD
  exact g1
end Go.Proofs.Ytkgmicakfmllmaa
end
section
namespace Go.Proofs.Ytkgmicakfmllmaa
open Go Go.RowKit
set_option linter.unusedSimpArgs false
set_option linter.unusedVariables false
attribute [local irreducible] XWP Spec SpecO XPub XCall seqX clX apX stX ldX iaX slX
def swpL : List Rat := [0, 1, 1, 0]
theorem shutL_congr {w w' : Nat → Nat → Bool} {op : Nat → Bool} {n : Nat} (h : ∀ i k, i < n → k < n → w i k = w' i k) : shutL w op n = shutL w' op n := by
  have hr : ∀ x, x ∈ List.range n → x < n := fun x hx => List.mem_range.1 hx
  have e1 : ∀ i, i < n → (List.range n).filter (w i) = (List.range n).filter (w' i) := fun i hi => List.filter_congr fun k hk => h i k hi (hr k hk)
  have e2 : ∀ i, i < n → ((List.range n).all fun k => !w i k || (w k i && !op k && decide (i ≤ k))) = ((List.range n).all fun k => !w' i k || (w' k i && !op k && decide (i ≤ k))) := fun i hi => by
    rw [Bool.eq_iff_iff, List.all_eq_true, List.all_eq_true]
    exact ⟨fun g k hk => by rw [← h i k hi (hr k hk), ← h k i (hr k hk) hi]; exact g k hk, fun g k hk => by rw [h i k hi (hr k hk), h k i (hr k hk) hi]; exact g k hk⟩
  have gen : ∀ l : List Nat, (∀ x ∈ l, x < n) → (l.filterMap fun i => if ((List.range n).all fun k => !w i k || (w k i && !op k && decide (i ≤ k))) = true then some ((List.range n).filter (w i)) else none) = l.filterMap fun i => if ((List.range n).all fun k => !w' i k || (w' k i && !op k && decide (i ≤ k))) = true then some ((List.range n).filter (w' i)) else none := by
    intro l hl
    induction l with
    | nil => rfl
    | cons x l ih =>
      have hx := hl x (by simp)
      rw [List.filterMap_cons, List.filterMap_cons, e1 x hx, e2 x hx, ih fun y hy => hl y (by simp [hy])]
  exact gen _ hr
theorem swp_e : eM swpL 2 0 1 = true ∧ eM swpL 2 1 0 = true := by decide +kernel
theorem swp_w : ∀ i k, i < 2 → k < 2 → wR (eM swpL 2) 2 i k = true := fun i k hi hk => by
  rw [wR_iff]
  have h01 : Rch (fun a b => eM swpL 2 a b = true) 2 0 1 := .step (.refl (by omega)) (by omega) swp_e.1
  have h10 : Rch (fun a b => eM swpL 2 a b = true) 2 1 0 := .step (.refl (by omega)) (by omega) swp_e.2
  have : (i = 0 ∨ i = 1) ∧ (k = 0 ∨ k = 1) := by omega
  rcases this with ⟨rfl | rfl, rfl | rfl⟩
  · exact .refl (by omega)
  · exact h01
  · exact h10
  · exact .refl (by omega)
theorem swp_cls : clsL swpL 2 = [[0, 1]] := by
  unfold clsL
  rw [shutL_congr (w' := fun _ _ => true) swp_w]; rfl
theorem swp_sto : stoB 2 2 (swpL.map toRaw) = true := by
  unfold stoB
  rw [show matR 2 2 (swpL.map toRaw) = true from matR_rats (n := 2) (m := 2) rfl (by omega) (by omega), qs_toRaw]
  decide +kernel
theorem swp_law : lawC swpL 2 [0, 1] = [hf, hf] := by
  obtain ⟨n, h1, h2, _, _, _, hS⟩ := stoB_parts swp_sto
  obtain rfl : n = 2 := by omega
  rw [qs_toRaw] at hS
  have hc := cls_irr hS (C := [0, 1]) (by rw [swp_cls]; simp)
  have hX : LinG (lawG (subG (gridL swpL 2) [0, 1]) [0, 1].length) [0, 1].length [0, 1].length (oneB [0, 1].length) (fun _ => hf) := fun i hi => by
    have hi : i < 2 := hi
    have : i = 0 ∨ i = 1 := by omega
    rcases this with rfl | rfl
    · decide +kernel
    · decide +kernel
  have e := theX_eq (law_uni hc.sto hc.irr) hX
  unfold lawC
  rw [← scat_congr [0, 1].length e]
  decide +kernel
theorem swp_QB : ∀ x ∈ swpL, QB 2 x := by
  intro x hx
  simp only [swpL, List.mem_cons, List.not_mem_nil, or_false] at hx
  rcases hx with rfl | rfl | rfl | rfl
  · exact QB_zero 2
  · exact QB_one 2
  · exact QB_one 2
  · exact QB_zero 2
theorem hf2_law : lawB ([hf, hf].map toRaw) = true := by
  have h : wtB 2 ([hf, hf].map toRaw) = true := wtB_raw (n := 2) rfl fun j hj => by
    have : j = 0 ∨ j = 1 := by omega
    rcases this with rfl | rfl
    · decide +kernel
    · decide +kernel
  unfold wtB at h
  rw [Bool.and_eq_true] at h
  unfold lawB
  rw [h.2, qs_toRaw, Bool.true_and]
  decide +kernel
theorem swap34_c (V : View) : Spec Try.prog 33 [] V fun v' V' => ∃ w, v' = .agg #[.int .i64 2, .int .i64 2, w] ∧ Rats V' w swpL := by
  refine (Spec.enter Try.func33 rfl fun Γ => ?_)
  simp only [Try.ntmps33, List.map_cons, List.map_nil, List.length_cons, List.length_nil, Nat.reduceAdd, Nat.reduceSub, List.replicate_succ, List.replicate_zero, List.cons_append, List.nil_append]
  first | refine Gx.a (by kernel_rfl) fun K hK => ?_ | refine Gx.b (by kernel_rfl) fun K hK => ?_ | refine Gx.c (by kernel_rfl) fun K hK => ?_
  simp only [XM, XA, XB, gateX, Nat.reduceAdd, Nat.reduceLeDiff, Nat.reduceSub, Nat.reduceMul, ↓reduceIte, Int.reduceToNat, Int.reduceLE, beq_self_eq_true]
  refine hK _ ?_
  first | refine Gx.a (by kernel_rfl) fun K hK => ?_ | refine Gx.b (by kernel_rfl) fun K hK => ?_ | refine Gx.c (by kernel_rfl) fun K hK => ?_
  simp only [XM, XA, XB, gateX, Nat.reduceAdd, Nat.reduceLeDiff, Nat.reduceSub, Nat.reduceMul, ↓reduceIte, Int.reduceToNat, Int.reduceLE, beq_self_eq_true]
  refine call_go (by kernel_rfl) rfl (pzero_c _) fun v1 V1 hV1 h1 => ?_
  simp only [XM, XA, XB, gateX, Nat.reduceAdd, Nat.reduceLeDiff, Nat.reduceSub, Nat.reduceMul, ↓reduceIte, Int.reduceToNat, Int.reduceLE, beq_self_eq_true]
  refine call_go (by kernel_rfl) rfl (pone_c _) fun v2 V2 hV2 h2 => ?_
  simp only [XM, XA, XB, gateX, Nat.reduceAdd, Nat.reduceLeDiff, Nat.reduceSub, Nat.reduceMul, ↓reduceIte, Int.reduceToNat, Int.reduceLE, beq_self_eq_true]
  refine call_go (by kernel_rfl) rfl (pone_c _) fun v3 V3 hV3 h3 => ?_
  simp only [XM, XA, XB, gateX, Nat.reduceAdd, Nat.reduceLeDiff, Nat.reduceSub, Nat.reduceMul, ↓reduceIte, Int.reduceToNat, Int.reduceLE, beq_self_eq_true]
  refine call_go (by kernel_rfl) rfl (pzero_c _) fun v4 V4 hV4 h4 => ?_
  have h1 := ((h1.mono hV2).mono hV3).mono hV4
  have h2 := (h2.mono hV3).mono hV4
  have h3 := h3.mono hV4
  obtain ⟨x1, y1, rfl, o1, q1⟩ := h1.form
  obtain ⟨x2, y2, rfl, o2, q2⟩ := h2.form
  obtain ⟨x3, y3, rfl, o3, q3⟩ := h3.form
  obtain ⟨x4, y4, rfl, o4, q4⟩ := h4.form
  simp only [XM, XA, XB, gateX, Nat.reduceAdd, Nat.reduceLeDiff, Nat.reduceSub, Nat.reduceMul, ↓reduceIte, Int.reduceToNat, Int.reduceLE, beq_self_eq_true]
  refine bs_go (by kernel_rfl) #[(0, .agg #[.bool (ng 0), x1, y1]), (1, .agg #[.bool (ng 1), x2, y2]), (2, .agg #[.bool (ng 1), x3, y3]), (3, .agg #[.bool (ng 0), x4, y4])] (by simp [ev_tmp, SV.val]) (bs_rat4 elemT_22) fun b hb1 hb2 => ?_
  simp only [XM, XA, XB, gateX, Nat.reduceAdd, Nat.reduceLeDiff, Nat.reduceSub, Nat.reduceMul, ↓reduceIte, Int.reduceToNat, Int.reduceLE, beq_self_eq_true]
  refine bd_go (by kernel_rfl) #[(0, .int .i64 2), (1, .int .i64 2), (2, .slice (some ⟨b, 0, none⟩) 4 4)] (by simp [ev_tmp, ev_const, SV.val]) (bd_mtx3 rfl rfl rfl) ?_
  simp only [XM, XA, XB, gateX, Nat.reduceAdd, Nat.reduceLeDiff, Nat.reduceSub, Nat.reduceMul, ↓reduceIte, Int.reduceToNat, Int.reduceLE, beq_self_eq_true]
  refine st_mat shapeT_37 rfl rfl rfl rfl rfl ?_
  simp only [XM, XA, XB, gateX, Nat.reduceAdd, Nat.reduceLeDiff, Nat.reduceSub, Nat.reduceMul, ↓reduceIte, Int.reduceToNat, Int.reduceLE, beq_self_eq_true]
  have hrow := ((((RowAt.nil (E := ratE) V4).snoc (x := 0) (show isOne (.bool (ng 0)) = true from rfl) o1 q1 h1).snoc (x := 1) (show isOne (.bool (ng 1)) = true from rfl) o2 q2 h2).snoc (x := 1) (show isOne (.bool (ng 1)) = true from rfl) o3 q3 h3).snoc (x := 0) (show isOne (.bool (ng 0)) = true from rfl) o4 q4 h4
  simp only [List.nil_append, List.cons_append] at hrow
  refine hK _ (XWP.ret ?_)
  try simp only [thenX_ret, inBlockX_ret]
  refine ret_pub b ⟨27, [.bool (ng 0), x1, y1, .bool (ng 1), x2, y2, .bool (ng 1), x3, y3, .bool (ng 0), x4, y4], 12⟩ (by simp only [upd_at]) fun o ho hle => ret_go _ (by simp [resAll, resV, cellsV, shapeT_37]; rfl) ⟨_, rfl, ?_⟩
  exact hrow.pub ratE_ok ho hle (n := 4) (c := 4) rfl (Nat.le_refl _) (by omega)
attribute [local irreducible] swpL
theorem alive34_c (V : View) : Spec Try.prog 10 [] V fun v' V' => v' = .bool true := by
  have hl4 : (swpL.map toRaw).length = 4 := by rw [List.length_map]; with_unfolding_all rfl
  refine (Spec.enter Try.func10 rfl fun Γ => ?_)
  simp only [Try.ntmps10, List.map_cons, List.map_nil, List.length_cons, List.length_nil, Nat.reduceAdd, Nat.reduceSub, List.replicate_succ, List.replicate_zero, List.cons_append, List.nil_append]
  first | refine Gx.a (by kernel_rfl) fun K hK => ?_ | refine Gx.b (by kernel_rfl) fun K hK => ?_ | refine Gx.c (by kernel_rfl) fun K hK => ?_
  simp only [XM, XA, XB, gateX, Nat.reduceAdd, Nat.reduceLeDiff, Nat.reduceSub, Nat.reduceMul, ↓reduceIte, Int.reduceToNat, Int.reduceLE, beq_self_eq_true]
  refine hK _ ?_
  first | refine Gx.a (by kernel_rfl) fun K hK => ?_ | refine Gx.b (by kernel_rfl) fun K hK => ?_ | refine Gx.c (by kernel_rfl) fun K hK => ?_
  simp only [XM, XA, XB, gateX, Nat.reduceAdd, Nat.reduceLeDiff, Nat.reduceSub, Nat.reduceMul, ↓reduceIte, Int.reduceToNat, Int.reduceLE, beq_self_eq_true]
  refine call_go (by kernel_rfl) rfl (swap34_c _) fun v1 V1 hV1 h1 => ?_
  obtain ⟨w, rfl, hw⟩ := h1
  simp only [XM, XA, XB, gateX, Nat.reduceAdd, Nat.reduceLeDiff, Nat.reduceSub, Nat.reduceMul, ↓reduceIte, Int.reduceToNat, Int.reduceLE, beq_self_eq_true]
  refine call_go (by kernel_rfl) rfl (balone1_c _ _ 2 2 (swpL.map toRaw) 2 (Rats.raws hw) (fitR_toRaw fun x hx => (swp_QB x hx).qf (by omega)) (by omega) (fun _ => by rw [qs_toRaw]; exact swp_QB) (by omega) (fun _ => by decide)) fun v2 V2 hV2 h2 => ?_
  have h2 := (h2.2 swp_sto).2.2
  rw [qs_toRaw] at h2
  obtain ⟨w2, rfl, hw2⟩ := h2 [0, 1] swp_cls
  have hw2 : Rats V2 w2 [hf, hf] := by have e := swp_law; rw [← e]; exact hw2
  obtain ⟨A2, c2, rfl, q1, q2⟩ := SlAt.form hw2
  simp only [XM, XA, XB, gateX, Nat.reduceAdd, Nat.reduceLeDiff, Nat.reduceSub, Nat.reduceMul, ↓reduceIte, Int.reduceToNat, Int.reduceLE, beq_self_eq_true]
  refine hK _ ?_
  first | refine Gx.a (by kernel_rfl) fun K hK => ?_ | refine Gx.b (by kernel_rfl) fun K hK => ?_ | refine Gx.c (by kernel_rfl) fun K hK => ?_
  simp only [XM, XA, XB, gateX, Nat.reduceAdd, Nat.reduceLeDiff, Nat.reduceSub, Nat.reduceMul, ↓reduceIte, Int.reduceToNat, Int.reduceLE, beq_self_eq_true]
  refine call_go (by kernel_rfl) rfl (dmake_c _) fun v3 V3 hV3 h3 => ?_
  obtain ⟨w3, rfl, h3⟩ := h3
  obtain ⟨x3, y3, rfl, o1, o2⟩ := h3.form
  simp only [XM, XA, XB, gateX, Nat.reduceAdd, Nat.reduceLeDiff, Nat.reduceSub, Nat.reduceMul, ↓reduceIte, Int.reduceToNat, Int.reduceLE, beq_self_eq_true]
  refine st_rat rfl rfl rfl o1 o2 ?_
  simp only [XM, XA, XB, gateX, Nat.reduceAdd, Nat.reduceLeDiff, Nat.reduceSub, Nat.reduceMul, ↓reduceIte, Int.reduceToNat, Int.reduceLE, beq_self_eq_true]
  refine hK _ ?_
  have hw3 := hw2.up hV3
  obtain ⟨b, o, rfl⟩ := SlAt.addr hw3 (by simp)
  obtain ⟨m4, n4, d4, hx4, ⟨r1, r2, r3⟩, hld⟩ := Rats.get hw3 0 (by simp)
  have hx4 : RatC V3 (.agg #[m4, n4, d4]) hf := hx4
  have qh : QF hf := hf_QB.qf (by omega)
  (first | refine XWP.drw [0, 1, 2, 3, 4, 5, 6, 7, 8, 9, 10, 11, 12, 13, 14, 15, 16, 17, 18] (by kernel_rfl) (by kernel_rfl) (by kernel_rfl) fun K hK => ?_ | refine XWP.seq (XWP.drw [0, 1, 2, 3, 4, 5, 6, 7, 8, 9, 10, 11, 12, 13, 14, 15, 16, 17, 18] (by kernel_rfl) (by kernel_rfl) (by kernel_rfl) fun K hK => ?_) | refine XWP.drw1 [0, 1, 2, 3, 4, 5, 6, 7, 8, 9, 10, 11, 12, 13, 14, 15, 16, 17, 18] (by kernel_rfl) (by kernel_rfl) (by kernel_rfl) fun K hK => ?_) <;> dsimp only [pickOps, List.getElem?_cons_zero, List.getElem?_cons_succ]
  have b2 : decide (((2 : Nat) : Int) = 2) = true := rfl
  simp only [XM, XA, XB, gateX, Nat.reduceAdd, Nat.reduceLeDiff, Nat.reduceSub, Nat.reduceMul, ↓reduceIte, Int.reduceToNat, Int.reduceLE, beq_self_eq_true, b2, beq_self_eq_true]
  refine ⟨by omega, ?_⟩
  refine ld_mem (by simpa using hld _) ?_
  simp only [XM, XA, XB, gateX, Nat.reduceAdd, Nat.reduceLeDiff, Nat.reduceSub, Nat.reduceMul, ↓reduceIte, Int.reduceToNat, Int.reduceLE, beq_self_eq_true]
  refine call_go (by kernel_rfl) rfl (psame_c _ _ _ _ _ (hx4.toV qh) (h3.toV qh) qh qh) fun v5 V5 hV5 h5 => ?_
  subst h5
  simp only [XM, XA, XB, gateX, Nat.reduceAdd, Nat.reduceLeDiff, Nat.reduceSub, Nat.reduceMul, ↓reduceIte, Int.reduceToNat, Int.reduceLE, beq_self_eq_true, decide_true, b2, beq_self_eq_true]
  refine call_go (by kernel_rfl) rfl (blaw_c _ _ ([hf, hf].map toRaw) 1 (Rats.raws (hw3.up hV5)) (fitR_toRaw fun x hx => by (simp only [List.mem_cons, List.not_mem_nil, or_false, or_self] at hx; rw [hx]; exact qh)) (by simp) (fun _ => by rw [qs_toRaw]; exact fun x hx => by (simp only [List.mem_cons, List.not_mem_nil, or_false, or_self] at hx; rw [hx]; exact hf_QB)) (by omega)) fun v6 V6 hV6 h6 => ?_
  subst h6
  rw [hf2_law]
  simp only [XM, XA, XB, gateX, Nat.reduceAdd, Nat.reduceLeDiff, Nat.reduceSub, Nat.reduceMul, ↓reduceIte, Int.reduceToNat, Int.reduceLE, beq_self_eq_true]
  refine hK _ (XWP.ret ?_)
  try simp only [thenX_ret, inBlockX_ret]
  refine ret_go _ rfl ?_
  rfl
end Go.Proofs.Ytkgmicakfmllmaa
end
section
namespace Go.Proofs.Ytkgmicakfmllmaa
open Go Go.RowKit
set_option linter.unusedSimpArgs false
set_option linter.unusedVariables false
attribute [local irreducible] XWP Spec SpecO XPub XCall seqX clX apX stX ldX iaX slX
end Go.Proofs.Ytkgmicakfmllmaa
end
section
namespace Go.Proofs.Ytkgmicakfmllmaa
open Go Go.RowKit
set_option linter.unusedSimpArgs false
set_option linter.unusedVariables false
attribute [local irreducible] XWP Spec SpecO XPub XCall seqX clX apX stX ldX iaX slX
section
variable {V : View} {v u : Value} {P Q : List Raw} (hv : Raws V v P) (hu : Raws V u Q) (fP : fewR P) (fQ : fewR Q) (lP : P.length ≤ 9) (lQ : Q.length ≤ 9)
include hv hu fP fQ lP lQ
end
theorem RatV.ones {V : View} {v : Value} {q : Rat} (h : RatV V v q) : ∃ m n d, v = .agg #[.bool m, n, d] ∧ isOne n = true ∧ isOne d = true := by
  obtain ⟨m, a, b, ⟨n, d, e, h1, h2⟩, _⟩ := h
  exact ⟨m, n, d, e, h1.one, h2.one⟩
end Go.Proofs.Ytkgmicakfmllmaa
end
section
namespace Go.Proofs.Ytkgmicakfmllmaa
open Go Go.RowKit
set_option linter.unusedSimpArgs false
set_option linter.unusedVariables false
attribute [local irreducible] XWP Spec SpecO XPub XCall seqX clX apX stX ldX iaX slX
def apE (L M : List Raw) : Int := if (lawB L && lawB M) = false then 1 else if L.length ≠ M.length then 30 else 0
def apQ (L M : List Raw) : Rat := if (lawB L && lawB M) = false then 0 else if L.length ≠ M.length then 0 else tvF (cf (qs L)) (cf (qs M)) L.length
theorem ApartR.all {L M : List Raw} {v' : Value} {V' : View} (h : ApartR L M v' V') (hq : QF (apQ L M)) : ∃ m n d, v' = .tuple #[.agg #[.bool m, n, d], .int .i64 (apE L M)] ∧ isOne n = true ∧ isOne d = true ∧ RatV V' (.agg #[.bool m, n, d]) (apQ L M) := by
  obtain ⟨h1, h2, h3⟩ := h
  by_cases e : (lawB L && lawB M) = false
  · have a1 : apE L M = 1 := by unfold apE; rw [if_pos e]
    have a2 : apQ L M = 0 := by unfold apQ; rw [if_pos e]
    rw [a1, a2]
    exact ⟨_, _, _, h1 e, rfl, rfl, RatV.zero V'⟩
  have e' : (lawB L && lawB M) = true := by simpa using e
  by_cases hl : L.length = M.length
  · have a1 : apE L M = 0 := by unfold apE; rw [if_neg e, if_neg (fun h => h hl)]
    have a2 : apQ L M = tvF (cf (qs L)) (cf (qs M)) L.length := by unfold apQ; rw [if_neg e, if_neg (fun h => h hl)]
    rw [a2] at hq
    rw [a1, a2]
    obtain ⟨w, rfl, hw⟩ := h3 e' hl
    have hw := hw.toV hq
    obtain ⟨m, n, d, rfl, o1, o2⟩ := hw.ones
    exact ⟨m, n, d, rfl, o1, o2, hw⟩
  · have a1 : apE L M = 30 := by unfold apE; rw [if_neg e, if_pos hl]
    have a2 : apQ L M = 0 := by unfold apQ; rw [if_neg e, if_pos hl]
    rw [a1, a2]
    exact ⟨_, _, _, h2 e' hl, rfl, rfl, RatV.zero V'⟩
theorem apQ_QF {L M : List Raw} (qL : ∀ x ∈ qs L, QB 96 x) (qM : ∀ x ∈ qs M, QB 96 x) (lL : L.length ≤ 70) : QF (apQ L M) := by
  unfold apQ
  split
  · exact (QB_zero 1).qf (by omega)
  · split
    · exact (QB_zero 1).qf (by omega)
    · rename_i h
      have hl : L.length = M.length := by simpa using h
      exact (tv_QB (n := L.length) qL qM (by rw [qs_len]; omega) (by rw [qs_len]; omega) L.length (by omega)).qf (Nat.le_trans (Nat.mul_le_mul_right _ lL) (by decide))
set_option maxHeartbeats 4000000 in
theorem apart_c (V : View) (v u : Value) (L M : List Raw) (hv : Raws V v L) (hu : Raws V u M) : Spec Try.prog 3 [v, u] V fun v' V' => v' = .bool true := by
  obtain ⟨A1, c1, rfl, hc1, hm1⟩ := hv.form
  obtain ⟨A2, c2, rfl, hc2, hm2⟩ := hu.form
  refine (Spec.enter Try.func3 rfl fun Γ => ?_)
  simp only [Try.ntmps3, List.map_cons, List.map_nil, List.length_cons, List.length_nil, Nat.reduceAdd, Nat.reduceSub, List.replicate_succ, List.replicate_zero, List.cons_append, List.nil_append]
  first | refine Gx.a (by kernel_rfl) fun K hK => ?_ | refine Gx.b (by kernel_rfl) fun K hK => ?_ | refine Gx.c (by kernel_rfl) fun K hK => ?_
  simp only [XM, XA, XB, gateX, Nat.reduceAdd, Nat.reduceLeDiff, Nat.reduceSub, Nat.reduceMul, ↓reduceIte, Int.reduceToNat, Int.reduceLE, beq_self_eq_true]
  refine hK _ ?_
  refine XWP.seq ?_
  first | refine Gx.a (by kernel_rfl) fun K hK => ?_ | refine Gx.b (by kernel_rfl) fun K hK => ?_ | refine Gx.c (by kernel_rfl) fun K hK => ?_
  simp only [XM, XA, XB, gateX, Nat.reduceAdd, Nat.reduceLeDiff, Nat.reduceSub, Nat.reduceMul, ↓reduceIte, Int.reduceToNat, Int.reduceLE, beq_self_eq_true]
  refine call_go (by kernel_rfl) rfl (few34_c _ _ L hv) fun v1 V1 hV1 h1 => ?_
  subst h1
  cases e1 : fewB L
  · simp only [XM, XA, XB, gateX, Nat.reduceAdd, Nat.reduceLeDiff, Nat.reduceSub, Nat.reduceMul, ↓reduceIte, Int.reduceToNat, Int.reduceLE, beq_self_eq_true]
    refine hK _ ?_
    first | refine Gx.t rfl ?_ | refine XWP.seq (Gx.t rfl ?_)
    first | refine Gx.a (by kernel_rfl) fun K hK => ?_ | refine Gx.b (by kernel_rfl) fun K hK => ?_ | refine Gx.c (by kernel_rfl) fun K hK => ?_
    simp only [XM, XA, XB, gateX, Nat.reduceAdd, Nat.reduceLeDiff, Nat.reduceSub, Nat.reduceMul, ↓reduceIte, Int.reduceToNat, Int.reduceLE, beq_self_eq_true]
    refine hK _ (XWP.ret ?_)
    try simp only [thenX_ret, inBlockX_ret]
    refine ret_go _ rfl ?_
    rfl
  simp only [XM, XA, XB, gateX, Nat.reduceAdd, Nat.reduceLeDiff, Nat.reduceSub, Nat.reduceMul, ↓reduceIte, Int.reduceToNat, Int.reduceLE, beq_self_eq_true]
  refine call_go (by kernel_rfl) rfl (few34_c _ _ M (hu.up hV1)) fun v2 V2 hV2 h2 => ?_
  subst h2
  cases e2 : fewB M
  · simp only [XM, XA, XB, gateX, Nat.reduceAdd, Nat.reduceLeDiff, Nat.reduceSub, Nat.reduceMul, ↓reduceIte, Int.reduceToNat, Int.reduceLE, beq_self_eq_true]
    refine hK _ ?_
    first | refine Gx.t rfl ?_ | refine XWP.seq (Gx.t rfl ?_)
    first | refine Gx.a (by kernel_rfl) fun K hK => ?_ | refine Gx.b (by kernel_rfl) fun K hK => ?_ | refine Gx.c (by kernel_rfl) fun K hK => ?_
    simp only [XM, XA, XB, gateX, Nat.reduceAdd, Nat.reduceLeDiff, Nat.reduceSub, Nat.reduceMul, ↓reduceIte, Int.reduceToNat, Int.reduceLE, beq_self_eq_true]
    refine hK _ (XWP.ret ?_)
    try simp only [thenX_ret, inBlockX_ret]
    refine ret_go _ rfl ?_
    rfl
  simp only [XM, XA, XB, gateX, Nat.reduceAdd, Nat.reduceLeDiff, Nat.reduceSub, Nat.reduceMul, ↓reduceIte, Int.reduceToNat, Int.reduceLE, beq_self_eq_true]
  refine hK _ ?_
  first | refine Gx.f rfl ?_ | refine XWP.seq (Gx.f rfl ?_)
  refine XWP.skip ?_
  obtain ⟨l1, f1⟩ := fewB_few e1
  obtain ⟨l2, f2⟩ := fewB_few e2
  have qL := fewR_QB f1 (Raws.dig hv)
  have qM := fewR_QB f2 (Raws.dig hu)
  have hq := apQ_QF qL qM l1
  have hle := View.le_trans hV1 hV2
  first | refine Gx.a (by kernel_rfl) fun K hK => ?_ | refine Gx.b (by kernel_rfl) fun K hK => ?_ | refine Gx.c (by kernel_rfl) fun K hK => ?_
  simp only [XM, XA, XB, gateX, Nat.reduceAdd, Nat.reduceLeDiff, Nat.reduceSub, Nat.reduceMul, ↓reduceIte, Int.reduceToNat, Int.reduceLE, beq_self_eq_true]
  refine call_go (by kernel_rfl) rfl (bapart_c _ _ _ L M 96 (hv.up hle) (hu.up hle) f1.fit f2.fit (by omega) (by omega) qL qM (by omega)) fun v3 V3 hV3 h3 => ?_
  obtain ⟨m3, n3, d3, rfl, o1, o2, r3⟩ := h3.all hq
  simp only [XM, XA, XB, gateX, Nat.reduceAdd, Nat.reduceLeDiff, Nat.reduceSub, Nat.reduceMul, ↓reduceIte, Int.reduceToNat, Int.reduceLE, beq_self_eq_true]
  refine st_rat rfl rfl rfl o1 o2 ?_
  simp only [XM, XA, XB, gateX, Nat.reduceAdd, Nat.reduceLeDiff, Nat.reduceSub, Nat.reduceMul, ↓reduceIte, Int.reduceToNat, Int.reduceLE, beq_self_eq_true]
  refine hK _ ?_
  first | refine Gx.a (by kernel_rfl) fun K hK => ?_ | refine Gx.b (by kernel_rfl) fun K hK => ?_ | refine Gx.c (by kernel_rfl) fun K hK => ?_
  simp only [XM, XA, XB, gateX, Nat.reduceAdd, Nat.reduceLeDiff, Nat.reduceSub, Nat.reduceMul, ↓reduceIte, Int.reduceToNat, Int.reduceLE, beq_self_eq_true]
  refine call_go (by kernel_rfl) rfl (dapart_c _ _ _ L M 96 ((hv.up hle).up hV3) ((hu.up hle).up hV3) f1.fit f2.fit (by omega) (by omega) qL qM (by omega)) fun v4 V4 hV4 h4 => ?_
  obtain ⟨m4, n4, d4, rfl, o3, o4, r4⟩ := h4.all hq
  simp only [XM, XA, XB, gateX, Nat.reduceAdd, Nat.reduceLeDiff, Nat.reduceSub, Nat.reduceMul, ↓reduceIte, Int.reduceToNat, Int.reduceLE, beq_self_eq_true]
  refine st_rat rfl rfl rfl o3 o4 ?_
  simp only [XM, XA, XB, gateX, Nat.reduceAdd, Nat.reduceLeDiff, Nat.reduceSub, Nat.reduceMul, ↓reduceIte, Int.reduceToNat, Int.reduceLE, beq_self_eq_true]
  refine hK _ ?_
  have b1 : decide (apE L M = apE L M) = true := decide_eq_true rfl
  first | refine Gx.a (by kernel_rfl) fun K hK => ?_ | refine Gx.b (by kernel_rfl) fun K hK => ?_ | refine Gx.c (by kernel_rfl) fun K hK => ?_
  simp only [XM, XA, XB, gateX, Nat.reduceAdd, Nat.reduceLeDiff, Nat.reduceSub, Nat.reduceMul, ↓reduceIte, Int.reduceToNat, Int.reduceLE, beq_self_eq_true, b1]
  refine call_go (by kernel_rfl) rfl (psame_c _ _ _ _ _ (r3.mono hV4) r4 hq hq) fun v5 V5 hV5 h5 => ?_
  subst h5
  simp only [XM, XA, XB, gateX, Nat.reduceAdd, Nat.reduceLeDiff, Nat.reduceSub, Nat.reduceMul, ↓reduceIte, Int.reduceToNat, Int.reduceLE, beq_self_eq_true, decide_true]
  refine call_go (by kernel_rfl) rfl (alive34_c _) fun v6 V6 hV6 h6 => ?_
  subst h6
  simp only [XM, XA, XB, gateX, Nat.reduceAdd, Nat.reduceLeDiff, Nat.reduceSub, Nat.reduceMul, ↓reduceIte, Int.reduceToNat, Int.reduceLE, beq_self_eq_true]
  refine hK _ (XWP.ret ?_)
  try simp only [thenX_ret, inBlockX_ret]
  refine ret_go _ rfl ?_
  rfl
end Go.Proofs.Ytkgmicakfmllmaa
end
section
namespace Go.Proofs.Ytkgmicakfmllmaa.balanceApart
open Go.ChangeShapes Go.WideShapes Go.ChangeAt Go.RowKit
set_option linter.unusedVariables false
theorem own : ownKnob Try.prog.godebug = none := by kernel_rfl
theorem laidOut : laidOutB Try.prog = true := by kernel_rfl
set_option maxRecDepth 100000 in
theorem lifted (os : Os) (started : os.Started) (H : Type) (enc : TypeId × Value → H) :
    ReturnsInHanded {} Try.checked os 3 .any (Rows.balanceApartSpec.pre6 enc Try.prog Try.f3 Rows.balanceApartRow.domain false) (Rows.balanceApartSpec.post enc Try.prog Try.f3 false true false false) := by
  refine returnsInHanded_of_change_sized (C := Try.checked) own started (by kernel_rfl) Try.func3
    (ChangeSpec.witness6 (enc := enc) (C := Try.checked) false ⟨#[], #[.slice none 0 0, .slice none 0 0], []⟩ 8 (by kernel_rfl) (by kernel_rfl) (by kernel_rfl) (by kernel_rfl)) ?_
  intro W base args ds gs before hval0 hW hcnd hsz0 _
  have hval : ∀ (j : Nat) t v, Try.f3.params[j]? = some t → args[j]? = some v → Value.okWide Try.prog W .any base t v := hval0
  have hW' := hW
  obtain ⟨p, q, hA0, hV, rfl, hfz, hnd⟩ := hW
  have hA : DataW.TrodAll enc Try.prog W 0 (fun _ => true) true Try.f3.params.toList args.toList ds p := hA0
  rw [Try.params3] at hA hval
  obtain ⟨v0, vs0, d0, ds0, p0, q0, hargs, rfl, rfl, h0, r0⟩ := trodAll_cons hA
  obtain ⟨v1, vs1, d1, ds1, p1, q1, rfl, rfl, rfl, h1, r1⟩ := trodAll_cons r0
  obtain ⟨rfl, rfl, rfl⟩ := trodAll_nil r1
  obtain rfl : args = #[v0, v1] := by cases args; simp_all
  obtain ⟨rfl, rfl⟩ := trodVars_none hV
  obtain ⟨a0, len0, cap0, rfl⟩ := okWide_slice (und_elem (P := Try.prog) (e := 27) (by kernel_rfl)) (hval 0 22 v0 rfl rfl)
  have k0 := h0
  have lt0 : ∀ x ∈ p0, x.block < W.heap.size := by obtain ⟨m, hm⟩ := k0; exact DataW.trod_lt m _ _ _ hm
  obtain ⟨fuel0, hf0⟩ := h0
  obtain ⟨L0, hL0⟩ := open_raws (by kernel_rfl) hf0
  obtain ⟨a1, len1, cap1, rfl⟩ := okWide_slice (und_elem (P := Try.prog) (e := 27) (by kernel_rfl)) (hval 1 22 v1 rfl rfl)
  have k1 := h1
  have lt1 : ∀ x ∈ p1, x.block < W.heap.size := by obtain ⟨m, hm⟩ := k1; exact DataW.trod_lt m _ _ _ hm
  obtain ⟨fuel1, hf1⟩ := h1
  obtain ⟨L1, hL1⟩ := open_raws (by kernel_rfl) hf1
  clear hA0 hval0 hsz0
  refine (apart_c (viewW W) _ _ L0 L1 hL0 hL1 W (viewW_sub W)).mono fun e W' ⟨v, V', he, _, _, _, bel, hv⟩ => ?_
  subst hv
  subst he
  exact ⟨_, rfl, _, _, _, [], _, [], hW', trodAll_mk1 (shut_bool Try.underlying4 _), (trodAll_cons_mk (Below.trod laidOut (by kernel_rfl) (of_decide_eq_true (by kernel_rfl)) k0 bel lt0) (trodAll_cons_mk (Below.trod laidOut (by kernel_rfl) (of_decide_eq_true (by kernel_rfl)) k1 bel lt1) trodAll_mk0)), rfl, bel.frame _, fun h => by cases h⟩
theorem over : Rows.balanceApartRow.holds Try.pinned (OpenSpec.ofChange Rows.balanceApartSpec) :=
  OpenClaim.holds_of_wide 3 Try.f3 rfl rfl rfl rfl rfl rfl rfl ⟨rfl, rfl, rfl, rfl, rfl⟩ rfl rfl rfl rfl rfl (by kernel_rfl) Try.func3 (by kernel_rfl)
    (of_decide_eq_true (by kernel_rfl)) (by unfold Func.isWrapper; first | (rw [if_pos (by decide +kernel)]; kernel_rfl) | (rw [if_neg (by decide +kernel)]; exact ⟨rfl, rfl⟩))
    (fun os started H enc _ => lifted os started H enc)
theorem proved : Rows.BalanceApartSaid := over
#print axioms proved
end Go.Proofs.Ytkgmicakfmllmaa.balanceApart
namespace Go.Proofs.Ytkgmicakfmllmaa
/-- The row, under a short name, for the claim. -/
theorem balanceApart_holds : Rows.BalanceApartSaid := balanceApart.proved
end Go.Proofs.Ytkgmicakfmllmaa
end
