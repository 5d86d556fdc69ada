/- The law RecurSeries answers true at every input (part 12 of 12) -/
import Derived.OrdersHeld
import Derived.Below
import Derived.Tactics
import Derived.KernelRfl
import Derived.Laws.AppendOwn
import Derived.Laws.MakeOwn
import Derived.Laws.CopyRow
import Derived.Laws.Cells
import Derived.Laws.World
import Derived.Laws.Alloc2
import Derived.Laws.NewBlocks
import Derived.Maps.AppendAt
import Derived.Test.YthoboehbadmlmaaProg
import Init.Data.List.Lemmas
import Init.Omega
import Derived.WalkKit
import Derived.ProofKit
import Derived.OpenShut
import Derived.ChangeOld
import Derived.SizedLaws
import Derived.ChangeSlices
import Derived.ChangeArms
import Derived.Deep.Slices
import Derived.Test.YthoboehbadmlmaaRows
import Derived.ShutString
import Derived.Test.YthoboehbadmlmaaSer11
section
namespace Go.Proofs.Ythoboehbadmlmaa
open Go Go.RowKit
set_option linter.unusedSimpArgs false
set_option linter.unusedVariables false
attribute [local irreducible] XWP Spec SpecO XPub XCall seqX clX apX stX ldX iaX slX
theorem upd_none_id {H : Heap} {g : Nat} {r : Option Row} (h : H g = none) : upd (upd H g r) g none = H := by
  funext k; unfold upd; split
  · rename_i e; rw [e, h]
  · rfl
theorem pub_clone {P : Program} {ops : Array Oper} {rest : List Oper} {K : XS → Prop} {d : Option Tmp} {f : FuncId} {args : List SV} {t : List SV} {bx : List (List Value)} {H : Heap} {V : View} {o : Option (Nat × Row)} {v : Value} {l : List Rat}
    (h : (v = .slice none 0 0 ∧ l = [] ∧ o = none) ∨ ∃ g cells c, v = .slice (some ⟨g, 0, none⟩) l.length c ∧ o = some (g, ⟨34, cells, c * 3⟩) ∧ RowAt ratE V cells l ∧ l.length ≤ c ∧ c ≤ maxLen)
    (hH : ∀ g r, o = some (g, r) → H g = none ∧ V g = none) (hc : callable P f = true) (hv : args.all SV.isV = true) (k : ∀ V', V.le V' → Rats V' v l → clX P ops rest K ⟨t, bx, H, V'⟩ d f args) : clX P ops rest K ⟨t, bx, addRow H o, V⟩ d f args := by
  rcases h with ⟨rfl, rfl, rfl⟩ | ⟨g, cells, c, rfl, rfl, h1, h2, h3⟩
  · exact k V (View.le_refl V) (SlAt.nil _)
  · refine call_pub g ⟨34, cells, c * 3⟩ (upd_at _ _ _) (fun ob hob hle => ?_) hc hv
    have e := upd_none_id (r := some ⟨34, cells, c * 3⟩) (hH _ _ rfl).1
    show clX P ops rest K ⟨t, bx, upd (upd H g (some _)) g none, addV V g ob⟩ d f args
    rw [e]
    exact k _ hle (h1.pub ratE_ok hob hle rfl h2 (by unfold maxLen at h3; omega))
theorem cfrac_c (V : View) (v u : Value) (L A : List Raw) (hv : Raws V v L) (hu : Raws V u A) (fL : fitR L) (fA : fitR A) (lL : L.length ≤ 1000000) (lA : A.length ≤ 1000000) (C B : Nat)
    (hC : listsE L A 0 = 0 → CB C (qs L) ∧ CB B (qs A)) (hfit : 401 * (C + B + 1) + C + B + 2 ≤ 17592186044416) :
    Spec Try.prog 35 [v, u] V fun v' V' => (listsE L A 0 ≠ 0 → v' = .tuple #[.slice none 0 0, .slice none 0 0, .int .i64 (listsE L A 0)]) ∧ (listsE L A 0 = 0 → ∃ wp wq, v' = .tuple #[wp, wq, .int .i64 0] ∧ Rats V' wp (frP (qs L) (qs A)) ∧ Rats V' wq (trimQ (frQ (qs A)))) := by
  obtain ⟨A1, c1, rfl, hc1, hm1⟩ := hv.form
  obtain ⟨A2, c2, rfl, hc2, hm2⟩ := hu.form
  refine (Spec.enter Try.func35 rfl fun Γ => ?_)
  simp only [Try.ntmps35, List.map_cons, List.map_nil, List.length_cons, List.length_nil, Nat.reduceAdd, Nat.reduceSub, List.replicate_succ, List.replicate_zero, List.cons_append, List.nil_append]
  first | refine XWP.reg (by kernel_rfl) fun K hK => ?_ | refine XWP.seq (XWP.reg (by kernel_rfl) fun K hK => ?_) | refine XWP.reg1 (by kernel_rfl) fun K hK => ?_
  simp only [XA, XB, gateX, Nat.reduceAdd, Nat.reduceLeDiff, Nat.reduceSub, Nat.reduceMul, ↓reduceIte, Int.reduceToNat, Int.reduceLE, beq_self_eq_true]
  refine hK _ ?_
  refine XWP.seq ?_
  first | refine XWP.reg (by kernel_rfl) fun K hK => ?_ | refine XWP.seq (XWP.reg (by kernel_rfl) fun K hK => ?_) | refine XWP.reg1 (by kernel_rfl) fun K hK => ?_
  simp only [XA, XB, gateX, Nat.reduceAdd, Nat.reduceLeDiff, Nat.reduceSub, Nat.reduceMul, ↓reduceIte, Int.reduceToNat, Int.reduceLE, beq_self_eq_true]
  refine call_go (by kernel_rfl) rfl (lists_c _ _ _ L A 0 hv hu fL fA lL lA) fun v1 V1 hV1 h1 => ?_
  subst h1
  simp only [XA, XB, gateX, Nat.reduceAdd, Nat.reduceLeDiff, Nat.reduceSub, Nat.reduceMul, ↓reduceIte, Int.reduceToNat, Int.reduceLE, beq_self_eq_true]
  refine hK _ ?_
  by_cases he : listsE L A 0 = 0
  rotate_left
  · have b1 : (!decide (listsE L A 0 = 0)) = true := by rw [decide_eq_false he]; rfl
    first | refine XWP.reg (by kernel_rfl) fun K hK => ?_ | refine XWP.seq (XWP.reg (by kernel_rfl) fun K hK => ?_) | refine XWP.reg1 (by kernel_rfl) fun K hK => ?_
    simp only [XA, XB, gateX, Nat.reduceAdd, Nat.reduceLeDiff, Nat.reduceSub, Nat.reduceMul, ↓reduceIte, Int.reduceToNat, Int.reduceLE, beq_self_eq_true, b1]
    refine hK _ ?_
    first | refine XWP.cond (t := true) rfl (fun _ => ?_) (fun h => by cases h) | refine XWP.seq (XWP.cond (t := true) rfl (fun _ => ?_) (fun h => by cases h))
    first | refine XWP.reg (by kernel_rfl) fun K hK => ?_ | refine XWP.seq (XWP.reg (by kernel_rfl) fun K hK => ?_) | refine XWP.reg1 (by kernel_rfl) fun K hK => ?_
    simp only [XA, XB, gateX, Nat.reduceAdd, Nat.reduceLeDiff, Nat.reduceSub, Nat.reduceMul, ↓reduceIte, Int.reduceToNat, Int.reduceLE, beq_self_eq_true]
    refine hK _ (XWP.ret ?_)
    try simp only [thenX_ret, inBlockX_ret]
    refine ret_go _ rfl ?_
    exact ⟨fun _ => rfl, fun h => absurd h he⟩
  have b1 : (!decide (listsE L A 0 = 0)) = false := by rw [decide_eq_true he]; rfl
  first | refine XWP.reg (by kernel_rfl) fun K hK => ?_ | refine XWP.seq (XWP.reg (by kernel_rfl) fun K hK => ?_) | refine XWP.reg1 (by kernel_rfl) fun K hK => ?_
  simp only [XA, XB, gateX, Nat.reduceAdd, Nat.reduceLeDiff, Nat.reduceSub, Nat.reduceMul, ↓reduceIte, Int.reduceToNat, Int.reduceLE, beq_self_eq_true, b1]
  refine hK _ ?_
  first | refine XWP.cond (t := false) rfl (fun h => by cases h) (fun _ => ?_) | refine XWP.seq (XWP.cond (t := false) rfl (fun h => by cases h) (fun _ => ?_))
  refine XWP.skip ?_
  obtain ⟨hCl, hCa⟩ := hC he
  obtain ⟨k1, k2, k3, k4, k5, k6⟩ := listsE_zero he
  have hl := (Raws.rats hv k1).up hV1
  have ha := (Raws.rats hu k2).up hV1
  have el := qs_len L
  have ea := qs_len A
  generalize listsE L A 0 = E at he
  generalize qs L = l at *
  generalize qs A = a at *
  refine XWP.cut (fun s => ∃ (V5 : View) (H5 : Heap) (w : Value) (cells : List Value), StIs (fun τ => [.v (.slice A1 L.length c1), .v (.slice A2 A.length c2), τ 2, τ 3, τ 4, τ 5, τ 6, τ 7, .v w, τ 9, τ 10, τ 11, τ 12, τ 13, τ 14, τ 15, τ 16, τ 17, τ 18, τ 19, τ 20, τ 21, τ 22, τ 23, τ 24, τ 25, τ 26, τ 27, τ 28, τ 29, τ 30, τ 31, τ 32, τ 33, τ 34, τ 35, τ 36, τ 37, τ 38, τ 39, τ 40, τ 41, τ 42, τ 43, τ 44, τ 45, τ 46, τ 47, τ 48, τ 49, τ 50]) [] H5 V5 s ∧ V1.le V5 ∧ Own H5 34 3 w 1 cells ∧ RowAt ratE V5 cells [1]) ?_ ?_
  · first | refine XWP.reg (by kernel_rfl) fun K hK => ?_ | refine XWP.seq (XWP.reg (by kernel_rfl) fun K hK => ?_) | refine XWP.reg1 (by kernel_rfl) fun K hK => ?_
    simp only [XA, XB, gateX, Nat.reduceAdd, Nat.reduceLeDiff, Nat.reduceSub, Nat.reduceMul, ↓reduceIte, Int.reduceToNat, Int.reduceLE, beq_self_eq_true]
    refine call_go (by kernel_rfl) rfl (qone_c _) fun v2 V2 hV2 h2 => ?_
    obtain ⟨x2, y2, rfl, o1, o2⟩ := h2.form
    simp only [XA, XB, gateX, Nat.reduceAdd, Nat.reduceLeDiff, Nat.reduceSub, Nat.reduceMul, ↓reduceIte, Int.reduceToNat, Int.reduceLE, beq_self_eq_true]
    refine bs_go (by kernel_rfl) #[(0, .agg #[.bool (ng 1), x2, y2])] (by simp [ev_tmp, SV.val]) (bs_rat elemT_22) fun b3 hb3 hb4 => ?_
    simp only [XA, XB, gateX, Nat.reduceAdd, Nat.reduceLeDiff, Nat.reduceSub, Nat.reduceMul, ↓reduceIte, Int.reduceToNat, Int.reduceLE, beq_self_eq_true]
    exact hK _ ⟨V2, _, _, _, StIs.of (by exact rfl), hV2, own3 (upd_at _ _ _) rfl (Nat.le_refl _) (by omega), (RowAt.nil V2).snoc (show isOne (.bool (ng 1)) = true from rfl) o1 o2 h2⟩
  rintro s ⟨V5, H5, w, cells, hs, hV5, hown, hrow⟩
  obtain ⟨z, rfl⟩ := hs.out
  try dsimp only
  refine XWP.cutD 0 (fun s => ∃ (V6 : View) (H6 : Heap) (w : Value) (cells : List Value), StIs (fun τ => [.v (.slice A1 L.length c1), .v (.slice A2 A.length c2), τ 2, τ 3, τ 4, τ 5, τ 6, τ 7, .v w, τ 9, τ 10, τ 11, τ 12, τ 13, τ 14, τ 15, τ 16, τ 17, τ 18, τ 19, τ 20, τ 21, τ 22, τ 23, τ 24, τ 25, τ 26, τ 27, τ 28, τ 29, τ 30, τ 31, τ 32, τ 33, τ 34, τ 35, τ 36, τ 37, τ 38, τ 39, τ 40, τ 41, τ 42, τ 43, τ 44, τ 45, τ 46, τ 47, τ 48, τ 49, τ 50]) [] H6 V6 s ∧ V1.le V6 ∧ Own H6 34 3 w (1 + A.length) cells ∧ RowAt ratE V6 cells (frQ a)) ?_ ?_
  · first | refine XWP.reg (by kernel_rfl) fun K hK => ?_ | refine XWP.seq (XWP.reg (by kernel_rfl) fun K hK => ?_) | refine XWP.reg1 (by kernel_rfl) fun K hK => ?_
    simp only [XA, XB, gateX, Nat.reduceAdd, Nat.reduceLeDiff, Nat.reduceSub, Nat.reduceMul, ↓reduceIte, Int.reduceToNat, Int.reduceLE, beq_self_eq_true]
    refine hK _ ?_
    clear hK
    first | refine XWP.block ?_ | refine XWP.seq (XWP.block ?_)
    refine XWP.loopD 0 (fun m s => ∃ (i : Nat) (V6 : View) (H6 : Heap) (w : Value) (cells : List Value), StIs (fun τ => [.v (.slice A1 L.length c1), .v (.slice A2 A.length c2), τ 2, τ 3, τ 4, τ 5, τ 6, τ 7, .v w, τ 9, τ 10, τ 11, τ 12, τ 13, τ 14, τ 15, τ 16, τ 17, τ 18, τ 19, .v (.slice A2 A.length c2), .v (.int .i64 (A.length : Int)), .v (.int .i64 (i : Int)), τ 23, τ 24, τ 25, τ 26, τ 27, τ 28, τ 29, τ 30, τ 31, τ 32, τ 33, τ 34, τ 35, τ 36, τ 37, τ 38, τ 39, τ 40, τ 41, τ 42, τ 43, τ 44, τ 45, τ 46, τ 47, τ 48, τ 49, τ 50]) [] H6 V6 s ∧ V1.le V6 ∧ m + i = A.length ∧ Own H6 34 3 w (1 + i) cells ∧ RowAt ratE V6 cells ([1] ++ (a.take i).map fun x => -x)) A.length ⟨0, V5, H5, w, cells, StIs.of (by exact rfl), hV5, by omega, hown, hrow⟩ ?_
    clear hown hrow
    rintro m s ⟨i, V6, H6, w, cells, hs, hV6, hm, hown, hrow⟩
    obtain ⟨z, rfl⟩ := hs.out
    try dsimp only
    by_cases hi : i < A.length
    rotate_left
    · obtain rfl : i = A.length := by omega
      have b2 : decide ((A.length : Int) < (A.length : Int)) = false := decide_eq_false (by omega)
      first | refine XWP.reg (by kernel_rfl) fun K hK => ?_ | refine XWP.seq (XWP.reg (by kernel_rfl) fun K hK => ?_) | refine XWP.reg1 (by kernel_rfl) fun K hK => ?_
      simp only [XA, XB, gateX, Nat.reduceAdd, Nat.reduceLeDiff, Nat.reduceSub, Nat.reduceMul, ↓reduceIte, Int.reduceToNat, Int.reduceLE, beq_self_eq_true, b2]
      refine hK _ ?_
      first | refine XWP.cond (t := false) rfl (fun h => by cases h) (fun _ => ?_) | refine XWP.seq (XWP.cond (t := false) rfl (fun h => by cases h) (fun _ => ?_))
      refine XWP.exit ?_
      rw [← ea, List.take_length] at hrow
      exact fun f => ⟨V6, H6, w, cells, StIs.of (by exact rfl), hV6, hown, hrow⟩
    have b2 : decide ((i : Int) < (A.length : Int)) = true := decide_eq_true (by omega)
    first | refine XWP.reg (by kernel_rfl) fun K hK => ?_ | refine XWP.seq (XWP.reg (by kernel_rfl) fun K hK => ?_) | refine XWP.reg1 (by kernel_rfl) fun K hK => ?_
    simp only [XA, XB, gateX, Nat.reduceAdd, Nat.reduceLeDiff, Nat.reduceSub, Nat.reduceMul, ↓reduceIte, Int.reduceToNat, Int.reduceLE, beq_self_eq_true, b2]
    refine hK _ ?_
    first | refine XWP.cond (t := true) rfl (fun _ => ?_) (fun h => by cases h) | refine XWP.seq (XWP.cond (t := true) rfl (fun _ => ?_) (fun h => by cases h))
    refine XWP.skip ?_
    refine XWP.seq ?_
    first | refine XWP.block ?_ | refine XWP.seq (XWP.block ?_)
    have ha6 := ha.up hV6
    obtain ⟨b, o, rfl⟩ := SlAt.addr ha6 (by omega)
    obtain ⟨m3, n3, d3, hx3, ⟨p1, p2, p3⟩, hld3⟩ := Rats.get ha6 i (by omega)
    first | refine XWP.reg (by kernel_rfl) fun K hK => ?_ | refine XWP.seq (XWP.reg (by kernel_rfl) fun K hK => ?_) | refine XWP.reg1 (by kernel_rfl) fun K hK => ?_
    simp only [XA, XB, gateX, Nat.reduceAdd, Nat.reduceLeDiff, Nat.reduceSub, Nat.reduceMul, ↓reduceIte, Int.reduceToNat, Int.reduceLE, beq_self_eq_true]
    refine ⟨by omega, by omega, ld_mem (hld3 _) ?_⟩
    simp only [XA, XB, gateX, Nat.reduceAdd, Nat.reduceLeDiff, Nat.reduceSub, Nat.reduceMul, ↓reduceIte, Int.reduceToNat, Int.reduceLE, beq_self_eq_true]
    refine st_rat rfl rfl p1 p2 p3 ?_
    simp only [XA, XB, gateX, Nat.reduceAdd, Nat.reduceLeDiff, Nat.reduceSub, Nat.reduceMul, ↓reduceIte, Int.reduceToNat, Int.reduceLE, beq_self_eq_true]
    refine hK _ ?_
    first | refine XWP.reg (by kernel_rfl) fun K hK => ?_ | refine XWP.seq (XWP.reg (by kernel_rfl) fun K hK => ?_) | refine XWP.reg1 (by kernel_rfl) fun K hK => ?_
    simp only [XA, XB, gateX, Nat.reduceAdd, Nat.reduceLeDiff, Nat.reduceSub, Nat.reduceMul, ↓reduceIte, Int.reduceToNat, Int.reduceLE, beq_self_eq_true]
    refine call_go (by kernel_rfl) rfl (qneg_c _ _ _ hx3 ((hCa.at _).qf (by omega))) fun v7 V7 hV7 h7 => ?_
    obtain ⟨x7, y7, rfl, o1, o2⟩ := h7.form
    simp only [XA, XB, gateX, Nat.reduceAdd, Nat.reduceLeDiff, Nat.reduceSub, Nat.reduceMul, ↓reduceIte, Int.reduceToNat, Int.reduceLE, beq_self_eq_true]
    refine bs_go (by kernel_rfl) #[(0, .agg #[.bool (ng (-(cf a i))), x7, y7])] (by simp [ev_tmp, SV.val]) (bs_rat elemT_22) fun b3 hb3 hb4 => ?_
    simp only [XA, XB, gateX, Nat.reduceAdd, Nat.reduceLeDiff, Nat.reduceSub, Nat.reduceMul, ↓reduceIte, Int.reduceToNat, Int.reduceLE, beq_self_eq_true]
    refine ap_go elemT_22 (by kernel_rfl) zeroT_34 rfl (by omega) (own_upd hown hb3) (src3 (upd_at _ _ _) rfl o1 o2) (by omega) (by omega) fun v' H' hres => ?_
    simp only [XA, XB, gateX, Nat.reduceAdd, Nat.reduceLeDiff, Nat.reduceSub, Nat.reduceMul, ↓reduceIte, Int.reduceToNat, Int.reduceLE, beq_self_eq_true]
    refine hK _ ?_
    first | refine XWP.reg (by kernel_rfl) fun K hK => ?_ | refine XWP.seq (XWP.reg (by kernel_rfl) fun K hK => ?_) | refine XWP.reg1 (by kernel_rfl) fun K hK => ?_
    simp only [XA, XB, gateX, Nat.reduceAdd, Nat.reduceLeDiff, Nat.reduceSub, Nat.reduceMul, ↓reduceIte, Int.reduceToNat, Int.reduceLE, beq_self_eq_true, i64_succ i (by omega)]
    have hrow' := (hrow.mono ratE_ok hV7).snoc (show isOne (.bool (ng (-(cf a i)))) = true from rfl) o1 o2 h7
    rw [List.append_assoc, show (List.map (fun x => -x) (a.take i)) ++ [-(cf a i)] = List.map (fun x => -x) (a.take (i + 1)) by rw [takeQ_snoc (by omega), List.map_append]; rfl] at hrow'
    exact hK _ ⟨m - 1, by omega, fun f => ⟨i + 1, V7, _, _, _, StIs.of (by exact rfl), View.le_trans hV6 hV7, by omega, by rw [show 1 + (i + 1) = 1 + i + 1 by omega]; exact hres.1, hrow'⟩⟩
  clear hown hrow
  rintro s ⟨V6, H6, w, cells, hs, hV6, hown, hrow⟩
  obtain ⟨z, rfl⟩ := hs.out
  try dsimp only
  rcases own_parts hown with ⟨_, h0, _⟩ | ⟨g, cap, rfl, hg, hle, hcap, _⟩
  · omega
  have hl6 := hl.up hV6
  have ht6 := SlAt.take hl6 (k := A.length) (by omega)
  first | refine XWP.reg (by kernel_rfl) fun K hK => ?_ | refine XWP.seq (XWP.reg (by kernel_rfl) fun K hK => ?_) | refine XWP.reg1 (by kernel_rfl) fun K hK => ?_
  simp only [XA, XB, gateX, Nat.reduceAdd, Nat.reduceLeDiff, Nat.reduceSub, Nat.reduceMul, ↓reduceIte, Int.reduceToNat, Int.reduceLE, beq_self_eq_true]
  refine ⟨by omega, by omega, by omega, ?_⟩
  refine call_own (by kernel_rfl) rfl (rclone_o _ _ (l.take A.length) ht6 (by simp; omega)) fun v8 V8 o8 hV8 hs8 h8 => ?_
  simp only [XA, XB, gateX, Nat.reduceAdd, Nat.reduceLeDiff, Nat.reduceSub, Nat.reduceMul, ↓reduceIte, Int.reduceToNat, Int.reduceLE, beq_self_eq_true]
  refine pub_clone h8 hs8 (by kernel_rfl) rfl fun V9 hV9 h9 => ?_
  refine call_go (by kernel_rfl) rfl (ctrim_c _ _ _ h9) fun v10 V10 hV10 h10 => ?_
  simp only [XA, XB, gateX, Nat.reduceAdd, Nat.reduceLeDiff, Nat.reduceSub, Nat.reduceMul, ↓reduceIte, Int.reduceToNat, Int.reduceLE, beq_self_eq_true]
  have hV610 := View.le_trans hV8 (View.le_trans hV9 hV10)
  refine call_pub g ⟨34, cells, cap * 3⟩ hg (fun ob hob hle' => ?_) (by kernel_rfl) rfl
  have hq : Rats _ _ (frQ a) := (hrow.mono ratE_ok hV610).pub ratE_ok hob hle' (n := 1 + A.length) (c := cap) (by rw [frQ_len]; omega) hle (by unfold maxLen at hcap; omega)
  have h10 := h10.up hle'
  refine call_go (by kernel_rfl) rfl (ctrim_c _ _ _ hq) fun v11 V11 hV11 h11 => ?_
  have h10 := h10.up hV11
  have hq := hq.up hV11
  have hlt : (l.take a.length).length ≤ 400 := by rw [List.length_take]; omega
  have cT : CB C (trimQ (l.take a.length)) := (hCl.take _).trim
  have cQ : CB B (trimQ (frQ a)) := (frQ_CB hCa).trim
  have lT := trimQ_len (l.take a.length)
  have lQ := trimQ_len (frQ a)
  have lq := frQ_len a
  have hfit2 : (trimQ (l.take a.length)).length * (C + B + 1) ≤ 400 * (C + B + 1) := Nat.mul_le_mul_right _ (by omega)
  rw [← ea] at h10
  simp only [XA, XB, gateX, Nat.reduceAdd, Nat.reduceLeDiff, Nat.reduceSub, Nat.reduceMul, ↓reduceIte, Int.reduceToNat, Int.reduceLE, beq_self_eq_true]
  refine call_go (by kernel_rfl) rfl (cmul_c _ _ _ _ _ C B h10 h11 cT cQ (by omega) (by omega)) fun v12 V12 hV12 h12 => ?_
  have hq := hq.up hV12
  obtain ⟨A4, c4, rfl, hc4, hm4⟩ := h12.form
  obtain ⟨M, hM⟩ : ∃ M, M = mulP (trimQ (l.take a.length)) (trimQ (frQ a)) := ⟨_, rfl⟩
  have hP : frP l a = trimQ (M.take (min M.length A.length)) := by unfold frP; rw [← hM, ea]
  rw [← hM] at h12 hc4
  simp only [XA, XB, gateX, Nat.reduceAdd, Nat.reduceLeDiff, Nat.reduceSub, Nat.reduceMul, ↓reduceIte, Int.reduceToNat, Int.reduceLE, beq_self_eq_true]
  refine hK _ ?_
  rw [← hM]
  first | refine XWP.reg (by kernel_rfl) fun K hK => ?_ | refine XWP.seq (XWP.reg (by kernel_rfl) fun K hK => ?_) | refine XWP.reg1 (by kernel_rfl) fun K hK => ?_
  simp only [XA, XB, gateX, Nat.reduceAdd, Nat.reduceLeDiff, Nat.reduceSub, Nat.reduceMul, ↓reduceIte, Int.reduceToNat, Int.reduceLE, beq_self_eq_true, min_nat]
  refine ⟨by omega, by omega, by omega, ?_⟩
  have ht4 := SlAt.take h12 (k := min M.length A.length) (by omega)
  refine call_go (by kernel_rfl) rfl (ctrim_c _ _ _ ht4) fun v13 V13 hV13 h13 => ?_
  simp only [XA, XB, gateX, Nat.reduceAdd, Nat.reduceLeDiff, Nat.reduceSub, Nat.reduceMul, ↓reduceIte, Int.reduceToNat, Int.reduceLE, beq_self_eq_true]
  refine call_go (by kernel_rfl) rfl (ctrim_c _ _ _ (hq.up hV13)) fun v14 V14 hV14 h14 => ?_
  simp only [XA, XB, gateX, Nat.reduceAdd, Nat.reduceLeDiff, Nat.reduceSub, Nat.reduceMul, ↓reduceIte, Int.reduceToNat, Int.reduceLE, beq_self_eq_true]
  refine hK _ (XWP.ret ?_)
  try simp only [thenX_ret, inBlockX_ret]
  refine ret_go _ rfl ?_
  exact ⟨fun h => absurd he h, fun _ => ⟨_, _, rfl, by rw [hP]; exact h13.up hV14, h14⟩⟩
end Go.Proofs.Ythoboehbadmlmaa
end
section
namespace Go.Proofs.Ythoboehbadmlmaa
theorem nxS_Sm (all a : List Rat) (k : Nat) : nxS all a k = Sm (fun j => cf a j * cf all (all.length - 1 - j)) k := by
  induction k with
  | zero => rfl
  | succ k ih => rw [nxS, ih]; rfl
theorem cf_take (l : List Rat) (k i : Nat) : cf (l.take k) i = if i < k then cf l i else 0 := by
  by_cases hi : i < k
  · rw [if_pos hi]; unfold cf; simp [hi]
  · rw [if_neg hi]; exact cf_none (by simp; omega)
theorem cv_upto {q y z : Nat → Rat} {i : Nat} (h : ∀ j, j ≤ i → y j = z j) : cv q y i = cv q z i :=
  Sm_congr _ fun j _ => by rw [h (i - j) (by omega)]
theorem cv_front (q y : Nat → Rat) (i : Nat) : cv q y i = q 0 * y i + Sm (fun j => q (j + 1) * y (i - (j + 1))) i := by
  unfold cv
  rw [Sm_front]; rfl
/-- the next number is the one that the recurrence takes to zero -/
theorem cv_next (Y a : List Rat) (x : Rat) (hl : a.length ≤ Y.length) : cv (cf (frQ a)) (cf (Y ++ [x])) Y.length = x - nxS Y a a.length := by
  rw [cv_front, cf_frQ0, cf_append_right (Nat.le_refl _), Nat.sub_self]
  have e1 : Sm (fun j => cf (frQ a) (j + 1) * cf (Y ++ [x]) (Y.length - (j + 1))) Y.length = -1 * Sm (fun j => cf a j * cf Y (Y.length - 1 - j)) Y.length := by
    rw [← Sm_mul]
    refine Sm_congr _ fun j hj => ?_
    rw [cf_frQ, cf_append_left (by omega), show Y.length - (j + 1) = Y.length - 1 - j by omega]; grind
  have e2 : Sm (fun j => cf a j * cf Y (Y.length - 1 - j)) Y.length = nxS Y a a.length := by
    rw [nxS_Sm]
    exact Sm_more hl fun j h1 _ => by rw [cf_none h1]; grind
  rw [e1, e2, show cf [x] 0 = x from rfl]; grind
theorem cf_nxI (l a : List Rat) {n i : Nat} (h : i < l.length + n) : ∀ k, n ≤ k → cf (nxI l a k) i = cf (nxI l a n) i := fun k hk => by
  rw [← nxI_take l a hk, cf_take, if_pos h]
theorem Gen.upto {l l' q : Nat → Rat} {L n : Nat} (h : Gen l q L n) (e : ∀ i, i < n → l i = l' i) : Gen l' q L n :=
  ⟨h.1, h.2.1, fun k h1 h2 => by rw [← h.2.2 k h1 h2]; exact (cv_upto fun j hj => e j (by omega)).symm⟩
theorem nx_gen {l a : List Rat} (hl : a.length ≤ l.length) (h : Gen (cf l) (cf (frQ a)) a.length l.length) (n : Nat) : Gen (cf (nxI l a n)) (cf (frQ a)) a.length (l.length + n) := by
  induction n with
  | zero => exact h
  | succ n ih =>
    have hlen := nxI_len l a n
    have h2 : Gen (cf (nxI l a (n + 1))) (cf (frQ a)) a.length (l.length + n) := ih.upto fun i hi => (cf_nxI l a hi _ (by omega)).symm
    refine ⟨h2.1, h2.2.1, fun k h3 h4 => ?_⟩
    rcases Nat.eq_or_lt_of_le (Nat.lt_succ_iff.1 (show k < (l.length + n) + 1 by omega)) with e | e
    · have := cv_next (nxI l a n) a (nxS (nxI l a n) a a.length) (by omega)
      rw [e, ← hlen]
      show cv _ (cf (nxI l a n ++ [_])) _ = 0
      rw [this]; grind
    · exact h2.2.2 k h3 e
theorem frQ_zero (a : List Rat) (j : Nat) (h : a.length < j) : cf (frQ a) j = 0 := cf_none (by rw [frQ_len]; omega)
/-- what is generated from places enough, by a recurrence no longer than the sequence -/
theorem gen_start {l a : List Rat} (h : l.length ≤ a.length) : Gen (cf l) (cf (frQ a)) a.length l.length :=
  ⟨cf_frQ0 a, frQ_zero a, fun k h1 h2 => by omega⟩
theorem bm_frQ (l : List Rat) (i : Nat) : cf (frQ (bmOut (bmI l i))) = cf (bmI l i).q := by
  obtain ⟨h0, h1, _⟩ := bm_gen l i
  funext j
  cases j with
  | zero => rw [cf_frQ0, h0]
  | succ j =>
    rw [cf_frQ]
    unfold bmOut
    rw [cf_mk]
    split
    · grind
    · rw [h1 (j + 1) (by omega)]; grind
theorem bmOut_len (s : BM) : (bmOut s).length = s.size := mk_len _ _
theorem bm_out_gen (l : List Rat) : Gen (cf l) (cf (frQ (bmOut (bmI l l.length)))) (bmOut (bmI l l.length)).length l.length := by
  rw [bm_frQ, bmOut_len]; exact bm_gen l l.length
/-- two recurrences that generate a sequence of enough numbers go on alike -/
theorem nx_same {l a b : List Rat} (ha : Gen (cf l) (cf (frQ a)) a.length l.length) (hb : Gen (cf l) (cf (frQ b)) b.length l.length) (h : a.length + b.length ≤ l.length) (n : Nat) : nxI l a n = nxI l b n := by
  induction n with
  | zero => rfl
  | succ n ih =>
    have hlen := nxI_len l a n
    have ga := nx_gen (by omega) ha (n + 1)
    have gb := nx_gen (by omega) hb n
    rw [← ih] at gb
    have gb' : Gen (cf (nxI l a (n + 1))) (cf (frQ b)) b.length (l.length + n) := gb.upto fun i hi => (cf_nxI l a hi _ (by omega)).symm
    have hz := gen_both gb' ga (by omega)
    have hx := cv_next (nxI l a n) b (nxS (nxI l a n) a a.length) (by omega)
    rw [hlen] at hx
    have hx' : cv (cf (frQ b)) (cf (nxI l a (n + 1))) (l.length + n) = nxS (nxI l a n) a a.length - nxS (nxI l a n) b b.length := hx
    rw [hz] at hx'
    show nxI l a n ++ [_] = nxI l b n ++ [_]
    rw [← ih, show nxS (nxI l a n) a a.length = nxS (nxI l a n) b b.length by grind]
/-- the sum behind a number of the series -/
def serT (p q out : List Rat) (i : Nat) : Nat → Rat
  | 0 => cf p i
  | j + 1 => serT p q out i j - cf q (j + 1) * cf out (i - (j + 1))
def serI (p q : List Rat) : Nat → List Rat
  | 0 => []
  | k + 1 => serI p q k ++ [serT p q (serI p q k) k (min (q.length - 1) k) / cf q 0]
theorem serI_len (p q : List Rat) (n : Nat) : (serI p q n).length = n := by
  induction n with
  | zero => rfl
  | succ n ih => rw [serI, List.length_append, ih]; rfl
theorem serI_take (p q : List Rat) {k n : Nat} (h : k ≤ n) : (serI p q n).take k = serI p q k := by
  induction n with
  | zero => rw [show k = 0 by omega]; rfl
  | succ n ih =>
    rcases Nat.eq_or_lt_of_le h with h1 | h1
    · rw [h1]; exact List.take_of_length_le (by rw [serI_len]; omega)
    · rw [serI, List.take_append_of_le_length (by rw [serI_len]; omega)]
      exact ih (by omega)
theorem serT_Sm (p q out : List Rat) (i k : Nat) : serT p q out i k = cf p i - Sm (fun j => cf q (j + 1) * cf out (i - (j + 1))) k := by
  induction k with
  | zero => simp only [serT, Sm]; grind
  | succ k ih => simp only [serT, Sm, ih]; grind
theorem ser_of {p q y : List Rat} (h0 : cf q 0 ≠ 0) (h : ∀ i, i < y.length → cv (cf q) (cf y) i = cf p i) : serI p q y.length = y := by
  have key : ∀ k, k ≤ y.length → serI p q k = y.take k := by
    intro k
    induction k with
    | zero => intro _; rfl
    | succ k ih =>
      intro hk
      rw [serI, ih (by omega), takeQ_snoc (by omega)]
      congr 2
      have h1 := h k (by omega)
      rw [cv_front] at h1
      have e : serT p q (y.take k) k (min (q.length - 1) k) = cf q 0 * cf y k := by
        rw [serT_Sm]
        have e1 : Sm (fun j => cf q (j + 1) * cf (y.take k) (k - (j + 1))) (min (q.length - 1) k) = Sm (fun j => cf q (j + 1) * cf y (k - (j + 1))) k := by
          rw [← Sm_more (Nat.min_le_right (q.length - 1) k) fun j h1 h2 => by rw [cf_none (l := q) (by omega)]; grind]
          exact Sm_congr _ fun j hj => by rw [cf_take, if_pos (by omega)]
        rw [e1]; grind
      rw [e, Rat.mul_comm, Rat.div_def, Rat.mul_assoc, Rat.mul_inv_cancel _ h0, Rat.mul_one]
  rw [key _ (Nat.le_refl _), List.take_length]
theorem cf_frP (l a : List Rat) (i : Nat) : cf (frP l a) i = if i < a.length then cv (cf (l.take a.length)) (cf (frQ a)) i else 0 := by
  unfold frP
  rw [cf_trimQ, cf_take, mulP_cv]
  have e1 : ∀ l : List Rat, cf (trimQ l) = cf l := fun l => funext (cf_trimQ l)
  rw [e1, e1]
  split
  · rw [if_pos (by omega)]
  · rename_i h
    split
    · rename_i h2
      have := cf_none (l := mulP (trimQ (l.take a.length)) (trimQ (frQ a))) (i := i) (by omega)
      rw [mulP_cv, e1, e1] at this
      exact this.symm
    · rfl
/-- the fraction's series -/
theorem ser_frac {l a : List Rat} (hl : a.length ≤ l.length) (h : Gen (cf l) (cf (frQ a)) a.length l.length) (n : Nat) : serI (frP l a) (trimQ (frQ a)) (l.length + n) = nxI l a n := by
  have hlen := nxI_len l a n
  rw [← hlen]
  refine ser_of (by rw [cf_trimQ, cf_frQ0]; grind) fun i hi => ?_
  have e1 : cf (trimQ (frQ a)) = cf (frQ a) := funext (cf_trimQ _)
  rw [e1, cf_frP]
  split
  · rename_i hi2
    rw [cv_comm (cf (l.take a.length))]
    exact cv_upto fun j hj => by rw [cf_take, if_pos (by omega), cf_nxI l a (n := 0) (by omega) _ (Nat.zero_le _)]; rfl
  · exact (nx_gen hl h n).2.2 i (by omega) (by omega)
end Go.Proofs.Ythoboehbadmlmaa
end
section
namespace Go.Proofs.Ythoboehbadmlmaa
open Go Go.RowKit
set_option linter.unusedSimpArgs false
set_option linter.unusedVariables false
attribute [local irreducible] XWP Spec SpecO XPub XCall seqX clX apX stX ldX iaX slX
def serE (P Q : List Raw) (N : Int) : Int :=
  if rightP P = false ∨ rightP Q = false ∨ N < 0 then 1 else if 400 < N then 2 else if cf (qs Q) 0 = 0 then 31 else 0
theorem serE_zero {P Q : List Raw} {N : Int} (h : serE P Q N = 0) : rightP P = true ∧ rightP Q = true ∧ 0 ≤ N ∧ N ≤ 400 ∧ cf (qs Q) 0 ≠ 0 := by
  unfold serE at h
  split at h
  · cases h
  · rename_i h1
    split at h
    · cases h
    · split at h
      · cases h
      · rename_i h3
        refine ⟨?_, ?_, by omega, by omega, h3⟩
        · cases hk : rightP P
          · exact absurd (.inl hk) h1
          · rfl
        · cases hk : rightP Q
          · exact absurd (.inr (.inl hk)) h1
          · rfl
theorem serT_offS (p q out : List Rat) (i k : Nat) (h : out.length ≤ i) : serT p q out i k = cf p i - offS out q i (k + 1) := by
  induction k with
  | zero => simp only [serT, offS, Nat.sub_zero, cf_none h]; grind
  | succ k ih =>
    have e : offS out q i (k + 1 + 1) = offS out q i (k + 1) + cf q (k + 1) * cf out (i - (k + 1)) := rfl
    rw [serT, ih, e]; grind
theorem serT_QB {A B C e : Nat} {p q out : List Rat} (hp : CB A p) (hq : CB B q) (ho : CB C out) (i k : Nat) (h : out.length ≤ i) (hk : k + 1 ≤ 2 ^ e) : QB (A + (C + B + e) + 1) (serT p q out i k) := by
  rw [serT_offS _ _ _ _ _ h]
  exact (hp.at i).sub (CB.offs ho hq i (k + 1) e hk)
theorem cser_c (V : View) (v u : Value) (P Q : List Raw) (N : Int) (hv : Raws V v P) (hu : Raws V u Q) (fP : fitR P) (fQ : fitR Q) (lP : P.length ≤ 1000000) (lQ : Q.length ≤ 1000000) (A B C : Nat)
    (hC : serE P Q N = 0 → CB A (qs P) ∧ CB B (qs Q) ∧ CB C (serI (qs P) (qs Q) N.toNat)) (hfit : A + 2 * B + C + 20 ≤ 17592186044416) :
    Spec Try.prog 36 [v, u, .int .i64 N] V fun v' V' => (serE P Q N ≠ 0 → v' = .tuple #[.slice none 0 0, .int .i64 (serE P Q N)]) ∧ (serE P Q N = 0 → ∃ w, v' = .tuple #[w, .int .i64 0] ∧ Rats V' w (serI (qs P) (qs Q) N.toNat)) := by
  obtain ⟨A1, c1, rfl, hc1, hm1⟩ := hv.form
  obtain ⟨A2, c2, rfl, hc2, hm2⟩ := hu.form
  refine (Spec.enter Try.func36 rfl fun Γ => ?_)
  simp only [Try.ntmps36, List.map_cons, List.map_nil, List.length_cons, List.length_nil, Nat.reduceAdd, Nat.reduceSub, List.replicate_succ, List.replicate_zero, List.cons_append, List.nil_append]
  first | refine XWP.reg (by kernel_rfl) fun K hK => ?_ | refine XWP.seq (XWP.reg (by kernel_rfl) fun K hK => ?_) | refine XWP.reg1 (by kernel_rfl) fun K hK => ?_
  simp only [XA, XB, gateX, Nat.reduceAdd, Nat.reduceLeDiff, Nat.reduceSub, Nat.reduceMul, ↓reduceIte, Int.reduceToNat, Int.reduceLE, beq_self_eq_true]
  refine hK _ ?_
  refine XWP.cut (fun s => ∃ (V5 : View), StIs (fun τ => [.v (.slice A1 P.length c1), .v (.slice A2 Q.length c2), .v (.int .i64 N), τ 3, τ 4, τ 5, τ 6, τ 7, τ 8, τ 9, τ 10, τ 11, τ 12, τ 13, τ 14, τ 15, τ 16, τ 17, τ 18, τ 19, τ 20, τ 21, τ 22, τ 23, τ 24, τ 25, τ 26, τ 27, τ 28, τ 29, τ 30, τ 31, τ 32, τ 33, τ 34, τ 35, τ 36, τ 37, τ 38, τ 39, τ 40, τ 41, τ 42, τ 43, τ 44, τ 45, τ 46, τ 47, τ 48, τ 49, τ 50, τ 51, τ 52, τ 53, τ 54, τ 55, τ 56, τ 57, τ 58, τ 59, τ 60, τ 61, τ 62, τ 63, τ 64, τ 65, τ 66, τ 67, τ 68, τ 69, τ 70, τ 71, τ 72, τ 73, τ 74, τ 75, τ 76, τ 77, τ 78, τ 79]) [] (fun _ => none) V5 s ∧ V.le V5 ∧ serE P Q N = 0) ?_ ?_
  · first | refine XWP.block ?_ | refine XWP.seq (XWP.block ?_)
    refine XWP.seq ?_
    first | refine XWP.reg (by kernel_rfl) fun K hK => ?_ | refine XWP.seq (XWP.reg (by kernel_rfl) fun K hK => ?_) | refine XWP.reg1 (by kernel_rfl) fun K hK => ?_
    simp only [XA, XB, gateX, Nat.reduceAdd, Nat.reduceLeDiff, Nat.reduceSub, Nat.reduceMul, ↓reduceIte, Int.reduceToNat, Int.reduceLE, beq_self_eq_true]
    refine call_go (by kernel_rfl) rfl (cright_c _ _ _ hv fP lP) fun v1 V1 hV1 h1 => ?_
    subst h1
    by_cases g0 : rightP P = false ∨ rightP Q = false ∨ N < 0
    · have eE : serE P Q N = 1 := by unfold serE; rw [if_pos g0]
      cases e1 : rightP P
      · simp only [XA, XB, gateX, Nat.reduceAdd, Nat.reduceLeDiff, Nat.reduceSub, Nat.reduceMul, ↓reduceIte, Int.reduceToNat, Int.reduceLE, beq_self_eq_true]
        refine hK _ ?_
        first | refine XWP.cond (t := true) rfl (fun _ => ?_) (fun h => by cases h) | refine XWP.seq (XWP.cond (t := true) rfl (fun _ => ?_) (fun h => by cases h))
        first | refine XWP.reg (by kernel_rfl) fun K hK => ?_ | refine XWP.seq (XWP.reg (by kernel_rfl) fun K hK => ?_) | refine XWP.reg1 (by kernel_rfl) fun K hK => ?_
        simp only [XA, XB, gateX, Nat.reduceAdd, Nat.reduceLeDiff, Nat.reduceSub, Nat.reduceMul, ↓reduceIte, Int.reduceToNat, Int.reduceLE, beq_self_eq_true]
        refine hK _ (XWP.ret ?_)
        try simp only [thenX_ret, inBlockX_ret]
        refine ret_go _ rfl ?_
        exact ⟨fun _ => by rw [eE]; rfl, fun h => by rw [eE] at h; cases h⟩
      simp only [XA, XB, gateX, Nat.reduceAdd, Nat.reduceLeDiff, Nat.reduceSub, Nat.reduceMul, ↓reduceIte, Int.reduceToNat, Int.reduceLE, beq_self_eq_true]
      refine call_go (by kernel_rfl) rfl (cright_c _ _ _ (hu.up hV1) fQ lQ) fun v2 V2 hV2 h2 => ?_
      subst h2
      cases e2 : rightP Q
      · simp only [XA, XB, gateX, Nat.reduceAdd, Nat.reduceLeDiff, Nat.reduceSub, Nat.reduceMul, ↓reduceIte, Int.reduceToNat, Int.reduceLE, beq_self_eq_true]
        refine hK _ ?_
        first | refine XWP.cond (t := true) rfl (fun _ => ?_) (fun h => by cases h) | refine XWP.seq (XWP.cond (t := true) rfl (fun _ => ?_) (fun h => by cases h))
        first | refine XWP.reg (by kernel_rfl) fun K hK => ?_ | refine XWP.seq (XWP.reg (by kernel_rfl) fun K hK => ?_) | refine XWP.reg1 (by kernel_rfl) fun K hK => ?_
        simp only [XA, XB, gateX, Nat.reduceAdd, Nat.reduceLeDiff, Nat.reduceSub, Nat.reduceMul, ↓reduceIte, Int.reduceToNat, Int.reduceLE, beq_self_eq_true]
        refine hK _ (XWP.ret ?_)
        try simp only [thenX_ret, inBlockX_ret]
        refine ret_go _ rfl ?_
        exact ⟨fun _ => by rw [eE]; rfl, fun h => by rw [eE] at h; cases h⟩
      have b1 : decide (N < 0) = true := decide_eq_true (by rcases g0 with h | h | h; · rw [e1] at h; cases h
                                                            · rw [e2] at h; cases h
                                                            · exact h)
      simp only [XA, XB, gateX, Nat.reduceAdd, Nat.reduceLeDiff, Nat.reduceSub, Nat.reduceMul, ↓reduceIte, Int.reduceToNat, Int.reduceLE, beq_self_eq_true, b1]
      refine hK _ ?_
      first | refine XWP.cond (t := true) rfl (fun _ => ?_) (fun h => by cases h) | refine XWP.seq (XWP.cond (t := true) rfl (fun _ => ?_) (fun h => by cases h))
      first | refine XWP.reg (by kernel_rfl) fun K hK => ?_ | refine XWP.seq (XWP.reg (by kernel_rfl) fun K hK => ?_) | refine XWP.reg1 (by kernel_rfl) fun K hK => ?_
      simp only [XA, XB, gateX, Nat.reduceAdd, Nat.reduceLeDiff, Nat.reduceSub, Nat.reduceMul, ↓reduceIte, Int.reduceToNat, Int.reduceLE, beq_self_eq_true]
      refine hK _ (XWP.ret ?_)
      try simp only [thenX_ret, inBlockX_ret]
      refine ret_go _ rfl ?_
      exact ⟨fun _ => by rw [eE]; rfl, fun h => by rw [eE] at h; cases h⟩
    have e1 : rightP P = true := by
      cases hk : rightP P
      · exact absurd (.inl hk) g0
      · rfl
    have e2 : rightP Q = true := by
      cases hk : rightP Q
      · exact absurd (.inr (.inl hk)) g0
      · rfl
    have b1 : decide (N < 0) = false := decide_eq_false (fun h => g0 (.inr (.inr h)))
    rw [e1]
    simp only [XA, XB, gateX, Nat.reduceAdd, Nat.reduceLeDiff, Nat.reduceSub, Nat.reduceMul, ↓reduceIte, Int.reduceToNat, Int.reduceLE, beq_self_eq_true]
    refine call_go (by kernel_rfl) rfl (cright_c _ _ _ (hu.up hV1) fQ lQ) fun v2 V2 hV2 h2 => ?_
    subst h2
    rw [e2]
    simp only [XA, XB, gateX, Nat.reduceAdd, Nat.reduceLeDiff, Nat.reduceSub, Nat.reduceMul, ↓reduceIte, Int.reduceToNat, Int.reduceLE, beq_self_eq_true, b1]
    refine hK _ ?_
    first | refine XWP.cond (t := false) rfl (fun h => by cases h) (fun _ => ?_) | refine XWP.seq (XWP.cond (t := false) rfl (fun h => by cases h) (fun _ => ?_))
    refine XWP.seq ?_
    by_cases g1 : 400 < N
    · have eE : serE P Q N = 2 := by unfold serE; rw [if_neg g0, if_pos g1]
      have b2 : decide (400 < N) = true := decide_eq_true g1
      first | refine XWP.reg (by kernel_rfl) fun K hK => ?_ | refine XWP.seq (XWP.reg (by kernel_rfl) fun K hK => ?_) | refine XWP.reg1 (by kernel_rfl) fun K hK => ?_
      simp only [XA, XB, gateX, Nat.reduceAdd, Nat.reduceLeDiff, Nat.reduceSub, Nat.reduceMul, ↓reduceIte, Int.reduceToNat, Int.reduceLE, beq_self_eq_true, b2]
      refine hK _ ?_
      first | refine XWP.cond (t := true) rfl (fun _ => ?_) (fun h => by cases h) | refine XWP.seq (XWP.cond (t := true) rfl (fun _ => ?_) (fun h => by cases h))
      first | refine XWP.reg (by kernel_rfl) fun K hK => ?_ | refine XWP.seq (XWP.reg (by kernel_rfl) fun K hK => ?_) | refine XWP.reg1 (by kernel_rfl) fun K hK => ?_
      simp only [XA, XB, gateX, Nat.reduceAdd, Nat.reduceLeDiff, Nat.reduceSub, Nat.reduceMul, ↓reduceIte, Int.reduceToNat, Int.reduceLE, beq_self_eq_true]
      refine hK _ (XWP.ret ?_)
      try simp only [thenX_ret, inBlockX_ret]
      refine ret_go _ rfl ?_
      exact ⟨fun _ => by rw [eE]; rfl, fun h => by rw [eE] at h; cases h⟩
    have b2 : decide (400 < N) = false := decide_eq_false g1
    first | refine XWP.reg (by kernel_rfl) fun K hK => ?_ | refine XWP.seq (XWP.reg (by kernel_rfl) fun K hK => ?_) | refine XWP.reg1 (by kernel_rfl) fun K hK => ?_
    simp only [XA, XB, gateX, Nat.reduceAdd, Nat.reduceLeDiff, Nat.reduceSub, Nat.reduceMul, ↓reduceIte, Int.reduceToNat, Int.reduceLE, beq_self_eq_true, b2]
    refine hK _ ?_
    first | refine XWP.cond (t := false) rfl (fun h => by cases h) (fun _ => ?_) | refine XWP.seq (XWP.cond (t := false) rfl (fun h => by cases h) (fun _ => ?_))
    refine XWP.seq ?_
    have hu2 := (Raws.rats hu (rightP_parts e2).1).up (View.le_trans hV1 hV2)
    have lq := qs_len Q
    first | refine XWP.reg (by kernel_rfl) fun K hK => ?_ | refine XWP.seq (XWP.reg (by kernel_rfl) fun K hK => ?_) | refine XWP.reg1 (by kernel_rfl) fun K hK => ?_
    simp only [XA, XB, gateX, Nat.reduceAdd, Nat.reduceLeDiff, Nat.reduceSub, Nat.reduceMul, ↓reduceIte, Int.reduceToNat, Int.reduceLE, beq_self_eq_true]
    refine call_go (by kernel_rfl) rfl (cget_c _ _ _ 0 hu2 (by omega)) fun v3 V3 hV3 h3 => ?_
    simp only [XA, XB, gateX, Nat.reduceAdd, Nat.reduceLeDiff, Nat.reduceSub, Nat.reduceMul, ↓reduceIte, Int.reduceToNat, Int.reduceLE, beq_self_eq_true]
    refine call_go (by kernel_rfl) rfl (czero_c _ _ _ h3) fun v4 V4 hV4 h4 => ?_
    subst h4
    by_cases g2 : cf (qs Q) 0 = 0
    · have eE : serE P Q N = 31 := by unfold serE; rw [if_neg g0, if_neg g1, if_pos g2]
      have b3 : decide (cf (qs Q) 0 = 0) = true := decide_eq_true g2
      simp only [XA, XB, gateX, Nat.reduceAdd, Nat.reduceLeDiff, Nat.reduceSub, Nat.reduceMul, ↓reduceIte, Int.reduceToNat, Int.reduceLE, beq_self_eq_true, b3]
      refine hK _ ?_
      first | refine XWP.cond (t := true) rfl (fun _ => ?_) (fun h => by cases h) | refine XWP.seq (XWP.cond (t := true) rfl (fun _ => ?_) (fun h => by cases h))
      first | refine XWP.reg (by kernel_rfl) fun K hK => ?_ | refine XWP.seq (XWP.reg (by kernel_rfl) fun K hK => ?_) | refine XWP.reg1 (by kernel_rfl) fun K hK => ?_
      simp only [XA, XB, gateX, Nat.reduceAdd, Nat.reduceLeDiff, Nat.reduceSub, Nat.reduceMul, ↓reduceIte, Int.reduceToNat, Int.reduceLE, beq_self_eq_true]
      refine hK _ (XWP.ret ?_)
      try simp only [thenX_ret, inBlockX_ret]
      refine ret_go _ rfl ?_
      exact ⟨fun _ => by rw [eE]; rfl, fun h => by rw [eE] at h; cases h⟩
    · have eE : serE P Q N = 0 := by unfold serE; rw [if_neg g0, if_neg g1, if_neg g2]
      have b3 : decide (cf (qs Q) 0 = 0) = false := decide_eq_false g2
      simp only [XA, XB, gateX, Nat.reduceAdd, Nat.reduceLeDiff, Nat.reduceSub, Nat.reduceMul, ↓reduceIte, Int.reduceToNat, Int.reduceLE, beq_self_eq_true, b3]
      refine hK _ ?_
      first | refine XWP.cond (t := false) rfl (fun h => by cases h) (fun _ => ?_) | refine XWP.seq (XWP.cond (t := false) rfl (fun h => by cases h) (fun _ => ?_))
      refine XWP.skip ?_
      exact ⟨V4, StIs.of (by exact rfl), View.le_trans (View.le_trans hV1 hV2) (View.le_trans hV3 hV4), eE⟩
  rintro s ⟨V5, hs, hV5, he⟩
  obtain ⟨z, rfl⟩ := hs.out
  try dsimp only
  obtain ⟨r1, r2, n0, n4, q0⟩ := serE_zero he
  obtain ⟨hA, hB, hCs⟩ := hC he
  have hp := (Raws.rats hv (rightP_parts r1).1).up hV5
  have hq := (Raws.rats hu (rightP_parts r2).1).up hV5
  have ep := qs_len P
  have eq := qs_len Q
  obtain ⟨N, rfl⟩ : ∃ n : Nat, N = n := ⟨N.toNat, by omega⟩
  rw [Int.toNat_natCast] at *
  have lr1 : P.length ≤ 1000 := by have := r1; unfold rightP at this; simp at this; omega
  have lr2 : Q.length ≤ 1000 := by have := r2; unfold rightP at this; simp at this; omega
  generalize serE P Q N = E at he
  generalize qs P = p at *
  generalize qs Q = q at *
  have hq1 : 1 ≤ q.length := by
    rcases Nat.eq_zero_or_pos q.length with h | h
    · exact absurd (cf_none (by omega)) q0
    · exact h
  have hCi : ∀ i, i ≤ N → CB C (serI p q i) := fun i hi => by rw [← serI_take p q hi]; exact hCs.take _
  first | refine XWP.reg (by kernel_rfl) fun K hK => ?_ | refine XWP.seq (XWP.reg (by kernel_rfl) fun K hK => ?_) | refine XWP.reg1 (by kernel_rfl) fun K hK => ?_
  refine bs_go (by kernel_rfl) #[] (by simp) (bs_zero elemT_22 zeroT_34) fun b hb1 hb2 => ?_
  simp only [XA, XB, gateX, Nat.reduceAdd, Nat.reduceLeDiff, Nat.reduceSub, Nat.reduceMul, ↓reduceIte, Int.reduceToNat, Int.reduceLE, beq_self_eq_true]
  refine hK _ ?_
  refine XWP.cutD 0 (fun s => ∃ (V6 : View) (H6 : Heap) (w : Value) (cells : List Value), StIs (fun τ => [.v (.slice A1 P.length c1), .v (.slice A2 Q.length c2), .v (.int .i64 (N : Int)), τ 3, τ 4, τ 5, τ 6, τ 7, .v w, τ 9, τ 10, τ 11, τ 12, τ 13, τ 14, τ 15, τ 16, τ 17, τ 18, τ 19, τ 20, τ 21, τ 22, τ 23, τ 24, τ 25, τ 26, τ 27, τ 28, τ 29, τ 30, τ 31, τ 32, τ 33, τ 34, τ 35, τ 36, τ 37, τ 38, τ 39, τ 40, τ 41, τ 42, τ 43, τ 44, τ 45, τ 46, τ 47, τ 48, τ 49, τ 50, τ 51, τ 52, τ 53, τ 54, τ 55, τ 56, τ 57, τ 58, τ 59, τ 60, τ 61, τ 62, τ 63, τ 64, τ 65, τ 66, τ 67, τ 68, τ 69, τ 70, τ 71, τ 72, τ 73, τ 74, τ 75, τ 76, τ 77, τ 78, τ 79]) [] H6 V6 s ∧ Own H6 34 3 w N cells ∧ RowAt ratE V6 cells (serI p q N)) ?_ ?_
  · first | refine XWP.reg (by kernel_rfl) fun K hK => ?_ | refine XWP.seq (XWP.reg (by kernel_rfl) fun K hK => ?_) | refine XWP.reg1 (by kernel_rfl) fun K hK => ?_
    simp only [XA, XB, gateX, Nat.reduceAdd, Nat.reduceLeDiff, Nat.reduceSub, Nat.reduceMul, ↓reduceIte, Int.reduceToNat, Int.reduceLE, beq_self_eq_true]
    refine hK _ ?_
    clear hK
    first | refine XWP.block ?_ | refine XWP.seq (XWP.block ?_)
    refine XWP.loopD 0 (fun m s => ∃ (i : Nat) (V6 : View) (H6 : Heap) (w : Value) (cells : List Value), StIs (fun τ => [.v (.slice A1 P.length c1), .v (.slice A2 Q.length c2), .v (.int .i64 (N : Int)), τ 3, τ 4, τ 5, τ 6, τ 7, .v w, τ 9, τ 10, τ 11, τ 12, τ 13, τ 14, τ 15, τ 16, τ 17, τ 18, τ 19, τ 20, τ 21, τ 22, τ 23, τ 24, τ 25, τ 26, τ 27, τ 28, τ 29, τ 30, τ 31, τ 32, τ 33, τ 34, .v (.int .i64 (N : Int)), .v (.int .i64 (i : Int)), τ 37, τ 38, τ 39, τ 40, τ 41, τ 42, τ 43, τ 44, τ 45, τ 46, τ 47, τ 48, τ 49, τ 50, τ 51, τ 52, τ 53, τ 54, τ 55, τ 56, τ 57, τ 58, τ 59, τ 60, τ 61, τ 62, τ 63, τ 64, τ 65, τ 66, τ 67, τ 68, τ 69, τ 70, τ 71, τ 72, τ 73, τ 74, τ 75, τ 76, τ 77, τ 78, τ 79]) [] H6 V6 s ∧ V5.le V6 ∧ m + i = N ∧ Own H6 34 3 w i cells ∧ RowAt ratE V6 cells (serI p q i)) N ⟨0, V5, _, _, [], StIs.of (by exact rfl), View.le_refl _, by omega, own3 (by simp [upd]) rfl (Nat.le_refl _) (by omega), RowAt.nil _⟩ ?_
    rintro m s ⟨i, V6, H6, w, cells, hs, hV6, hm, hown, hrow⟩
    obtain ⟨z, rfl⟩ := hs.out
    try dsimp only
    by_cases hi : i < N
    rotate_left
    · obtain rfl : i = N := by omega
      have b2 : decide ((i : Int) < (i : Int)) = false := decide_eq_false (by omega)
      first | refine XWP.reg (by kernel_rfl) fun K hK => ?_ | refine XWP.seq (XWP.reg (by kernel_rfl) fun K hK => ?_) | refine XWP.reg1 (by kernel_rfl) fun K hK => ?_
      simp only [XA, XB, gateX, Nat.reduceAdd, Nat.reduceLeDiff, Nat.reduceSub, Nat.reduceMul, ↓reduceIte, Int.reduceToNat, Int.reduceLE, beq_self_eq_true, b2]
      refine hK _ ?_
      first | refine XWP.cond (t := false) rfl (fun h => by cases h) (fun _ => ?_) | refine XWP.seq (XWP.cond (t := false) rfl (fun h => by cases h) (fun _ => ?_))
      refine XWP.exit ?_
      exact fun f => ⟨V6, H6, w, cells, StIs.of (by exact rfl), hown, hrow⟩
    have b2 : decide ((i : Int) < (N : Int)) = true := decide_eq_true (by omega)
    first | refine XWP.reg (by kernel_rfl) fun K hK => ?_ | refine XWP.seq (XWP.reg (by kernel_rfl) fun K hK => ?_) | refine XWP.reg1 (by kernel_rfl) fun K hK => ?_
    simp only [XA, XB, gateX, Nat.reduceAdd, Nat.reduceLeDiff, Nat.reduceSub, Nat.reduceMul, ↓reduceIte, Int.reduceToNat, Int.reduceLE, beq_self_eq_true, b2]
    refine hK _ ?_
    first | refine XWP.cond (t := true) rfl (fun _ => ?_) (fun h => by cases h) | refine XWP.seq (XWP.cond (t := true) rfl (fun _ => ?_) (fun h => by cases h))
    refine XWP.skip ?_
    refine XWP.seq ?_
    first | refine XWP.block ?_ | refine XWP.seq (XWP.block ?_)
    first | refine XWP.reg (by kernel_rfl) fun K hK => ?_ | refine XWP.seq (XWP.reg (by kernel_rfl) fun K hK => ?_) | refine XWP.reg1 (by kernel_rfl) fun K hK => ?_
    simp only [XA, XB, gateX, Nat.reduceAdd, Nat.reduceLeDiff, Nat.reduceSub, Nat.reduceMul, ↓reduceIte, Int.reduceToNat, Int.reduceLE, beq_self_eq_true]
    refine hK _ ?_
    first | refine XWP.reg (by kernel_rfl) fun K hK => ?_ | refine XWP.seq (XWP.reg (by kernel_rfl) fun K hK => ?_) | refine XWP.reg1 (by kernel_rfl) fun K hK => ?_
    simp only [XA, XB, gateX, Nat.reduceAdd, Nat.reduceLeDiff, Nat.reduceSub, Nat.reduceMul, ↓reduceIte, Int.reduceToNat, Int.reduceLE, beq_self_eq_true]
    refine call_go (by kernel_rfl) rfl (cget_c _ _ _ i (hp.up hV6) (by omega)) fun v7 V7 hV7 h7 => ?_
    obtain ⟨x7, y7, rfl, o1, o2⟩ := h7.form
    simp only [XA, XB, gateX, Nat.reduceAdd, Nat.reduceLeDiff, Nat.reduceSub, Nat.reduceMul, ↓reduceIte, Int.reduceToNat, Int.reduceLE, beq_self_eq_true]
    refine st_rat rfl rfl rfl o1 o2 ?_
    simp only [XA, XB, gateX, Nat.reduceAdd, Nat.reduceLeDiff, Nat.reduceSub, Nat.reduceMul, ↓reduceIte, Int.reduceToNat, Int.reduceLE, beq_self_eq_true]
    refine hK _ ?_
    clear hK
    have hCi' := hCi i (by omega)
    have hlen := serI_len p q i
    obtain ⟨out, hout⟩ : ∃ out, out = serI p q i := ⟨_, rfl⟩
    rw [← hout] at hrow hCi' hlen
    obtain ⟨M, hM⟩ : ∃ M, M = min (q.length - 1) i := ⟨_, rfl⟩
    have hS : ∀ k, k ≤ 1000 → QB (A + (C + B + 10) + 1) (serT p q out i k) := fun k hk => serT_QB (e := 10) hA hB hCi' i k (by omega) (by omega)
    have hT : ∀ j k, QF (cf q j * cf out k) := fun j k => ((hB.at j).mul (hCi'.at k)).qf (by omega)
    refine XWP.cutD 1 (fun s => ∃ (V8 : View) (m : Bool) (x y : Value), StIs (fun τ => [.v (.slice A1 P.length c1), .v (.slice A2 Q.length c2), .v (.int .i64 (N : Int)), τ 3, τ 4, τ 5, τ 6, τ 7, .v w, .v (.int .i64 (i : Int)), .p 0 0, τ 11, τ 12, τ 13, τ 14, τ 15, τ 16, τ 17, τ 18, τ 19, τ 20, τ 21, τ 22, τ 23, τ 24, τ 25, τ 26, τ 27, τ 28, τ 29, τ 30, τ 31, τ 32, τ 33, τ 34, .v (.int .i64 (N : Int)), .v (.int .i64 (i : Int)), τ 37, τ 38, τ 39, τ 40, τ 41, τ 42, τ 43, τ 44, τ 45, τ 46, τ 47, τ 48, τ 49, τ 50, τ 51, τ 52, τ 53, τ 54, τ 55, τ 56, τ 57, τ 58, τ 59, τ 60, τ 61, τ 62, τ 63, τ 64, τ 65, τ 66, τ 67, τ 68, τ 69, τ 70, τ 71, τ 72, τ 73, τ 74, τ 75, τ 76, τ 77, τ 78, τ 79]) [[.bool m, x, y]] H6 V8 s ∧ V6.le V8 ∧ RatC V8 (.agg #[.bool m, x, y]) (serT p q out i M) ∧ isOne x = true ∧ isOne y = true) ?_ ?_
    · first | refine XWP.reg (by kernel_rfl) fun K hK => ?_ | refine XWP.seq (XWP.reg (by kernel_rfl) fun K hK => ?_) | refine XWP.reg1 (by kernel_rfl) fun K hK => ?_
      simp only [XA, XB, gateX, Nat.reduceAdd, Nat.reduceLeDiff, Nat.reduceSub, Nat.reduceMul, ↓reduceIte, Int.reduceToNat, Int.reduceLE, beq_self_eq_true]
      refine hK _ ?_
      clear hK
      first | refine XWP.block ?_ | refine XWP.seq (XWP.block ?_)
      refine XWP.loopD 1 (fun r s => ∃ (j : Nat) (V8 : View) (m : Bool) (x y : Value), StIs (fun τ => [.v (.slice A1 P.length c1), .v (.slice A2 Q.length c2), .v (.int .i64 (N : Int)), τ 3, τ 4, τ 5, τ 6, τ 7, .v w, .v (.int .i64 (i : Int)), .p 0 0, .v (.int .i64 ((j + 1 : Nat) : Int)), τ 12, τ 13, τ 14, τ 15, τ 16, τ 17, τ 18, τ 19, τ 20, τ 21, τ 22, τ 23, τ 24, τ 25, τ 26, τ 27, τ 28, τ 29, τ 30, τ 31, τ 32, τ 33, τ 34, .v (.int .i64 (N : Int)), .v (.int .i64 (i : Int)), τ 37, τ 38, τ 39, τ 40, τ 41, τ 42, τ 43, τ 44, τ 45, τ 46, τ 47, τ 48, τ 49, τ 50, τ 51, τ 52, τ 53, τ 54, τ 55, τ 56, τ 57, τ 58, τ 59, τ 60, τ 61, τ 62, τ 63, τ 64, τ 65, τ 66, τ 67, τ 68, τ 69, τ 70, τ 71, τ 72, τ 73, τ 74, τ 75, τ 76, τ 77, τ 78, τ 79]) [[.bool m, x, y]] H6 V8 s ∧ V6.le V8 ∧ r + j = M ∧ RatC V8 (.agg #[.bool m, x, y]) (serT p q out i j) ∧ isOne x = true ∧ isOne y = true) M ⟨0, V7, _, x7, y7, StIs.of (by exact rfl), hV7, by omega, h7, o1, o2⟩ ?_
      clear h7 o1 o2
      rintro r s ⟨j, V8, m', x, y, hs, hV8, hr, h8, o1, o2⟩
      obtain ⟨z, rfl⟩ := hs.out
      try dsimp only
      refine XWP.seq ?_
      by_cases hj : j < M
      rotate_left
      · obtain rfl : j = M := by omega
        by_cases hj1 : j + 1 < q.length
        · have b3 : decide (((j + 1 : Nat) : Int) < (Q.length : Int)) = true := decide_eq_true (by omega)
          have b4 : decide (((j + 1 : Nat) : Int) ≤ (i : Int)) = false := decide_eq_false (by omega)
          first | refine XWP.reg (by kernel_rfl) fun K hK => ?_ | refine XWP.seq (XWP.reg (by kernel_rfl) fun K hK => ?_) | refine XWP.reg1 (by kernel_rfl) fun K hK => ?_
          simp only [XA, XB, gateX, Nat.reduceAdd, Nat.reduceLeDiff, Nat.reduceSub, Nat.reduceMul, ↓reduceIte, Int.reduceToNat, Int.reduceLE, beq_self_eq_true, b3, b4]
          refine hK _ ?_
          first | refine XWP.cond (t := false) rfl (fun h => by cases h) (fun _ => ?_) | refine XWP.seq (XWP.cond (t := false) rfl (fun h => by cases h) (fun _ => ?_))
          refine XWP.exit ?_
          exact fun f => ⟨V8, m', x, y, StIs.of (by exact rfl), hV8, h8, o1, o2⟩
        · have b3 : decide (((j + 1 : Nat) : Int) < (Q.length : Int)) = false := decide_eq_false (by omega)
          first | refine XWP.reg (by kernel_rfl) fun K hK => ?_ | refine XWP.seq (XWP.reg (by kernel_rfl) fun K hK => ?_) | refine XWP.reg1 (by kernel_rfl) fun K hK => ?_
          simp only [XA, XB, gateX, Nat.reduceAdd, Nat.reduceLeDiff, Nat.reduceSub, Nat.reduceMul, ↓reduceIte, Int.reduceToNat, Int.reduceLE, beq_self_eq_true, b3]
          refine hK _ ?_
          first | refine XWP.cond (t := false) rfl (fun h => by cases h) (fun _ => ?_) | refine XWP.seq (XWP.cond (t := false) rfl (fun h => by cases h) (fun _ => ?_))
          refine XWP.exit ?_
          exact fun f => ⟨V8, m', x, y, StIs.of (by exact rfl), hV8, h8, o1, o2⟩
      have b3 : decide (((j + 1 : Nat) : Int) < (Q.length : Int)) = true := decide_eq_true (by omega)
      have b4 : decide (((j + 1 : Nat) : Int) ≤ (i : Int)) = true := decide_eq_true (by omega)
      first | refine XWP.reg (by kernel_rfl) fun K hK => ?_ | refine XWP.seq (XWP.reg (by kernel_rfl) fun K hK => ?_) | refine XWP.reg1 (by kernel_rfl) fun K hK => ?_
      simp only [XA, XB, gateX, Nat.reduceAdd, Nat.reduceLeDiff, Nat.reduceSub, Nat.reduceMul, ↓reduceIte, Int.reduceToNat, Int.reduceLE, beq_self_eq_true, b3, b4]
      refine hK _ ?_
      first | refine XWP.cond (t := true) rfl (fun _ => ?_) (fun h => by cases h) | refine XWP.seq (XWP.cond (t := true) rfl (fun _ => ?_) (fun h => by cases h))
      refine XWP.skip ?_
      refine XWP.seq ?_
      first | refine XWP.block ?_ | refine XWP.seq (XWP.block ?_)
      have hq8 := hq.up (View.le_trans hV6 hV8)
      obtain ⟨b', o', rfl⟩ := SlAt.addr hq8 (by omega)
      obtain ⟨m3, n3, d3, hx3, ⟨p1, p2, p3⟩, hld3⟩ := Rats.get hq8 (j + 1) (by omega)
      rcases own_parts hown with ⟨_, h0, _⟩ | ⟨g, cap, rfl, hg, hle, hcap, hcl⟩
      · omega
      have w2 := i64_sub i (j + 1) (by omega) (by omega)
      have hrow8 := hrow.mono ratE_ok hV8
      obtain ⟨m4, n4', d4, hx4, ⟨s1, s2, s3⟩, hld4⟩ := rowQ_load hg hrow8 (i - (j + 1)) (by omega)
      (first | refine XWP.drw [0, 1, 2, 3, 4, 5, 6, 7, 8, 9, 10, 11, 12, 13] (by kernel_rfl) (by kernel_rfl) (by kernel_rfl) fun K hK => ?_ | refine XWP.seq (XWP.drw [0, 1, 2, 3, 4, 5, 6, 7, 8, 9, 10, 11, 12, 13] (by kernel_rfl) (by kernel_rfl) (by kernel_rfl) fun K hK => ?_) | refine XWP.drw1 [0, 1, 2, 3, 4, 5, 6, 7, 8, 9, 10, 11, 12, 13] (by kernel_rfl) (by kernel_rfl) (by kernel_rfl) fun K hK => ?_) <;> dsimp only [pickOps, List.getElem?_cons_zero, List.getElem?_cons_succ]
      simp only [XA, XB, gateX, Nat.reduceAdd, Nat.reduceLeDiff, Nat.reduceSub, Nat.reduceMul, ↓reduceIte, Int.reduceToNat, Int.reduceLE, beq_self_eq_true, w2]
      refine ⟨by omega, by omega, ld_mem (hld3 _) ?_⟩
      simp only [XA, XB, gateX, Nat.reduceAdd, Nat.reduceLeDiff, Nat.reduceSub, Nat.reduceMul, ↓reduceIte, Int.reduceToNat, Int.reduceLE, beq_self_eq_true, w2]
      refine ⟨by omega, by omega, ?_⟩
      refine ld_mem hld4 ?_
      simp only [XA, XB, gateX, Nat.reduceAdd, Nat.reduceLeDiff, Nat.reduceSub, Nat.reduceMul, ↓reduceIte, Int.reduceToNat, Int.reduceLE, beq_self_eq_true]
      refine call_go (by kernel_rfl) rfl (qmul_c _ _ _ _ _ hx3 hx4 ((hB.at _).qf (by omega)) ((hCi'.at _).qf (by omega))) fun v9 V9 hV9 h9 => ?_
      simp only [XA, XB, gateX, Nat.reduceAdd, Nat.reduceLeDiff, Nat.reduceSub, Nat.reduceMul, ↓reduceIte, Int.reduceToNat, Int.reduceLE, beq_self_eq_true]
      refine call_go (by kernel_rfl) rfl (qsub_c _ _ _ _ _ (h8.mono hV9) h9 ((hS j (by omega)).qf (by omega)) (hT _ _)) fun v10 V10 hV10 h10 => ?_
      obtain ⟨x10, y10, rfl, o6, o7⟩ := h10.form
      simp only [XA, XB, gateX, Nat.reduceAdd, Nat.reduceLeDiff, Nat.reduceSub, Nat.reduceMul, ↓reduceIte, Int.reduceToNat, Int.reduceLE, beq_self_eq_true]
      refine st_rat rfl rfl rfl o6 o7 ?_
      simp only [XA, XB, gateX, Nat.reduceAdd, Nat.reduceLeDiff, Nat.reduceSub, Nat.reduceMul, ↓reduceIte, Int.reduceToNat, Int.reduceLE, beq_self_eq_true]
      refine hK _ ?_
      first | refine XWP.reg (by kernel_rfl) fun K hK => ?_ | refine XWP.seq (XWP.reg (by kernel_rfl) fun K hK => ?_) | refine XWP.reg1 (by kernel_rfl) fun K hK => ?_
      simp only [XA, XB, gateX, Nat.reduceAdd, Nat.reduceLeDiff, Nat.reduceSub, Nat.reduceMul, ↓reduceIte, Int.reduceToNat, Int.reduceLE, beq_self_eq_true, i64_succ (j + 1) (by omega)]
      exact hK _ ⟨r - 1, by omega, fun f => ⟨j + 1, V10, _, x10, y10, StIs.of (by exact rfl), View.le_trans hV8 (View.le_trans hV9 hV10), by omega, by rw [serT]; exact h10, o6, o7⟩⟩
    clear h7 o1 o2
    rintro s ⟨V8, m', x, y, hs, hV8, h8, o1, o2⟩
    obtain ⟨z, rfl⟩ := hs.out
    try dsimp only
    have hq8 := hq.up (View.le_trans hV6 hV8)
    obtain ⟨b', o', rfl⟩ := SlAt.addr hq8 (by omega)
    obtain ⟨m3, n3, d3, hx3, ⟨p1, p2, p3⟩, hld3⟩ := Rats.get hq8 0 (by omega)
    refine XWP.cut (fun s => ∃ (V9 : View) (x9 y9 : Value), StIs (fun τ => [.v (.slice A1 P.length c1), .v (.slice (some ⟨b', o', none⟩) Q.length c2), .v (.int .i64 (N : Int)), τ 3, τ 4, τ 5, τ 6, τ 7, .v w, .v (.int .i64 (i : Int)), .p 0 0, τ 11, .p 1 0, τ 13, τ 14, τ 15, τ 16, τ 17, τ 18, τ 19, τ 20, τ 21, τ 22, τ 23, τ 24, τ 25, τ 26, τ 27, τ 28, τ 29, τ 30, τ 31, τ 32, τ 33, τ 34, .v (.int .i64 (N : Int)), .v (.int .i64 (i : Int)), τ 37, τ 38, τ 39, τ 40, τ 41, τ 42, τ 43, τ 44, τ 45, τ 46, τ 47, τ 48, τ 49, τ 50, τ 51, τ 52, τ 53, τ 54, τ 55, τ 56, τ 57, τ 58, τ 59, τ 60, τ 61, τ 62, τ 63, τ 64, τ 65, τ 66, τ 67, τ 68, τ 69, τ 70, τ 71, τ 72, τ 73, τ 74, τ 75, τ 76, τ 77, τ 78, τ 79]) [[.bool m', x, y], [.bool (ng (serT p q out i M / cf q 0)), x9, y9]] H6 V9 s ∧ V8.le V9 ∧ RatC V9 (.agg #[.bool (ng (serT p q out i M / cf q 0)), x9, y9]) (serT p q out i M / cf q 0) ∧ isOne x9 = true ∧ isOne y9 = true) ?_ ?_
    · (first | refine XWP.drwT (.lin [0, 1, 2, 3] (.two (.lin [4, 5, 6, 7, 8, 9, 10] .nil) (.lin [8, 4, 5, 6, 7, 9, 10] .nil))) (by kernel_rfl) (by kernel_rfl) (by kernel_rfl) fun K hK => ?_ | refine XWP.seq (XWP.drwT (.lin [0, 1, 2, 3] (.two (.lin [4, 5, 6, 7, 8, 9, 10] .nil) (.lin [8, 4, 5, 6, 7, 9, 10] .nil))) (by kernel_rfl) (by kernel_rfl) (by kernel_rfl) fun K hK => ?_) | refine XWP.drwT1 (.lin [0, 1, 2, 3] (.two (.lin [4, 5, 6, 7, 8, 9, 10] .nil) (.lin [8, 4, 5, 6, 7, 9, 10] .nil))) (by kernel_rfl) (by kernel_rfl) (by kernel_rfl) fun K hK => ?_)
      simp only [XA, XB, gateX, Nat.reduceAdd, Nat.reduceLeDiff, Nat.reduceSub, Nat.reduceMul, ↓reduceIte, Int.reduceToNat, Int.reduceLE, beq_self_eq_true]
      refine ⟨by omega, ?_⟩
      have hld3' := fun H => hld3 H
      simp only [Nat.zero_mul, Nat.add_zero] at hld3'
      refine ld_mem (hld3' _) ?_
      simp only [XA, XB, gateX, Nat.reduceAdd, Nat.reduceLeDiff, Nat.reduceSub, Nat.reduceMul, ↓reduceIte, Int.reduceToNat, Int.reduceLE, beq_self_eq_true]
      refine And.intro ?_ ?_
      all_goals refine call_go (by kernel_rfl) rfl (qdiv_c _ _ _ _ _ h8 hx3 ((hS M (by omega)).qf (by omega)) ((hB.at _).qf (by omega))) fun v9 V9 hV9 h9 => ?_
      all_goals obtain ⟨x7, rfl, hx7⟩ := h9.2 q0
      all_goals obtain ⟨x9, y9, rfl, ox, oy⟩ := hx7.form
      all_goals simp only [XA, XB, gateX, Nat.reduceAdd, Nat.reduceLeDiff, Nat.reduceSub, Nat.reduceMul, ↓reduceIte, Int.reduceToNat, Int.reduceLE, beq_self_eq_true]
      all_goals refine st_rat rfl rfl rfl ox oy ?_
      all_goals simp only [XA, XB, gateX, Nat.reduceAdd, Nat.reduceLeDiff, Nat.reduceSub, Nat.reduceMul, ↓reduceIte, Int.reduceToNat, Int.reduceLE, beq_self_eq_true]
      all_goals exact hK _ ⟨V9, x9, y9, StIs.of (by exact rfl), hV9, hx7, ox, oy⟩
    rintro s ⟨V9, x9, y9, hs, hV9, h9, o3, o4⟩
    obtain ⟨z, rfl⟩ := hs.out
    try dsimp only
    first | refine XWP.reg (by kernel_rfl) fun K hK => ?_ | refine XWP.seq (XWP.reg (by kernel_rfl) fun K hK => ?_) | refine XWP.reg1 (by kernel_rfl) fun K hK => ?_
    simp only [XA, XB, gateX, Nat.reduceAdd, Nat.reduceLeDiff, Nat.reduceSub, Nat.reduceMul, ↓reduceIte, Int.reduceToNat, Int.reduceLE, beq_self_eq_true]
    refine bs_go (by kernel_rfl) #[(0, .agg #[.bool (ng (serT p q out i M / cf q 0)), x9, y9])] (by simp [ev_tmp, SV.val]) (bs_rat elemT_22) fun b3 hb3 hb4 => ?_
    simp only [XA, XB, gateX, Nat.reduceAdd, Nat.reduceLeDiff, Nat.reduceSub, Nat.reduceMul, ↓reduceIte, Int.reduceToNat, Int.reduceLE, beq_self_eq_true]
    refine ap_go elemT_22 (by kernel_rfl) zeroT_34 rfl (by omega) (own_upd hown hb3) (src3 (upd_at _ _ _) rfl o3 o4) (by omega) (by omega) fun v' H' hres => ?_
    simp only [XA, XB, gateX, Nat.reduceAdd, Nat.reduceLeDiff, Nat.reduceSub, Nat.reduceMul, ↓reduceIte, Int.reduceToNat, Int.reduceLE, beq_self_eq_true]
    refine hK _ ?_
    first | refine XWP.reg (by kernel_rfl) fun K hK => ?_ | refine XWP.seq (XWP.reg (by kernel_rfl) fun K hK => ?_) | refine XWP.reg1 (by kernel_rfl) fun K hK => ?_
    simp only [XA, XB, gateX, Nat.reduceAdd, Nat.reduceLeDiff, Nat.reduceSub, Nat.reduceMul, ↓reduceIte, Int.reduceToNat, Int.reduceLE, beq_self_eq_true, i64_succ i (by omega)]
    have hrow' := (hrow.mono ratE_ok (View.le_trans hV8 hV9)).snoc (show isOne (.bool (ng (serT p q out i M / cf q 0))) = true from rfl) o3 o4 h9
    rw [hM, hout, show serI p q i ++ [serT p q (serI p q i) i (min (q.length - 1) i) / cf q 0] = serI p q (i + 1) from rfl] at hrow'
    rw [hM, hout] at hres
    exact hK _ ⟨m - 1, by omega, fun f => ⟨i + 1, V9, _, _, _, StIs.of (by exact rfl), View.le_trans hV6 (View.le_trans hV8 hV9), by omega, hres.1, hrow'⟩⟩
  rintro s ⟨V6, H6, w, cells, hs, hown, hrow⟩
  obtain ⟨z, rfl⟩ := hs.out
  try dsimp only
  first | refine XWP.reg (by kernel_rfl) fun K hK => ?_ | refine XWP.seq (XWP.reg (by kernel_rfl) fun K hK => ?_) | refine XWP.reg1 (by kernel_rfl) fun K hK => ?_
  simp only [XA, XB, gateX, Nat.reduceAdd, Nat.reduceLeDiff, Nat.reduceSub, Nat.reduceMul, ↓reduceIte, Int.reduceToNat, Int.reduceLE, beq_self_eq_true]
  refine hK _ (XWP.ret ?_)
  try simp only [thenX_ret, inBlockX_ret]
  rcases own_parts hown with ⟨rfl, hn0, rfl⟩ | ⟨g, cap, rfl, hg, hle, hcap, _⟩
  · refine ret_go _ rfl ⟨fun h => absurd he h, fun _ => ⟨_, rfl, ?_⟩⟩
    rw [List.length_eq_zero_iff.1 (show (serI p q N).length = 0 by rw [serI_len]; exact hn0)]; exact SlAt.nil _
  · refine ret_pub g _ hg fun o ho hle' => ret_go _ rfl ⟨fun h => absurd he h, fun _ => ⟨_, rfl, ?_⟩⟩
    exact hrow.pub ratE_ok ho hle' (serI_len p q N) hle (by unfold maxLen at hcap; omega)
end Go.Proofs.Ythoboehbadmlmaa
end
section
namespace Go.Proofs.Ythoboehbadmlmaa
open Go Go.RowKit
set_option linter.unusedSimpArgs false
set_option linter.unusedVariables false
attribute [local irreducible] XWP Spec SpecO XPub XCall seqX clX apX stX ldX iaX slX
theorem lists_ok {L A : List Raw} {n : Int} (h1 : okR L = true) (h2 : okR A = true) (h3 : L.length ≤ 400) (h4 : A.length ≤ L.length) (h5 : 0 ≤ n) (h6 : n ≤ 400) : listsE L A n = 0 := by
  unfold listsE
  rw [h1, h2, if_neg (by simp), if_neg (by omega), if_neg (by omega)]
theorem bmOut_CB {B : Nat} {s : BM} (h : CB B s.q) : CB B (bmOut s) := by
  obtain ⟨D, d1, d2, d3⟩ := h
  refine ⟨D, d1, d2, fun i => ?_⟩
  unfold bmOut
  rw [cf_mk]
  split
  · exact (d3 (i + 1)).neg
  · exact Over.zero _ _
/-- how great a recurrence's numbers are -/
theorem rec_CB {B e : Nat} {l : List Rat} (hl : CB B l) (he : l.length ≤ 2 ^ e) : CB (bb (B + e) l.length) (bmOut (bmI l l.length)) :=
  bmOut_CB (bm_CB hl l.length he l.length (Nat.le_refl _)).1
def recR (L : List Raw) : Int × List Rat := if okR L = false then (1, []) else if L.length < 2 * (bmI (qs L) L.length).size then (3, []) else (0, bmOut (bmI (qs L) L.length))
theorem crec2_c (V : View) (v : Value) (L : List Raw) (B : Nat) (hv : Raws V v L) (f : fitR L) (ll : L.length ≤ 12) (hB : okR L = true → CB B (qs L)) (hfit : bb (B + 4) 12 + B + 4 + 2 ≤ 17592186044416) :
    Spec Try.prog 13 [v] V fun v' V' => ∃ w, v' = .tuple #[w, .int .i64 (recR L).1] ∧ Rats V' w (recR L).2 := by
  have hm := bb_mono (B + 4) (show L.length ≤ 12 from ll)
  refine (crec_c V v L hv f (by omega) (fun hk i hi => ?_) (fun hk => (hB hk).qf (by omega)) (fun hk i => ?_)).mono fun v' V' _ h => ?_
  · exact bm_fit (e := 4) (hB hk) (by rw [qs_len]; omega) (by rw [qs_len]; omega) i (by rw [qs_len]; omega)
  · exact ((bm_CB (e := 4) (hB hk) L.length (by omega) L.length (Nat.le_refl _)).1.at i).qf (by omega)
  · unfold recR
    obtain ⟨h1, h2, h3⟩ := h
    cases hk : okR L
    · rw [if_pos rfl]; exact ⟨_, h1 hk, SlAt.nil _⟩
    · rw [if_neg (by simp)]
      split
      · rename_i hs; exact ⟨_, h2 hk hs, SlAt.nil _⟩
      · rename_i hs; exact h3 hk (by omega)
theorem recq_c (V : View) (v : Value) (l : List Rat) (B : Nat) (hv : Rats V v l) (ll : l.length ≤ 12) (hB : CB B l) (hs : 2 * (bmI l l.length).size ≤ l.length) (hfit : bb (B + 4) 12 + B + 4 + 2 ≤ 17592186044416) :
    Spec Try.prog 13 [v] V fun v' V' => ∃ w, v' = .tuple #[w, .int .i64 0] ∧ Rats V' w (bmOut (bmI l l.length)) := by
  have e : recR (l.map toRaw) = (0, bmOut (bmI l l.length)) := by
    unfold recR
    rw [okR_toRaw, qs_toRaw, List.length_map, if_neg (by simp), if_neg (by omega)]
  refine (crec2_c V v (l.map toRaw) B (Rats.raws hv) (hB.fitR (by omega)) (by rw [List.length_map]; omega) (fun _ => by rw [qs_toRaw]; exact hB) hfit).mono fun v' V' _ h => ?_
  rw [e] at h; exact h
theorem nextq_c (V : View) (v u : Value) (l a : List Rat) (n : Nat) (C B : Nat) (hv : Rats V v l) (hu : Rats V u a) (h1 : l.length ≤ 400) (h2 : a.length ≤ l.length) (h3 : n ≤ 400) (hC : CB C (nxI l a n)) (hB : CB B a) (hfit : C + B + 10 ≤ 17592186044416) :
    Spec Try.prog 15 [v, u, .int .i64 (n : Int)] V fun v' V' => ∃ w, v' = .tuple #[w, .int .i64 0] ∧ Rats V' w (nextP l a n) := by
  have hl : CB C l := by rw [← List.take_left (l₁ := l) (l₂ := nextP l a n), ← nxI_split]; exact hC.take _
  refine (cnext_c V v u (l.map toRaw) (a.map toRaw) n (Rats.raws hv) (Rats.raws hu) (hl.fitR (by omega)) (hB.fitR (by omega)) (by rw [List.length_map]; omega) (by rw [List.length_map]; omega) C B (fun _ => by rw [qs_toRaw, qs_toRaw, Int.toNat_natCast]; exact ⟨hC, hB⟩) hfit).mono fun v' V' _ h => ?_
  have := h.2 (lists_ok (okR_toRaw _) (okR_toRaw _) (by rw [List.length_map]; omega) (by rw [List.length_map, List.length_map]; omega) (by omega) (by omega))
  rw [qs_toRaw, qs_toRaw, Int.toNat_natCast] at this
  exact this
theorem fracq_c (V : View) (v u : Value) (l a : List Rat) (C B : Nat) (hv : Rats V v l) (hu : Rats V u a) (h1 : l.length ≤ 400) (h2 : a.length ≤ l.length) (hC : CB C l) (hB : CB B a) (hfit : 401 * (C + B + 1) + C + B + 2 ≤ 17592186044416) :
    Spec Try.prog 35 [v, u] V fun v' V' => ∃ wp wq, v' = .tuple #[wp, wq, .int .i64 0] ∧ Rats V' wp (frP l a) ∧ Rats V' wq (trimQ (frQ a)) := by
  refine (cfrac_c V v u (l.map toRaw) (a.map toRaw) (Rats.raws hv) (Rats.raws hu) (hC.fitR (by omega)) (hB.fitR (by omega)) (by rw [List.length_map]; omega) (by rw [List.length_map]; omega) C B (fun _ => by rw [qs_toRaw, qs_toRaw]; exact ⟨hC, hB⟩) hfit).mono fun v' V' _ h => ?_
  have := h.2 (lists_ok (okR_toRaw _) (okR_toRaw _) (by rw [List.length_map]; omega) (by rw [List.length_map, List.length_map]; omega) (by omega) (by omega))
  rw [qs_toRaw, qs_toRaw] at this
  exact this
theorem serq_c (V : View) (v u : Value) (p q : List Rat) (n : Nat) (A B C : Nat) (hv : Rats V v p) (hu : Rats V u q) (hp : PolQ p) (hq : PolQ q) (h0 : cf q 0 ≠ 0) (lp : p.length ≤ 500) (lq : q.length ≤ 500) (hn : n ≤ 400) (hA : CB A p) (hB : CB B q) (hC : CB C (serI p q n)) (hfit : A + 2 * B + C + 20 ≤ 17592186044416) :
    Spec Try.prog 36 [v, u, .int .i64 (n : Int)] V fun v' V' => ∃ w, v' = .tuple #[w, .int .i64 0] ∧ Rats V' w (serI p q n) := by
  have e : serE (p.map toRaw) (q.map toRaw) n = 0 := by
    unfold serE
    rw [right_toRaw hp lp, right_toRaw hq lq, qs_toRaw, if_neg (by simp), if_neg (by omega), if_neg h0]
  refine (cser_c V v u (p.map toRaw) (q.map toRaw) n (Rats.raws hv) (Rats.raws hu) (hA.fitR (by omega)) (hB.fitR (by omega)) (by rw [List.length_map]; omega) (by rw [List.length_map]; omega) A B C (fun _ => by rw [qs_toRaw, qs_toRaw, Int.toNat_natCast]; exact ⟨hA, hB, hC⟩) hfit).mono fun v' V' _ h => ?_
  have := h.2 e
  rw [qs_toRaw, qs_toRaw, Int.toNat_natCast] at this
  exact this
/-- what is left of a whole number -/
theorem rem_fix (N k : Int) (h : 0 < k) (hk : k ≤ 1000) : IntKind.i64.wrap (N.tmod k + k) = N.tmod k + k ∧ ∃ n : Nat, (n : Int) < k ∧ (N.tmod k + k).tmod k = n := by
  have h1 := Int.tmod_lt_of_pos N h
  have h2 := Int.lt_tmod_of_pos N h
  refine ⟨wrap_id (by omega) (by omega), ((N.tmod k + k).tmod k).toNat, ?_, ?_⟩
  · have h3 := Int.tmod_lt_of_pos (N.tmod k + k) h
    have h4 := Int.tmod_nonneg k (show 0 ≤ N.tmod k + k by omega)
    omega
  · have h4 := Int.tmod_nonneg k (show 0 ≤ N.tmod k + k by omega)
    omega
theorem RowAt.append {α : Type} {E : View → Value → α → Prop} {V : View} {c1 c2 : List Value} {l1 l2 : List α} (h1 : RowAt E V c1 l1) (h2 : RowAt E V c2 l2) : RowAt E V (c1 ++ c2) (l1 ++ l2) := by
  have e1 := h1.1
  have e2 := h2.1
  refine ⟨by rw [List.length_append, List.length_append, e1, e2]; omega, fun i x hi => ?_⟩
  by_cases hlt : i < l1.length
  · rw [List.getElem?_append_left hlt] at hi
    obtain ⟨m, n, d, g1, g2, g3, r⟩ := h1.2 i x hi
    refine ⟨m, n, d, ?_, ?_, ?_, r⟩
    · show (c1 ++ c2)[i * 3]? = _
      rw [List.getElem?_append_left (by omega)]; exact g1
    · show (c1 ++ c2)[i * 3 + 1]? = _
      rw [List.getElem?_append_left (by omega)]; exact g2
    · show (c1 ++ c2)[i * 3 + 2]? = _
      rw [List.getElem?_append_left (by omega)]; exact g3
  · rw [List.getElem?_append_right (by omega)] at hi
    obtain ⟨m, n, d, g1, g2, g3, r⟩ := h2.2 (i - l1.length) x hi
    refine ⟨m, n, d, ?_, ?_, ?_, r⟩
    · show (c1 ++ c2)[i * 3]? = _
      rw [List.getElem?_append_right (by omega), show i * 3 - c1.length = (i - l1.length) * 3 by omega]; exact g1
    · show (c1 ++ c2)[i * 3 + 1]? = _
      rw [List.getElem?_append_right (by omega), show i * 3 + 1 - c1.length = (i - l1.length) * 3 + 1 by omega]; exact g2
    · show (c1 ++ c2)[i * 3 + 2]? = _
      rw [List.getElem?_append_right (by omega), show i * 3 + 2 - c1.length = (i - l1.length) * 3 + 2 by omega]; exact g3
/-- a row of one's own is handed to a call, as a list -/
theorem pub_own {P : Program} {ops : Array Oper} {rest : List Oper} {K : XS → Prop} {d : Option Tmp} {f : FuncId} {args : List SV} {t : List SV} {bx : List (List Value)} {H : Heap} {V : View} {n e : Nat} {v : Value} {cells : List Value} {l : List Rat}
    (hown : Own H e 3 v n cells) (hrow : RowAt ratE V cells l) (hn : l.length = n) (hc : callable P f = true) (hv : args.all SV.isV = true)
    (k : ∀ H' V', V.le V' → Rats V' v l → clX P ops rest K ⟨t, bx, H', V'⟩ d f args) : clX P ops rest K ⟨t, bx, H, V⟩ d f args := by
  rcases own_parts hown with ⟨rfl, h0, rfl⟩ | ⟨g, cap, rfl, hg, hle, hcap, _⟩
  · refine k H V (View.le_refl V) ?_
    rw [List.length_eq_zero_iff.1 (hn.trans h0)]; exact SlAt.nil _
  · exact call_pub g _ hg (fun o ho hle' => k _ _ hle' (hrow.pub ratE_ok ho hle' hn hle (by unfold maxLen at hcap; omega))) hc hv
end Go.Proofs.Ythoboehbadmlmaa
end
section
namespace Go.Proofs.Ythoboehbadmlmaa
open Go Go.RowKit
set_option linter.unusedSimpArgs false
set_option linter.unusedVariables false
attribute [local irreducible] XWP Spec SpecO XPub XCall seqX clX apX stX ldX iaX slX
theorem fewR_CBn {L : List Raw} {n : Nat} (h : fewR L) (hd : digR L) (hl : L.length ≤ n) (M : Nat) (hM : n * 96 = M) : CB M (qs L) := by
  rw [← hM]; exact fewR_CB' h hd hl
theorem bb_num : bb (960 + 4) 12 + 960 + 4 + 2 ≤ 12000000000 := by decide
theorem bb_num10 : bb (960 + 4) 10 ≤ 700000000 := by decide
theorem series_c (V : View) (v : Value) (L0 : List Raw) (N : Int) (hv : Raws V v L0) : Spec Try.prog 7 [v, .int .i64 N] V fun v' V' => v' = .bool true := by
  refine (Spec.enter Try.func7 rfl fun Γ => ?_)
  simp only [Try.ntmps7, List.map_cons, List.map_nil, List.length_cons, List.length_nil, Nat.reduceAdd, Nat.reduceSub, List.replicate_succ, List.replicate_zero, List.cons_append, List.nil_append]
  first | refine XWP.reg (by kernel_rfl) fun K hK => ?_ | refine XWP.seq (XWP.reg (by kernel_rfl) fun K hK => ?_) | refine XWP.reg1 (by kernel_rfl) fun K hK => ?_
  simp only [XA, XB, gateX, Nat.reduceAdd, Nat.reduceLeDiff, Nat.reduceSub, Nat.reduceMul, ↓reduceIte, Int.reduceToNat, Int.reduceLE, beq_self_eq_true]
  refine hK _ ?_
  first | refine XWP.reg (by kernel_rfl) fun K hK => ?_ | refine XWP.seq (XWP.reg (by kernel_rfl) fun K hK => ?_) | refine XWP.reg1 (by kernel_rfl) fun K hK => ?_
  simp only [XA, XB, gateX, Nat.reduceAdd, Nat.reduceLeDiff, Nat.reduceSub, Nat.reduceMul, ↓reduceIte, Int.reduceToNat, Int.reduceLE, beq_self_eq_true]
  refine call_go (by kernel_rfl) rfl (lfew_c _ _ L0 10 hv (by omega)) fun v1 V1 hV1 h1 => ?_
  simp only [XA, XB, gateX, Nat.reduceAdd, Nat.reduceLeDiff, Nat.reduceSub, Nat.reduceMul, ↓reduceIte, Int.reduceToNat, Int.reduceLE, beq_self_eq_true]
  refine hK _ ?_
  have fL := fewL_few L0 10
  have lL := fewL_len L0 10
  generalize fewL L0 10 = L at *
  have dL := Raws.dig h1
  obtain ⟨w1, n, hn, w2⟩ := rem_fix N 6 (by omega) (by omega)
  first | refine XWP.reg (by kernel_rfl) fun K hK => ?_ | refine XWP.seq (XWP.reg (by kernel_rfl) fun K hK => ?_) | refine XWP.reg1 (by kernel_rfl) fun K hK => ?_
  simp only [XA, XB, gateX, Nat.reduceAdd, Nat.reduceLeDiff, Nat.reduceSub, Nat.reduceMul, ↓reduceIte, Int.reduceToNat, Int.reduceLE, beq_self_eq_true, bin_rem _ _ N 6 (by decide), bin_rem _ _ (N.tmod 6 + 6) 6 (by decide), w1, w2]
  refine hK _ ?_
  first | refine XWP.reg (by kernel_rfl) fun K hK => ?_ | refine XWP.seq (XWP.reg (by kernel_rfl) fun K hK => ?_) | refine XWP.reg1 (by kernel_rfl) fun K hK => ?_
  simp only [XA, XB, gateX, Nat.reduceAdd, Nat.reduceLeDiff, Nat.reduceSub, Nat.reduceMul, ↓reduceIte, Int.reduceToNat, Int.reduceLE, beq_self_eq_true]
  refine call_go (by kernel_rfl) rfl (crec2_c _ _ L 960 h1 fL.fit (by omega) (fun _ => fewR_CBn fL dL lL 960 rfl) (Nat.le_trans bb_num (by omega))) fun v2 V2 hV2 h2 => ?_
  obtain ⟨wa, rfl, ha⟩ := h2
  simp only [XA, XB, gateX, Nat.reduceAdd, Nat.reduceLeDiff, Nat.reduceSub, Nat.reduceMul, ↓reduceIte, Int.reduceToNat, Int.reduceLE, beq_self_eq_true]
  refine hK _ ?_
  refine XWP.seq ?_
  by_cases he : (recR L).1 = 0
  rotate_left
  · have b1 : (!decide ((recR L).1 = 0)) = true := by rw [decide_eq_false he]; rfl
    first | refine XWP.reg (by kernel_rfl) fun K hK => ?_ | refine XWP.seq (XWP.reg (by kernel_rfl) fun K hK => ?_) | refine XWP.reg1 (by kernel_rfl) fun K hK => ?_
    simp only [XA, XB, gateX, Nat.reduceAdd, Nat.reduceLeDiff, Nat.reduceSub, Nat.reduceMul, ↓reduceIte, Int.reduceToNat, Int.reduceLE, beq_self_eq_true, b1]
    refine hK _ ?_
    first | refine XWP.cond (t := true) rfl (fun _ => ?_) (fun h => by cases h) | refine XWP.seq (XWP.cond (t := true) rfl (fun _ => ?_) (fun h => by cases h))
    first | refine XWP.reg (by kernel_rfl) fun K hK => ?_ | refine XWP.seq (XWP.reg (by kernel_rfl) fun K hK => ?_) | refine XWP.reg1 (by kernel_rfl) fun K hK => ?_
    simp only [XA, XB, gateX, Nat.reduceAdd, Nat.reduceLeDiff, Nat.reduceSub, Nat.reduceMul, ↓reduceIte, Int.reduceToNat, Int.reduceLE, beq_self_eq_true]
    refine call_go (by kernel_rfl) rfl (alive_c _) fun v4 V4 hV4 h4 => ?_
    subst h4
    simp only [XA, XB, gateX, Nat.reduceAdd, Nat.reduceLeDiff, Nat.reduceSub, Nat.reduceMul, ↓reduceIte, Int.reduceToNat, Int.reduceLE, beq_self_eq_true]
    refine hK _ (XWP.ret ?_)
    try simp only [thenX_ret, inBlockX_ret]
    refine ret_go _ rfl ?_
    rfl
  have b1 : (!decide ((recR L).1 = 0)) = false := by rw [decide_eq_true he]; rfl
  first | refine XWP.reg (by kernel_rfl) fun K hK => ?_ | refine XWP.seq (XWP.reg (by kernel_rfl) fun K hK => ?_) | refine XWP.reg1 (by kernel_rfl) fun K hK => ?_
  simp only [XA, XB, gateX, Nat.reduceAdd, Nat.reduceLeDiff, Nat.reduceSub, Nat.reduceMul, ↓reduceIte, Int.reduceToNat, Int.reduceLE, beq_self_eq_true, b1]
  refine hK _ ?_
  first | refine XWP.cond (t := false) rfl (fun h => by cases h) (fun _ => ?_) | refine XWP.seq (XWP.cond (t := false) rfl (fun h => by cases h) (fun _ => ?_))
  refine XWP.skip ?_
  have hk : okR L = true := by
    cases hk : okR L
    · unfold recR at he; rw [hk, if_pos rfl] at he; cases he
    · rfl
  have hs : 2 * (bmI (qs L) L.length).size ≤ L.length := by
    unfold recR at he
    rw [hk, if_neg (by simp)] at he
    split at he
    · cases he
    · omega
  have ea : (recR L).2 = bmOut (bmI (qs L) L.length) := by unfold recR; rw [hk, if_neg (by simp), if_neg (by omega)]
  rw [ea] at ha
  have hl := (Raws.rats h1 hk).up hV2
  have aL : CB 960 (qs L) := fewR_CBn fL dL lL 960 rfl
  have el := qs_len L
  rw [← el] at ha hs
  generalize (recR L).1 = e1 at *
  obtain ⟨A1, c1, rfl, hc1, hm1⟩ := h1.form
  clear h1 fL dL hk ea
  generalize qs L = l at *
  have hgen := bm_out_gen l
  have aA : CB 700000000 (bmOut (bmI l l.length)) := (rec_CB (e := 4) aL (by omega)).mono (Nat.le_trans (bb_mono _ (show l.length ≤ 10 by omega)) bb_num10)
  have la := bmOut_len (bmI l l.length)
  generalize bmOut (bmI l l.length) = a at *
  generalize (bmI l l.length).size = sz at *
  first | refine XWP.reg (by kernel_rfl) fun K hK => ?_ | refine XWP.seq (XWP.reg (by kernel_rfl) fun K hK => ?_) | refine XWP.reg1 (by kernel_rfl) fun K hK => ?_
  simp only [XA, XB, gateX, Nat.reduceAdd, Nat.reduceLeDiff, Nat.reduceSub, Nat.reduceMul, ↓reduceIte, Int.reduceToNat, Int.reduceLE, beq_self_eq_true]
  refine call_go (by kernel_rfl) rfl (fracq_c _ _ _ l a 960 700000000 hl ha (by omega) (by omega) aL aA (by omega)) fun v3 V3 hV3 h3 => ?_
  obtain ⟨wp, wq, rfl, hp, hq⟩ := h3
  simp only [XA, XB, gateX, Nat.reduceAdd, Nat.reduceLeDiff, Nat.reduceSub, Nat.reduceMul, ↓reduceIte, Int.reduceToNat, Int.reduceLE, beq_self_eq_true]
  refine hK _ ?_
  have hser := ser_frac (by omega) hgen n
  have cN : CB 4000000000 (nxI l a n) := (nx_CB (e := 4) aL aA (by omega) n).mono (by
    have := Nat.mul_le_mul_right (700000000 + 4) (show n ≤ 5 by omega)
    omega)
  have cP : CB 281000000000 (frP l a) := by
    unfold frP
    refine (((mulP_CB ((aL.take _).trim) ((frQ_CB aA).trim)).take _).trim).mono ?_
    have h1 := trimQ_len (l.take a.length)
    have h2 : (l.take a.length).length ≤ 10 := by rw [List.length_take]; omega
    have h3 := Nat.mul_le_mul_right (960 + 700000000 + 1) (show (trimQ (l.take a.length)).length ≤ 10 by omega)
    omega
  have cQ : CB 700000000 (trimQ (frQ a)) := (frQ_CB aA).trim
  have lP : (frP l a).length ≤ 10 := by
    unfold frP
    refine Nat.le_trans (trimQ_len _) ?_
    rw [List.length_take]; omega
  have lQ : (trimQ (frQ a)).length ≤ 500 := by
    have := trimQ_len (frQ a)
    rw [frQ_len] at this; omega
  have w3 : IntKind.i64.wrap ((L.length : Int) + (n : Int)) = ((l.length + n : Nat) : Int) := by rw [wrap_id (by omega) (by omega)]; omega
  first | refine XWP.reg (by kernel_rfl) fun K hK => ?_ | refine XWP.seq (XWP.reg (by kernel_rfl) fun K hK => ?_) | refine XWP.reg1 (by kernel_rfl) fun K hK => ?_
  simp only [XA, XB, gateX, Nat.reduceAdd, Nat.reduceLeDiff, Nat.reduceSub, Nat.reduceMul, ↓reduceIte, Int.reduceToNat, Int.reduceLE, beq_self_eq_true, w3]
  refine call_go (by kernel_rfl) rfl (serq_c _ _ _ (frP l a) (trimQ (frQ a)) (l.length + n) 281000000000 700000000 4000000000 hp hq (trimQ_pol _) (trimQ_pol _) (by rw [cf_trimQ, cf_frQ0]; exact one_ne) (by omega) lQ (by omega) cP cQ (by rw [hser]; exact cN) (by omega)) fun v4 V4 hV4 h4 => ?_
  rw [hser] at h4
  obtain ⟨ws, rfl, hw⟩ := h4
  simp only [XA, XB, gateX, Nat.reduceAdd, Nat.reduceLeDiff, Nat.reduceSub, Nat.reduceMul, ↓reduceIte, Int.reduceToNat, Int.reduceLE, beq_self_eq_true]
  refine hK _ ?_
  have hV34 := View.le_trans hV3 hV4
  first | refine XWP.reg (by kernel_rfl) fun K hK => ?_ | refine XWP.seq (XWP.reg (by kernel_rfl) fun K hK => ?_) | refine XWP.reg1 (by kernel_rfl) fun K hK => ?_
  simp only [XA, XB, gateX, Nat.reduceAdd, Nat.reduceLeDiff, Nat.reduceSub, Nat.reduceMul, ↓reduceIte, Int.reduceToNat, Int.reduceLE, beq_self_eq_true]
  refine call_go (by kernel_rfl) rfl (nextq_c _ _ _ l a n 4000000000 700000000 (hl.up hV34) (ha.up hV34) (by omega) (by omega) (by omega) cN aA (by omega)) fun v5 V5 hV5 h5 => ?_
  obtain ⟨wn, rfl, hn5⟩ := h5
  simp only [XA, XB, gateX, Nat.reduceAdd, Nat.reduceLeDiff, Nat.reduceSub, Nat.reduceMul, ↓reduceIte, Int.reduceToNat, Int.reduceLE, beq_self_eq_true]
  refine hK _ ?_
  have hl5 := (hl.up hV34).up hV5
  obtain ⟨A5, c5, rfl, hc5, hm5⟩ := hn5.form
  obtain ⟨cells1, hrow1, hsrc1⟩ := SlAt.src hl5
  obtain ⟨cells2, hrow2, hsrc2⟩ := SlAt.src hn5
  rw [el] at hsrc1
  have lN := nextP_len l a n
  first | refine XWP.reg (by kernel_rfl) fun K hK => ?_ | refine XWP.seq (XWP.reg (by kernel_rfl) fun K hK => ?_) | refine XWP.reg1 (by kernel_rfl) fun K hK => ?_
  simp only [XA, XB, gateX, Nat.reduceAdd, Nat.reduceLeDiff, Nat.reduceSub, Nat.reduceMul, ↓reduceIte, Int.reduceToNat, Int.reduceLE, beq_self_eq_true, decide_true]
  refine bs_go (by kernel_rfl) #[] (by simp) (bs_zero elemT_22 zeroT_34) fun b hb1 hb2 => ?_
  simp only [XA, XB, gateX, Nat.reduceAdd, Nat.reduceLeDiff, Nat.reduceSub, Nat.reduceMul, ↓reduceIte, Int.reduceToNat, Int.reduceLE, beq_self_eq_true]
  refine ap_go elemT_22 (by kernel_rfl) zeroT_34 rfl (by omega) (n := 0) (xs := []) (own3 (by simp [upd]) rfl (Nat.le_refl _) (by omega)) (hsrc1 _) (by omega) (by omega) fun v6 H6 hr6 => ?_
  simp only [XA, XB, gateX, Nat.reduceAdd, Nat.reduceLeDiff, Nat.reduceSub, Nat.reduceMul, ↓reduceIte, Int.reduceToNat, Int.reduceLE, beq_self_eq_true]
  refine ap_go elemT_22 (by kernel_rfl) zeroT_34 rfl (by omega) hr6.1 (hsrc2 _) (by omega) (by omega) fun v7 H7 hr7 => ?_
  have hrow := hrow1.append hrow2
  rw [← nxI_split] at hrow
  simp only [XA, XB, gateX, Nat.reduceAdd, Nat.reduceLeDiff, Nat.reduceSub, Nat.reduceMul, ↓reduceIte, Int.reduceToNat, Int.reduceLE, beq_self_eq_true]
  refine pub_own hr7.1 hrow (by rw [nxI_len]; omega) (by kernel_rfl) rfl fun H8 V8 hV8 hx => ?_
  refine call_go (by kernel_rfl) rfl (lsame_c _ _ _ (nxI l a n) (nxI l a n) ((hw.up hV5).up hV8) hx (cN.qf (by omega)) (cN.qf (by omega))) fun v9 V9 hV9 h9 => ?_
  subst h9
  simp only [XA, XB, gateX, Nat.reduceAdd, Nat.reduceLeDiff, Nat.reduceSub, Nat.reduceMul, ↓reduceIte, Int.reduceToNat, Int.reduceLE, beq_self_eq_true, decide_true]
  refine call_go (by kernel_rfl) rfl (alive_c _) fun v10 V10 hV10 h10 => ?_
  subst h10
  simp only [XA, XB, gateX, Nat.reduceAdd, Nat.reduceLeDiff, Nat.reduceSub, Nat.reduceMul, ↓reduceIte, Int.reduceToNat, Int.reduceLE, beq_self_eq_true]
  refine hK _ (XWP.ret ?_)
  try simp only [thenX_ret, inBlockX_ret]
  refine ret_go _ rfl ?_
  rfl
end Go.Proofs.Ythoboehbadmlmaa
end
section
namespace Go.Proofs.Ythoboehbadmlmaa.recurSeries
open Go.ChangeShapes Go.WideShapes Go.ChangeAt Go.RowKit
set_option linter.unusedVariables false
theorem own : ownKnob Try.prog.godebug = none := by kernel_rfl
theorem laidOut : laidOutB Try.prog = true := by kernel_rfl
set_option maxRecDepth 100000 in
theorem lifted (os : Os) (started : os.Started) (H : Type) (enc : TypeId × Value → H) :
    ReturnsInHanded {} Try.checked os 7 .any (Rows.recurSeriesSpec.pre6 enc Try.prog Try.f7 Rows.recurSeriesRow.domain false) (Rows.recurSeriesSpec.post enc Try.prog Try.f7 false true false false) := by
  refine returnsInHanded_of_change_sized (C := Try.checked) own started (by kernel_rfl) Try.func7
    (ChangeSpec.witness6 (enc := enc) (C := Try.checked) false ⟨#[], #[.slice none 0 0, .int .i64 0], []⟩ 8 (by kernel_rfl) (by kernel_rfl) (by kernel_rfl) (by kernel_rfl)) ?_
  intro W base args ds gs before hval0 hW hcnd hsz0 _
  have hval : ∀ (j : Nat) t v, Try.f7.params[j]? = some t → args[j]? = some v → Value.okWide Try.prog W .any base t v := hval0
  have hW' := hW
  obtain ⟨p, q, hA0, hV, rfl, hfz, hnd⟩ := hW
  have hA : DataW.TrodAll enc Try.prog W 0 (fun _ => true) true Try.f7.params.toList args.toList ds p := hA0
  rw [Try.params7] at hA hval
  obtain ⟨v0, vs0, d0, ds0, p0, q0, hargs, rfl, rfl, h0, r0⟩ := trodAll_cons hA
  obtain ⟨v1, vs1, d1, ds1, p1, q1, rfl, rfl, rfl, h1, r1⟩ := trodAll_cons r0
  obtain ⟨rfl, rfl, rfl⟩ := trodAll_nil r1
  obtain rfl : args = #[v0, v1] := by cases args; simp_all
  obtain ⟨rfl, rfl⟩ := trodVars_none hV
  obtain ⟨a0, len0, cap0, rfl⟩ := okWide_slice (und_elem (P := Try.prog) (e := 34) (by kernel_rfl)) (hval 0 22 v0 rfl rfl)
  have k0 := h0
  have lt0 : ∀ x ∈ p0, x.block < W.heap.size := by obtain ⟨m, hm⟩ := k0; exact DataW.trod_lt m _ _ _ hm
  obtain ⟨fuel0, hf0⟩ := h0
  obtain ⟨L0, hL0⟩ := open_raws (by kernel_rfl) hf0
  obtain ⟨a1, rfl, rfl, rfl, w1⟩ := open_int (k := .i64) (by kernel_rfl) (hval 1 3 v1 rfl rfl) h1
  clear hA0 hval0 hsz0
  refine (series_c (viewW W) _ L0 a1 hL0 W (viewW_sub W)).mono fun e W' ⟨v, V', he, _, _, _, bel, hv⟩ => ?_
  subst hv
  subst he
  exact ⟨_, rfl, _, _, _, [], _, [], hW', trodAll_mk1 (shut_bool Try.underlying4 _), (trodAll_cons_mk (Below.trod laidOut (by kernel_rfl) (of_decide_eq_true (by kernel_rfl)) k0 bel lt0) (trodAll_cons_mk (shut_int (k := .i64) (by kernel_rfl) w1) trodAll_mk0)), rfl, bel.frame _, fun h => by cases h⟩
theorem over : Rows.recurSeriesRow.holds Try.pinned (OpenSpec.ofChange Rows.recurSeriesSpec) :=
  OpenClaim.holds_of_wide 7 Try.f7 rfl rfl rfl rfl rfl rfl rfl ⟨rfl, rfl, rfl, rfl, rfl⟩ rfl rfl rfl rfl rfl (by kernel_rfl) Try.func7 (by kernel_rfl)
    (of_decide_eq_true (by kernel_rfl)) (by unfold Func.isWrapper; first | (rw [if_pos (by decide +kernel)]; kernel_rfl) | (rw [if_neg (by decide +kernel)]; exact ⟨rfl, rfl⟩))
    (fun os started H enc _ => lifted os started H enc)
theorem proved : Rows.RecurSeriesSaid := over
#print axioms proved
end Go.Proofs.Ythoboehbadmlmaa.recurSeries
namespace Go.Proofs.Ythoboehbadmlmaa
/-- The row, under a short name, for the claim. -/
theorem recurSeries_holds : Rows.RecurSeriesSaid := recurSeries.proved
end Go.Proofs.Ythoboehbadmlmaa
end
