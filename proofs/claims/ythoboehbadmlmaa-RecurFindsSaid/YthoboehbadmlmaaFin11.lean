/- The law RecurFinds answers true at every input (part 11 of 12) -/
import Derived.OrdersHeld
import Derived.Below
import Derived.Tactics
import Derived.KernelRfl
import Derived.Laws.AppendOwn
import Derived.Laws.MakeOwn
import Derived.Laws.CopyRow
import Derived.Laws.Cells
import Derived.Laws.World
import Derived.Laws.Alloc2
import Derived.Laws.NewBlocks
import Derived.Maps.AppendAt
import Derived.Test.YthoboehbadmlmaaProg
import Init.Data.List.Lemmas
import Init.Omega
import Derived.WalkKit
import Derived.ProofKit
import Derived.OpenShut
import Derived.ChangeOld
import Derived.SizedLaws
import Derived.ChangeSlices
import Derived.ChangeArms
import Derived.Deep.Slices
import Derived.Test.YthoboehbadmlmaaFin10
section
namespace Go.Proofs.Ythoboehbadmlmaa
open Go Go.RowKit
set_option linter.unusedSimpArgs false
set_option linter.unusedVariables false
attribute [local irreducible] XWP Spec SpecO XPub XCall seqX clX apX stX ldX iaX slX
set_option maxRecDepth 100000 in
set_option maxHeartbeats 0 in
theorem solved_c (V : View) (v : Value) (l : List Rat) (n B : Nat) (hv : Rats V v l) (hB : ∀ x ∈ l, QB B x) (hn : n ≤ l.length) (ll : l.length ≤ 1000) (hfit : ge B n ≤ 17592186044416) :
    Spec Try.prog 60 [v, .int .i64 (n : Int)] V fun v' V' => ∃ w ok, v' = .tuple #[w, .bool ok] ∧ (ok = true → ∃ x : List Rat, Rats V' w x ∧ x.length = n ∧ (∀ y ∈ x, QF y) ∧ SolG (grid0 l n) (l.length - n) n (cf x)) ∧ (ok = false → Rats V' w [] ∧ ∀ x, ¬ SolG (grid0 l n) (l.length - n) n x) := by
  obtain ⟨A1, c1, rfl, hc1, hm1⟩ := hv.form
  refine (Spec.enter Try.func60 rfl fun Γ => ?_)
  simp only [Try.ntmps60, List.map_cons, List.map_nil, List.length_cons, List.length_nil, Nat.reduceAdd, Nat.reduceSub, List.replicate_succ, List.replicate_zero, List.cons_append, List.nil_append]
  first | refine XWP.reg (by kernel_rfl) fun K hK => ?_ | refine XWP.seq (XWP.reg (by kernel_rfl) fun K hK => ?_) | refine XWP.reg1 (by kernel_rfl) fun K hK => ?_
  simp only [XA, XB, gateX, Nat.reduceAdd, Nat.reduceLeDiff, Nat.reduceSub, Nat.reduceMul, ↓reduceIte, Int.reduceToNat, Int.reduceLE, beq_self_eq_true]
  refine hK _ ?_
  first | refine XWP.reg (by kernel_rfl) fun K hK => ?_ | refine XWP.seq (XWP.reg (by kernel_rfl) fun K hK => ?_) | refine XWP.reg1 (by kernel_rfl) fun K hK => ?_
  simp only [XA, XB, gateX, Nat.reduceAdd, Nat.reduceLeDiff, Nat.reduceSub, Nat.reduceMul, ↓reduceIte, Int.reduceToNat, Int.reduceLE, beq_self_eq_true]
  refine hK _ ?_
  refine XWP.cutD 0 (fun s => ∃ (V6 : View) (H6 : Heap) (w : Value), StIs (fun τ => [.v (.slice A1 l.length c1), .v (.int .i64 (n : Int)), τ 2, τ 3, τ 4, τ 5, .v w, τ 7, τ 8, τ 9, τ 10, τ 11, τ 12, τ 13, τ 14, τ 15, τ 16, τ 17, τ 18, τ 19, τ 20, τ 21, τ 22, τ 23, τ 24, τ 25, τ 26, τ 27, τ 28, τ 29, τ 30, τ 31, τ 32, τ 33, τ 34, τ 35, τ 36, τ 37, τ 38, τ 39, τ 40, τ 41, τ 42, τ 43, τ 44, τ 45, τ 46, τ 47, τ 48, τ 49, τ 50, τ 51, τ 52, τ 53, τ 54, τ 55, τ 56, τ 57, τ 58, τ 59, τ 60, τ 61, τ 62, τ 63, τ 64, τ 65, τ 66, τ 67, τ 68, τ 69, τ 70, τ 71, τ 72, τ 73, τ 74, τ 75, τ 76, τ 77, τ 78, τ 79, τ 80, τ 81, τ 82, τ 83, τ 84, τ 85, τ 86, τ 87, τ 88, τ 89, τ 90, τ 91, τ 92, τ 93, τ 94, τ 95, τ 96, τ 97, τ 98, τ 99, τ 100, τ 101, τ 102, τ 103, τ 104, τ 105, τ 106, τ 107, τ 108, τ 109, τ 110, τ 111, τ 112, τ 113, τ 114, τ 115, τ 116, τ 117, τ 118, τ 119, τ 120, τ 121, τ 122, τ 123, τ 124, τ 125, τ 126, τ 127, τ 128, τ 129, τ 130, τ 131, τ 132, τ 133, τ 134, τ 135, τ 136, τ 137, τ 138, τ 139, τ 140, τ 141, τ 142, τ 143, τ 144, τ 145, τ 146, τ 147, τ 148, τ 149, τ 150, τ 151, τ 152, τ 153, τ 154, τ 155, τ 156, τ 157, τ 158, τ 159, τ 160, τ 161, τ 162, τ 163, τ 164, τ 165, τ 166, τ 167, τ 168, τ 169, τ 170, τ 171, τ 172, τ 173, τ 174, τ 175, τ 176, τ 177, τ 178, τ 179, τ 180, τ 181, τ 182, τ 183, τ 184, τ 185, τ 186, τ 187, τ 188, τ 189, τ 190, τ 191, τ 192, τ 193, τ 194, τ 195, τ 196, τ 197, τ 198, τ 199, τ 200, τ 201, τ 202, τ 203, τ 204, τ 205, τ 206, τ 207, τ 208, τ 209, τ 210, τ 211, τ 212, τ 213, τ 214, τ 215, τ 216, τ 217, τ 218, τ 219, τ 220, τ 221, τ 222, τ 223, τ 224, τ 225, τ 226, τ 227, τ 228, τ 229, τ 230, τ 231, τ 232, τ 233, τ 234, τ 235, τ 236, τ 237, τ 238, τ 239, τ 240, τ 241, τ 242, τ 243, τ 244]) [] H6 V6 s ∧ V.le V6 ∧ GridAt H6 V6 w (l.length - n) (n + 1) (grid0 l n) []) ?_ ?_
  · --{
    first | refine XWP.reg (by kernel_rfl) fun K hK => ?_ | refine XWP.seq (XWP.reg (by kernel_rfl) fun K hK => ?_) | refine XWP.reg1 (by kernel_rfl) fun K hK => ?_
    simp only [XA, XB, gateX, Nat.reduceAdd, Nat.reduceLeDiff, Nat.reduceSub, Nat.reduceMul, ↓reduceIte, Int.reduceToNat, Int.reduceLE, beq_self_eq_true]
    refine hK _ ?_
    clear hK
    first | refine XWP.block ?_ | refine XWP.seq (XWP.block ?_)
    refine XWP.loopD 0 (fun d s => ∃ (i : Nat) (V6 : View) (H6 : Heap) (w : Value), StIs (fun τ => [.v (.slice A1 l.length c1), .v (.int .i64 (n : Int)), τ 2, τ 3, τ 4, τ 5, .v w, .v (.int .i64 ((n + i : Nat) : Int)), τ 8, τ 9, τ 10, τ 11, τ 12, τ 13, τ 14, τ 15, τ 16, τ 17, τ 18, τ 19, τ 20, τ 21, τ 22, τ 23, τ 24, τ 25, τ 26, τ 27, τ 28, τ 29, τ 30, τ 31, τ 32, τ 33, τ 34, τ 35, τ 36, τ 37, τ 38, τ 39, τ 40, τ 41, τ 42, τ 43, τ 44, τ 45, τ 46, τ 47, τ 48, τ 49, τ 50, τ 51, τ 52, τ 53, τ 54, τ 55, τ 56, τ 57, τ 58, τ 59, τ 60, τ 61, τ 62, τ 63, τ 64, τ 65, τ 66, τ 67, τ 68, τ 69, τ 70, τ 71, τ 72, τ 73, τ 74, τ 75, τ 76, τ 77, τ 78, τ 79, τ 80, τ 81, τ 82, τ 83, τ 84, τ 85, τ 86, τ 87, τ 88, τ 89, τ 90, τ 91, τ 92, τ 93, τ 94, τ 95, τ 96, τ 97, τ 98, τ 99, τ 100, τ 101, τ 102, τ 103, τ 104, τ 105, τ 106, τ 107, τ 108, τ 109, τ 110, τ 111, τ 112, τ 113, τ 114, τ 115, τ 116, τ 117, τ 118, τ 119, τ 120, τ 121, τ 122, τ 123, τ 124, τ 125, τ 126, τ 127, τ 128, τ 129, τ 130, τ 131, τ 132, τ 133, τ 134, τ 135, τ 136, τ 137, τ 138, τ 139, τ 140, τ 141, τ 142, τ 143, τ 144, τ 145, τ 146, τ 147, τ 148, τ 149, τ 150, τ 151, τ 152, τ 153, τ 154, τ 155, τ 156, τ 157, τ 158, τ 159, τ 160, τ 161, τ 162, τ 163, τ 164, τ 165, τ 166, τ 167, τ 168, τ 169, τ 170, τ 171, τ 172, τ 173, τ 174, τ 175, τ 176, τ 177, τ 178, τ 179, τ 180, τ 181, τ 182, τ 183, τ 184, τ 185, τ 186, τ 187, τ 188, τ 189, τ 190, τ 191, τ 192, τ 193, τ 194, τ 195, τ 196, τ 197, τ 198, τ 199, τ 200, τ 201, τ 202, τ 203, τ 204, τ 205, τ 206, τ 207, τ 208, τ 209, τ 210, τ 211, τ 212, τ 213, τ 214, τ 215, τ 216, τ 217, τ 218, τ 219, τ 220, τ 221, τ 222, τ 223, τ 224, τ 225, τ 226, τ 227, τ 228, τ 229, τ 230, τ 231, τ 232, τ 233, τ 234, τ 235, τ 236, τ 237, τ 238, τ 239, τ 240, τ 241, τ 242, τ 243, τ 244]) [] H6 V6 s ∧ V.le V6 ∧ d + i = l.length - n ∧ GridAt H6 V6 w i (n + 1) (grid0 l n) []) (l.length - n) ⟨0, V, _, _, StIs.of (by exact rfl), View.le_refl _, by omega, GridAt.nil _ _ _ _ _⟩ ?_
    rintro d s ⟨i, V6, H6, w, hs, hV6, hd, hgrid⟩
    obtain ⟨z, rfl⟩ := hs.out
    try dsimp only
    clear hs
    refine XWP.seq ?_
    by_cases hi : n + i < l.length
    rotate_left
    · obtain rfl : i = l.length - n := by omega
      have b2 : decide (((n + (l.length - n) : Nat) : Int) < (l.length : Int)) = false := decide_eq_false (by omega)
      first | refine XWP.reg (by kernel_rfl) fun K hK => ?_ | refine XWP.seq (XWP.reg (by kernel_rfl) fun K hK => ?_) | refine XWP.reg1 (by kernel_rfl) fun K hK => ?_
      simp only [XA, XB, gateX, Nat.reduceAdd, Nat.reduceLeDiff, Nat.reduceSub, Nat.reduceMul, ↓reduceIte, Int.reduceToNat, Int.reduceLE, beq_self_eq_true, b2]
      refine hK _ ?_
      first | refine XWP.cond (t := false) rfl (fun h => by cases h) (fun _ => ?_) | refine XWP.seq (XWP.cond (t := false) rfl (fun h => by cases h) (fun _ => ?_))
      refine XWP.exit ?_
      exact fun f => ⟨V6, H6, w, StIs.of (by exact rfl), hV6, hgrid⟩
    have b2 : decide (((n + i : Nat) : Int) < (l.length : Int)) = true := decide_eq_true (by omega)
    first | refine XWP.reg (by kernel_rfl) fun K hK => ?_ | refine XWP.seq (XWP.reg (by kernel_rfl) fun K hK => ?_) | refine XWP.reg1 (by kernel_rfl) fun K hK => ?_
    simp only [XA, XB, gateX, Nat.reduceAdd, Nat.reduceLeDiff, Nat.reduceSub, Nat.reduceMul, ↓reduceIte, Int.reduceToNat, Int.reduceLE, beq_self_eq_true, b2]
    refine hK _ ?_
    first | refine XWP.cond (t := true) rfl (fun _ => ?_) (fun h => by cases h) | refine XWP.seq (XWP.cond (t := true) rfl (fun _ => ?_) (fun h => by cases h))
    refine XWP.skip ?_
    refine XWP.seq ?_
    first | refine XWP.block ?_ | refine XWP.seq (XWP.block ?_)
    first | refine XWP.reg (by kernel_rfl) fun K hK => ?_ | refine XWP.seq (XWP.reg (by kernel_rfl) fun K hK => ?_) | refine XWP.reg1 (by kernel_rfl) fun K hK => ?_
    simp only [XA, XB, gateX, Nat.reduceAdd, Nat.reduceLeDiff, Nat.reduceSub, Nat.reduceMul, ↓reduceIte, Int.reduceToNat, Int.reduceLE, beq_self_eq_true]
    refine hK _ ?_
    refine XWP.cutD 0 (fun s => ∃ (V7 : View) (H7 : Heap) (w2 : Value) (xs : List Value), StIs (fun τ => [.v (.slice A1 l.length c1), .v (.int .i64 (n : Int)), τ 2, τ 3, τ 4, τ 5, .v w, .v (.int .i64 ((n + i : Nat) : Int)), .v w2, τ 9, τ 10, τ 11, τ 12, τ 13, τ 14, τ 15, τ 16, τ 17, τ 18, τ 19, τ 20, τ 21, τ 22, τ 23, τ 24, τ 25, τ 26, τ 27, τ 28, τ 29, τ 30, τ 31, τ 32, τ 33, τ 34, τ 35, τ 36, τ 37, τ 38, τ 39, τ 40, τ 41, τ 42, τ 43, τ 44, τ 45, τ 46, τ 47, τ 48, τ 49, τ 50, τ 51, τ 52, τ 53, τ 54, τ 55, τ 56, τ 57, τ 58, τ 59, τ 60, τ 61, τ 62, τ 63, τ 64, τ 65, τ 66, τ 67, τ 68, τ 69, τ 70, τ 71, τ 72, τ 73, τ 74, τ 75, τ 76, τ 77, τ 78, τ 79, τ 80, τ 81, τ 82, τ 83, τ 84, τ 85, τ 86, τ 87, τ 88, τ 89, τ 90, τ 91, τ 92, τ 93, τ 94, τ 95, τ 96, τ 97, τ 98, τ 99, τ 100, τ 101, τ 102, τ 103, τ 104, τ 105, τ 106, τ 107, τ 108, τ 109, τ 110, τ 111, τ 112, τ 113, τ 114, τ 115, τ 116, τ 117, τ 118, τ 119, τ 120, τ 121, τ 122, τ 123, τ 124, τ 125, τ 126, τ 127, τ 128, τ 129, τ 130, τ 131, τ 132, τ 133, τ 134, τ 135, τ 136, τ 137, τ 138, τ 139, τ 140, τ 141, τ 142, τ 143, τ 144, τ 145, τ 146, τ 147, τ 148, τ 149, τ 150, τ 151, τ 152, τ 153, τ 154, τ 155, τ 156, τ 157, τ 158, τ 159, τ 160, τ 161, τ 162, τ 163, τ 164, τ 165, τ 166, τ 167, τ 168, τ 169, τ 170, τ 171, τ 172, τ 173, τ 174, τ 175, τ 176, τ 177, τ 178, τ 179, τ 180, τ 181, τ 182, τ 183, τ 184, τ 185, τ 186, τ 187, τ 188, τ 189, τ 190, τ 191, τ 192, τ 193, τ 194, τ 195, τ 196, τ 197, τ 198, τ 199, τ 200, τ 201, τ 202, τ 203, τ 204, τ 205, τ 206, τ 207, τ 208, τ 209, τ 210, τ 211, τ 212, τ 213, τ 214, τ 215, τ 216, τ 217, τ 218, τ 219, τ 220, τ 221, τ 222, τ 223, τ 224, τ 225, τ 226, τ 227, τ 228, τ 229, τ 230, τ 231, τ 232, τ 233, τ 234, τ 235, τ 236, τ 237, τ 238, τ 239, τ 240, τ 241, τ 242, τ 243, τ 244]) [] H7 V7 s ∧ V6.le V7 ∧ GridAt H7 V7 w i (n + 1) (grid0 l n) w2.ownBlock.toList ∧ Own H7 34 3 w2 n xs ∧ RowAt ratE V7 xs (mk n (grid0 l n i))) ?_ ?_
    · first | refine XWP.reg (by kernel_rfl) fun K hK => ?_ | refine XWP.seq (XWP.reg (by kernel_rfl) fun K hK => ?_) | refine XWP.reg1 (by kernel_rfl) fun K hK => ?_
      simp only [XA, XB, gateX, Nat.reduceAdd, Nat.reduceLeDiff, Nat.reduceSub, Nat.reduceMul, ↓reduceIte, Int.reduceToNat, Int.reduceLE, beq_self_eq_true]
      refine hK _ ?_
      clear hK
      first | refine XWP.block ?_ | refine XWP.seq (XWP.block ?_)
      refine XWP.loopD 0 (fun d s => ∃ (j : Nat) (V7 : View) (H7 : Heap) (w2 : Value) (xs : List Value), StIs (fun τ => [.v (.slice A1 l.length c1), .v (.int .i64 (n : Int)), τ 2, τ 3, τ 4, τ 5, .v w, .v (.int .i64 ((n + i : Nat) : Int)), .v w2, .v (.int .i64 (j : Int)), τ 10, τ 11, τ 12, τ 13, τ 14, τ 15, τ 16, τ 17, τ 18, τ 19, τ 20, τ 21, τ 22, τ 23, τ 24, τ 25, τ 26, τ 27, τ 28, τ 29, τ 30, τ 31, τ 32, τ 33, τ 34, τ 35, τ 36, τ 37, τ 38, τ 39, τ 40, τ 41, τ 42, τ 43, τ 44, τ 45, τ 46, τ 47, τ 48, τ 49, τ 50, τ 51, τ 52, τ 53, τ 54, τ 55, τ 56, τ 57, τ 58, τ 59, τ 60, τ 61, τ 62, τ 63, τ 64, τ 65, τ 66, τ 67, τ 68, τ 69, τ 70, τ 71, τ 72, τ 73, τ 74, τ 75, τ 76, τ 77, τ 78, τ 79, τ 80, τ 81, τ 82, τ 83, τ 84, τ 85, τ 86, τ 87, τ 88, τ 89, τ 90, τ 91, τ 92, τ 93, τ 94, τ 95, τ 96, τ 97, τ 98, τ 99, τ 100, τ 101, τ 102, τ 103, τ 104, τ 105, τ 106, τ 107, τ 108, τ 109, τ 110, τ 111, τ 112, τ 113, τ 114, τ 115, τ 116, τ 117, τ 118, τ 119, τ 120, τ 121, τ 122, τ 123, τ 124, τ 125, τ 126, τ 127, τ 128, τ 129, τ 130, τ 131, τ 132, τ 133, τ 134, τ 135, τ 136, τ 137, τ 138, τ 139, τ 140, τ 141, τ 142, τ 143, τ 144, τ 145, τ 146, τ 147, τ 148, τ 149, τ 150, τ 151, τ 152, τ 153, τ 154, τ 155, τ 156, τ 157, τ 158, τ 159, τ 160, τ 161, τ 162, τ 163, τ 164, τ 165, τ 166, τ 167, τ 168, τ 169, τ 170, τ 171, τ 172, τ 173, τ 174, τ 175, τ 176, τ 177, τ 178, τ 179, τ 180, τ 181, τ 182, τ 183, τ 184, τ 185, τ 186, τ 187, τ 188, τ 189, τ 190, τ 191, τ 192, τ 193, τ 194, τ 195, τ 196, τ 197, τ 198, τ 199, τ 200, τ 201, τ 202, τ 203, τ 204, τ 205, τ 206, τ 207, τ 208, τ 209, τ 210, τ 211, τ 212, τ 213, τ 214, τ 215, τ 216, τ 217, τ 218, τ 219, τ 220, τ 221, τ 222, τ 223, τ 224, τ 225, τ 226, τ 227, τ 228, τ 229, τ 230, τ 231, τ 232, τ 233, τ 234, τ 235, τ 236, τ 237, τ 238, τ 239, τ 240, τ 241, τ 242, τ 243, τ 244]) [] H7 V7 s ∧ V6.le V7 ∧ d + j = n ∧ GridAt H7 V7 w i (n + 1) (grid0 l n) w2.ownBlock.toList ∧ Own H7 34 3 w2 j xs ∧ RowAt ratE V7 xs (mk j (grid0 l n i))) n ⟨0, V6, H6, .slice none 0 0, [], StIs.of (by exact rfl), View.le_refl _, by omega, hgrid, own_nil, RowAt.nil _⟩ ?_
      rintro d2 s ⟨j, V7, H7, w2, xs, hs, hV7, hd2, hgrid, hown, hrow⟩
      obtain ⟨z, rfl⟩ := hs.out
      try dsimp only
      clear hs
      refine XWP.seq ?_
      by_cases hj : j < n
      rotate_left
      · obtain rfl : j = n := by omega
        have b3 : decide ((j : Int) < (j : Int)) = false := decide_eq_false (by omega)
        first | refine XWP.reg (by kernel_rfl) fun K hK => ?_ | refine XWP.seq (XWP.reg (by kernel_rfl) fun K hK => ?_) | refine XWP.reg1 (by kernel_rfl) fun K hK => ?_
        simp only [XA, XB, gateX, Nat.reduceAdd, Nat.reduceLeDiff, Nat.reduceSub, Nat.reduceMul, ↓reduceIte, Int.reduceToNat, Int.reduceLE, beq_self_eq_true, b3]
        refine hK _ ?_
        first | refine XWP.cond (t := false) rfl (fun h => by cases h) (fun _ => ?_) | refine XWP.seq (XWP.cond (t := false) rfl (fun h => by cases h) (fun _ => ?_))
        refine XWP.exit ?_
        exact fun f => ⟨V7, H7, w2, xs, StIs.of (by exact rfl), hV7, hgrid, hown, hrow⟩
      have b3 : decide ((j : Int) < (n : Int)) = true := decide_eq_true (by omega)
      first | refine XWP.reg (by kernel_rfl) fun K hK => ?_ | refine XWP.seq (XWP.reg (by kernel_rfl) fun K hK => ?_) | refine XWP.reg1 (by kernel_rfl) fun K hK => ?_
      simp only [XA, XB, gateX, Nat.reduceAdd, Nat.reduceLeDiff, Nat.reduceSub, Nat.reduceMul, ↓reduceIte, Int.reduceToNat, Int.reduceLE, beq_self_eq_true, b3]
      refine hK _ ?_
      first | refine XWP.cond (t := true) rfl (fun _ => ?_) (fun h => by cases h) | refine XWP.seq (XWP.cond (t := true) rfl (fun _ => ?_) (fun h => by cases h))
      refine XWP.skip ?_
      refine XWP.seq ?_
      first | refine XWP.block ?_ | refine XWP.seq (XWP.block ?_)
      have hv7 := hv.up (View.le_trans hV6 hV7)
      obtain ⟨b, o, rfl⟩ := SlAt.addr hv7 (by omega)
      obtain ⟨m3, n3, d3, hx3, ⟨p1, p2, p3⟩, hld3⟩ := Rats.get hv7 (n + i - 1 - j) (by omega)
      have w1 := i64_pred (n + i) (by omega) (by omega)
      have w2' := i64_sub (n + i - 1) j (by omega) (by omega)
      first | refine XWP.reg (by kernel_rfl) fun K hK => ?_ | refine XWP.seq (XWP.reg (by kernel_rfl) fun K hK => ?_) | refine XWP.reg1 (by kernel_rfl) fun K hK => ?_
      simp only [XA, XB, gateX, Nat.reduceAdd, Nat.reduceLeDiff, Nat.reduceSub, Nat.reduceMul, ↓reduceIte, Int.reduceToNat, Int.reduceLE, beq_self_eq_true, w1, w2']
      refine ⟨by omega, by omega, ld_mem (hld3 _) ?_⟩
      simp only [XA, XB, gateX, Nat.reduceAdd, Nat.reduceLeDiff, Nat.reduceSub, Nat.reduceMul, ↓reduceIte, Int.reduceToNat, Int.reduceLE, beq_self_eq_true]
      refine bs_go (by kernel_rfl) #[(0, .agg #[m3, n3, d3])] (by simp [ev_tmp, SV.val]) (bs_rat elemT_22) fun b3 hb3 hb4 => ?_
      simp only [XA, XB, gateX, Nat.reduceAdd, Nat.reduceLeDiff, Nat.reduceSub, Nat.reduceMul, ↓reduceIte, Int.reduceToNat, Int.reduceLE, beq_self_eq_true]
      refine ap_go elemT_22 (by kernel_rfl) zeroT_34 rfl (by omega) (own_upd hown hb3) (src3 (upd_at _ _ _) p1 p2 p3) (by omega) (by omega) fun v' H' hres => ?_
      simp only [XA, XB, gateX, Nat.reduceAdd, Nat.reduceLeDiff, Nat.reduceSub, Nat.reduceMul, ↓reduceIte, Int.reduceToNat, Int.reduceLE, beq_self_eq_true]
      refine hK _ ?_
      first | refine XWP.reg (by kernel_rfl) fun K hK => ?_ | refine XWP.seq (XWP.reg (by kernel_rfl) fun K hK => ?_) | refine XWP.reg1 (by kernel_rfl) fun K hK => ?_
      simp only [XA, XB, gateX, Nat.reduceAdd, Nat.reduceLeDiff, Nat.reduceSub, Nat.reduceMul, ↓reduceIte, Int.reduceToNat, Int.reduceLE, beq_self_eq_true, i64_succ j (by omega)]
      have hrow' := hrow.snoc p1 p2 p3 hx3
      have eg : cf l (n + i - 1 - j) = grid0 l n i j := by unfold grid0; rw [if_pos hj]
      rw [eg, ← mk_succ] at hrow'
      exact hK _ ⟨d2 - 1, by omega, fun f => ⟨j + 1, V7, _, _, _, StIs.of (by exact rfl), hV7, by omega, (hgrid.alloc hb3).app (own_upd hown hb3) hres, hres.1, hrow'⟩⟩
    clear hgrid
    rintro s ⟨V7, H7, w2, xs, hs, hV7, hgrid, hown, hrow⟩
    obtain ⟨z, rfl⟩ := hs.out
    try dsimp only
    clear hs
    have hv7 := hv.up (View.le_trans hV6 hV7)
    obtain ⟨b, o, rfl⟩ := SlAt.addr hv7 (by omega)
    obtain ⟨m3, n3, d3, hx3, ⟨p1, p2, p3⟩, hld3⟩ := Rats.get hv7 (n + i) (by omega)
    first | refine XWP.reg (by kernel_rfl) fun K hK => ?_ | refine XWP.seq (XWP.reg (by kernel_rfl) fun K hK => ?_) | refine XWP.reg1 (by kernel_rfl) fun K hK => ?_
    simp only [XA, XB, gateX, Nat.reduceAdd, Nat.reduceLeDiff, Nat.reduceSub, Nat.reduceMul, ↓reduceIte, Int.reduceToNat, Int.reduceLE, beq_self_eq_true]
    refine ⟨by omega, by omega, ld_mem (hld3 _) ?_⟩
    simp only [XA, XB, gateX, Nat.reduceAdd, Nat.reduceLeDiff, Nat.reduceSub, Nat.reduceMul, ↓reduceIte, Int.reduceToNat, Int.reduceLE, beq_self_eq_true]
    refine bs_go (by kernel_rfl) #[(0, .agg #[m3, n3, d3])] (by simp [ev_tmp, SV.val]) (bs_rat elemT_22) fun b3 hb3 hb4 => ?_
    simp only [XA, XB, gateX, Nat.reduceAdd, Nat.reduceLeDiff, Nat.reduceSub, Nat.reduceMul, ↓reduceIte, Int.reduceToNat, Int.reduceLE, beq_self_eq_true]
    refine ap_go elemT_22 (by kernel_rfl) zeroT_34 rfl (by omega) (own_upd hown hb3) (src3 (upd_at _ _ _) p1 p2 p3) (by omega) (by omega) fun w3 H3 hres => ?_
    have hgrid3 := (hgrid.alloc hb3).app (own_upd hown hb3) hres
    have hown3 := hres.1
    have hrow' := hrow.snoc p1 p2 p3 hx3
    have eg : cf l (n + i) = grid0 l n i n := by unfold grid0; rw [if_neg (by omega)]
    rw [eg, ← mk_succ] at hrow'
    have hone := own_one hown3
    simp only [XA, XB, gateX, Nat.reduceAdd, Nat.reduceLeDiff, Nat.reduceSub, Nat.reduceMul, ↓reduceIte, Int.reduceToNat, Int.reduceLE, beq_self_eq_true]
    refine bs_go (by kernel_rfl) #[(0, w3)] (by simp [ev_tmp, SV.val]) (bs_one eRR zeroT_22 hone) fun b4 hb5 hb6 => ?_
    simp only [XA, XB, gateX, Nat.reduceAdd, Nat.reduceLeDiff, Nat.reduceSub, Nat.reduceMul, ↓reduceIte, Int.reduceToNat, Int.reduceLE, beq_self_eq_true]
    obtain ⟨cells, ho, hc⟩ := hgrid3.alloc (r := some ⟨22, [w3], 1⟩) hb5
    refine ap_go eRR (by kernel_rfl) zeroT_22 rfl (by omega) ho (src_one (upd_at _ _ _) hone) (by omega) (by omega) fun v4 H4 hres4 => ?_
    simp only [XA, XB, gateX, Nat.reduceAdd, Nat.reduceLeDiff, Nat.reduceSub, Nat.reduceMul, ↓reduceIte, Int.reduceToNat, Int.reduceLE, beq_self_eq_true]
    refine hK _ ?_
    first | refine XWP.reg (by kernel_rfl) fun K hK => ?_ | refine XWP.seq (XWP.reg (by kernel_rfl) fun K hK => ?_) | refine XWP.reg1 (by kernel_rfl) fun K hK => ?_
    simp only [XA, XB, gateX, Nat.reduceAdd, Nat.reduceLeDiff, Nat.reduceSub, Nat.reduceMul, ↓reduceIte, Int.reduceToNat, Int.reduceLE, beq_self_eq_true, i64_succ (n + i) (by omega)]
    have hg4 := GridAt.snoc ho hc (by omega) (own_upd hown3 hb5) hrow' hres4
    refine hK _ ⟨d - 1, by omega, fun f => ⟨i + 1, V7, _, _, StIs.of (by exact rfl), View.le_trans hV6 hV7, by omega, hg4.congr fun i' j' h1 h2 => ?_⟩⟩
    split
    · rename_i e; rw [e]
    · rfl
    --}
  obtain ⟨R, hR⟩ : ∃ R, R = l.length - n := ⟨_, rfl⟩
  rw [← hR]
  rintro s ⟨V6, H6, w6, hs, hV6, hgrid⟩
  obtain ⟨z, rfl⟩ := hs.out
  try dsimp only
  clear hs
  obtain ⟨A6, c6, rfl⟩ := hgrid.form
  first | refine XWP.reg (by kernel_rfl) fun K hK => ?_ | refine XWP.seq (XWP.reg (by kernel_rfl) fun K hK => ?_) | refine XWP.reg1 (by kernel_rfl) fun K hK => ?_
  simp only [XA, XB, gateX, Nat.reduceAdd, Nat.reduceLeDiff, Nat.reduceSub, Nat.reduceMul, ↓reduceIte, Int.reduceToNat, Int.reduceLE, beq_self_eq_true]
  refine mk_go rfl rfl elemT_22 zeroT_34 (by omega) (by omega) (by omega) (by omega) rfl (by omega) fun go hgo1 hgo2 => ?_
  simp only [XA, XB, gateX, Nat.reduceAdd, Nat.reduceLeDiff, Nat.reduceSub, Nat.reduceMul, ↓reduceIte, Int.reduceToNat, Int.reduceLE, beq_self_eq_true]
  refine hK _ ?_
  first | refine XWP.reg (by kernel_rfl) fun K hK => ?_ | refine XWP.seq (XWP.reg (by kernel_rfl) fun K hK => ?_) | refine XWP.reg1 (by kernel_rfl) fun K hK => ?_
  simp only [XA, XB, gateX, Nat.reduceAdd, Nat.reduceLeDiff, Nat.reduceSub, Nat.reduceMul, ↓reduceIte, Int.reduceToNat, Int.reduceLE, beq_self_eq_true]
  refine hK _ ?_
  first | refine XWP.reg (by kernel_rfl) fun K hK => ?_ | refine XWP.seq (XWP.reg (by kernel_rfl) fun K hK => ?_) | refine XWP.reg1 (by kernel_rfl) fun K hK => ?_
  simp only [XA, XB, gateX, Nat.reduceAdd, Nat.reduceLeDiff, Nat.reduceSub, Nat.reduceMul, ↓reduceIte, Int.reduceToNat, Int.reduceLE, beq_self_eq_true]
  refine mk_go rfl rfl eII zeroT_3 (by omega) (by omega) (by omega) (by omega) rfl (by omega) fun gw hgw1 hgw2 => ?_
  simp only [XA, XB, gateX, Nat.reduceAdd, Nat.reduceLeDiff, Nat.reduceSub, Nat.reduceMul, ↓reduceIte, Int.reduceToNat, Int.reduceLE, beq_self_eq_true]
  refine hK _ ?_
  have hgne : go ≠ gw := fun e => by subst e; simp only [upd_at] at hgw1; cases hgw1
  obtain ⟨H0, hH0⟩ : ∃ H0, H0 = upd (upd H6 go (some ⟨34, (List.replicate n [Value.bool false, .slice none 0 0, .slice none 0 0]).flatten, n * 3⟩)) gw (some ⟨3, (List.replicate n [Value.int .i64 0]).flatten, n⟩) := ⟨_, rfl⟩
  have hmem : KMem H0 V6 (.slice A6 R c6) R n go gw (grid0 l n) (fun _ => 0) 0 := by
    have g1 := (hgrid.avoid hgo1).alloc (r := some ⟨34, (List.replicate n [Value.bool false, .slice none 0 0, .slice none 0 0]).flatten, n * 3⟩) hgo1
    rw [hH0]
    refine ⟨g1.alloc hgw1, ⟨_, _, upd_at _ _ _, by simp, fun c hc => by omega⟩, ⟨_, _, by unfold upd; rw [if_neg hgne, if_pos rfl], RowAt.new V6 n⟩⟩
  have hinv : KInv l n R B (grid0 l n) (fun _ => 0) 0 0 := ⟨g_zero _ _ _, fun x => Iff.rfl, fun i j hi hj => by
    unfold grid0; split
    · exact hB _ (cf_mem (by omega))
    · exact hB _ (cf_mem (by omega))⟩
  rw [← hH0]
  clear hgrid hgo1 hgo2 hgw1 hgw2 hH0
  refine XWP.cutD 0 (fun s => ∃ (V8 : View) (H8 : Heap) (t : Nat) (G : Grid) (wh : Nat → Int), StIs (fun τ => [.v (.slice A1 l.length c1), .v (.int .i64 (n : Int)), τ 2, τ 3, τ 4, τ 5, .v (.slice A6 R c6), τ 7, τ 8, τ 9, .v (.slice (some ⟨go, 0, none⟩) n n), .v (.int .i64 (t : Int)), .v (.slice (some ⟨gw, 0, none⟩) n n), τ 13, τ 14, τ 15, τ 16, τ 17, τ 18, τ 19, τ 20, τ 21, τ 22, τ 23, τ 24, τ 25, τ 26, τ 27, τ 28, τ 29, τ 30, τ 31, τ 32, τ 33, τ 34, τ 35, τ 36, τ 37, τ 38, τ 39, τ 40, τ 41, τ 42, τ 43, τ 44, τ 45, τ 46, τ 47, τ 48, τ 49, τ 50, τ 51, τ 52, τ 53, τ 54, τ 55, τ 56, τ 57, τ 58, τ 59, τ 60, τ 61, τ 62, τ 63, τ 64, τ 65, τ 66, τ 67, τ 68, τ 69, τ 70, τ 71, τ 72, τ 73, τ 74, τ 75, τ 76, τ 77, τ 78, τ 79, τ 80, τ 81, τ 82, τ 83, τ 84, τ 85, τ 86, τ 87, τ 88, τ 89, τ 90, τ 91, τ 92, τ 93, τ 94, τ 95, τ 96, τ 97, τ 98, τ 99, τ 100, τ 101, τ 102, τ 103, τ 104, τ 105, τ 106, τ 107, τ 108, τ 109, τ 110, τ 111, τ 112, τ 113, τ 114, τ 115, τ 116, τ 117, τ 118, τ 119, τ 120, τ 121, τ 122, τ 123, τ 124, τ 125, τ 126, τ 127, τ 128, τ 129, τ 130, τ 131, τ 132, τ 133, τ 134, τ 135, τ 136, τ 137, τ 138, τ 139, τ 140, τ 141, τ 142, τ 143, τ 144, τ 145, τ 146, τ 147, τ 148, τ 149, τ 150, τ 151, τ 152, τ 153, τ 154, τ 155, τ 156, τ 157, τ 158, τ 159, τ 160, τ 161, τ 162, τ 163, τ 164, τ 165, τ 166, τ 167, τ 168, τ 169, τ 170, τ 171, τ 172, τ 173, τ 174, τ 175, τ 176, τ 177, τ 178, τ 179, τ 180, τ 181, τ 182, τ 183, τ 184, τ 185, τ 186, τ 187, τ 188, τ 189, τ 190, τ 191, τ 192, τ 193, τ 194, τ 195, τ 196, τ 197, τ 198, τ 199, τ 200, τ 201, τ 202, τ 203, τ 204, τ 205, τ 206, τ 207, τ 208, τ 209, τ 210, τ 211, τ 212, τ 213, τ 214, τ 215, τ 216, τ 217, τ 218, τ 219, τ 220, τ 221, τ 222, τ 223, τ 224, τ 225, τ 226, τ 227, τ 228, τ 229, τ 230, τ 231, τ 232, τ 233, τ 234, τ 235, τ 236, τ 237, τ 238, τ 239, τ 240, τ 241, τ 242, τ 243, τ 244]) [] H8 V8 s ∧ V6.le V8 ∧ KMem H8 V8 (.slice A6 R c6) R n go gw G wh n ∧ KInv l n R B G wh n t) ?_ ?_
  · --{
    first | refine XWP.reg (by kernel_rfl) fun K hK => ?_ | refine XWP.seq (XWP.reg (by kernel_rfl) fun K hK => ?_) | refine XWP.reg1 (by kernel_rfl) fun K hK => ?_
    simp only [XA, XB, gateX, Nat.reduceAdd, Nat.reduceLeDiff, Nat.reduceSub, Nat.reduceMul, ↓reduceIte, Int.reduceToNat, Int.reduceLE, beq_self_eq_true]
    refine hK _ ?_
    clear hK
    first | refine XWP.block ?_ | refine XWP.seq (XWP.block ?_)
    refine XWP.loopD 0 (fun d s => ∃ (k : Nat) (V8 : View) (H8 : Heap) (t : Nat) (G : Grid) (wh : Nat → Int), StIs (fun τ => [.v (.slice A1 l.length c1), .v (.int .i64 (n : Int)), τ 2, τ 3, τ 4, τ 5, .v (.slice A6 R c6), τ 7, τ 8, τ 9, .v (.slice (some ⟨go, 0, none⟩) n n), .v (.int .i64 (t : Int)), .v (.slice (some ⟨gw, 0, none⟩) n n), .v (.int .i64 (k : Int)), τ 14, τ 15, τ 16, τ 17, τ 18, τ 19, τ 20, τ 21, τ 22, τ 23, τ 24, τ 25, τ 26, τ 27, τ 28, τ 29, τ 30, τ 31, τ 32, τ 33, τ 34, τ 35, τ 36, τ 37, τ 38, τ 39, τ 40, τ 41, τ 42, τ 43, τ 44, τ 45, τ 46, τ 47, τ 48, τ 49, τ 50, τ 51, τ 52, τ 53, τ 54, τ 55, τ 56, τ 57, τ 58, τ 59, τ 60, τ 61, τ 62, τ 63, τ 64, τ 65, τ 66, τ 67, τ 68, τ 69, τ 70, τ 71, τ 72, τ 73, τ 74, τ 75, τ 76, τ 77, τ 78, τ 79, τ 80, τ 81, τ 82, τ 83, τ 84, τ 85, τ 86, τ 87, τ 88, τ 89, τ 90, τ 91, τ 92, τ 93, τ 94, τ 95, τ 96, τ 97, τ 98, τ 99, τ 100, τ 101, τ 102, τ 103, τ 104, τ 105, τ 106, τ 107, τ 108, τ 109, τ 110, τ 111, τ 112, τ 113, τ 114, τ 115, τ 116, τ 117, τ 118, τ 119, τ 120, τ 121, τ 122, τ 123, τ 124, τ 125, τ 126, τ 127, τ 128, τ 129, τ 130, τ 131, τ 132, τ 133, τ 134, τ 135, τ 136, τ 137, τ 138, τ 139, τ 140, τ 141, τ 142, τ 143, τ 144, τ 145, τ 146, τ 147, τ 148, τ 149, τ 150, τ 151, τ 152, τ 153, τ 154, τ 155, τ 156, τ 157, τ 158, τ 159, τ 160, τ 161, τ 162, τ 163, τ 164, τ 165, τ 166, τ 167, τ 168, τ 169, τ 170, τ 171, τ 172, τ 173, τ 174, τ 175, τ 176, τ 177, τ 178, τ 179, τ 180, τ 181, τ 182, τ 183, τ 184, τ 185, τ 186, τ 187, τ 188, τ 189, τ 190, τ 191, τ 192, τ 193, τ 194, τ 195, τ 196, τ 197, τ 198, τ 199, τ 200, τ 201, τ 202, τ 203, τ 204, τ 205, τ 206, τ 207, τ 208, τ 209, τ 210, τ 211, τ 212, τ 213, τ 214, τ 215, τ 216, τ 217, τ 218, τ 219, τ 220, τ 221, τ 222, τ 223, τ 224, τ 225, τ 226, τ 227, τ 228, τ 229, τ 230, τ 231, τ 232, τ 233, τ 234, τ 235, τ 236, τ 237, τ 238, τ 239, τ 240, τ 241, τ 242, τ 243, τ 244]) [] H8 V8 s ∧ V6.le V8 ∧ d + k = n ∧ KMem H8 V8 (.slice A6 R c6) R n go gw G wh k ∧ KInv l n R B G wh k t) n ⟨0, V6, H0, 0, _, _, StIs.of (by exact rfl), View.le_refl _, by omega, hmem, hinv⟩ ?_
    clear hmem hinv
    rintro d s ⟨k, V8, H8, t, G, wh, hs, hV8, hd, hmem, hinv⟩
    obtain ⟨z, rfl⟩ := hs.out
    try dsimp only
    clear hs
    refine XWP.seq ?_
    by_cases hk : k < n
    rotate_left
    · obtain rfl : k = n := by omega
      have b2 : decide ((k : Int) < (k : Int)) = false := decide_eq_false (by omega)
      first | refine XWP.reg (by kernel_rfl) fun K hK => ?_ | refine XWP.seq (XWP.reg (by kernel_rfl) fun K hK => ?_) | refine XWP.reg1 (by kernel_rfl) fun K hK => ?_
      simp only [XA, XB, gateX, Nat.reduceAdd, Nat.reduceLeDiff, Nat.reduceSub, Nat.reduceMul, ↓reduceIte, Int.reduceToNat, Int.reduceLE, beq_self_eq_true, b2]
      refine hK _ ?_
      first | refine XWP.cond (t := false) rfl (fun h => by cases h) (fun _ => ?_) | refine XWP.seq (XWP.cond (t := false) rfl (fun h => by cases h) (fun _ => ?_))
      refine XWP.exit ?_
      exact fun f => ⟨V8, H8, t, G, wh, StIs.of (by exact rfl), hV8, hmem, hinv⟩
    have b2 : decide ((k : Int) < (n : Int)) = true := decide_eq_true (by omega)
    first | refine XWP.reg (by kernel_rfl) fun K hK => ?_ | refine XWP.seq (XWP.reg (by kernel_rfl) fun K hK => ?_) | refine XWP.reg1 (by kernel_rfl) fun K hK => ?_
    simp only [XA, XB, gateX, Nat.reduceAdd, Nat.reduceLeDiff, Nat.reduceSub, Nat.reduceMul, ↓reduceIte, Int.reduceToNat, Int.reduceLE, beq_self_eq_true, b2]
    refine hK _ ?_
    first | refine XWP.cond (t := true) rfl (fun _ => ?_) (fun h => by cases h) | refine XWP.seq (XWP.cond (t := true) rfl (fun _ => ?_) (fun h => by cases h))
    refine XWP.skip ?_
    have ht := hinv.inv.le
    refine XWP.cutD 0 (fun s => ∃ (V9 : View) (H9 : Heap) (t : Nat) (G : Grid) (wh : Nat → Int), StIs (fun τ => [.v (.slice A1 l.length c1), .v (.int .i64 (n : Int)), τ 2, τ 3, τ 4, τ 5, .v (.slice A6 R c6), τ 7, τ 8, τ 9, .v (.slice (some ⟨go, 0, none⟩) n n), .v (.int .i64 (t : Int)), .v (.slice (some ⟨gw, 0, none⟩) n n), .v (.int .i64 (k : Int)), τ 14, τ 15, τ 16, τ 17, τ 18, τ 19, τ 20, τ 21, τ 22, τ 23, τ 24, τ 25, τ 26, τ 27, τ 28, τ 29, τ 30, τ 31, τ 32, τ 33, τ 34, τ 35, τ 36, τ 37, τ 38, τ 39, τ 40, τ 41, τ 42, τ 43, τ 44, τ 45, τ 46, τ 47, τ 48, τ 49, τ 50, τ 51, τ 52, τ 53, τ 54, τ 55, τ 56, τ 57, τ 58, τ 59, τ 60, τ 61, τ 62, τ 63, τ 64, τ 65, τ 66, τ 67, τ 68, τ 69, τ 70, τ 71, τ 72, τ 73, τ 74, τ 75, τ 76, τ 77, τ 78, τ 79, τ 80, τ 81, τ 82, τ 83, τ 84, τ 85, τ 86, τ 87, τ 88, τ 89, τ 90, τ 91, τ 92, τ 93, τ 94, τ 95, τ 96, τ 97, τ 98, τ 99, τ 100, τ 101, τ 102, τ 103, τ 104, τ 105, τ 106, τ 107, τ 108, τ 109, τ 110, τ 111, τ 112, τ 113, τ 114, τ 115, τ 116, τ 117, τ 118, τ 119, τ 120, τ 121, τ 122, τ 123, τ 124, τ 125, τ 126, τ 127, τ 128, τ 129, τ 130, τ 131, τ 132, τ 133, τ 134, τ 135, τ 136, τ 137, τ 138, τ 139, τ 140, τ 141, τ 142, τ 143, τ 144, τ 145, τ 146, τ 147, τ 148, τ 149, τ 150, τ 151, τ 152, τ 153, τ 154, τ 155, τ 156, τ 157, τ 158, τ 159, τ 160, τ 161, τ 162, τ 163, τ 164, τ 165, τ 166, τ 167, τ 168, τ 169, τ 170, τ 171, τ 172, τ 173, τ 174, τ 175, τ 176, τ 177, τ 178, τ 179, τ 180, τ 181, τ 182, τ 183, τ 184, τ 185, τ 186, τ 187, τ 188, τ 189, τ 190, τ 191, τ 192, τ 193, τ 194, τ 195, τ 196, τ 197, τ 198, τ 199, τ 200, τ 201, τ 202, τ 203, τ 204, τ 205, τ 206, τ 207, τ 208, τ 209, τ 210, τ 211, τ 212, τ 213, τ 214, τ 215, τ 216, τ 217, τ 218, τ 219, τ 220, τ 221, τ 222, τ 223, τ 224, τ 225, τ 226, τ 227, τ 228, τ 229, τ 230, τ 231, τ 232, τ 233, τ 234, τ 235, τ 236, τ 237, τ 238, τ 239, τ 240, τ 241, τ 242, τ 243, τ 244]) [] H9 V9 s ∧ V8.le V9 ∧ KMem H9 V9 (.slice A6 R c6) R n go gw G wh (k + 1) ∧ KInv l n R B G wh (k + 1) t) ?_ ?_
    rotate_left
    · rintro s ⟨V9, H9, t', G', wh', hs, hV9, hmem', hinv'⟩
      obtain ⟨z, rfl⟩ := hs.out
      try dsimp only
      clear hs
      first | refine XWP.reg (by kernel_rfl) fun K hK => ?_ | refine XWP.seq (XWP.reg (by kernel_rfl) fun K hK => ?_) | refine XWP.reg1 (by kernel_rfl) fun K hK => ?_
      simp only [XA, XB, gateX, Nat.reduceAdd, Nat.reduceLeDiff, Nat.reduceSub, Nat.reduceMul, ↓reduceIte, Int.reduceToNat, Int.reduceLE, beq_self_eq_true, i64_succ k (by omega)]
      exact hK _ ⟨d - 1, by omega, fun f => ⟨k + 1, V9, H9, t', G', wh', StIs.of (by exact rfl), View.le_trans hV8 hV9, by omega, hmem', hinv'⟩⟩
    clear hK
    first | refine XWP.block ?_ | refine XWP.seq (XWP.block ?_)
    obtain ⟨cw, tot, hw1, hw2, hmem1⟩ := hmem.where hk (-1)
    clear hmem
    first | refine XWP.reg (by kernel_rfl) fun K hK => ?_ | refine XWP.seq (XWP.reg (by kernel_rfl) fun K hK => ?_) | refine XWP.reg1 (by kernel_rfl) fun K hK => ?_
    simp only [XA, XB, gateX, Nat.reduceAdd, Nat.reduceLeDiff, Nat.reduceSub, Nat.reduceMul, ↓reduceIte, Int.reduceToNat, Int.reduceLE, beq_self_eq_true, eRR, kRR, eII, kII]
    refine ⟨by omega, by omega, ?_⟩
    refine st_row shapeT_3 rfl rfl hw1 (by dsimp only; omega) ?_
    simp only [XA, XB, gateX, Nat.reduceAdd, Nat.reduceLeDiff, Nat.reduceSub, Nat.reduceMul, ↓reduceIte, Int.reduceToNat, Int.reduceLE, beq_self_eq_true]
    refine hK _ ?_
    obtain ⟨H9, hH9⟩ : ∃ H9, H9 = upd H8 gw (some ⟨3, cw.set k (.int .i64 (-1)), tot⟩) := ⟨_, rfl⟩
    rw [← hH9] at hmem1
    rw [← hH9]
    clear hH9 hw1
    first | refine XWP.reg (by kernel_rfl) fun K hK => ?_ | refine XWP.seq (XWP.reg (by kernel_rfl) fun K hK => ?_) | refine XWP.reg1 (by kernel_rfl) fun K hK => ?_
    simp only [XA, XB, gateX, Nat.reduceAdd, Nat.reduceLeDiff, Nat.reduceSub, Nat.reduceMul, ↓reduceIte, Int.reduceToNat, Int.reduceLE, beq_self_eq_true]
    refine hK _ ?_
    have hfk : ge B (k + 1) ≤ 17592186044416 := Nat.le_trans (ge_mono B (by omega)) hfit
    simp only [ge] at hfk
    have hqf : ∀ i j, i < R → j < n + 1 → QF (G i j) := fun i j hi hj => (hinv.qb i j hi hj).qf (by omega)
    refine XWP.cutD 0 (fun s => ∃ (p : Nat) (V9 : View), StIs (fun τ => [.v (.slice A1 l.length c1), .v (.int .i64 (n : Int)), τ 2, τ 3, τ 4, τ 5, .v (.slice A6 R c6), τ 7, τ 8, τ 9, .v (.slice (some ⟨go, 0, none⟩) n n), .v (.int .i64 (t : Int)), .v (.slice (some ⟨gw, 0, none⟩) n n), .v (.int .i64 (k : Int)), .v (.int .i64 (p : Int)), τ 15, τ 16, τ 17, τ 18, τ 19, τ 20, τ 21, τ 22, τ 23, τ 24, τ 25, τ 26, τ 27, τ 28, τ 29, τ 30, τ 31, τ 32, τ 33, τ 34, τ 35, τ 36, τ 37, τ 38, τ 39, τ 40, τ 41, τ 42, τ 43, τ 44, τ 45, τ 46, τ 47, τ 48, τ 49, τ 50, τ 51, τ 52, τ 53, τ 54, τ 55, τ 56, τ 57, τ 58, τ 59, τ 60, τ 61, τ 62, τ 63, τ 64, τ 65, τ 66, τ 67, τ 68, τ 69, τ 70, τ 71, τ 72, τ 73, τ 74, τ 75, τ 76, τ 77, τ 78, τ 79, τ 80, τ 81, τ 82, τ 83, τ 84, τ 85, τ 86, τ 87, τ 88, τ 89, τ 90, τ 91, τ 92, τ 93, τ 94, τ 95, τ 96, τ 97, τ 98, τ 99, τ 100, τ 101, τ 102, τ 103, τ 104, τ 105, τ 106, τ 107, τ 108, τ 109, τ 110, τ 111, τ 112, τ 113, τ 114, τ 115, τ 116, τ 117, τ 118, τ 119, τ 120, τ 121, τ 122, τ 123, τ 124, τ 125, τ 126, τ 127, τ 128, τ 129, τ 130, τ 131, τ 132, τ 133, τ 134, τ 135, τ 136, τ 137, τ 138, τ 139, τ 140, τ 141, τ 142, τ 143, τ 144, τ 145, τ 146, τ 147, τ 148, τ 149, τ 150, τ 151, τ 152, τ 153, τ 154, τ 155, τ 156, τ 157, τ 158, τ 159, τ 160, τ 161, τ 162, τ 163, τ 164, τ 165, τ 166, τ 167, τ 168, τ 169, τ 170, τ 171, τ 172, τ 173, τ 174, τ 175, τ 176, τ 177, τ 178, τ 179, τ 180, τ 181, τ 182, τ 183, τ 184, τ 185, τ 186, τ 187, τ 188, τ 189, τ 190, τ 191, τ 192, τ 193, τ 194, τ 195, τ 196, τ 197, τ 198, τ 199, τ 200, τ 201, τ 202, τ 203, τ 204, τ 205, τ 206, τ 207, τ 208, τ 209, τ 210, τ 211, τ 212, τ 213, τ 214, τ 215, τ 216, τ 217, τ 218, τ 219, τ 220, τ 221, τ 222, τ 223, τ 224, τ 225, τ 226, τ 227, τ 228, τ 229, τ 230, τ 231, τ 232, τ 233, τ 234, τ 235, τ 236, τ 237, τ 238, τ 239, τ 240, τ 241, τ 242, τ 243, τ 244]) [] H9 V9 s ∧ V8.le V9 ∧ t ≤ p ∧ p ≤ R ∧ (∀ i, t ≤ i → i < p → G i k = 0) ∧ (p < R → G p k ≠ 0)) ?_ ?_
    · --{
      first | refine XWP.block ?_ | refine XWP.seq (XWP.block ?_)
      refine XWP.loopD 0 (fun d s => ∃ (p : Nat) (V9 : View), StIs (fun τ => [.v (.slice A1 l.length c1), .v (.int .i64 (n : Int)), τ 2, τ 3, τ 4, τ 5, .v (.slice A6 R c6), τ 7, τ 8, τ 9, .v (.slice (some ⟨go, 0, none⟩) n n), .v (.int .i64 (t : Int)), .v (.slice (some ⟨gw, 0, none⟩) n n), .v (.int .i64 (k : Int)), .v (.int .i64 (p : Int)), τ 15, τ 16, τ 17, τ 18, τ 19, τ 20, τ 21, τ 22, τ 23, τ 24, τ 25, τ 26, τ 27, τ 28, τ 29, τ 30, τ 31, τ 32, τ 33, τ 34, τ 35, τ 36, τ 37, τ 38, τ 39, τ 40, τ 41, τ 42, τ 43, τ 44, τ 45, τ 46, τ 47, τ 48, τ 49, τ 50, τ 51, τ 52, τ 53, τ 54, τ 55, τ 56, τ 57, τ 58, τ 59, τ 60, τ 61, τ 62, τ 63, τ 64, τ 65, τ 66, τ 67, τ 68, τ 69, τ 70, τ 71, τ 72, τ 73, τ 74, τ 75, τ 76, τ 77, τ 78, τ 79, τ 80, τ 81, τ 82, τ 83, τ 84, τ 85, τ 86, τ 87, τ 88, τ 89, τ 90, τ 91, τ 92, τ 93, τ 94, τ 95, τ 96, τ 97, τ 98, τ 99, τ 100, τ 101, τ 102, τ 103, τ 104, τ 105, τ 106, τ 107, τ 108, τ 109, τ 110, τ 111, τ 112, τ 113, τ 114, τ 115, τ 116, τ 117, τ 118, τ 119, τ 120, τ 121, τ 122, τ 123, τ 124, τ 125, τ 126, τ 127, τ 128, τ 129, τ 130, τ 131, τ 132, τ 133, τ 134, τ 135, τ 136, τ 137, τ 138, τ 139, τ 140, τ 141, τ 142, τ 143, τ 144, τ 145, τ 146, τ 147, τ 148, τ 149, τ 150, τ 151, τ 152, τ 153, τ 154, τ 155, τ 156, τ 157, τ 158, τ 159, τ 160, τ 161, τ 162, τ 163, τ 164, τ 165, τ 166, τ 167, τ 168, τ 169, τ 170, τ 171, τ 172, τ 173, τ 174, τ 175, τ 176, τ 177, τ 178, τ 179, τ 180, τ 181, τ 182, τ 183, τ 184, τ 185, τ 186, τ 187, τ 188, τ 189, τ 190, τ 191, τ 192, τ 193, τ 194, τ 195, τ 196, τ 197, τ 198, τ 199, τ 200, τ 201, τ 202, τ 203, τ 204, τ 205, τ 206, τ 207, τ 208, τ 209, τ 210, τ 211, τ 212, τ 213, τ 214, τ 215, τ 216, τ 217, τ 218, τ 219, τ 220, τ 221, τ 222, τ 223, τ 224, τ 225, τ 226, τ 227, τ 228, τ 229, τ 230, τ 231, τ 232, τ 233, τ 234, τ 235, τ 236, τ 237, τ 238, τ 239, τ 240, τ 241, τ 242, τ 243, τ 244]) [] H9 V9 s ∧ V8.le V9 ∧ d + p = R ∧ t ≤ p ∧ (∀ i, t ≤ i → i < p → G i k = 0)) (R - t) ⟨t, V8, StIs.of (by exact rfl), View.le_refl _, by omega, Nat.le_refl _, fun i h1 h2 => by omega⟩ ?_
      rintro d2 s ⟨p, V9, hs, hV9, hd2, hp, hz⟩
      obtain ⟨z, rfl⟩ := hs.out
      try dsimp only
      clear hs
      refine XWP.seq ?_
      by_cases hpR : p < R
      rotate_left
      · have b3 : decide ((p : Int) < (R : Int)) = false := decide_eq_false (by omega)
        first | refine XWP.reg (by kernel_rfl) fun K hK => ?_ | refine XWP.seq (XWP.reg (by kernel_rfl) fun K hK => ?_) | refine XWP.reg1 (by kernel_rfl) fun K hK => ?_
        simp only [XA, XB, gateX, Nat.reduceAdd, Nat.reduceLeDiff, Nat.reduceSub, Nat.reduceMul, ↓reduceIte, Int.reduceToNat, Int.reduceLE, beq_self_eq_true, b3, eRR, kRR, eII, kII]
        refine hK _ ?_
        first | refine XWP.cond (t := false) rfl (fun h => by cases h) (fun _ => ?_) | refine XWP.seq (XWP.cond (t := false) rfl (fun h => by cases h) (fun _ => ?_))
        refine XWP.exit ?_
        exact fun f => ⟨p, V9, StIs.of (by exact rfl), hV9, hp, by omega, hz, fun h => absurd h hpR⟩
      have b3 : decide ((p : Int) < (R : Int)) = true := decide_eq_true (by omega)
      obtain ⟨g, cap, b, c, cs, e6, hl1, hb, hcl, hc, hget, _⟩ := (hmem1.mono hV9).at hpR
      cases e6
      obtain ⟨x, y, w, hx, ⟨o1, o2, o3⟩, hl2⟩ := hget k (by omega)
      first | refine XWP.reg (by kernel_rfl) fun K hK => ?_ | refine XWP.seq (XWP.reg (by kernel_rfl) fun K hK => ?_) | refine XWP.reg1 (by kernel_rfl) fun K hK => ?_
      simp only [XA, XB, gateX, Nat.reduceAdd, Nat.reduceLeDiff, Nat.reduceSub, Nat.reduceMul, ↓reduceIte, Int.reduceToNat, Int.reduceLE, beq_self_eq_true, b3, eRR, kRR, eII, kII]
      refine ⟨by omega, by omega, ld_mem hl1 ?_⟩
      simp only [XA, XB, gateX, Nat.reduceAdd, Nat.reduceLeDiff, Nat.reduceSub, Nat.reduceMul, ↓reduceIte, Int.reduceToNat, Int.reduceLE, beq_self_eq_true, eRR, kRR, eII, kII]
      refine ⟨by omega, by omega, ld_mem hl2 ?_⟩
      simp only [XA, XB, gateX, Nat.reduceAdd, Nat.reduceLeDiff, Nat.reduceSub, Nat.reduceMul, ↓reduceIte, Int.reduceToNat, Int.reduceLE, beq_self_eq_true]
      refine call_go (by kernel_rfl) rfl (psign_c _ _ _ (hx.toV (hqf p k hpR (by omega)))) fun v10 V10 hV10 h10 => ?_
      subst h10
      by_cases hz0 : G p k = 0
      · have b4 : decide (G p k = 0) = true := decide_eq_true hz0
        simp only [XA, XB, gateX, Nat.reduceAdd, Nat.reduceLeDiff, Nat.reduceSub, Nat.reduceMul, ↓reduceIte, Int.reduceToNat, Int.reduceLE, beq_self_eq_true, sgI_zero, b4]
        refine hK _ ?_
        first | refine XWP.cond (t := true) rfl (fun _ => ?_) (fun h => by cases h) | refine XWP.seq (XWP.cond (t := true) rfl (fun _ => ?_) (fun h => by cases h))
        refine XWP.skip ?_
        first | refine XWP.block ?_ | refine XWP.seq (XWP.block ?_)
        first | refine XWP.reg (by kernel_rfl) fun K hK => ?_ | refine XWP.seq (XWP.reg (by kernel_rfl) fun K hK => ?_) | refine XWP.reg1 (by kernel_rfl) fun K hK => ?_
        simp only [XA, XB, gateX, Nat.reduceAdd, Nat.reduceLeDiff, Nat.reduceSub, Nat.reduceMul, ↓reduceIte, Int.reduceToNat, Int.reduceLE, beq_self_eq_true, i64_succ p (by omega)]
        refine hK _ ⟨d2 - 1, by omega, fun f => ⟨p + 1, V10, StIs.of (by exact rfl), View.le_trans hV9 hV10, by omega, by omega, fun i h1 h2 => ?_⟩⟩
        by_cases e : i = p
        · rw [e]; exact hz0
        · exact hz i h1 (by omega)
      · have b4 : decide (G p k = 0) = false := decide_eq_false hz0
        simp only [XA, XB, gateX, Nat.reduceAdd, Nat.reduceLeDiff, Nat.reduceSub, Nat.reduceMul, ↓reduceIte, Int.reduceToNat, Int.reduceLE, beq_self_eq_true, sgI_zero, b4]
        refine hK _ ?_
        first | refine XWP.cond (t := false) rfl (fun h => by cases h) (fun _ => ?_) | refine XWP.seq (XWP.cond (t := false) rfl (fun h => by cases h) (fun _ => ?_))
        refine XWP.exit ?_
        exact fun f => ⟨p, V10, StIs.of (by exact rfl), View.le_trans hV9 hV10, hp, by omega, hz, fun _ => hz0⟩
      --}
    rintro s ⟨p, V9, hs, hV9, hp1, hp2, hz, hnz⟩
    obtain ⟨z, rfl⟩ := hs.out
    try dsimp only
    clear hs
    refine XWP.seq ?_
    by_cases hpR : p < R
    rotate_left
    · obtain rfl : p = R := by omega
      have b3 : decide ((p : Int) = (p : Int)) = true := decide_eq_true (by omega)
      first | refine XWP.reg (by kernel_rfl) fun K hK => ?_ | refine XWP.seq (XWP.reg (by kernel_rfl) fun K hK => ?_) | refine XWP.reg1 (by kernel_rfl) fun K hK => ?_
      simp only [XA, XB, gateX, Nat.reduceAdd, Nat.reduceLeDiff, Nat.reduceSub, Nat.reduceMul, ↓reduceIte, Int.reduceToNat, Int.reduceLE, beq_self_eq_true, b3, eRR, kRR, eII, kII]
      refine hK _ ?_
      first | refine XWP.cond (t := true) rfl (fun _ => ?_) (fun h => by cases h) | refine XWP.seq (XWP.cond (t := true) rfl (fun _ => ?_) (fun h => by cases h))
      refine XWP.exit ?_
      exact fun f => ⟨V9, H9, t, G, _, StIs.of (by exact rfl), hV9, hmem1.mono hV9, hinv.free hz⟩
    have b3 : decide ((p : Int) = (R : Int)) = false := decide_eq_false (by omega)
    first | refine XWP.reg (by kernel_rfl) fun K hK => ?_ | refine XWP.seq (XWP.reg (by kernel_rfl) fun K hK => ?_) | refine XWP.reg1 (by kernel_rfl) fun K hK => ?_
    simp only [XA, XB, gateX, Nat.reduceAdd, Nat.reduceLeDiff, Nat.reduceSub, Nat.reduceMul, ↓reduceIte, Int.reduceToNat, Int.reduceLE, beq_self_eq_true, b3, eRR, kRR, eII, kII]
    refine hK _ ?_
    first | refine XWP.cond (t := false) rfl (fun h => by cases h) (fun _ => ?_) | refine XWP.seq (XWP.cond (t := false) rfl (fun h => by cases h) (fun _ => ?_))
    refine XWP.skip ?_
    have hnz := hnz hpR
    have hpiv := hinv.piv hk hp1 hpR hnz
    have hq2 : ∀ i j, i < R → j < n + 1 → QB (ge B k) (gsw G p t i j) := fun i j hi hj => hinv.qb _ j (swp_lt hpR (by omega) hi) hj
    have e0 : gsw G p t t k ≠ 0 := by
      have et : swp p t t = p := by unfold swp; split <;> (try split) <;> omega
      unfold gsw; rw [et]; exact hnz
    have hmem2 := (hmem1.mono hV9).swap hpR (show t < R by omega)
    clear hmem1
    obtain ⟨g, cap, cells, vp, vt, e6, hg, hcl, hlp, hlt, op, ot, hmem2⟩ := hmem2
    cases e6
    (first | refine XWP.drw [0, 1, 2, 3, 4, 5, 6, 7, 8, 9, 10, 11, 12, 13, 14, 15] (by kernel_rfl) (by kernel_rfl) (by kernel_rfl) fun K hK => ?_ | refine XWP.seq (XWP.drw [0, 1, 2, 3, 4, 5, 6, 7, 8, 9, 10, 11, 12, 13, 14, 15] (by kernel_rfl) (by kernel_rfl) (by kernel_rfl) fun K hK => ?_) | refine XWP.drw1 [0, 1, 2, 3, 4, 5, 6, 7, 8, 9, 10, 11, 12, 13, 14, 15] (by kernel_rfl) (by kernel_rfl) (by kernel_rfl) fun K hK => ?_) <;> dsimp only [pickOps, List.getElem?_cons_zero, List.getElem?_cons_succ]
    simp only [XA, XB, gateX, Nat.reduceAdd, Nat.reduceLeDiff, Nat.reduceSub, Nat.reduceMul, ↓reduceIte, Int.reduceToNat, Int.reduceLE, beq_self_eq_true, eRR, kRR, eII, kII]
    refine ⟨by omega, by omega, ld_mem hlt ?_⟩
    simp only [XA, XB, gateX, Nat.reduceAdd, Nat.reduceLeDiff, Nat.reduceSub, Nat.reduceMul, ↓reduceIte, Int.reduceToNat, Int.reduceLE, beq_self_eq_true, eRR, kRR, eII, kII]
    refine ⟨by omega, by omega, ld_mem hlp ?_⟩
    simp only [XA, XB, gateX, Nat.reduceAdd, Nat.reduceLeDiff, Nat.reduceSub, Nat.reduceMul, ↓reduceIte, Int.reduceToNat, Int.reduceLE, beq_self_eq_true, eRR, kRR, eII, kII]
    refine ⟨by omega, by omega, ?_⟩
    refine st_row shapeT_22 ot rfl hg (by dsimp only; omega) ?_
    simp only [XA, XB, gateX, Nat.reduceAdd, Nat.reduceLeDiff, Nat.reduceSub, Nat.reduceMul, ↓reduceIte, Int.reduceToNat, Int.reduceLE, beq_self_eq_true, eRR, kRR, eII, kII]
    refine ⟨by omega, by omega, ?_⟩
    refine st_row shapeT_22 op rfl (upd_at _ _ _) (by simp only [List.length_set]; omega) ?_
    simp only [XA, XB, gateX, Nat.reduceAdd, Nat.reduceLeDiff, Nat.reduceSub, Nat.reduceMul, ↓reduceIte, Int.reduceToNat, Int.reduceLE, beq_self_eq_true]
    refine hK _ ?_
    obtain ⟨H2, hH2⟩ : ∃ H2, H2 = upd (upd H9 g (some ⟨22, cells.set p vt, c6 * 1⟩)) g (some ⟨22, (cells.set p vt).set t vp, c6 * 1⟩) := ⟨_, rfl⟩
    rw [← hH2] at hmem2
    simp only [Nat.mul_one] at hH2
    rw [← hH2]
    clear hH2 hlp hlt op ot hg hcl hz
    generalize gsw G p t = G2 at *
    have hqf2 : ∀ i j, i < R → j < n + 1 → QF (G2 i j) := fun i j hi hj => (hq2 i j hi hj).qf (by omega)
    obtain ⟨g', cap', b, c, cs, e6, hl1, hb, hcl, hc, hget, _⟩ := hmem2.at (show t < R by omega)
    cases e6
    obtain ⟨x, y, w, hx, ⟨o1, o2, o3⟩, hl2⟩ := hget k (by omega)
    first | refine XWP.reg (by kernel_rfl) fun K hK => ?_ | refine XWP.seq (XWP.reg (by kernel_rfl) fun K hK => ?_) | refine XWP.reg1 (by kernel_rfl) fun K hK => ?_
    simp only [XA, XB, gateX, Nat.reduceAdd, Nat.reduceLeDiff, Nat.reduceSub, Nat.reduceMul, ↓reduceIte, Int.reduceToNat, Int.reduceLE, beq_self_eq_true, eRR, kRR, eII, kII]
    refine ⟨by omega, by omega, ld_mem hl1 ?_⟩
    simp only [XA, XB, gateX, Nat.reduceAdd, Nat.reduceLeDiff, Nat.reduceSub, Nat.reduceMul, ↓reduceIte, Int.reduceToNat, Int.reduceLE, beq_self_eq_true, eRR, kRR, eII, kII]
    refine ⟨by omega, by omega, ld_mem hl2 ?_⟩
    simp only [XA, XB, gateX, Nat.reduceAdd, Nat.reduceLeDiff, Nat.reduceSub, Nat.reduceMul, ↓reduceIte, Int.reduceToNat, Int.reduceLE, beq_self_eq_true]
    refine st_rat rfl rfl o1 o2 o3 ?_
    simp only [XA, XB, gateX, Nat.reduceAdd, Nat.reduceLeDiff, Nat.reduceSub, Nat.reduceMul, ↓reduceIte, Int.reduceToNat, Int.reduceLE, beq_self_eq_true]
    refine hK _ ?_
    clear hl1 hb hcl hc hget hl2
    refine XWP.cutD 0 (fun s => ∃ (V10 : View) (H10 : Heap), StIs (fun τ => [.v (.slice A1 l.length c1), .v (.int .i64 (n : Int)), τ 2, τ 3, τ 4, τ 5, .v (.slice (some ⟨g, 0, none⟩) R c6), τ 7, τ 8, τ 9, .v (.slice (some ⟨go, 0, none⟩) n n), .v (.int .i64 (t : Int)), .v (.slice (some ⟨gw, 0, none⟩) n n), .v (.int .i64 (k : Int)), τ 14, τ 15, τ 16, τ 17, τ 18, τ 19, τ 20, τ 21, τ 22, τ 23, τ 24, τ 25, τ 26, τ 27, τ 28, τ 29, τ 30, τ 31, τ 32, τ 33, τ 34, τ 35, τ 36, τ 37, τ 38, τ 39, τ 40, τ 41, τ 42, τ 43, τ 44, τ 45, τ 46, τ 47, τ 48, τ 49, τ 50, τ 51, τ 52, τ 53, τ 54, τ 55, τ 56, τ 57, τ 58, τ 59, τ 60, τ 61, τ 62, τ 63, τ 64, τ 65, τ 66, τ 67, τ 68, τ 69, τ 70, τ 71, τ 72, τ 73, τ 74, τ 75, τ 76, τ 77, τ 78, τ 79, τ 80, τ 81, τ 82, τ 83, τ 84, τ 85, τ 86, τ 87, τ 88, τ 89, τ 90, τ 91, τ 92, τ 93, τ 94, τ 95, τ 96, τ 97, τ 98, τ 99, τ 100, τ 101, τ 102, τ 103, τ 104, τ 105, τ 106, τ 107, τ 108, τ 109, τ 110, τ 111, τ 112, τ 113, τ 114, τ 115, τ 116, τ 117, τ 118, τ 119, τ 120, τ 121, τ 122, τ 123, τ 124, τ 125, τ 126, τ 127, τ 128, τ 129, τ 130, τ 131, τ 132, τ 133, τ 134, τ 135, τ 136, τ 137, τ 138, τ 139, τ 140, τ 141, τ 142, τ 143, τ 144, τ 145, τ 146, τ 147, τ 148, τ 149, τ 150, τ 151, τ 152, τ 153, τ 154, τ 155, τ 156, τ 157, τ 158, τ 159, τ 160, τ 161, τ 162, τ 163, τ 164, τ 165, τ 166, τ 167, τ 168, τ 169, τ 170, τ 171, τ 172, τ 173, τ 174, τ 175, τ 176, τ 177, τ 178, τ 179, τ 180, τ 181, τ 182, τ 183, τ 184, τ 185, τ 186, τ 187, τ 188, τ 189, τ 190, τ 191, τ 192, τ 193, τ 194, τ 195, τ 196, τ 197, τ 198, τ 199, τ 200, τ 201, τ 202, τ 203, τ 204, τ 205, τ 206, τ 207, τ 208, τ 209, τ 210, τ 211, τ 212, τ 213, τ 214, τ 215, τ 216, τ 217, τ 218, τ 219, τ 220, τ 221, τ 222, τ 223, τ 224, τ 225, τ 226, τ 227, τ 228, τ 229, τ 230, τ 231, τ 232, τ 233, τ 234, τ 235, τ 236, τ 237, τ 238, τ 239, τ 240, τ 241, τ 242, τ 243, τ 244]) [] H10 V10 s ∧ V9.le V10 ∧ KMem H10 V10 (.slice (some ⟨g, 0, none⟩) R c6) R n go gw (fun i c => if i = t then G2 t c / G2 t k else G2 i c) (wset wh k (-1)) (k + 1)) ?_ ?_
    · --{
      obtain ⟨g', cap', b, c, cs, e6, hl1, hb, hcl, hc, hget, _⟩ := hmem2.at (show t < R by omega)
      cases e6
      first | refine XWP.reg (by kernel_rfl) fun K hK => ?_ | refine XWP.seq (XWP.reg (by kernel_rfl) fun K hK => ?_) | refine XWP.reg1 (by kernel_rfl) fun K hK => ?_
      simp only [XA, XB, gateX, Nat.reduceAdd, Nat.reduceLeDiff, Nat.reduceSub, Nat.reduceMul, ↓reduceIte, Int.reduceToNat, Int.reduceLE, beq_self_eq_true, eRR, kRR, eII, kII]
      refine ⟨by omega, by omega, ld_mem hl1 ?_⟩
      simp only [XA, XB, gateX, Nat.reduceAdd, Nat.reduceLeDiff, Nat.reduceSub, Nat.reduceMul, ↓reduceIte, Int.reduceToNat, Int.reduceLE, beq_self_eq_true, eRR, kRR, eII, kII]
      refine hK _ ?_
      clear hl1 hb hcl hc hget
      first | refine XWP.block ?_ | refine XWP.seq (XWP.block ?_)
      refine XWP.loopD 1 (fun d s => ∃ (j : Nat) (V10 : View) (H10 : Heap), StIs (fun τ => [.v (.slice A1 l.length c1), .v (.int .i64 (n : Int)), τ 2, τ 3, τ 4, τ 5, .v (.slice (some ⟨g, 0, none⟩) R c6), τ 7, τ 8, τ 9, .v (.slice (some ⟨go, 0, none⟩) n n), .v (.int .i64 (t : Int)), .v (.slice (some ⟨gw, 0, none⟩) n n), .v (.int .i64 (k : Int)), τ 14, .p 0 0, τ 16, τ 17, τ 18, τ 19, τ 20, τ 21, τ 22, τ 23, τ 24, τ 25, τ 26, τ 27, τ 28, τ 29, τ 30, τ 31, τ 32, τ 33, τ 34, τ 35, τ 36, τ 37, τ 38, τ 39, τ 40, τ 41, τ 42, τ 43, τ 44, τ 45, τ 46, τ 47, τ 48, τ 49, τ 50, τ 51, τ 52, τ 53, τ 54, τ 55, τ 56, τ 57, τ 58, τ 59, τ 60, τ 61, τ 62, τ 63, τ 64, τ 65, τ 66, τ 67, τ 68, τ 69, τ 70, τ 71, τ 72, τ 73, τ 74, τ 75, τ 76, τ 77, τ 78, τ 79, τ 80, τ 81, τ 82, τ 83, τ 84, τ 85, τ 86, τ 87, τ 88, τ 89, τ 90, τ 91, τ 92, τ 93, τ 94, τ 95, τ 96, τ 97, τ 98, τ 99, τ 100, τ 101, τ 102, τ 103, τ 104, τ 105, τ 106, τ 107, τ 108, τ 109, τ 110, τ 111, τ 112, .v (.int .i64 ((n + 1 : Nat) : Int)), .v (.int .i64 (j : Int)), τ 115, τ 116, τ 117, τ 118, τ 119, τ 120, τ 121, τ 122, τ 123, τ 124, τ 125, τ 126, τ 127, τ 128, τ 129, τ 130, τ 131, τ 132, τ 133, τ 134, τ 135, τ 136, τ 137, τ 138, τ 139, τ 140, τ 141, τ 142, τ 143, τ 144, τ 145, τ 146, τ 147, τ 148, τ 149, τ 150, τ 151, τ 152, τ 153, τ 154, τ 155, τ 156, τ 157, τ 158, τ 159, τ 160, τ 161, τ 162, τ 163, τ 164, τ 165, τ 166, τ 167, τ 168, τ 169, τ 170, τ 171, τ 172, τ 173, τ 174, τ 175, τ 176, τ 177, τ 178, τ 179, τ 180, τ 181, τ 182, τ 183, τ 184, τ 185, τ 186, τ 187, τ 188, τ 189, τ 190, τ 191, τ 192, τ 193, τ 194, τ 195, τ 196, τ 197, τ 198, τ 199, τ 200, τ 201, τ 202, τ 203, τ 204, τ 205, τ 206, τ 207, τ 208, τ 209, τ 210, τ 211, τ 212, τ 213, τ 214, τ 215, τ 216, τ 217, τ 218, τ 219, τ 220, τ 221, τ 222, τ 223, τ 224, τ 225, τ 226, τ 227, τ 228, τ 229, τ 230, τ 231, τ 232, τ 233, τ 234, τ 235, τ 236, τ 237, τ 238, τ 239, τ 240, τ 241, τ 242, τ 243, τ 244]) [[x, y, w]] H10 V10 s ∧ V9.le V10 ∧ d + j = n + 1 ∧ KMem H10 V10 (.slice (some ⟨g, 0, none⟩) R c6) R n go gw (fun i c => if i = t ∧ c < j then G2 t c / G2 t k else G2 i c) (wset wh k (-1)) (k + 1)) (n + 1) ⟨0, V9, H2, StIs.of (by exact rfl), View.le_refl _, by omega, hmem2.congr fun i c _ _ => by rw [if_neg (by omega)]⟩ ?_
      rintro d2 s ⟨j, V10, H10, hs, hV10, hd2, hmem3⟩
      obtain ⟨z, rfl⟩ := hs.out
      try dsimp only
      clear hs
      by_cases hj : j < n + 1
      rotate_left
      · obtain rfl : j = n + 1 := by omega
        have b4 : decide (((n + 1 : Nat) : Int) < ((n + 1 : Nat) : Int)) = false := decide_eq_false (by omega)
        first | refine XWP.reg (by kernel_rfl) fun K hK => ?_ | refine XWP.seq (XWP.reg (by kernel_rfl) fun K hK => ?_) | refine XWP.reg1 (by kernel_rfl) fun K hK => ?_
        simp only [XA, XB, gateX, Nat.reduceAdd, Nat.reduceLeDiff, Nat.reduceSub, Nat.reduceMul, ↓reduceIte, Int.reduceToNat, Int.reduceLE, beq_self_eq_true, b4]
        refine hK _ ?_
        first | refine XWP.cond (t := false) rfl (fun h => by cases h) (fun _ => ?_) | refine XWP.seq (XWP.cond (t := false) rfl (fun h => by cases h) (fun _ => ?_))
        refine XWP.exit ?_
        exact fun f => ⟨V10, H10, StIs.of (by exact rfl), hV10, hmem3.congr fun i c hi hc => by
          by_cases e : i = t
          · rw [if_pos ⟨e, hc⟩, if_pos e]
          · rw [if_neg (fun h => e h.1), if_neg e]⟩
      have b4 : decide ((j : Int) < ((n + 1 : Nat) : Int)) = true := decide_eq_true (by omega)
      first | refine XWP.reg (by kernel_rfl) fun K hK => ?_ | refine XWP.seq (XWP.reg (by kernel_rfl) fun K hK => ?_) | refine XWP.reg1 (by kernel_rfl) fun K hK => ?_
      simp only [XA, XB, gateX, Nat.reduceAdd, Nat.reduceLeDiff, Nat.reduceSub, Nat.reduceMul, ↓reduceIte, Int.reduceToNat, Int.reduceLE, beq_self_eq_true, b4]
      refine hK _ ?_
      first | refine XWP.cond (t := true) rfl (fun _ => ?_) (fun h => by cases h) | refine XWP.seq (XWP.cond (t := true) rfl (fun _ => ?_) (fun h => by cases h))
      refine XWP.skip ?_
      refine XWP.seq ?_
      first | refine XWP.block ?_ | refine XWP.seq (XWP.block ?_)
      first | refine XWP.reg (by kernel_rfl) fun K hK => ?_ | refine XWP.seq (XWP.reg (by kernel_rfl) fun K hK => ?_) | refine XWP.reg1 (by kernel_rfl) fun K hK => ?_
      simp only [XA, XB, gateX, Nat.reduceAdd, Nat.reduceLeDiff, Nat.reduceSub, Nat.reduceMul, ↓reduceIte, Int.reduceToNat, Int.reduceLE, beq_self_eq_true]
      refine hK _ ?_
      obtain ⟨g', cap', b, c, cs, e6, hl1, hb, hcl, hc, hget, hset⟩ := hmem3.at (show t < R by omega)
      cases e6
      obtain ⟨x1, y1, w1, hx1, _, hl2⟩ := hget j hj
      rw [if_neg (by omega)] at hx1
      (first | refine XWP.drw [0, 1, 2, 3, 4, 5, 6, 7, 8, 9, 10, 11, 12, 13, 14, 15, 16, 17, 18] (by kernel_rfl) (by kernel_rfl) (by kernel_rfl) fun K hK => ?_ | refine XWP.seq (XWP.drw [0, 1, 2, 3, 4, 5, 6, 7, 8, 9, 10, 11, 12, 13, 14, 15, 16, 17, 18] (by kernel_rfl) (by kernel_rfl) (by kernel_rfl) fun K hK => ?_) | refine XWP.drw1 [0, 1, 2, 3, 4, 5, 6, 7, 8, 9, 10, 11, 12, 13, 14, 15, 16, 17, 18] (by kernel_rfl) (by kernel_rfl) (by kernel_rfl) fun K hK => ?_) <;> dsimp only [pickOps, List.getElem?_cons_zero, List.getElem?_cons_succ]
      simp only [XA, XB, gateX, Nat.reduceAdd, Nat.reduceLeDiff, Nat.reduceSub, Nat.reduceMul, ↓reduceIte, Int.reduceToNat, Int.reduceLE, beq_self_eq_true, eRR, kRR, eII, kII]
      refine ⟨by omega, by omega, ld_mem hl1 ?_⟩
      simp only [XA, XB, gateX, Nat.reduceAdd, Nat.reduceLeDiff, Nat.reduceSub, Nat.reduceMul, ↓reduceIte, Int.reduceToNat, Int.reduceLE, beq_self_eq_true, eRR, kRR, eII, kII]
      refine ⟨by omega, by omega, ld_mem hl1 ?_⟩
      simp only [XA, XB, gateX, Nat.reduceAdd, Nat.reduceLeDiff, Nat.reduceSub, Nat.reduceMul, ↓reduceIte, Int.reduceToNat, Int.reduceLE, beq_self_eq_true, eRR, kRR, eII, kII]
      refine ⟨by omega, by omega, ld_mem hl2 ?_⟩
      simp only [XA, XB, gateX, Nat.reduceAdd, Nat.reduceLeDiff, Nat.reduceSub, Nat.reduceMul, ↓reduceIte, Int.reduceToNat, Int.reduceLE, beq_self_eq_true]
      refine call_go (by kernel_rfl) rfl (pdiv_c _ _ _ _ _ (hx1.toV (hqf2 t j (by omega) hj)) ((hx.mono hV10).toV (hqf2 t k (by omega) (by omega))) (hqf2 t j (by omega) hj) (hqf2 t k (by omega) (by omega))) fun v11 V11 hV11 h11 => ?_
      obtain ⟨r, rfl, hr⟩ := h11.2 e0
      obtain ⟨x2, y2, rfl, o4, o5⟩ := hr.form
      simp only [XA, XB, gateX, Nat.reduceAdd, Nat.reduceLeDiff, Nat.reduceSub, Nat.reduceMul, ↓reduceIte, Int.reduceToNat, Int.reduceLE, beq_self_eq_true]
      refine ⟨by omega, by omega, ?_⟩
      refine st_rowA shapeT_34 (all3 rfl o4 o5) rfl hb (by dsimp only; omega) ?_
      simp only [XA, XB, gateX, Nat.reduceAdd, Nat.reduceLeDiff, Nat.reduceSub, Nat.reduceMul, ↓reduceIte, Int.reduceToNat, Int.reduceLE, beq_self_eq_true]
      refine hK _ ?_
      first | refine XWP.reg (by kernel_rfl) fun K hK => ?_ | refine XWP.seq (XWP.reg (by kernel_rfl) fun K hK => ?_) | refine XWP.reg1 (by kernel_rfl) fun K hK => ?_
      simp only [XA, XB, gateX, Nat.reduceAdd, Nat.reduceLeDiff, Nat.reduceSub, Nat.reduceMul, ↓reduceIte, Int.reduceToNat, Int.reduceLE, beq_self_eq_true, i64_succ j (by omega)]
      have hmem4 := hset V11 j _ _ _ _ hj hV11 hr rfl o4 o5
      refine hK _ ⟨d2 - 1, by omega, fun f => ⟨j + 1, V11, _, StIs.of (by exact rfl), View.le_trans hV10 hV11, by omega, hmem4.congr fun i c _ _ => ?_⟩⟩
      by_cases e : i = t
      · subst e
        by_cases e2 : c = j
        · subst e2; rw [if_pos ⟨rfl, rfl⟩, if_pos ⟨rfl, by omega⟩]
        · rw [if_neg (fun h => e2 h.2)]
          by_cases e3 : c < j
          · rw [if_pos ⟨rfl, e3⟩, if_pos ⟨rfl, by omega⟩]
          · rw [if_neg (fun h => e3 h.2), if_neg (fun h => by omega)]
      · rw [if_neg (fun h => e h.1), if_neg (fun h => e h.1), if_neg (fun h => e h.1)]
      --}
    clear hmem2 hx
    rintro s ⟨V10, H10, hs, hV10, hmem3⟩
    obtain ⟨z, rfl⟩ := hs.out
    try dsimp only
    clear hs
    obtain ⟨G3, hG3⟩ : ∃ G3 : Grid, G3 = fun i c => if i = t then G2 t c / G2 t k else G2 i c := ⟨_, rfl⟩
    rw [← hG3] at hmem3
    have g3t : ∀ c, G3 t c = G2 t c / G2 t k := fun c => by rw [hG3]; simp
    have g3i : ∀ i c, i ≠ t → G3 i c = G2 i c := fun i c h => by rw [hG3]; simp [h]
    have gct : ∀ c, gcol G2 t k t c = G3 t c := fun c => by unfold gcol; rw [if_pos rfl, g3t]
    have gci : ∀ i c, i ≠ t → gcol G2 t k i c = G2 i c - G2 i k * (G2 t c / G2 t k) := fun i c h => by unfold gcol; rw [if_neg h]
    clear hG3
    refine XWP.cutD 0 (fun s => ∃ (V11 : View) (H11 : Heap), StIs (fun τ => [.v (.slice A1 l.length c1), .v (.int .i64 (n : Int)), τ 2, τ 3, τ 4, τ 5, .v (.slice (some ⟨g, 0, none⟩) R c6), τ 7, τ 8, τ 9, .v (.slice (some ⟨go, 0, none⟩) n n), .v (.int .i64 (t : Int)), .v (.slice (some ⟨gw, 0, none⟩) n n), .v (.int .i64 (k : Int)), τ 14, τ 15, τ 16, τ 17, τ 18, τ 19, τ 20, τ 21, τ 22, τ 23, τ 24, τ 25, τ 26, τ 27, τ 28, τ 29, τ 30, τ 31, τ 32, τ 33, τ 34, τ 35, τ 36, τ 37, τ 38, τ 39, τ 40, τ 41, τ 42, τ 43, τ 44, τ 45, τ 46, τ 47, τ 48, τ 49, τ 50, τ 51, τ 52, τ 53, τ 54, τ 55, τ 56, τ 57, τ 58, τ 59, τ 60, τ 61, τ 62, τ 63, τ 64, τ 65, τ 66, τ 67, τ 68, τ 69, τ 70, τ 71, τ 72, τ 73, τ 74, τ 75, τ 76, τ 77, τ 78, τ 79, τ 80, τ 81, τ 82, τ 83, τ 84, τ 85, τ 86, τ 87, τ 88, τ 89, τ 90, τ 91, τ 92, τ 93, τ 94, τ 95, τ 96, τ 97, τ 98, τ 99, τ 100, τ 101, τ 102, τ 103, τ 104, τ 105, τ 106, τ 107, τ 108, τ 109, τ 110, τ 111, τ 112, τ 113, τ 114, τ 115, τ 116, τ 117, τ 118, τ 119, τ 120, τ 121, τ 122, τ 123, τ 124, τ 125, τ 126, τ 127, τ 128, τ 129, τ 130, τ 131, τ 132, τ 133, τ 134, τ 135, τ 136, τ 137, τ 138, τ 139, τ 140, τ 141, τ 142, τ 143, τ 144, τ 145, τ 146, τ 147, τ 148, τ 149, τ 150, τ 151, τ 152, τ 153, τ 154, τ 155, τ 156, τ 157, τ 158, τ 159, τ 160, τ 161, τ 162, τ 163, τ 164, τ 165, τ 166, τ 167, τ 168, τ 169, τ 170, τ 171, τ 172, τ 173, τ 174, τ 175, τ 176, τ 177, τ 178, τ 179, τ 180, τ 181, τ 182, τ 183, τ 184, τ 185, τ 186, τ 187, τ 188, τ 189, τ 190, τ 191, τ 192, τ 193, τ 194, τ 195, τ 196, τ 197, τ 198, τ 199, τ 200, τ 201, τ 202, τ 203, τ 204, τ 205, τ 206, τ 207, τ 208, τ 209, τ 210, τ 211, τ 212, τ 213, τ 214, τ 215, τ 216, τ 217, τ 218, τ 219, τ 220, τ 221, τ 222, τ 223, τ 224, τ 225, τ 226, τ 227, τ 228, τ 229, τ 230, τ 231, τ 232, τ 233, τ 234, τ 235, τ 236, τ 237, τ 238, τ 239, τ 240, τ 241, τ 242, τ 243, τ 244]) [] H11 V11 s ∧ V10.le V11 ∧ KMem H11 V11 (.slice (some ⟨g, 0, none⟩) R c6) R n go gw (gcol G2 t k) (wset wh k (-1)) (k + 1)) ?_ ?_
    · --{
      first | refine XWP.reg (by kernel_rfl) fun K hK => ?_ | refine XWP.seq (XWP.reg (by kernel_rfl) fun K hK => ?_) | refine XWP.reg1 (by kernel_rfl) fun K hK => ?_
      simp only [XA, XB, gateX, Nat.reduceAdd, Nat.reduceLeDiff, Nat.reduceSub, Nat.reduceMul, ↓reduceIte, Int.reduceToNat, Int.reduceLE, beq_self_eq_true, eRR, kRR, eII, kII]
      refine hK _ ?_
      clear hK
      first | refine XWP.block ?_ | refine XWP.seq (XWP.block ?_)
      refine XWP.loopD 0 (fun d s => ∃ (i : Nat) (V11 : View) (H11 : Heap), StIs (fun τ => [.v (.slice A1 l.length c1), .v (.int .i64 (n : Int)), τ 2, τ 3, τ 4, τ 5, .v (.slice (some ⟨g, 0, none⟩) R c6), τ 7, τ 8, τ 9, .v (.slice (some ⟨go, 0, none⟩) n n), .v (.int .i64 (t : Int)), .v (.slice (some ⟨gw, 0, none⟩) n n), .v (.int .i64 (k : Int)), τ 14, τ 15, τ 16, τ 17, τ 18, τ 19, τ 20, τ 21, τ 22, τ 23, τ 24, τ 25, τ 26, τ 27, τ 28, τ 29, τ 30, τ 31, τ 32, τ 33, τ 34, τ 35, τ 36, τ 37, τ 38, τ 39, τ 40, τ 41, τ 42, τ 43, τ 44, τ 45, τ 46, τ 47, τ 48, τ 49, τ 50, τ 51, τ 52, τ 53, τ 54, τ 55, τ 56, τ 57, τ 58, τ 59, τ 60, τ 61, τ 62, τ 63, τ 64, τ 65, τ 66, τ 67, τ 68, τ 69, τ 70, τ 71, τ 72, τ 73, τ 74, τ 75, τ 76, τ 77, τ 78, τ 79, τ 80, τ 81, τ 82, τ 83, τ 84, τ 85, τ 86, τ 87, τ 88, τ 89, τ 90, τ 91, τ 92, τ 93, τ 94, τ 95, τ 96, τ 97, τ 98, τ 99, τ 100, τ 101, τ 102, τ 103, τ 104, τ 105, τ 106, τ 107, τ 108, τ 109, τ 110, τ 111, τ 112, τ 113, τ 114, τ 115, τ 116, τ 117, τ 118, τ 119, τ 120, τ 121, τ 122, τ 123, τ 124, τ 125, τ 126, τ 127, τ 128, τ 129, τ 130, τ 131, τ 132, τ 133, τ 134, τ 135, τ 136, .v (.int .i64 (R : Int)), .v (.int .i64 (i : Int)), τ 139, τ 140, τ 141, τ 142, τ 143, τ 144, τ 145, τ 146, τ 147, τ 148, τ 149, τ 150, τ 151, τ 152, τ 153, τ 154, τ 155, τ 156, τ 157, τ 158, τ 159, τ 160, τ 161, τ 162, τ 163, τ 164, τ 165, τ 166, τ 167, τ 168, τ 169, τ 170, τ 171, τ 172, τ 173, τ 174, τ 175, τ 176, τ 177, τ 178, τ 179, τ 180, τ 181, τ 182, τ 183, τ 184, τ 185, τ 186, τ 187, τ 188, τ 189, τ 190, τ 191, τ 192, τ 193, τ 194, τ 195, τ 196, τ 197, τ 198, τ 199, τ 200, τ 201, τ 202, τ 203, τ 204, τ 205, τ 206, τ 207, τ 208, τ 209, τ 210, τ 211, τ 212, τ 213, τ 214, τ 215, τ 216, τ 217, τ 218, τ 219, τ 220, τ 221, τ 222, τ 223, τ 224, τ 225, τ 226, τ 227, τ 228, τ 229, τ 230, τ 231, τ 232, τ 233, τ 234, τ 235, τ 236, τ 237, τ 238, τ 239, τ 240, τ 241, τ 242, τ 243, τ 244]) [] H11 V11 s ∧ V10.le V11 ∧ d + i = R ∧ KMem H11 V11 (.slice (some ⟨g, 0, none⟩) R c6) R n go gw (fun i' c => if i' < i then gcol G2 t k i' c else G3 i' c) (wset wh k (-1)) (k + 1)) R ⟨0, V10, H10, StIs.of (by exact rfl), View.le_refl _, by omega, hmem3.congr fun i c _ _ => by rw [if_neg (by omega)]⟩ ?_
      rintro d2 s ⟨i, V11, H11, hs, hV11, hd2, hmem4⟩
      obtain ⟨z, rfl⟩ := hs.out
      try dsimp only
      clear hs
      by_cases hi : i < R
      rotate_left
      · obtain rfl : i = R := by omega
        have b4 : decide ((i : Int) < (i : Int)) = false := decide_eq_false (by omega)
        first | refine XWP.reg (by kernel_rfl) fun K hK => ?_ | refine XWP.seq (XWP.reg (by kernel_rfl) fun K hK => ?_) | refine XWP.reg1 (by kernel_rfl) fun K hK => ?_
        simp only [XA, XB, gateX, Nat.reduceAdd, Nat.reduceLeDiff, Nat.reduceSub, Nat.reduceMul, ↓reduceIte, Int.reduceToNat, Int.reduceLE, beq_self_eq_true, b4]
        refine hK _ ?_
        first | refine XWP.cond (t := false) rfl (fun h => by cases h) (fun _ => ?_) | refine XWP.seq (XWP.cond (t := false) rfl (fun h => by cases h) (fun _ => ?_))
        refine XWP.exit ?_
        exact fun f => ⟨V11, H11, StIs.of (by exact rfl), hV11, hmem4.congr fun i' c h1 h2 => by rw [if_pos h1]⟩
      have b4 : decide ((i : Int) < (R : Int)) = true := decide_eq_true (by omega)
      first | refine XWP.reg (by kernel_rfl) fun K hK => ?_ | refine XWP.seq (XWP.reg (by kernel_rfl) fun K hK => ?_) | refine XWP.reg1 (by kernel_rfl) fun K hK => ?_
      simp only [XA, XB, gateX, Nat.reduceAdd, Nat.reduceLeDiff, Nat.reduceSub, Nat.reduceMul, ↓reduceIte, Int.reduceToNat, Int.reduceLE, beq_self_eq_true, b4]
      refine hK _ ?_
      first | refine XWP.cond (t := true) rfl (fun _ => ?_) (fun h => by cases h) | refine XWP.seq (XWP.cond (t := true) rfl (fun _ => ?_) (fun h => by cases h))
      refine XWP.skip ?_
      refine XWP.cutD 0 (fun s => ∃ (V12 : View) (H12 : Heap), StIs (fun τ => [.v (.slice A1 l.length c1), .v (.int .i64 (n : Int)), τ 2, τ 3, τ 4, τ 5, .v (.slice (some ⟨g, 0, none⟩) R c6), τ 7, τ 8, τ 9, .v (.slice (some ⟨go, 0, none⟩) n n), .v (.int .i64 (t : Int)), .v (.slice (some ⟨gw, 0, none⟩) n n), .v (.int .i64 (k : Int)), τ 14, τ 15, τ 16, τ 17, τ 18, τ 19, τ 20, τ 21, τ 22, τ 23, τ 24, τ 25, τ 26, τ 27, τ 28, τ 29, τ 30, τ 31, τ 32, τ 33, τ 34, τ 35, τ 36, τ 37, τ 38, τ 39, τ 40, τ 41, τ 42, τ 43, τ 44, τ 45, τ 46, τ 47, τ 48, τ 49, τ 50, τ 51, τ 52, τ 53, τ 54, τ 55, τ 56, τ 57, τ 58, τ 59, τ 60, τ 61, τ 62, τ 63, τ 64, τ 65, τ 66, τ 67, τ 68, τ 69, τ 70, τ 71, τ 72, τ 73, τ 74, τ 75, τ 76, τ 77, τ 78, τ 79, τ 80, τ 81, τ 82, τ 83, τ 84, τ 85, τ 86, τ 87, τ 88, τ 89, τ 90, τ 91, τ 92, τ 93, τ 94, τ 95, τ 96, τ 97, τ 98, τ 99, τ 100, τ 101, τ 102, τ 103, τ 104, τ 105, τ 106, τ 107, τ 108, τ 109, τ 110, τ 111, τ 112, τ 113, τ 114, τ 115, τ 116, τ 117, τ 118, τ 119, τ 120, τ 121, τ 122, τ 123, τ 124, τ 125, τ 126, τ 127, τ 128, τ 129, τ 130, τ 131, τ 132, τ 133, τ 134, τ 135, τ 136, .v (.int .i64 (R : Int)), .v (.int .i64 (i : Int)), τ 139, τ 140, τ 141, τ 142, τ 143, τ 144, τ 145, τ 146, τ 147, τ 148, τ 149, τ 150, τ 151, τ 152, τ 153, τ 154, τ 155, τ 156, τ 157, τ 158, τ 159, τ 160, τ 161, τ 162, τ 163, τ 164, τ 165, τ 166, τ 167, τ 168, τ 169, τ 170, τ 171, τ 172, τ 173, τ 174, τ 175, τ 176, τ 177, τ 178, τ 179, τ 180, τ 181, τ 182, τ 183, τ 184, τ 185, τ 186, τ 187, τ 188, τ 189, τ 190, τ 191, τ 192, τ 193, τ 194, τ 195, τ 196, τ 197, τ 198, τ 199, τ 200, τ 201, τ 202, τ 203, τ 204, τ 205, τ 206, τ 207, τ 208, τ 209, τ 210, τ 211, τ 212, τ 213, τ 214, τ 215, τ 216, τ 217, τ 218, τ 219, τ 220, τ 221, τ 222, τ 223, τ 224, τ 225, τ 226, τ 227, τ 228, τ 229, τ 230, τ 231, τ 232, τ 233, τ 234, τ 235, τ 236, τ 237, τ 238, τ 239, τ 240, τ 241, τ 242, τ 243, τ 244]) [] H12 V12 s ∧ V11.le V12 ∧ KMem H12 V12 (.slice (some ⟨g, 0, none⟩) R c6) R n go gw (fun i' c => if i' < i + 1 then gcol G2 t k i' c else G3 i' c) (wset wh k (-1)) (k + 1)) ?_ ?_
      rotate_left
      · rintro s ⟨V12, H12, hs, hV12, hmem5⟩
        obtain ⟨z, rfl⟩ := hs.out
        try dsimp only
        clear hs
        first | refine XWP.reg (by kernel_rfl) fun K hK => ?_ | refine XWP.seq (XWP.reg (by kernel_rfl) fun K hK => ?_) | refine XWP.reg1 (by kernel_rfl) fun K hK => ?_
        simp only [XA, XB, gateX, Nat.reduceAdd, Nat.reduceLeDiff, Nat.reduceSub, Nat.reduceMul, ↓reduceIte, Int.reduceToNat, Int.reduceLE, beq_self_eq_true, i64_succ i (by omega)]
        exact hK _ ⟨d2 - 1, by omega, fun f => ⟨i + 1, V12, H12, StIs.of (by exact rfl), View.le_trans hV11 hV12, by omega, hmem5⟩⟩
      clear hK
      first | refine XWP.block ?_ | refine XWP.seq (XWP.block ?_)
      first | refine XWP.reg (by kernel_rfl) fun K hK => ?_ | refine XWP.seq (XWP.reg (by kernel_rfl) fun K hK => ?_) | refine XWP.reg1 (by kernel_rfl) fun K hK => ?_
      simp only [XA, XB, gateX, Nat.reduceAdd, Nat.reduceLeDiff, Nat.reduceSub, Nat.reduceMul, ↓reduceIte, Int.reduceToNat, Int.reduceLE, beq_self_eq_true]
      refine hK _ ?_
      have hskip : (∀ c, gcol G2 t k i c = G3 i c) → ∀ V12, V11.le V12 → KMem H11 V12 (.slice (some ⟨g, 0, none⟩) R c6) R n go gw (fun i' c => if i' < i + 1 then gcol G2 t k i' c else G3 i' c) (wset wh k (-1)) (k + 1) := fun h V12 hV => (hmem4.mono hV).congr fun i' c _ _ => by
        by_cases e : i' = i
        · rw [e, if_neg (by omega), if_pos (by omega), h]
        · by_cases e2 : i' < i
          · rw [if_pos e2, if_pos (by omega)]
          · rw [if_neg e2, if_neg (by omega)]
      refine XWP.seq ?_
      by_cases hit : i = t
      · subst hit
        first | refine XWP.reg (by kernel_rfl) fun K hK => ?_ | refine XWP.seq (XWP.reg (by kernel_rfl) fun K hK => ?_) | refine XWP.reg1 (by kernel_rfl) fun K hK => ?_
        simp only [XA, XB, gateX, Nat.reduceAdd, Nat.reduceLeDiff, Nat.reduceSub, Nat.reduceMul, ↓reduceIte, Int.reduceToNat, Int.reduceLE, beq_self_eq_true, decide_true]
        refine hK _ ?_
        first | refine XWP.cond (t := true) rfl (fun _ => ?_) (fun h => by cases h) | refine XWP.seq (XWP.cond (t := true) rfl (fun _ => ?_) (fun h => by cases h))
        refine XWP.exit ?_
        exact fun f => ⟨V11, H11, StIs.of (by exact rfl), View.le_refl _, hskip gct V11 (View.le_refl _)⟩
      have b5 : decide ((i : Int) = (t : Int)) = false := decide_eq_false (by omega)
      obtain ⟨g', cap', b, c, cs, e6, hl1, hb, hcl, hc, hget, _⟩ := hmem4.at hi
      cases e6
      obtain ⟨x, y, w, hx, ⟨o1, o2, o3⟩, hl2⟩ := hget k (by omega)
      rw [if_neg (by omega), g3i i k hit] at hx
      first | refine XWP.reg (by kernel_rfl) fun K hK => ?_ | refine XWP.seq (XWP.reg (by kernel_rfl) fun K hK => ?_) | refine XWP.reg1 (by kernel_rfl) fun K hK => ?_
      simp only [XA, XB, gateX, Nat.reduceAdd, Nat.reduceLeDiff, Nat.reduceSub, Nat.reduceMul, ↓reduceIte, Int.reduceToNat, Int.reduceLE, beq_self_eq_true, b5, eRR, kRR, eII, kII]
      refine ⟨by omega, by omega, ld_mem hl1 ?_⟩
      simp only [XA, XB, gateX, Nat.reduceAdd, Nat.reduceLeDiff, Nat.reduceSub, Nat.reduceMul, ↓reduceIte, Int.reduceToNat, Int.reduceLE, beq_self_eq_true, eRR, kRR, eII, kII]
      refine ⟨by omega, by omega, ld_mem hl2 ?_⟩
      simp only [XA, XB, gateX, Nat.reduceAdd, Nat.reduceLeDiff, Nat.reduceSub, Nat.reduceMul, ↓reduceIte, Int.reduceToNat, Int.reduceLE, beq_self_eq_true]
      refine call_go (by kernel_rfl) rfl (psign_c _ _ _ (hx.toV (hqf2 i k hi (by omega)))) fun v12 V12 hV12 h12 => ?_
      subst h12
      by_cases hz0 : G2 i k = 0
      · have b6 : decide (G2 i k = 0) = true := decide_eq_true hz0
        simp only [XA, XB, gateX, Nat.reduceAdd, Nat.reduceLeDiff, Nat.reduceSub, Nat.reduceMul, ↓reduceIte, Int.reduceToNat, Int.reduceLE, beq_self_eq_true, sgI_zero, b6]
        refine hK _ ?_
        first | refine XWP.cond (t := true) rfl (fun _ => ?_) (fun h => by cases h) | refine XWP.seq (XWP.cond (t := true) rfl (fun _ => ?_) (fun h => by cases h))
        refine XWP.exit ?_
        exact fun f => ⟨V12, H11, StIs.of (by exact rfl), hV12, hskip (fun c => by rw [gci i c hit, g3i i c hit, hz0]; grind) V12 hV12⟩
      have b6 : decide (G2 i k = 0) = false := decide_eq_false hz0
      simp only [XA, XB, gateX, Nat.reduceAdd, Nat.reduceLeDiff, Nat.reduceSub, Nat.reduceMul, ↓reduceIte, Int.reduceToNat, Int.reduceLE, beq_self_eq_true, sgI_zero, b6]
      refine hK _ ?_
      first | refine XWP.cond (t := false) rfl (fun h => by cases h) (fun _ => ?_) | refine XWP.seq (XWP.cond (t := false) rfl (fun h => by cases h) (fun _ => ?_))
      refine XWP.skip ?_
      clear hl1 hl2 hskip
      obtain ⟨g', cap', b, c, cs, e6, hl1, hb, hcl, hc, hget, _⟩ := (hmem4.mono hV12).at hi
      cases e6
      obtain ⟨x, y, w, hx, ⟨o1, o2, o3⟩, hl2⟩ := hget k (by omega)
      rw [if_neg (by omega), g3i i k hit] at hx
      first | refine XWP.reg (by kernel_rfl) fun K hK => ?_ | refine XWP.seq (XWP.reg (by kernel_rfl) fun K hK => ?_) | refine XWP.reg1 (by kernel_rfl) fun K hK => ?_
      simp only [XA, XB, gateX, Nat.reduceAdd, Nat.reduceLeDiff, Nat.reduceSub, Nat.reduceMul, ↓reduceIte, Int.reduceToNat, Int.reduceLE, beq_self_eq_true, eRR, kRR, eII, kII]
      refine ⟨by omega, by omega, ld_mem hl1 ?_⟩
      simp only [XA, XB, gateX, Nat.reduceAdd, Nat.reduceLeDiff, Nat.reduceSub, Nat.reduceMul, ↓reduceIte, Int.reduceToNat, Int.reduceLE, beq_self_eq_true, eRR, kRR, eII, kII]
      refine ⟨by omega, by omega, ld_mem hl2 ?_⟩
      simp only [XA, XB, gateX, Nat.reduceAdd, Nat.reduceLeDiff, Nat.reduceSub, Nat.reduceMul, ↓reduceIte, Int.reduceToNat, Int.reduceLE, beq_self_eq_true]
      refine st_rat rfl rfl o1 o2 o3 ?_
      simp only [XA, XB, gateX, Nat.reduceAdd, Nat.reduceLeDiff, Nat.reduceSub, Nat.reduceMul, ↓reduceIte, Int.reduceToNat, Int.reduceLE, beq_self_eq_true]
      refine hK _ ?_
      first | refine XWP.reg (by kernel_rfl) fun K hK => ?_ | refine XWP.seq (XWP.reg (by kernel_rfl) fun K hK => ?_) | refine XWP.reg1 (by kernel_rfl) fun K hK => ?_
      simp only [XA, XB, gateX, Nat.reduceAdd, Nat.reduceLeDiff, Nat.reduceSub, Nat.reduceMul, ↓reduceIte, Int.reduceToNat, Int.reduceLE, beq_self_eq_true, eRR, kRR, eII, kII]
      refine ⟨by omega, by omega, ld_mem hl1 ?_⟩
      simp only [XA, XB, gateX, Nat.reduceAdd, Nat.reduceLeDiff, Nat.reduceSub, Nat.reduceMul, ↓reduceIte, Int.reduceToNat, Int.reduceLE, beq_self_eq_true, eRR, kRR, eII, kII]
      refine hK _ ?_
      clear hl1 hb hcl hc hget hl2
      first | refine XWP.block ?_ | refine XWP.seq (XWP.block ?_)
      refine XWP.loopD 1 (fun d s => ∃ (j : Nat) (V13 : View) (H13 : Heap), StIs (fun τ => [.v (.slice A1 l.length c1), .v (.int .i64 (n : Int)), τ 2, τ 3, τ 4, τ 5, .v (.slice (some ⟨g, 0, none⟩) R c6), τ 7, τ 8, τ 9, .v (.slice (some ⟨go, 0, none⟩) n n), .v (.int .i64 (t : Int)), .v (.slice (some ⟨gw, 0, none⟩) n n), .v (.int .i64 (k : Int)), τ 14, τ 15, τ 16, .v (.int .i64 (i : Int)), .p 0 0, τ 19, τ 20, τ 21, τ 22, τ 23, τ 24, τ 25, τ 26, τ 27, τ 28, τ 29, τ 30, τ 31, τ 32, τ 33, τ 34, τ 35, τ 36, τ 37, τ 38, τ 39, τ 40, τ 41, τ 42, τ 43, τ 44, τ 45, τ 46, τ 47, τ 48, τ 49, τ 50, τ 51, τ 52, τ 53, τ 54, τ 55, τ 56, τ 57, τ 58, τ 59, τ 60, τ 61, τ 62, τ 63, τ 64, τ 65, τ 66, τ 67, τ 68, τ 69, τ 70, τ 71, τ 72, τ 73, τ 74, τ 75, τ 76, τ 77, τ 78, τ 79, τ 80, τ 81, τ 82, τ 83, τ 84, τ 85, τ 86, τ 87, τ 88, τ 89, τ 90, τ 91, τ 92, τ 93, τ 94, τ 95, τ 96, τ 97, τ 98, τ 99, τ 100, τ 101, τ 102, τ 103, τ 104, τ 105, τ 106, τ 107, τ 108, τ 109, τ 110, τ 111, τ 112, τ 113, τ 114, τ 115, τ 116, τ 117, τ 118, τ 119, τ 120, τ 121, τ 122, τ 123, τ 124, τ 125, τ 126, τ 127, τ 128, τ 129, τ 130, τ 131, τ 132, τ 133, τ 134, τ 135, τ 136, .v (.int .i64 (R : Int)), .v (.int .i64 (i : Int)), τ 139, τ 140, τ 141, τ 142, τ 143, τ 144, τ 145, τ 146, τ 147, τ 148, τ 149, τ 150, τ 151, τ 152, τ 153, τ 154, τ 155, τ 156, τ 157, τ 158, τ 159, τ 160, τ 161, τ 162, τ 163, τ 164, τ 165, .v (.int .i64 ((n + 1 : Nat) : Int)), .v (.int .i64 (j : Int)), τ 168, τ 169, τ 170, τ 171, τ 172, τ 173, τ 174, τ 175, τ 176, τ 177, τ 178, τ 179, τ 180, τ 181, τ 182, τ 183, τ 184, τ 185, τ 186, τ 187, τ 188, τ 189, τ 190, τ 191, τ 192, τ 193, τ 194, τ 195, τ 196, τ 197, τ 198, τ 199, τ 200, τ 201, τ 202, τ 203, τ 204, τ 205, τ 206, τ 207, τ 208, τ 209, τ 210, τ 211, τ 212, τ 213, τ 214, τ 215, τ 216, τ 217, τ 218, τ 219, τ 220, τ 221, τ 222, τ 223, τ 224, τ 225, τ 226, τ 227, τ 228, τ 229, τ 230, τ 231, τ 232, τ 233, τ 234, τ 235, τ 236, τ 237, τ 238, τ 239, τ 240, τ 241, τ 242, τ 243, τ 244]) [[x, y, w]] H13 V13 s ∧ V12.le V13 ∧ d + j = n + 1 ∧ KMem H13 V13 (.slice (some ⟨g, 0, none⟩) R c6) R n go gw (fun i' c => if i' < i ∨ (i' = i ∧ c < j) then gcol G2 t k i' c else G3 i' c) (wset wh k (-1)) (k + 1)) (n + 1) ⟨0, V12, H11, StIs.of (by exact rfl), View.le_refl _, by omega, (hmem4.mono hV12).congr fun i' c _ _ => by
        by_cases e2 : i' < i
        · rw [if_pos e2, if_pos (.inl e2)]
        · rw [if_neg e2, if_neg (fun h => by omega)]⟩ ?_
      clear hmem4
      rintro d3 s ⟨j, V13, H13, hs, hV13, hd3, hmem5⟩
      obtain ⟨z, rfl⟩ := hs.out
      try dsimp only
      clear hs
      by_cases hj : j < n + 1
      rotate_left
      · obtain rfl : j = n + 1 := by omega
        have b7 : decide (((n + 1 : Nat) : Int) < ((n + 1 : Nat) : Int)) = false := decide_eq_false (by omega)
        first | refine XWP.reg (by kernel_rfl) fun K hK => ?_ | refine XWP.seq (XWP.reg (by kernel_rfl) fun K hK => ?_) | refine XWP.reg1 (by kernel_rfl) fun K hK => ?_
        simp only [XA, XB, gateX, Nat.reduceAdd, Nat.reduceLeDiff, Nat.reduceSub, Nat.reduceMul, ↓reduceIte, Int.reduceToNat, Int.reduceLE, beq_self_eq_true, b7]
        refine hK _ ?_
        first | refine XWP.cond (t := false) rfl (fun h => by cases h) (fun _ => ?_) | refine XWP.seq (XWP.cond (t := false) rfl (fun h => by cases h) (fun _ => ?_))
        refine XWP.exit ?_
        exact fun f => ⟨V13, H13, StIs.of (by exact rfl), View.le_trans hV12 hV13, hmem5.congr fun i' c h1 h2 => by
          by_cases e2 : i' < i + 1
          · rw [if_pos e2, if_pos (by omega)]
          · rw [if_neg e2, if_neg (fun h => by omega)]⟩
      have b7 : decide ((j : Int) < ((n + 1 : Nat) : Int)) = true := decide_eq_true (by omega)
      first | refine XWP.reg (by kernel_rfl) fun K hK => ?_ | refine XWP.seq (XWP.reg (by kernel_rfl) fun K hK => ?_) | refine XWP.reg1 (by kernel_rfl) fun K hK => ?_
      simp only [XA, XB, gateX, Nat.reduceAdd, Nat.reduceLeDiff, Nat.reduceSub, Nat.reduceMul, ↓reduceIte, Int.reduceToNat, Int.reduceLE, beq_self_eq_true, b7]
      refine hK _ ?_
      first | refine XWP.cond (t := true) rfl (fun _ => ?_) (fun h => by cases h) | refine XWP.seq (XWP.cond (t := true) rfl (fun _ => ?_) (fun h => by cases h))
      refine XWP.skip ?_
      refine XWP.seq ?_
      first | refine XWP.block ?_ | refine XWP.seq (XWP.block ?_)
      first | refine XWP.reg (by kernel_rfl) fun K hK => ?_ | refine XWP.seq (XWP.reg (by kernel_rfl) fun K hK => ?_) | refine XWP.reg1 (by kernel_rfl) fun K hK => ?_
      simp only [XA, XB, gateX, Nat.reduceAdd, Nat.reduceLeDiff, Nat.reduceSub, Nat.reduceMul, ↓reduceIte, Int.reduceToNat, Int.reduceLE, beq_self_eq_true]
      refine hK _ ?_
      obtain ⟨g', cap', b, c, cs, e6, hl1, hb, hcl, hc, hget, hset⟩ := hmem5.at hi
      cases e6
      obtain ⟨x1, y1, w1, hx1, _, hl2⟩ := hget j hj
      rw [if_neg (by omega), g3i i j hit] at hx1
      obtain ⟨g', cap', b', c', cs', e6, hl1', hb', hcl', hc', hget', _⟩ := hmem5.at (show t < R by omega)
      cases e6
      obtain ⟨x2, y2, w2, hx2, _, hl2'⟩ := hget' j hj
      have et : (if t < i ∨ (t = i ∧ j < j) then gcol G2 t k t j else G3 t j) = G2 t j / G2 t k := by
        split
        · rw [gct, g3t]
        · exact g3t j
      rw [et] at hx2
      have qq : QB (2 * ge B k) (G2 t j / G2 t k) := ((hq2 t j (by omega) hj).div (hq2 t k (by omega) (by omega))).mono (by omega)
      have qm : QB (3 * ge B k) (G2 i k * (G2 t j / G2 t k)) := ((hq2 i k hi (by omega)).mul qq).mono (by omega)
      (first | refine XWP.drw [0, 1, 2, 3, 4, 5, 6, 7, 8, 9, 10, 11, 12, 13, 14, 15, 16, 17, 18, 19, 20, 21, 22, 23] (by kernel_rfl) (by kernel_rfl) (by kernel_rfl) fun K hK => ?_ | refine XWP.seq (XWP.drw [0, 1, 2, 3, 4, 5, 6, 7, 8, 9, 10, 11, 12, 13, 14, 15, 16, 17, 18, 19, 20, 21, 22, 23] (by kernel_rfl) (by kernel_rfl) (by kernel_rfl) fun K hK => ?_) | refine XWP.drw1 [0, 1, 2, 3, 4, 5, 6, 7, 8, 9, 10, 11, 12, 13, 14, 15, 16, 17, 18, 19, 20, 21, 22, 23] (by kernel_rfl) (by kernel_rfl) (by kernel_rfl) fun K hK => ?_) <;> dsimp only [pickOps, List.getElem?_cons_zero, List.getElem?_cons_succ]
      simp only [XA, XB, gateX, Nat.reduceAdd, Nat.reduceLeDiff, Nat.reduceSub, Nat.reduceMul, ↓reduceIte, Int.reduceToNat, Int.reduceLE, beq_self_eq_true, eRR, kRR, eII, kII]
      refine ⟨by omega, by omega, ld_mem hl1 ?_⟩
      simp only [XA, XB, gateX, Nat.reduceAdd, Nat.reduceLeDiff, Nat.reduceSub, Nat.reduceMul, ↓reduceIte, Int.reduceToNat, Int.reduceLE, beq_self_eq_true, eRR, kRR, eII, kII]
      refine ⟨by omega, by omega, ld_mem hl1 ?_⟩
      simp only [XA, XB, gateX, Nat.reduceAdd, Nat.reduceLeDiff, Nat.reduceSub, Nat.reduceMul, ↓reduceIte, Int.reduceToNat, Int.reduceLE, beq_self_eq_true, eRR, kRR, eII, kII]
      refine ⟨by omega, by omega, ld_mem hl2 ?_⟩
      simp only [XA, XB, gateX, Nat.reduceAdd, Nat.reduceLeDiff, Nat.reduceSub, Nat.reduceMul, ↓reduceIte, Int.reduceToNat, Int.reduceLE, beq_self_eq_true, eRR, kRR, eII, kII]
      refine ⟨by omega, by omega, ld_mem hl1' ?_⟩
      simp only [XA, XB, gateX, Nat.reduceAdd, Nat.reduceLeDiff, Nat.reduceSub, Nat.reduceMul, ↓reduceIte, Int.reduceToNat, Int.reduceLE, beq_self_eq_true, eRR, kRR, eII, kII]
      refine ⟨by omega, by omega, ld_mem hl2' ?_⟩
      simp only [XA, XB, gateX, Nat.reduceAdd, Nat.reduceLeDiff, Nat.reduceSub, Nat.reduceMul, ↓reduceIte, Int.reduceToNat, Int.reduceLE, beq_self_eq_true]
      refine call_go (by kernel_rfl) rfl (pmul_c _ _ _ _ _ ((hx.mono hV13).toV (hqf2 i k hi (by omega))) (hx2.toV (qq.qf (by omega))) (hqf2 i k hi (by omega)) (qq.qf (by omega))) fun v14 V14 hV14 h14 => ?_
      simp only [XA, XB, gateX, Nat.reduceAdd, Nat.reduceLeDiff, Nat.reduceSub, Nat.reduceMul, ↓reduceIte, Int.reduceToNat, Int.reduceLE, beq_self_eq_true]
      refine call_go (by kernel_rfl) rfl (psub_c _ _ _ _ _ ((hx1.mono hV14).toV (hqf2 i j hi hj)) (h14.toV (qm.qf (by omega))) (hqf2 i j hi hj) (qm.qf (by omega))) fun v15 V15 hV15 h15 => ?_
      obtain ⟨x5, y5, rfl, o4, o5⟩ := h15.form
      simp only [XA, XB, gateX, Nat.reduceAdd, Nat.reduceLeDiff, Nat.reduceSub, Nat.reduceMul, ↓reduceIte, Int.reduceToNat, Int.reduceLE, beq_self_eq_true]
      refine ⟨by omega, by omega, ?_⟩
      refine st_rowA shapeT_34 (all3 rfl o4 o5) rfl hb (by dsimp only; omega) ?_
      simp only [XA, XB, gateX, Nat.reduceAdd, Nat.reduceLeDiff, Nat.reduceSub, Nat.reduceMul, ↓reduceIte, Int.reduceToNat, Int.reduceLE, beq_self_eq_true]
      refine hK _ ?_
      first | refine XWP.reg (by kernel_rfl) fun K hK => ?_ | refine XWP.seq (XWP.reg (by kernel_rfl) fun K hK => ?_) | refine XWP.reg1 (by kernel_rfl) fun K hK => ?_
      simp only [XA, XB, gateX, Nat.reduceAdd, Nat.reduceLeDiff, Nat.reduceSub, Nat.reduceMul, ↓reduceIte, Int.reduceToNat, Int.reduceLE, beq_self_eq_true, i64_succ j (by omega)]
      have hmem6 := hset V15 j _ _ _ _ hj (View.le_trans hV14 hV15) h15 rfl o4 o5
      refine hK _ ⟨d3 - 1, by omega, fun f => ⟨j + 1, V15, _, StIs.of (by exact rfl), View.le_trans hV13 (View.le_trans hV14 hV15), by omega, hmem6.congr fun i' c _ _ => ?_⟩⟩
      by_cases e : i' = i
      · subst e
        by_cases e2 : c = j
        · subst e2; rw [if_pos ⟨rfl, rfl⟩, if_pos (.inr ⟨rfl, by omega⟩), gci _ _ hit]
        · rw [if_neg (fun h => e2 h.2)]
          by_cases e3 : c < j
          · rw [if_pos (.inr ⟨rfl, e3⟩), if_pos (.inr ⟨rfl, by omega⟩)]
          · rw [if_neg (fun h => by omega), if_neg (fun h => by omega)]
      · rw [if_neg (fun h => e h.1)]
        by_cases e2 : i' < i
        · rw [if_pos (.inl e2), if_pos (.inl e2)]
        · rw [if_neg (fun h => by omega), if_neg (fun h => by omega)]
      --}
    clear hmem3
    rintro s ⟨V11, H11, hs, hV11, hmem4⟩
    obtain ⟨z, rfl⟩ := hs.out
    try dsimp only
    clear hs
    obtain ⟨cw2, tot2, hw3, hw4, hmem5⟩ := hmem4.again hk (t : Int)
    first | refine XWP.reg (by kernel_rfl) fun K hK => ?_ | refine XWP.seq (XWP.reg (by kernel_rfl) fun K hK => ?_) | refine XWP.reg1 (by kernel_rfl) fun K hK => ?_
    simp only [XA, XB, gateX, Nat.reduceAdd, Nat.reduceLeDiff, Nat.reduceSub, Nat.reduceMul, ↓reduceIte, Int.reduceToNat, Int.reduceLE, beq_self_eq_true, eRR, kRR, eII, kII]
    refine ⟨by omega, by omega, ?_⟩
    refine st_row shapeT_3 rfl rfl hw3 (by dsimp only; omega) ?_
    simp only [XA, XB, gateX, Nat.reduceAdd, Nat.reduceLeDiff, Nat.reduceSub, Nat.reduceMul, ↓reduceIte, Int.reduceToNat, Int.reduceLE, beq_self_eq_true]
    refine hK _ ?_
    first | refine XWP.reg (by kernel_rfl) fun K hK => ?_ | refine XWP.seq (XWP.reg (by kernel_rfl) fun K hK => ?_) | refine XWP.reg1 (by kernel_rfl) fun K hK => ?_
    simp only [XA, XB, gateX, Nat.reduceAdd, Nat.reduceLeDiff, Nat.reduceSub, Nat.reduceMul, ↓reduceIte, Int.reduceToNat, Int.reduceLE, beq_self_eq_true, i64_succ t (by omega)]
    exact hK _ fun f => ⟨V11, _, t + 1, _, _, StIs.of (by exact rfl), View.le_trans hV9 (View.le_trans hV10 hV11), hmem5, hpiv⟩
    --}
  clear hmem hinv
  rintro s ⟨V8, H8, t, G, wh, hs, hV8, hmem, hinv⟩
  obtain ⟨z, rfl⟩ := hs.out
  try dsimp only
  clear hs
  have ht := hinv.inv.le
  have hqf : ∀ i j, i < R → j < n + 1 → QF (G i j) := fun i j hi hj => (hinv.qb i j hi hj).qf hfit
  refine XWP.cutD 0 (fun s => ∃ (V9 : View), StIs (fun τ => [.v (.slice A1 l.length c1), .v (.int .i64 (n : Int)), τ 2, τ 3, τ 4, τ 5, .v (.slice A6 R c6), τ 7, τ 8, τ 9, .v (.slice (some ⟨go, 0, none⟩) n n), .v (.int .i64 (t : Int)), .v (.slice (some ⟨gw, 0, none⟩) n n), τ 13, τ 14, τ 15, τ 16, τ 17, τ 18, τ 19, τ 20, τ 21, τ 22, τ 23, τ 24, τ 25, τ 26, τ 27, τ 28, τ 29, τ 30, τ 31, τ 32, τ 33, τ 34, τ 35, τ 36, τ 37, τ 38, τ 39, τ 40, τ 41, τ 42, τ 43, τ 44, τ 45, τ 46, τ 47, τ 48, τ 49, τ 50, τ 51, τ 52, τ 53, τ 54, τ 55, τ 56, τ 57, τ 58, τ 59, τ 60, τ 61, τ 62, τ 63, τ 64, τ 65, τ 66, τ 67, τ 68, τ 69, τ 70, τ 71, τ 72, τ 73, τ 74, τ 75, τ 76, τ 77, τ 78, τ 79, τ 80, τ 81, τ 82, τ 83, τ 84, τ 85, τ 86, τ 87, τ 88, τ 89, τ 90, τ 91, τ 92, τ 93, τ 94, τ 95, τ 96, τ 97, τ 98, τ 99, τ 100, τ 101, τ 102, τ 103, τ 104, τ 105, τ 106, τ 107, τ 108, τ 109, τ 110, τ 111, τ 112, τ 113, τ 114, τ 115, τ 116, τ 117, τ 118, τ 119, τ 120, τ 121, τ 122, τ 123, τ 124, τ 125, τ 126, τ 127, τ 128, τ 129, τ 130, τ 131, τ 132, τ 133, τ 134, τ 135, τ 136, τ 137, τ 138, τ 139, τ 140, τ 141, τ 142, τ 143, τ 144, τ 145, τ 146, τ 147, τ 148, τ 149, τ 150, τ 151, τ 152, τ 153, τ 154, τ 155, τ 156, τ 157, τ 158, τ 159, τ 160, τ 161, τ 162, τ 163, τ 164, τ 165, τ 166, τ 167, τ 168, τ 169, τ 170, τ 171, τ 172, τ 173, τ 174, τ 175, τ 176, τ 177, τ 178, τ 179, τ 180, τ 181, τ 182, τ 183, τ 184, τ 185, τ 186, τ 187, τ 188, τ 189, τ 190, τ 191, τ 192, τ 193, τ 194, τ 195, τ 196, τ 197, τ 198, τ 199, τ 200, τ 201, τ 202, τ 203, τ 204, τ 205, τ 206, τ 207, τ 208, τ 209, τ 210, τ 211, τ 212, τ 213, τ 214, τ 215, τ 216, τ 217, τ 218, τ 219, τ 220, τ 221, τ 222, τ 223, τ 224, τ 225, τ 226, τ 227, τ 228, τ 229, τ 230, τ 231, τ 232, τ 233, τ 234, τ 235, τ 236, τ 237, τ 238, τ 239, τ 240, τ 241, τ 242, τ 243, τ 244]) [] H8 V9 s ∧ V8.le V9 ∧ ∀ i, t ≤ i → i < R → G i n = 0) ?_ ?_
  · --{
    first | refine XWP.reg (by kernel_rfl) fun K hK => ?_ | refine XWP.seq (XWP.reg (by kernel_rfl) fun K hK => ?_) | refine XWP.reg1 (by kernel_rfl) fun K hK => ?_
    simp only [XA, XB, gateX, Nat.reduceAdd, Nat.reduceLeDiff, Nat.reduceSub, Nat.reduceMul, ↓reduceIte, Int.reduceToNat, Int.reduceLE, beq_self_eq_true]
    refine hK _ ?_
    clear hK
    first | refine XWP.block ?_ | refine XWP.seq (XWP.block ?_)
    refine XWP.loopD 0 (fun d s => ∃ (i : Nat) (V9 : View), StIs (fun τ => [.v (.slice A1 l.length c1), .v (.int .i64 (n : Int)), τ 2, τ 3, τ 4, τ 5, .v (.slice A6 R c6), τ 7, τ 8, τ 9, .v (.slice (some ⟨go, 0, none⟩) n n), .v (.int .i64 (t : Int)), .v (.slice (some ⟨gw, 0, none⟩) n n), τ 13, τ 14, τ 15, τ 16, τ 17, τ 18, τ 19, .v (.int .i64 (i : Int)), τ 21, τ 22, τ 23, τ 24, τ 25, τ 26, τ 27, τ 28, τ 29, τ 30, τ 31, τ 32, τ 33, τ 34, τ 35, τ 36, τ 37, τ 38, τ 39, τ 40, τ 41, τ 42, τ 43, τ 44, τ 45, τ 46, τ 47, τ 48, τ 49, τ 50, τ 51, τ 52, τ 53, τ 54, τ 55, τ 56, τ 57, τ 58, τ 59, τ 60, τ 61, τ 62, τ 63, τ 64, τ 65, τ 66, τ 67, τ 68, τ 69, τ 70, τ 71, τ 72, τ 73, τ 74, τ 75, τ 76, τ 77, τ 78, τ 79, τ 80, τ 81, τ 82, τ 83, τ 84, τ 85, τ 86, τ 87, τ 88, τ 89, τ 90, τ 91, τ 92, τ 93, τ 94, τ 95, τ 96, τ 97, τ 98, τ 99, τ 100, τ 101, τ 102, τ 103, τ 104, τ 105, τ 106, τ 107, τ 108, τ 109, τ 110, τ 111, τ 112, τ 113, τ 114, τ 115, τ 116, τ 117, τ 118, τ 119, τ 120, τ 121, τ 122, τ 123, τ 124, τ 125, τ 126, τ 127, τ 128, τ 129, τ 130, τ 131, τ 132, τ 133, τ 134, τ 135, τ 136, τ 137, τ 138, τ 139, τ 140, τ 141, τ 142, τ 143, τ 144, τ 145, τ 146, τ 147, τ 148, τ 149, τ 150, τ 151, τ 152, τ 153, τ 154, τ 155, τ 156, τ 157, τ 158, τ 159, τ 160, τ 161, τ 162, τ 163, τ 164, τ 165, τ 166, τ 167, τ 168, τ 169, τ 170, τ 171, τ 172, τ 173, τ 174, τ 175, τ 176, τ 177, τ 178, τ 179, τ 180, τ 181, τ 182, τ 183, τ 184, τ 185, τ 186, τ 187, τ 188, τ 189, τ 190, τ 191, τ 192, τ 193, τ 194, τ 195, τ 196, τ 197, τ 198, τ 199, τ 200, τ 201, τ 202, τ 203, τ 204, τ 205, τ 206, τ 207, τ 208, τ 209, τ 210, τ 211, τ 212, τ 213, τ 214, τ 215, τ 216, τ 217, τ 218, τ 219, τ 220, τ 221, τ 222, τ 223, τ 224, τ 225, τ 226, τ 227, τ 228, τ 229, τ 230, τ 231, τ 232, τ 233, τ 234, τ 235, τ 236, τ 237, τ 238, τ 239, τ 240, τ 241, τ 242, τ 243, τ 244]) [] H8 V9 s ∧ V8.le V9 ∧ d + i = R ∧ t ≤ i ∧ ∀ i', t ≤ i' → i' < i → G i' n = 0) (R - t) ⟨t, V8, StIs.of (by exact rfl), View.le_refl _, by omega, Nat.le_refl _, fun i h1 h2 => by omega⟩ ?_
    rintro d s ⟨i, V9, hs, hV9, hd, hi1, hz⟩
    obtain ⟨z, rfl⟩ := hs.out
    try dsimp only
    clear hs
    refine XWP.seq ?_
    by_cases hi : i < R
    rotate_left
    · obtain rfl : i = R := by omega
      have b3 : decide ((i : Int) < (i : Int)) = false := decide_eq_false (by omega)
      first | refine XWP.reg (by kernel_rfl) fun K hK => ?_ | refine XWP.seq (XWP.reg (by kernel_rfl) fun K hK => ?_) | refine XWP.reg1 (by kernel_rfl) fun K hK => ?_
      simp only [XA, XB, gateX, Nat.reduceAdd, Nat.reduceLeDiff, Nat.reduceSub, Nat.reduceMul, ↓reduceIte, Int.reduceToNat, Int.reduceLE, beq_self_eq_true, b3, eRR, kRR, eII, kII]
      refine hK _ ?_
      first | refine XWP.cond (t := false) rfl (fun h => by cases h) (fun _ => ?_) | refine XWP.seq (XWP.cond (t := false) rfl (fun h => by cases h) (fun _ => ?_))
      refine XWP.exit ?_
      exact fun f => ⟨V9, StIs.of (by exact rfl), hV9, hz⟩
    have b3 : decide ((i : Int) < (R : Int)) = true := decide_eq_true (by omega)
    first | refine XWP.reg (by kernel_rfl) fun K hK => ?_ | refine XWP.seq (XWP.reg (by kernel_rfl) fun K hK => ?_) | refine XWP.reg1 (by kernel_rfl) fun K hK => ?_
    simp only [XA, XB, gateX, Nat.reduceAdd, Nat.reduceLeDiff, Nat.reduceSub, Nat.reduceMul, ↓reduceIte, Int.reduceToNat, Int.reduceLE, beq_self_eq_true, b3, eRR, kRR, eII, kII]
    refine hK _ ?_
    first | refine XWP.cond (t := true) rfl (fun _ => ?_) (fun h => by cases h) | refine XWP.seq (XWP.cond (t := true) rfl (fun _ => ?_) (fun h => by cases h))
    refine XWP.skip ?_
    refine XWP.seq ?_
    first | refine XWP.block ?_ | refine XWP.seq (XWP.block ?_)
    obtain ⟨g, cap, b, c, cs, e6, hl1, hb, hcl, hc, hget, _⟩ := (hmem.mono hV9).at hi
    cases e6
    obtain ⟨x, y, w, hx, ⟨o1, o2, o3⟩, hl2⟩ := hget n (by omega)
    first | refine XWP.reg (by kernel_rfl) fun K hK => ?_ | refine XWP.seq (XWP.reg (by kernel_rfl) fun K hK => ?_) | refine XWP.reg1 (by kernel_rfl) fun K hK => ?_
    simp only [XA, XB, gateX, Nat.reduceAdd, Nat.reduceLeDiff, Nat.reduceSub, Nat.reduceMul, ↓reduceIte, Int.reduceToNat, Int.reduceLE, beq_self_eq_true, eRR, kRR, eII, kII]
    refine ⟨by omega, by omega, ld_mem hl1 ?_⟩
    simp only [XA, XB, gateX, Nat.reduceAdd, Nat.reduceLeDiff, Nat.reduceSub, Nat.reduceMul, ↓reduceIte, Int.reduceToNat, Int.reduceLE, beq_self_eq_true, eRR, kRR, eII, kII]
    refine ⟨by omega, by omega, ld_mem hl2 ?_⟩
    simp only [XA, XB, gateX, Nat.reduceAdd, Nat.reduceLeDiff, Nat.reduceSub, Nat.reduceMul, ↓reduceIte, Int.reduceToNat, Int.reduceLE, beq_self_eq_true]
    refine call_go (by kernel_rfl) rfl (psign_c _ _ _ (hx.toV (hqf i n hi (by omega)))) fun v10 V10 hV10 h10 => ?_
    subst h10
    by_cases hz0 : G i n = 0
    · have b4 : decide (G i n = 0) = true := decide_eq_true hz0
      simp only [XA, XB, gateX, Nat.reduceAdd, Nat.reduceLeDiff, Nat.reduceSub, Nat.reduceMul, ↓reduceIte, Int.reduceToNat, Int.reduceLE, beq_self_eq_true, sgI_zero, b4]
      refine hK _ ?_
      first | refine XWP.cond (t := false) rfl (fun h => by cases h) (fun _ => ?_) | refine XWP.seq (XWP.cond (t := false) rfl (fun h => by cases h) (fun _ => ?_))
      refine XWP.skip ?_
      first | refine XWP.reg (by kernel_rfl) fun K hK => ?_ | refine XWP.seq (XWP.reg (by kernel_rfl) fun K hK => ?_) | refine XWP.reg1 (by kernel_rfl) fun K hK => ?_
      simp only [XA, XB, gateX, Nat.reduceAdd, Nat.reduceLeDiff, Nat.reduceSub, Nat.reduceMul, ↓reduceIte, Int.reduceToNat, Int.reduceLE, beq_self_eq_true, i64_succ i (by omega)]
      refine hK _ ⟨d - 1, by omega, fun f => ⟨i + 1, V10, StIs.of (by exact rfl), View.le_trans hV9 hV10, by omega, by omega, fun i' h1 h2 => ?_⟩⟩
      by_cases e : i' = i
      · rw [e]; exact hz0
      · exact hz i' h1 (by omega)
    · have b4 : decide (G i n = 0) = false := decide_eq_false hz0
      simp only [XA, XB, gateX, Nat.reduceAdd, Nat.reduceLeDiff, Nat.reduceSub, Nat.reduceMul, ↓reduceIte, Int.reduceToNat, Int.reduceLE, beq_self_eq_true, sgI_zero, b4]
      refine hK _ ?_
      first | refine XWP.cond (t := true) rfl (fun _ => ?_) (fun h => by cases h) | refine XWP.seq (XWP.cond (t := true) rfl (fun _ => ?_) (fun h => by cases h))
      first | refine XWP.reg (by kernel_rfl) fun K hK => ?_ | refine XWP.seq (XWP.reg (by kernel_rfl) fun K hK => ?_) | refine XWP.reg1 (by kernel_rfl) fun K hK => ?_
      simp only [XA, XB, gateX, Nat.reduceAdd, Nat.reduceLeDiff, Nat.reduceSub, Nat.reduceMul, ↓reduceIte, Int.reduceToNat, Int.reduceLE, beq_self_eq_true]
      refine hK _ (XWP.ret ?_)
      try simp only [thenX_ret, inBlockX_ret]
      refine ret_go _ rfl ?_
      exact ⟨_, false, rfl, fun h => (by cases h), fun _ => ⟨SlAt.nil _, fun x hs => g_none hinv.inv hi1 hi hz0 x ((hinv.sol x).2 hs)⟩⟩
    --}
  rintro s ⟨V9, hs, hV9, hz⟩
  obtain ⟨z, rfl⟩ := hs.out
  try dsimp only
  clear hs
  refine XWP.cutD 0 (fun s => ∃ (V10 : View) (H10 : Heap) (co : List Value) (tot : Nat), StIs (fun τ => [.v (.slice A1 l.length c1), .v (.int .i64 (n : Int)), τ 2, τ 3, τ 4, τ 5, τ 6, τ 7, τ 8, τ 9, .v (.slice (some ⟨go, 0, none⟩) n n), τ 11, τ 12, τ 13, τ 14, τ 15, τ 16, τ 17, τ 18, τ 19, τ 20, τ 21, τ 22, τ 23, τ 24, τ 25, τ 26, τ 27, τ 28, τ 29, τ 30, τ 31, τ 32, τ 33, τ 34, τ 35, τ 36, τ 37, τ 38, τ 39, τ 40, τ 41, τ 42, τ 43, τ 44, τ 45, τ 46, τ 47, τ 48, τ 49, τ 50, τ 51, τ 52, τ 53, τ 54, τ 55, τ 56, τ 57, τ 58, τ 59, τ 60, τ 61, τ 62, τ 63, τ 64, τ 65, τ 66, τ 67, τ 68, τ 69, τ 70, τ 71, τ 72, τ 73, τ 74, τ 75, τ 76, τ 77, τ 78, τ 79, τ 80, τ 81, τ 82, τ 83, τ 84, τ 85, τ 86, τ 87, τ 88, τ 89, τ 90, τ 91, τ 92, τ 93, τ 94, τ 95, τ 96, τ 97, τ 98, τ 99, τ 100, τ 101, τ 102, τ 103, τ 104, τ 105, τ 106, τ 107, τ 108, τ 109, τ 110, τ 111, τ 112, τ 113, τ 114, τ 115, τ 116, τ 117, τ 118, τ 119, τ 120, τ 121, τ 122, τ 123, τ 124, τ 125, τ 126, τ 127, τ 128, τ 129, τ 130, τ 131, τ 132, τ 133, τ 134, τ 135, τ 136, τ 137, τ 138, τ 139, τ 140, τ 141, τ 142, τ 143, τ 144, τ 145, τ 146, τ 147, τ 148, τ 149, τ 150, τ 151, τ 152, τ 153, τ 154, τ 155, τ 156, τ 157, τ 158, τ 159, τ 160, τ 161, τ 162, τ 163, τ 164, τ 165, τ 166, τ 167, τ 168, τ 169, τ 170, τ 171, τ 172, τ 173, τ 174, τ 175, τ 176, τ 177, τ 178, τ 179, τ 180, τ 181, τ 182, τ 183, τ 184, τ 185, τ 186, τ 187, τ 188, τ 189, τ 190, τ 191, τ 192, τ 193, τ 194, τ 195, τ 196, τ 197, τ 198, τ 199, τ 200, τ 201, τ 202, τ 203, τ 204, τ 205, τ 206, τ 207, τ 208, τ 209, τ 210, τ 211, τ 212, τ 213, τ 214, τ 215, τ 216, τ 217, τ 218, τ 219, τ 220, τ 221, τ 222, τ 223, τ 224, τ 225, τ 226, τ 227, τ 228, τ 229, τ 230, τ 231, τ 232, τ 233, τ 234, τ 235, τ 236, τ 237, τ 238, τ 239, τ 240, τ 241, τ 242, τ 243, τ 244]) [] H10 V10 s ∧ H10 go = some ⟨34, co, tot⟩ ∧ RowAt ratE V10 co (mk n (gx G wh n))) ?_ ?_
  · --{
    obtain ⟨co, tot, ho1, ho2⟩ := (hmem.mono hV9).out
    first | refine XWP.reg (by kernel_rfl) fun K hK => ?_ | refine XWP.seq (XWP.reg (by kernel_rfl) fun K hK => ?_) | refine XWP.reg1 (by kernel_rfl) fun K hK => ?_
    simp only [XA, XB, gateX, Nat.reduceAdd, Nat.reduceLeDiff, Nat.reduceSub, Nat.reduceMul, ↓reduceIte, Int.reduceToNat, Int.reduceLE, beq_self_eq_true]
    refine hK _ ?_
    clear hK
    first | refine XWP.block ?_ | refine XWP.seq (XWP.block ?_)
    refine XWP.loopD 0 (fun d s => ∃ (k : Nat) (V10 : View) (H10 : Heap) (co : List Value) (tot : Nat), StIs (fun τ => [.v (.slice A1 l.length c1), .v (.int .i64 (n : Int)), τ 2, τ 3, τ 4, τ 5, .v (.slice A6 R c6), τ 7, τ 8, τ 9, .v (.slice (some ⟨go, 0, none⟩) n n), .v (.int .i64 (t : Int)), .v (.slice (some ⟨gw, 0, none⟩) n n), τ 13, τ 14, τ 15, τ 16, τ 17, τ 18, τ 19, τ 20, .v (.int .i64 (k : Int)), τ 22, τ 23, τ 24, τ 25, τ 26, τ 27, τ 28, τ 29, τ 30, τ 31, τ 32, τ 33, τ 34, τ 35, τ 36, τ 37, τ 38, τ 39, τ 40, τ 41, τ 42, τ 43, τ 44, τ 45, τ 46, τ 47, τ 48, τ 49, τ 50, τ 51, τ 52, τ 53, τ 54, τ 55, τ 56, τ 57, τ 58, τ 59, τ 60, τ 61, τ 62, τ 63, τ 64, τ 65, τ 66, τ 67, τ 68, τ 69, τ 70, τ 71, τ 72, τ 73, τ 74, τ 75, τ 76, τ 77, τ 78, τ 79, τ 80, τ 81, τ 82, τ 83, τ 84, τ 85, τ 86, τ 87, τ 88, τ 89, τ 90, τ 91, τ 92, τ 93, τ 94, τ 95, τ 96, τ 97, τ 98, τ 99, τ 100, τ 101, τ 102, τ 103, τ 104, τ 105, τ 106, τ 107, τ 108, τ 109, τ 110, τ 111, τ 112, τ 113, τ 114, τ 115, τ 116, τ 117, τ 118, τ 119, τ 120, τ 121, τ 122, τ 123, τ 124, τ 125, τ 126, τ 127, τ 128, τ 129, τ 130, τ 131, τ 132, τ 133, τ 134, τ 135, τ 136, τ 137, τ 138, τ 139, τ 140, τ 141, τ 142, τ 143, τ 144, τ 145, τ 146, τ 147, τ 148, τ 149, τ 150, τ 151, τ 152, τ 153, τ 154, τ 155, τ 156, τ 157, τ 158, τ 159, τ 160, τ 161, τ 162, τ 163, τ 164, τ 165, τ 166, τ 167, τ 168, τ 169, τ 170, τ 171, τ 172, τ 173, τ 174, τ 175, τ 176, τ 177, τ 178, τ 179, τ 180, τ 181, τ 182, τ 183, τ 184, τ 185, τ 186, τ 187, τ 188, τ 189, τ 190, τ 191, τ 192, τ 193, τ 194, τ 195, τ 196, τ 197, τ 198, τ 199, τ 200, τ 201, τ 202, τ 203, τ 204, τ 205, τ 206, τ 207, τ 208, τ 209, τ 210, τ 211, τ 212, τ 213, τ 214, τ 215, τ 216, τ 217, τ 218, τ 219, τ 220, τ 221, τ 222, τ 223, τ 224, τ 225, τ 226, τ 227, τ 228, τ 229, τ 230, τ 231, τ 232, τ 233, τ 234, τ 235, τ 236, τ 237, τ 238, τ 239, τ 240, τ 241, τ 242, τ 243, τ 244]) [] H10 V10 s ∧ V9.le V10 ∧ d + k = n ∧ GridAt H10 V10 (.slice A6 R c6) R (n + 1) G [go] ∧ (∃ cw tot, H10 gw = some ⟨3, cw, tot⟩ ∧ cw.length = n ∧ ∀ c, c < n → cw[c]? = some (.int .i64 (wh c))) ∧ H10 go = some ⟨34, co, tot⟩ ∧ RowAt (optE ratE) V10 co (part n (gx G wh n) k)) n ⟨0, V9, H8, co, tot, StIs.of (by exact rfl), View.le_refl _, by omega, (hmem.mono hV9).grid, hmem.wr, ho1, by rw [part_zero]; exact ho2⟩ ?_
    clear ho1 ho2 hmem
    rintro d s ⟨k, V10, H10, co, tot, hs, hV10, hd, hgrid, ⟨cw, totw, hw1, hw2, hw3⟩, ho1, ho2⟩
    obtain ⟨z, rfl⟩ := hs.out
    try dsimp only
    clear hs
    refine XWP.seq ?_
    by_cases hk : k < n
    rotate_left
    · obtain rfl : k = n := by omega
      have b3 : decide ((k : Int) < (k : Int)) = false := decide_eq_false (by omega)
      first | refine XWP.reg (by kernel_rfl) fun K hK => ?_ | refine XWP.seq (XWP.reg (by kernel_rfl) fun K hK => ?_) | refine XWP.reg1 (by kernel_rfl) fun K hK => ?_
      simp only [XA, XB, gateX, Nat.reduceAdd, Nat.reduceLeDiff, Nat.reduceSub, Nat.reduceMul, ↓reduceIte, Int.reduceToNat, Int.reduceLE, beq_self_eq_true, b3]
      refine hK _ ?_
      first | refine XWP.cond (t := false) rfl (fun h => by cases h) (fun _ => ?_) | refine XWP.seq (XWP.cond (t := false) rfl (fun h => by cases h) (fun _ => ?_))
      refine XWP.exit ?_
      rw [part_all] at ho2
      exact fun f => ⟨V10, H10, co, tot, StIs.of (by exact rfl), ho1, ho2.all⟩
    have b3 : decide ((k : Int) < (n : Int)) = true := decide_eq_true (by omega)
    first | refine XWP.reg (by kernel_rfl) fun K hK => ?_ | refine XWP.seq (XWP.reg (by kernel_rfl) fun K hK => ?_) | refine XWP.reg1 (by kernel_rfl) fun K hK => ?_
    simp only [XA, XB, gateX, Nat.reduceAdd, Nat.reduceLeDiff, Nat.reduceSub, Nat.reduceMul, ↓reduceIte, Int.reduceToNat, Int.reduceLE, beq_self_eq_true, b3]
    refine hK _ ?_
    first | refine XWP.cond (t := true) rfl (fun _ => ?_) (fun h => by cases h) | refine XWP.seq (XWP.cond (t := true) rfl (fun _ => ?_) (fun h => by cases h))
    refine XWP.skip ?_
    refine XWP.seq ?_
    first | refine XWP.block ?_ | refine XWP.seq (XWP.block ?_)
    have hcl := ho2.1
    rw [part_len] at hcl
    first | refine XWP.reg (by kernel_rfl) fun K hK => ?_ | refine XWP.seq (XWP.reg (by kernel_rfl) fun K hK => ?_) | refine XWP.reg1 (by kernel_rfl) fun K hK => ?_
    simp only [XA, XB, gateX, Nat.reduceAdd, Nat.reduceLeDiff, Nat.reduceSub, Nat.reduceMul, ↓reduceIte, Int.reduceToNat, Int.reduceLE, beq_self_eq_true]
    refine call_go (by kernel_rfl) rfl (pzero_c _) fun v11 V11 hV11 h11 => ?_
    obtain ⟨x1, y1, rfl, o1, o2⟩ := h11.form
    simp only [XA, XB, gateX, Nat.reduceAdd, Nat.reduceLeDiff, Nat.reduceSub, Nat.reduceMul, ↓reduceIte, Int.reduceToNat, Int.reduceLE, beq_self_eq_true]
    refine ⟨by omega, by omega, ?_⟩
    refine st_rowA shapeT_34 (all3 rfl o1 o2) rfl ho1 (by dsimp only; omega) ?_
    simp only [XA, XB, gateX, Nat.reduceAdd, Nat.reduceLeDiff, Nat.reduceSub, Nat.reduceMul, ↓reduceIte, Int.reduceToNat, Int.reduceLE, beq_self_eq_true]
    refine hK _ ?_
    have ho3 := (ho2.mono (optE_ok ratE_ok) hV11).set k (by rw [part_len]; exact hk) (x := some 0) (show isOne (.bool (ng 0)) = true from rfl) o1 o2 h11
    have hgw : gw ≠ go := fun e => by rw [e, ho1] at hw1; cases hw1
    have hgrid2 := (hgrid.mono hV11).other (co' := splice co (k * 3) [.bool (ng 0), x1, y1]) (tot' := tot) ho1
    have hw1' : upd H10 go (some ⟨34, splice co (k * 3) [.bool (ng 0), x1, y1], tot⟩) gw = some ⟨3, cw, totw⟩ := by unfold upd; rw [if_neg hgw]; exact hw1
    have hwk := hw3 k hk
    rcases hinv.inv.dom k hk with hwn | ⟨r, hr, hwr⟩
    · rw [hwn] at hwk
      have hl : Loads Try.prog (upd H10 go (some ⟨34, splice co (k * 3) [.bool (ng 0), x1, y1], tot⟩)) V11 3 gw k (.int .i64 (-1)) := ⟨false, 1, shapeT_3, .inr ⟨rfl, .inl ⟨_, hw1', hwk⟩⟩⟩
      first | refine XWP.reg (by kernel_rfl) fun K hK => ?_ | refine XWP.seq (XWP.reg (by kernel_rfl) fun K hK => ?_) | refine XWP.reg1 (by kernel_rfl) fun K hK => ?_
      simp only [XA, XB, gateX, Nat.reduceAdd, Nat.reduceLeDiff, Nat.reduceSub, Nat.reduceMul, ↓reduceIte, Int.reduceToNat, Int.reduceLE, beq_self_eq_true, eRR, kRR, eII, kII]
      refine ⟨by omega, by omega, ld_mem hl ?_⟩
      simp only [XA, XB, gateX, Nat.reduceAdd, Nat.reduceLeDiff, Nat.reduceSub, Nat.reduceMul, ↓reduceIte, Int.reduceToNat, Int.reduceLE, beq_self_eq_true, decide_false]
      refine hK _ ?_
      first | refine XWP.cond (t := false) rfl (fun h => by cases h) (fun _ => ?_) | refine XWP.seq (XWP.cond (t := false) rfl (fun h => by cases h) (fun _ => ?_))
      refine XWP.skip ?_
      first | refine XWP.reg (by kernel_rfl) fun K hK => ?_ | refine XWP.seq (XWP.reg (by kernel_rfl) fun K hK => ?_) | refine XWP.reg1 (by kernel_rfl) fun K hK => ?_
      simp only [XA, XB, gateX, Nat.reduceAdd, Nat.reduceLeDiff, Nat.reduceSub, Nat.reduceMul, ↓reduceIte, Int.reduceToNat, Int.reduceLE, beq_self_eq_true, i64_succ k (by omega)]
      refine hK _ ⟨d - 1, by omega, fun f => ⟨k + 1, V11, _, _, _, StIs.of (by exact rfl), View.le_trans hV10 hV11, by omega, hgrid2, ⟨cw, totw, hw1', hw2, hw3⟩, upd_at _ _ _, ?_⟩⟩
      have e : (0 : Rat) = gx G wh n k := by unfold gx; rw [hwn, if_neg (by omega)]
      rw [e, part_step, ← e] at ho3
      exact ho3
    · rw [hwr] at hwk
      have hl : Loads Try.prog (upd H10 go (some ⟨34, splice co (k * 3) [.bool (ng 0), x1, y1], tot⟩)) V11 3 gw k (.int .i64 (r : Int)) := ⟨false, 1, shapeT_3, .inr ⟨rfl, .inl ⟨_, hw1', hwk⟩⟩⟩
      have b5 : decide ((0 : Int) ≤ (r : Int)) = true := decide_eq_true (by omega)
      first | refine XWP.reg (by kernel_rfl) fun K hK => ?_ | refine XWP.seq (XWP.reg (by kernel_rfl) fun K hK => ?_) | refine XWP.reg1 (by kernel_rfl) fun K hK => ?_
      simp only [XA, XB, gateX, Nat.reduceAdd, Nat.reduceLeDiff, Nat.reduceSub, Nat.reduceMul, ↓reduceIte, Int.reduceToNat, Int.reduceLE, beq_self_eq_true, eRR, kRR, eII, kII]
      refine ⟨by omega, by omega, ld_mem hl ?_⟩
      simp only [XA, XB, gateX, Nat.reduceAdd, Nat.reduceLeDiff, Nat.reduceSub, Nat.reduceMul, ↓reduceIte, Int.reduceToNat, Int.reduceLE, beq_self_eq_true, b5]
      refine hK _ ?_
      first | refine XWP.cond (t := true) rfl (fun _ => ?_) (fun h => by cases h) | refine XWP.seq (XWP.cond (t := true) rfl (fun _ => ?_) (fun h => by cases h))
      obtain ⟨g, cap, b, c, cs, e6, hl1, hb, hrow, hc, _⟩ := hgrid2.at (show r < R by omega)
      cases e6
      obtain ⟨x, y, w, hx, ⟨p1, p2, p3⟩, hl2⟩ := rowQ_load hb hrow n (by rw [mk_len]; omega)
      rw [cf_mk, if_pos (by omega)] at hx
      first | refine XWP.reg (by kernel_rfl) fun K hK => ?_ | refine XWP.seq (XWP.reg (by kernel_rfl) fun K hK => ?_) | refine XWP.reg1 (by kernel_rfl) fun K hK => ?_
      simp only [XA, XB, gateX, Nat.reduceAdd, Nat.reduceLeDiff, Nat.reduceSub, Nat.reduceMul, ↓reduceIte, Int.reduceToNat, Int.reduceLE, beq_self_eq_true, eRR, kRR, eII, kII]
      refine ⟨by omega, by omega, ld_mem hl ?_⟩
      simp only [XA, XB, gateX, Nat.reduceAdd, Nat.reduceLeDiff, Nat.reduceSub, Nat.reduceMul, ↓reduceIte, Int.reduceToNat, Int.reduceLE, beq_self_eq_true, eRR, kRR, eII, kII]
      refine ⟨by omega, by omega, ld_mem hl1 ?_⟩
      simp only [XA, XB, gateX, Nat.reduceAdd, Nat.reduceLeDiff, Nat.reduceSub, Nat.reduceMul, ↓reduceIte, Int.reduceToNat, Int.reduceLE, beq_self_eq_true, eRR, kRR, eII, kII]
      refine ⟨by omega, by omega, ld_mem hl2 ?_⟩
      simp only [XA, XB, gateX, Nat.reduceAdd, Nat.reduceLeDiff, Nat.reduceSub, Nat.reduceMul, ↓reduceIte, Int.reduceToNat, Int.reduceLE, beq_self_eq_true]
      refine ⟨by omega, by omega, ?_⟩
      refine st_rowA shapeT_34 (all3 p1 p2 p3) rfl (upd_at _ _ _) (by rw [ho3.1, List.length_set, part_len]; omega) ?_
      simp only [XA, XB, gateX, Nat.reduceAdd, Nat.reduceLeDiff, Nat.reduceSub, Nat.reduceMul, ↓reduceIte, Int.reduceToNat, Int.reduceLE, beq_self_eq_true]
      refine hK _ ?_
      first | refine XWP.reg (by kernel_rfl) fun K hK => ?_ | refine XWP.seq (XWP.reg (by kernel_rfl) fun K hK => ?_) | refine XWP.reg1 (by kernel_rfl) fun K hK => ?_
      simp only [XA, XB, gateX, Nat.reduceAdd, Nat.reduceLeDiff, Nat.reduceSub, Nat.reduceMul, ↓reduceIte, Int.reduceToNat, Int.reduceLE, beq_self_eq_true, i64_succ k (by omega)]
      have ho4 := ho3.set k (by rw [List.length_set, part_len]; exact hk) (x := some (G r n)) p1 p2 p3 hx
      have e : G r n = gx G wh n k := by unfold gx; rw [hwr, if_pos (by omega), Int.toNat_natCast]
      rw [part_set2, e, part_step] at ho4
      refine hK _ ⟨d - 1, by omega, fun f => ⟨k + 1, V11, _, _, _, StIs.of (by exact rfl), View.le_trans hV10 hV11, by omega, hgrid2.other (upd_at _ _ _), ⟨cw, totw, (upd_off hgw).trans hw1', hw2, hw3⟩, upd_at _ _ _, ho4⟩⟩
    --}
  clear hmem
  rintro s ⟨V10, H10, co, tot, hs, ho1, ho2⟩
  obtain ⟨z, rfl⟩ := hs.out
  try dsimp only
  clear hs
  first | refine XWP.reg (by kernel_rfl) fun K hK => ?_ | refine XWP.seq (XWP.reg (by kernel_rfl) fun K hK => ?_) | refine XWP.reg1 (by kernel_rfl) fun K hK => ?_
  simp only [XA, XB, gateX, Nat.reduceAdd, Nat.reduceLeDiff, Nat.reduceSub, Nat.reduceMul, ↓reduceIte, Int.reduceToNat, Int.reduceLE, beq_self_eq_true]
  refine hK _ (XWP.ret ?_)
  try simp only [thenX_ret, inBlockX_ret]
  refine ret_pub go _ ho1 fun o ho hle' => ret_go _ rfl ⟨_, true, rfl, fun _ => ⟨mk n (gx G wh n), ho2.pub ratE_ok ho hle' (mk_len _ _) (Nat.le_refl _) (by omega), mk_len _ _, fun y hy => ?_, (hinv.sol _).1 ((g_some hinv.inv hz).congr fun j hj => by rw [cf_mk, if_pos hj])⟩, fun h => (by cases h)⟩
  unfold mk at hy
  obtain ⟨c, hc, rfl⟩ := List.mem_map.1 hy
  unfold gx
  split
  · rename_i h0
    rcases hinv.inv.dom c (List.mem_range.1 hc) with hwn | ⟨r, hr, hwr⟩
    · omega
    · rw [hwr, Int.toNat_natCast]; exact hqf r n (by omega) (by omega)
  · exact QF_zero
end Go.Proofs.Ythoboehbadmlmaa
end
section
namespace Go.Proofs.Ythoboehbadmlmaa
open Go Go.RowKit
set_option linter.unusedSimpArgs false
set_option linter.unusedVariables false
attribute [local irreducible] XWP Spec SpecO XPub XCall seqX clX apX stX ldX iaX slX
theorem fewR_CBn {L : List Raw} {n : Nat} (h : fewR L) (hd : digR L) (hl : L.length ≤ n) (M : Nat) (hM : n * 96 = M) : CB M (qs L) := by
  rw [← hM]; exact fewR_CB' h hd hl
end Go.Proofs.Ythoboehbadmlmaa
end
section
namespace Go.Proofs.Ythoboehbadmlmaa
open Go Go.RowKit
set_option linter.unusedSimpArgs false
set_option linter.unusedVariables false
attribute [local irreducible] XWP Spec SpecO XPub XCall seqX clX apX stX ldX iaX slX
end Go.Proofs.Ythoboehbadmlmaa
end
